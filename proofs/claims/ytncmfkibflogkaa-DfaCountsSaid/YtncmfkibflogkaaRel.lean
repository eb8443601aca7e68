/- Plain: what an expression matches, as a relation of positions; and slices that a call has made for itself. -/
import Derived.Test.YtncmfkibflogkaaBit
namespace Go.Eng
open Go

abbrev Rl := Nat → Nat → Bool
def thenR (A B : Rl) (n : Nat) : Rl := fun i k => decide (i ≤ n) && (List.range 25).any fun j => A i j && B j k
def orR (A B : Rl) : Rl := fun i j => A i j || B i j
def andR (A B : Rl) : Rl := fun i j => A i j && B i j
def idR (n : Nat) : Rl := fun i j => decide (i ≤ n) && decide (j = i)
def noR : Rl := fun _ _ => false
def inS (l : List (Int × Int)) (r : Int) : Bool := l.any fun s => decide (s.1 ≤ r) && decide (r ≤ s.2)
def setR (text : List Int) (set : List (Int × Int)) : Rl := fun i j => (match text[i]? with | some c => inS set c | none => false) && decide (j = i + 1)
def notR (n : Nat) (A : Rl) : Rl := fun i j => (decide (i ≤ n) && (decide (i ≤ j) && decide (j ≤ n))) && !A i j
def starN (n : Nat) (A : Rl) : Nat → Rl
  | 0 => idR n
  | m + 1 => orR (starN n A m) (thenR (starN n A m) A n)
def powR (n : Nat) (A : Rl) : Nat → Rl
  | 0 => idR n
  | m + 1 => thenR (powR n A m) A n
def repR (n : Nat) (A : Rl) (mn : Int) : Nat → Rl
  | 0 => noR
  | m + 1 => if mn ≤ (m : Int) then orR (repR n A mn m) (powR n A m) else repR n A mn m
def lookR (n : Nat) (A : Rl) (neg : Bool) : Rl := fun i j => (decide (i ≤ n) && decide (j = i)) && (decide (maskN 25 (A i) ≠ 0) != neg)

def relK (text : List Int) (k : Int) (set : List (Int × Int)) (L : List Rl) (mn mx : Int) (ng : Bool) : Rl :=
  if k = 1 then idR text.length else if k = 2 then setR text set
  else if k = 3 then L.foldl (fun a x => thenR a x text.length) (idR text.length)
  else if k = 4 then L.foldl orR noR
  else if k = 7 then L.foldl andR (L.headD noR)
  else if k = 8 then notR text.length (L.headD noR)
  else if k = 5 then starN text.length (L.headD noR) (text.length + 1)
  else if k = 6 then repR text.length (L.headD noR) mn (mx + 1).toNat
  else if k = 9 then L.headD noR
  else if k = 10 then lookR text.length (L.headD noR) ng
  else noR
mutual
def relOf (text : List Int) : Re → Rl
  | .mk k set args mn mx ng => relK text k set (relsOf text args) mn mx ng
def relsOf (text : List Int) : List Re → List Rl
  | [] => []
  | t :: ts => relOf text t :: relsOf text ts
end
theorem relsOf_eq (text : List Int) (ts : List Re) : relsOf text ts = ts.map (relOf text) := by
  induction ts with
  | nil => rfl
  | cons t ts ih => simp [relsOf, ih]
theorem relOf_eq (text : List Int) (t : Re) : relOf text t = relK text t.kind t.set (t.args.map (relOf text)) t.mn t.mx t.neg := by
  cases t; simp [relOf, relsOf_eq, Re.kind, Re.set, Re.args, Re.mn, Re.mx, Re.neg]

/-! Slices of the call's own. -/
theorem own_form {w : World} {base e size n : Nat} {v : Value} {xs : List Value} (h : w.ownsRow base e size v n xs) : ∃ a c, v = .slice a n c := by
  rcases h.2 with ⟨rfl, rfl⟩ | ⟨g, cap, cur, rfl, _⟩
  · exact ⟨_, _, rfl⟩
  · exact ⟨_, _, rfl⟩
theorem own_chg {M : Nat → Prop} {w w' : World} {base e size n : Nat} {v : Value} {xs : List Value} (h : w.ownsRow base e size v n xs) (c : Chg M w w') (hm : ∀ k, v.ownBlock = some k → ¬ M k) : w'.ownsRow base e size v n xs := by
  refine ⟨h.1, ?_⟩
  rcases h.2 with hn | ⟨g, cap, cur, rfl, hb, hgg, rest⟩
  · exact .inl hn
  · refine .inr ⟨g, cap, cur, rfl, hb, ?_, rest⟩
    rw [c.blk g (Array.getElem?_eq_some_iff.1 hgg).1 (hm g rfl)]
    exact hgg
/-- A slice of one's own, cut at its end. -/
theorem own_cut {w : World} {base e size n m cap : Nat} {a : Option Addr} {xs : List Value} (h : w.ownsRow base e size (.slice a n cap) n xs) (hm : m ≤ n) (h0 : 0 < n) : w.ownsRow base e size (.slice a m cap) m (xs.take (m * size)) := by
  rcases h.2 with ⟨h1, rfl⟩ | ⟨g, cap', cur, hv, hb, hgg, hnc, hcm, hcs, htake⟩
  · omega
  · simp only [Value.slice.injEq] at hv
    obtain ⟨rfl, _, rfl⟩ := hv
    have hle : m * size ≤ n * size := Nat.mul_le_mul_right _ hm
    refine ⟨by rw [List.length_take, h.1]; omega, .inr ⟨g, cap, cur, rfl, hb, hgg, by omega, hcm, hcs, ?_⟩⟩
    rw [← htake, List.take_take, Nat.min_eq_left hle]
theorem own_ext {w w' : World} {base e size n : Nat} {v : Value} {xs : List Value} (h : w.ownsRow base e size v n xs) (c : Ext w w') : w'.ownsRow base e size v n xs := own_chg h c fun _ _ f => f
theorem own_cells {w : World} {base e size n : Nat} {a : Option Addr} {c : Nat} {xs : List Value} (h : w.ownsRow base e size (.slice a n c) n xs) (hn : 0 < n) :
    ∃ g, a = some ⟨g, 0, none⟩ ∧ base ≤ g ∧ CellsAt w g 0 xs := by
  rcases h.2 with ⟨h1, rfl⟩ | ⟨g, cap, cur, hv, hb, hgg, _, _, _, htake⟩
  · omega
  · simp only [Value.slice.injEq] at hv
    obtain ⟨rfl, _, rfl⟩ := hv
    refine ⟨g, rfl, hb, fun i v hv => ?_⟩
    have := h.cells (g := g) rfl i v hv
    rwa [Addr.add_lit] at this
theorem own_slat {w : World} {base e k n : Nat} {v : Value} {rows : List (List Value)} (h : w.ownsRow base e k v n rows.flatten) (hk : ∀ r ∈ rows, r.length = k) (hn : rows.length = n) (hpos : 0 < k) : SlAt w k v rows := by
  obtain ⟨h1, h2⟩ := h
  rcases h2 with ⟨rfl, rfl⟩ | ⟨g, cap, cur, rfl, hb, hgg, hnc, hcm, hcs, htake⟩
  · have : rows = [] := List.eq_nil_of_length_eq_zero hn
    subst this
    exact SlAt.nil w k _ _
  · refine ⟨_, cap, by rw [hn], by simp only [maxLen] at hcm; omega, by omega, .inr ⟨g, 0, rfl, fun i r hr j u hu => ?_⟩⟩
    have hc : (rows.flatten)[i * k + j]? = some u := by
      clear htake hgg h1 hn
      induction rows generalizing i with
      | nil => simp at hr
      | cons x rs ih =>
        have hx : x.length = k := hk x (by simp)
        cases i with
        | zero =>
          simp at hr; subst hr
          have hj := lt_of_get hu
          simp only [List.flatten_cons, Nat.zero_mul, Nat.zero_add]
          rw [List.getElem?_append_left hj]; exact hu
        | succ i =>
          simp at hr
          simp only [List.flatten_cons]
          rw [List.getElem?_append_right (by rw [hx, Nat.succ_mul]; omega)]
          rw [show (i + 1) * k + j - x.length = i * k + j from by rw [hx, Nat.succ_mul]; omega]
          exact ih (fun r hr => hk r (by simp [hr])) _ hr
    rw [← htake] at hc
    have hlt : i * k + j < n * k := by
      have := lt_of_get hc
      simp at this; omega
    rw [List.getElem?_take_of_lt hlt] at hc
    show w.cell? ⟨g, 0 + i * k + j, none⟩ = some u
    rw [Nat.zero_add]
    simp only [World.cell?, hgg]
    simpa using hc

/-- Where the slice lies behind an append. -/
theorem append_where {P : Program} {w w' : World} {base t ty e size bytes n m c : Nat} {i : TypeInfo} {z v v' : Value} {xs news : List Value} {a : Addr} (ht : P.underlying t = some (.slice e)) (hi : P.info? e = some i) (hz : i.zero = some z) (hsize : i.size = size) (hby : i.bytes = bytes) (hzs : z.cells.size = size) (hsz : 0 < size)
    (hown : w.ownsRow base e size v n xs) (hl : news.length = m * size) (hnews : ∀ j u, news[j]? = some u → w.cell? (a.add j) = some u) (h1 : ∀ u ∈ news, u.oneCell' = true) (h63 : n + m ≤ maxLen) (hbytes : (n + m) * bytes ≤ 140737488355328)
    (hr : (Builtin.append_ #[t, t] ty #[v, .slice (some a) m c]).run P w = .ok v' w') : ∀ k, v'.ownBlock = some k → v.ownBlock = some k ∨ w.heap.size ≤ k := by
  rcases hown.2 with ⟨rfl, rfl⟩ | ⟨g, cap, cur, rfl, hbg, hg, hnc, hcm, hcs, htake⟩
  · have hx : xs = [] := List.eq_nil_of_length_eq_zero (by simpa using hown.1)
    subst hx
    obtain ⟨v2, w2, hr2, ho2, _⟩ := run_append_own (P := P) w w.heap.size t ty e i z size bytes ht hi hz hsize hby hzs hsz (.slice none 0 0) 0 [] (World.ownsRow_nil w w.heap.size e size) a m c news hl hnews h1 h63 hbytes (Nat.le_refl _)
    rw [hr2] at hr
    cases hr
    intro k hk
    exact .inr (ho2.lt k hk).1
  · have hsmall : n + m ≤ 9223372036854775807 := by simp only [maxLen] at h63; omega
    subst hsize; subst hby
    by_cases hroom : n + m ≤ cap
    · have hfit : n * i.size + news.length ≤ cur.size := by rw [hl, hcs, ← Nat.add_mul]; exact Nat.mul_le_mul_right _ hroom
      have hr2 := run_append_room (P := P) w t ty e i ht hi g n cap cur hg a m c news hl hnews h1 hroom hfit
      rw [hr2] at hr
      cases hr
      intro k hk
      exact .inl hk
    · have holds : ∀ j u, xs[j]? = some u → w.cell? ((⟨g, 0, none⟩ : Addr).add j) = some u := hown.cells (g := g) rfl
      have hr2 := run_append_grow (P := P) w t ty e i z ht hi hz ⟨g, 0, none⟩ n cap xs hown.1 holds a m c news hl hnews (by omega) (by omega) (growslice_fits (by omega) hbytes)
      rw [hr2] at hr
      cases hr
      intro k hk
      simp only [Value.ownBlock, Option.some.injEq] at hk
      exact .inr (by omega)
/-- An append never draws less than nothing. -/
theorem append_drawn {P : Program} {w w' : World} {base t ty e size bytes n m c : Nat} {i : TypeInfo} {z v v' : Value} {xs news : List Value} {a : Addr} (ht : P.underlying t = some (.slice e)) (hi : P.info? e = some i) (hz : i.zero = some z) (hsize : i.size = size) (hby : i.bytes = bytes)
    (hown : w.ownsRow base e size v n xs) (hl : news.length = m * size) (hnews : ∀ j u, news[j]? = some u → w.cell? (a.add j) = some u) (h1 : ∀ u ∈ news, u.oneCell' = true) (h63 : n + m ≤ maxLen) (hbytes : (n + m) * bytes ≤ 140737488355328)
    (hr : (Builtin.append_ #[t, t] ty #[v, .slice (some a) m c]).run P w = .ok v' w') : w.drawn ≤ w'.drawn := by
  have hsmall : n + m ≤ 9223372036854775807 := by simp only [maxLen] at h63; omega
  subst hsize; subst hby
  rcases hown.2 with ⟨rfl, rfl⟩ | ⟨g, cap, cur, rfl, hbg, hg, hnc, hcm, hcs, htake⟩
  · by_cases hm : m = 0
    · subst hm
      have h2 : (Builtin.append_ #[t, t] ty #[.slice none 0 0, .slice (some a) 0 c]).run P w = .ok (.slice none 0 0) w := by
        simp [Builtin.append_, run_underlying ht, sizeOf, typeInfo, hi, Builtin.lenOf, Builtin.firstCells, loadCells, loadCellsFrom]
      rw [h2] at hr; cases hr; exact Nat.le_refl _
    · have hr2 := run_append_nil (P := P) w t ty e i z ht hi hz a m c news hl hnews (by omega) (by omega) (by have hb := hbytes; simp only [Nat.zero_add] at hb; omega)
      rw [hr2] at hr; cases hr; exact Nat.le_succ _
  · by_cases hroom : n + m ≤ cap
    · have hfit : n * i.size + news.length ≤ cur.size := by rw [hl, hcs, ← Nat.add_mul]; exact Nat.mul_le_mul_right _ hroom
      have hr2 := run_append_room (P := P) w t ty e i ht hi g n cap cur hg a m c news hl hnews h1 hroom hfit
      rw [hr2] at hr; cases hr; exact Nat.le_refl _
    · have holds : ∀ j u, xs[j]? = some u → w.cell? ((⟨g, 0, none⟩ : Addr).add j) = some u := hown.cells (g := g) rfl
      have hr2 := run_append_grow (P := P) w t ty e i z ht hi hz ⟨g, 0, none⟩ n cap xs hown.1 holds a m c news hl hnews (by omega) (by omega) (growslice_fits (by omega) hbytes)
      rw [hr2] at hr; cases hr; exact Nat.le_succ _
/-- One append to a slice of the call's own. -/
theorem s_append {P : Program} {N : Nat} {Q : Post} {σ : Env} {w : World} {K : Env → World → Prop} {ops : Array Oper} {rest : List Oper} {d : Nat} {ty : TypeId} {pos : String} {af : Array Edge} {t : TypeId} {s x : Operand}
    {base e size bytes n m c bx ox : Nat} {z v : Value} {xs news : List Value} (hN : d < N) (hu : P.underlying t = some (.slice e)) (hsz : Siz P e size) (hby : Byt P e bytes) (hz : Zer P e z) (hzs : z.cells.size = size) (h0 : 0 < size)
    (hs : ev σ s = v) (hown : w.ownsRow base e size v n xs) (hx : ev σ x = .slice (some ⟨bx, ox, none⟩) m c) (hl : news.length = m * size) (hnews : CellsAt w bx ox news) (h1 : ∀ u ∈ news, u.oneCell' = true)
    (h63 : n + m ≤ maxLen) (hbytes : (n + m) * bytes ≤ 140737488355328) (hbase : base ≤ w.heap.size)
    (k : ∀ v' w', w'.ownsRow base e size v' (n + m) (xs ++ news) → Chg (fun x => v.ownBlock = some x) w w' → (∀ k, v'.ownBlock = some k → v.ownBlock = some k ∨ w.heap.size ≤ k) → WpL P N ops K Q rest (upd σ d v') w') :
    WpL P N ops K Q (⟨some d, .call ⟨.builtin .append, #[s, x], #[t, t]⟩, ty, pos, af, none⟩ :: rest) σ w := by
  unfold Siz at hsz; unfold Byt at hby; unfold Zer at hz
  cases hi : P.info? e with
  | none => rw [hi] at hsz; simp at hsz
  | some i =>
  rw [hi] at hsz hby hz
  simp at hsz hby hz
  obtain ⟨v', w', hr, h2, h3, _⟩ := run_append_own (P := P) w base t ty e i z size bytes hu hi hz hsz hby hzs h0 v n xs hown ⟨bx, ox, none⟩ m c news hl (fun j u hj => by rw [Addr.add_lit]; exact hnews j u hj) h1 h63 hbytes hbase
  refine WpL_val (v := v') (w' := w') rfl rfl hN ?_ (k v' w' h2 ⟨h3.os, h3.tape, h3.output, append_drawn (P := P) hu hi hz hsz hby hown hl (fun j u hj => by rw [Addr.add_lit]; exact hnews j u hj) h1 h63 hbytes hr, h3.size, fun b hb hn => h3.block b hb (fun h => hn h.symm)⟩ (append_where (P := P) hu hi hz hsz hby hzs h0 hown hl (fun j u hj => by rw [Addr.add_lit]; exact hnews j u hj) h1 h63 hbytes hr))
  simp [execOp, resolve, invoke, builtin, hs, hx, hr]
end Go.Eng
