/- Contracts and plain lemmas, part 2. -/
import Derived.Tactics
import Derived.Deep.Quiet
import Derived.Laws.AppendOwn
import Derived.KernelRfl
import Derived.Laws.Entries
import Derived.Laws.Build
import Derived.Below
import Derived.RowKit3
import Derived.StillTail
import Derived.Sort.Grow
import Derived.Deep.Draws
import Derived.Test.YtllhcafmcbibbaaChecked
import Derived.Laws.StructEq
import Derived.MapKept
import Derived.Laws.BytesArg
import Derived.DeepKeys3
import Derived.Defers
import Derived.Recover
import Derived.Shelf.Sort.Plain
import Derived.Shelf.Slices.CompactI
import Derived.Test.YtllhcafmcbibbaaProg
import Derived.Shelf.Small.Bits
import Derived.OpenShut
import Derived.ChangeSlices
import Derived.Test.YtllhcafmcbibbaaRows
import Derived.Test.YtllhcafmcbibbaaZm1
namespace Go.Eng
open Go
def SlIn (S : Nat → Prop) (w : World) (k : Nat) (v : Value) (rows : List (List Value)) : Prop :=
 ∃ a cap, v = .slice a rows.length cap ∧ rows.length ≤ 9223372036854775807 ∧ rows.length ≤ cap ∧ (rows = [] ∨ ∃ b o, S b ∧ a = some ⟨b, o, none⟩ ∧ ∀ i r, rows[i]? = some r → CellsAt w b (o + i * k) r)
theorem SlIn.at {S : Nat → Prop} {w : World} {k : Nat} {v : Value} {rows : List (List Value)} (h : SlIn S w k v rows) : SlAt w k v rows := by
 obtain ⟨a, cap, h1, h2, h3, h4⟩ := h
 refine ⟨a, cap, h1, h2, h3, ?_⟩
 rcases h4 with h | ⟨b, o, _, h5, h6⟩
 ·exact .inl h
 ·exact .inr ⟨b, o, h5, h6⟩
theorem SlIn.chg {S M : Nat → Prop} {w w' : World} {k : Nat} {v : Value} {rows : List (List Value)} (h : SlIn S w k v rows) (c : Chg M w w') (hm : ∀ b, S b → ¬ M b) : SlIn S w' k v rows := by
 obtain ⟨a, cap, h1, h2, h3, h4⟩ := h
 refine ⟨a, cap, h1, h2, h3, ?_⟩
 rcases h4 with h | ⟨b, o, hb, h5, h6⟩
 ·exact .inl h
 ·exact .inr ⟨b, o, hb, h5, fun i r hr => (h6 i r hr).chg c (hm b hb)⟩
theorem SlIn.mono {S S' : Nat → Prop} {w : World} {k : Nat} {v : Value} {rows : List (List Value)} (h : SlIn S w k v rows) (hs : ∀ b, S b → S' b) : SlIn S' w k v rows := by
 obtain ⟨a, cap, h1, h2, h3, h4⟩ := h
 refine ⟨a, cap, h1, h2, h3, ?_⟩
 rcases h4 with h | ⟨b, o, hb, h5⟩
 ·exact .inl h
 ·exact .inr ⟨b, o, hs b hb, h5⟩
theorem SlIn.nil (S : Nat → Prop) (w : World) (k : Nat) (a : Option Addr) (cap : Nat) : SlIn S w k (.slice a 0 cap) [] := ⟨a, cap, rfl, by simp, by simp, .inl rfl⟩
mutual
def ReIn (S : Nat → Prop) (w : World) : Re → List Value → Prop
  | .mk k set args mn mx ng, vs => ∃ sa sc aa ac, vs = [.int .i64 k, .slice sa set.length sc, .slice aa args.length ac, .int .i64 mn, .int .i64 mx, .bool ng] ∧ SlIn S w 2 (.slice sa set.length sc) (set.map spanV) ∧ (args.length ≤ ac ∧ ac ≤ 9223372036854775807) ∧
      (args = [] ∨ ∃ b o, S b ∧ aa = some ⟨b, o, none⟩ ∧ ResIn S w b o args)
def ResIn (S : Nat → Prop) (w : World) (b : Nat) : Nat → List Re → Prop
  | _, [] => True
  | o, t :: ts => (∃ vs, CellsAt w b o vs ∧ ReIn S w t vs) ∧ ResIn S w b (o + 6) ts
end
mutual
theorem ReIn.at {S : Nat → Prop} {w : World} : ∀ (t : Re) {vs : List Value}, ReIn S w t vs → ReAt w t vs
  | .mk k set args mn mx ng, vs, h => by
    simp only [ReIn] at h
    simp only [ReAt]
    obtain ⟨sa, sc, aa, ac, hv, hs, hl, ha⟩ := h
    refine ⟨sa, sc, aa, ac, hv, hs.at, hl, ?_⟩
    rcases ha with h | ⟨b, o, _, h1, h2⟩
    · exact .inl h
    · exact .inr ⟨b, o, h1, ResIn.at args h2⟩
theorem ResIn.at {S : Nat → Prop} {w : World} {b : Nat} : ∀ (ts : List Re) {o : Nat}, ResIn S w b o ts → ResAt w b o ts
  | [], _, _ => by simp only [ResAt]
  | t :: ts, o, h => by
    simp only [ResIn] at h
    simp only [ResAt]
    obtain ⟨⟨vs, h1, h2⟩, h3⟩ := h
    exact ⟨⟨vs, h1, ReIn.at t h2⟩, ResIn.at ts h3⟩
end
mutual
theorem ReIn.chg {S M : Nat → Prop} {w w' : World} (c : Chg M w w') (hm : ∀ b, S b → ¬ M b) : ∀ (t : Re) {vs : List Value}, ReIn S w t vs → ReIn S w' t vs
  | .mk k set args mn mx ng, vs, h => by
    simp only [ReIn] at h ⊢
    obtain ⟨sa, sc, aa, ac, hv, hs, hl, ha⟩ := h
    refine ⟨sa, sc, aa, ac, hv, hs.chg c hm, hl, ?_⟩
    rcases ha with h | ⟨b, o, hb, h1, h2⟩
    · exact .inl h
    · exact .inr ⟨b, o, hb, h1, ResIn.chg c hm args hb h2⟩
theorem ResIn.chg {S M : Nat → Prop} {w w' : World} (c : Chg M w w') (hm : ∀ b, S b → ¬ M b) {b : Nat} : ∀ (ts : List Re) {o : Nat}, S b → ResIn S w b o ts → ResIn S w' b o ts
  | [], _, _, _ => by simp only [ResIn]
  | t :: ts, o, hb, h => by
    simp only [ResIn] at h ⊢
    obtain ⟨⟨vs, h1, h2⟩, h3⟩ := h
    exact ⟨⟨vs, h1.chg c (hm b hb), ReIn.chg c hm t h2⟩, ResIn.chg c hm ts hb h3⟩
end
mutual
theorem ReIn.mono {S S' : Nat → Prop} {w : World} (hs : ∀ b, S b → S' b) : ∀ (t : Re) {vs : List Value}, ReIn S w t vs → ReIn S' w t vs
  | .mk k set args mn mx ng, vs, h => by
    simp only [ReIn] at h ⊢
    obtain ⟨sa, sc, aa, ac, hv, h0, hl, ha⟩ := h
    refine ⟨sa, sc, aa, ac, hv, h0.mono hs, hl, ?_⟩
    rcases ha with h | ⟨b, o, hb, h1, h2⟩
    · exact .inl h
    · exact .inr ⟨b, o, hs b hb, h1, ResIn.mono hs args h2⟩
theorem ResIn.mono {S S' : Nat → Prop} {w : World} (hs : ∀ b, S b → S' b) {b : Nat} : ∀ (ts : List Re) {o : Nat}, ResIn S w b o ts → ResIn S' w b o ts
  | [], _, _ => by simp only [ResIn]
  | t :: ts, o, h => by
    simp only [ResIn] at h ⊢
    obtain ⟨⟨vs, h1, h2⟩, h3⟩ := h
    exact ⟨⟨vs, h1, ReIn.mono hs t h2⟩, ResIn.mono hs ts h3⟩
end
theorem ReIn.ext {S : Nat → Prop} {w w' : World} (e : Ext w w') (t : Re) {vs : List Value} (h : ReIn S w t vs) : ReIn S w' t vs := ReIn.chg e (fun _ _ f => f) t h
theorem ReIn.form {S : Nat → Prop} {w : World} {t : Re} {vs : List Value} (h : ReIn S w t vs) : ∃ sa sc aa ac, vs = [.int .i64 t.kind, .slice sa t.set.length sc, .slice aa t.args.length ac, .int .i64 t.mn, .int .i64 t.mx, .bool t.neg] ∧ SlIn S w 2 (.slice sa t.set.length sc) (t.set.map spanV) ∧ (t.args.length ≤ ac ∧ ac ≤ 9223372036854775807) ∧
  (t.args = [] ∨ ∃ b o, S b ∧ aa = some ⟨b, o, none⟩ ∧ ResIn S w b o t.args) := by
 cases t; simp only [ReIn] at h; exact h
theorem ReIn.of {S : Nat → Prop} {w : World} {k : Int} {set : List (Int × Int)} {args : List Re} {mn mx : Int} {ng : Bool} {sa aa : Option Addr} {sc ac : Nat} (hs : SlIn S w 2 (.slice sa set.length sc) (set.map spanV)) (hl : (args.length ≤ ac ∧ ac ≤ 9223372036854775807)) (ha : args = [] ∨ ∃ b o, S b ∧ aa = some ⟨b, o, none⟩ ∧ ResIn S w b o args) :
  ReIn S w (.mk k set args mn mx ng) [.int .i64 k, .slice sa set.length sc, .slice aa args.length ac, .int .i64 mn, .int .i64 mx, .bool ng] := by
 simp only [ReIn]; exact ⟨sa, sc, aa, ac, rfl, hs, hl, ha⟩
theorem ResIn.two {S : Nat → Prop} {w : World} {b o : Nat} {t u : Re} {vs us : List Value} (hc : CellsAt w b o vs) (h : ReIn S w t vs) (hc' : CellsAt w b (o + 6) us) (h' : ReIn S w u us) : ResIn S w b o [t, u] := by
 simp only [ResIn]; exact ⟨⟨vs, hc, h⟩, ⟨us, hc', h'⟩, trivial⟩
theorem ResIn.get {S : Nat → Prop} {w : World} {b : Nat} : ∀ {ts : List Re} {o i : Nat} {t : Re}, ResIn S w b o ts → ts[i]? = some t → ∃ vs, CellsAt w b (o + i * 6) vs ∧ ReIn S w t vs
  | [], _, _, _, _, h => by simp at h
  | x :: ts, o, 0, t, h, hi => by
    simp only [ResIn] at h
    simp at hi
    subst hi
    simpa using h.1
  | x :: ts, o, i + 1, t, h, hi => by
    simp only [ResIn] at h
    have := ResIn.get h.2 (i := i) (by simpa using hi)
    rwa [show o + (i + 1) * 6 = o + 6 + i * 6 from by omega]
theorem ReIn.len {S : Nat → Prop} {w : World} {t : Re} {vs : List Value} (h : ReIn S w t vs) : vs.length = 6 := (ReIn.at t h).len
theorem ReIn.of_at {w : World} : ∀ (t : Re) {vs : List Value}, ReAt w t vs → ReIn (fun b => b < w.heap.size) w t vs := by
  intro t
  have key : ∀ n, (∀ t : Re, t.size ≤ n → ∀ vs, ReAt w t vs → ReIn (fun b => b < w.heap.size) w t vs) := by
    intro n
    induction n with
    | zero => intro t ht; have := t.size_pos; omega
    | succ n ih =>
      intro t hn vs h
      obtain ⟨sa, sc, aa, ac, rfl, hs, hl, ha⟩ := h.form
      have hsz := t.size_eq
      cases t with
      | mk k set args mn mx ng =>
      simp only [Re.kind, Re.set, Re.args, Re.mn, Re.mx, Re.neg] at *
      refine ReIn.of ?_ hl ?_
      · obtain ⟨a, cap, h1, h2, h3, h4⟩ := hs
        refine ⟨a, cap, h1, h2, h3, ?_⟩
        rcases h4 with h | ⟨b, o, h5, h6⟩
        · exact .inl h
        · cases set with
          | nil => exact .inl rfl
          | cons s r =>
            have := h6 0 (spanV s) rfl 0 _ rfl
            exact .inr ⟨b, o, World.block_lt_of_cell? w _ this, h5, h6⟩
      · rcases ha with h | ⟨b, o, h1, h2⟩
        · exact .inl h
        · have key2 : ∀ (ts : List Re) (o : Nat), Re.sizes ts ≤ n → ResAt w b o ts → ResIn (fun b => b < w.heap.size) w b o ts := by
            intro ts
            induction ts with
            | nil => intro _ _ _; simp only [ResIn]
            | cons t ts ih2 =>
              intro o hz h
              simp only [Re.sizes] at hz
              simp only [ResAt] at h
              simp only [ResIn]
              obtain ⟨⟨vs, h3, h4⟩, h5⟩ := h
              exact ⟨⟨vs, h3, ih t (by omega) vs h4⟩, ih2 _ (by omega) h5⟩
          cases args with
          | nil => exact .inl rfl
          | cons t ts =>
            have h3 := h2
            simp only [ResAt] at h3
            obtain ⟨⟨vs, h4, h5⟩, _⟩ := h3
            obtain ⟨_, _, _, _, rfl, _⟩ := h5.form
            have := h4 0 _ rfl
            exact .inr ⟨b, o, World.block_lt_of_cell? w _ this, h1, key2 _ o (by omega) h2⟩
  exact fun {vs} h => key t.size t (Nat.le_refl _) vs h
end Go.Eng
namespace Go.Proofs
open Go Go.Eng
set_option maxRecDepth 100000
theorem r_min2 {P : Program} {σ : Env} {w : World} {dst : Option Tmp} {ty : TypeId} {pos : String} {af : Array Edge} {g : Option (Nat × Bool)} {tys : Array TypeId} {x y : Operand} {k : IntKind} {a b c : Int} (hx : ev σ x = .int k a) (hy : ev σ y = .int k b) (hc : min a b = c) :
  (execOp (ev σ) ⟨dst, .call ⟨.builtin .min, #[x, y], tys⟩, ty, pos, af, g⟩).run P w = .ok (.value (.int k c)) w := by
 subst hc
 have : (if b < a then b else a) = min a b := by split <;> omega
 simp [execOp, resolve, invoke, builtin, Builtin.min_, Builtin.min2, hx, hy, this]
end Go.Proofs
namespace Go.Eng
open Go
abbrev TRe : Nat := 25
theorem rows_cells {rows : List (List Value)} {rest : List Value} {k : Nat} (hk : ∀ r ∈ rows, r.length = k) : ∀ {i : Nat} {r : List Value}, rows[i]? = some r → ∀ (j : Nat) (u : Value), r[j]? = some u → (rows.flatten ++ rest)[i * k + j]? = some u := by
  induction rows with
  | nil => intro i r h; simp at h
  | cons x rs ih =>
    intro i r hr j u hu
    have hx : x.length = k := hk x (by simp)
    cases i with
    | zero =>
      simp at hr; subst hr
      have hj := lt_of_get hu
      simp only [List.flatten_cons, Nat.zero_mul, Nat.zero_add, List.append_assoc]
      rw [List.getElem?_append_left hj]; exact hu
    | succ i =>
      simp at hr
      simp only [List.flatten_cons, List.append_assoc]
      rw [List.getElem?_append_right (by rw [hx, Nat.succ_mul]; omega)]
      rw [show (i + 1) * k + j - x.length = i * k + j from by rw [hx, Nat.succ_mul]; omega]
      exact ih (fun r hr => hk r (by simp [hr])) hr j u hu
theorem rows_at {w : World} {b T k : Nat} {rows : List (List Value)} {rest : List Value} (h : Blk w b (rows.flatten ++ rest).toArray T) (hk : ∀ r ∈ rows, r.length = k) {i : Nat} {r : List Value} (hr : rows[i]? = some r) : CellsAt w b (i * k) r := by
 intro j u hu
 exact h.cell (by simpa using rows_cells hk hr j u hu)
theorem resin_of {S : Nat → Prop} {w : World} {b : Nat} : ∀ {ts : List Re} {o : Nat}, (∀ i t, ts[i]? = some t → ∃ vs, CellsAt w b (o + i * 6) vs ∧ ReIn S w t vs) → ResIn S w b o ts
  | [], _, _ => by simp only [ResIn]
  | t :: ts, o, h => by
    simp only [ResIn]
    refine ⟨by simpa using h 0 t rfl, resin_of fun i u hu => ?_⟩
    have := h (i + 1) u (by simpa using hu)
    rwa [show o + (i + 1) * 6 = o + 6 + i * 6 from by omega] at this
end Go.Eng
namespace Go.Proofs
open Go Go.Eng
def Txt (text : List Int) : Prop := text.length ≤ 24 ∧ ∀ x ∈ text, runeB x = true
end Go.Proofs
namespace Go.Proofs
open Go Go.Eng
def isL (k : Int) : Prop := k = 3 ∨ k = 4 ∨ k = 7
end Go.Proofs
namespace Go.Proofs
open Go Go.Eng
set_option maxRecDepth 100000
def RowsIn (S : Nat → Prop) (w : World) : List Re → List (List Value) → Prop
  | [], rows => rows = []
  | t :: ts, rows => ∃ r rs, rows = r :: rs ∧ ReIn S w t r ∧ RowsIn S w ts rs
theorem RowsIn.ext {S : Nat → Prop} {w w' : World} (e : Ext w w') : ∀ {ts : List Re} {rows : List (List Value)}, RowsIn S w ts rows → RowsIn S w' ts rows
  | [], _, h => h
  | t :: ts, rows, h => by
    obtain ⟨r, rs, h1, h2, h3⟩ := h
    exact ⟨r, rs, h1, ReIn.ext e t h2, RowsIn.ext e h3⟩
theorem RowsIn.six {S : Nat → Prop} {w : World} : ∀ {ts : List Re} {rows : List (List Value)}, RowsIn S w ts rows → ∀ r ∈ rows, r.length = 6
  | [], _, h => by simp only [RowsIn] at h; subst h; simp
  | t :: ts, rows, h => by
    obtain ⟨r, rs, rfl, h2, h3⟩ := h
    intro q hq
    rcases List.mem_cons.1 hq with rfl | hq
    · exact h2.len
    · exact RowsIn.six h3 q hq
theorem RowsIn.get {S : Nat → Prop} {w : World} : ∀ {ts : List Re} {rows : List (List Value)}, RowsIn S w ts rows → ∀ {i : Nat} {t : Re}, ts[i]? = some t → ∃ r, rows[i]? = some r ∧ ReIn S w t r
  | [], _, _, i, t, hi => by simp at hi
  | t :: ts, rows, h, i, u, hi => by
    obtain ⟨r, rs, rfl, h2, h3⟩ := h
    cases i with
    | zero => simp at hi; subst hi; exact ⟨r, rfl, h2⟩
    | succ i => simp at hi; obtain ⟨q, h4, h5⟩ := RowsIn.get h3 hi; exact ⟨q, by simpa using h4, h5⟩
theorem RowsIn.append {S : Nat → Prop} {w : World} {us : List Re} {qs : List (List Value)} (hu : RowsIn S w us qs) : ∀ {ts : List Re} {rows : List (List Value)}, RowsIn S w ts rows → RowsIn S w (ts ++ us) (rows ++ qs)
  | [], _, h => by simp only [RowsIn] at h; subst h; simpa using hu
  | t :: ts, rows, h => by
    obtain ⟨r, rs, rfl, h2, h3⟩ := h
    exact ⟨r, rs ++ qs, rfl, h2, RowsIn.append hu h3⟩
theorem RowsIn.single {S : Nat → Prop} {w : World} {t : Re} {r : List Value} (h : ReIn S w t r) : RowsIn S w [t] [r] := ⟨r, [], rfl, h, rfl⟩
/-- Rows of one's own, read as expressions. -/
theorem own_res {S : Nat → Prop} {w : World} {base n : Nat} {a : Option Addr} {c : Nat} {ts : List Re} {rows : List (List Value)} (h : w.ownsRow base TRe 6 (.slice a n c) n rows.flatten) (hr : RowsIn S w ts rows) (hn : ts.length = n) : (n ≤ c ∧ c ≤ 9223372036854775807) ∧ (ts = [] ∨ ∃ b, base ≤ b ∧ b < w.heap.size ∧ a = some ⟨b, 0, none⟩ ∧ ∀ i t, ts[i]? = some t → ∃ vs, CellsAt w b (0 + i * 6) vs ∧ ReIn S w t vs) := by
 rcases h.2 with ⟨h1, h2⟩ | ⟨g, cap, cur, h1, h2, h3, h4, h5, h6, h7⟩
 ·simp only [Value.slice.injEq] at h1
  obtain ⟨rfl, rfl, rfl⟩ := h1
  exact ⟨by simp, .inl (List.eq_nil_of_length_eq_zero hn)⟩
 ·simp only [Value.slice.injEq] at h1
  obtain ⟨rfl, _, rfl⟩ := h1
  simp only [maxLen] at h5
  refine ⟨⟨h4, by omega⟩, .inr ⟨g, h2, (h.lt g rfl).2, rfl, fun i t ht => ?_⟩⟩
  obtain ⟨r, h8, h9⟩ := hr.get ht
  have hb : Blk w g (rows.flatten ++ cur.toList.drop (n * 6)).toArray TRe := by
   have : (rows.flatten ++ cur.toList.drop (n * 6)).toArray = cur := by rw [← h7, List.take_append_drop]
   rw [this]; exact h3
  exact ⟨r, by rw [Nat.zero_add]; exact rows_at hb hr.six h8, h9⟩
theorem len_sizes : ∀ ts : List Re, ts.length ≤ Re.sizes ts
  | [] => by simp
  | x :: xs => by have := x.size_pos; have := len_sizes xs; simp only [List.length_cons, Re.sizes]; omega
end Go.Proofs
namespace Go.Proofs
open Go Go.Eng
set_option maxRecDepth 100000
theorem re_empty (S : Nat → Prop) (w : World) (k : Int) : ReIn S w (.mk k [] [] 0 0 false) [.int .i64 k, .slice none 0 0, .slice none 0 0, .int .i64 0, .int .i64 0, .bool false] :=
 ReIn.of (SlIn.nil _ _ _ _ _) (by simp) (.inl rfl)
end Go.Proofs
namespace Go.Proofs
open Go Go.Eng
set_option maxRecDepth 100000
theorem RowsIn.chg {S M : Nat → Prop} {w w' : World} (c : Chg M w w') (hm : ∀ b, S b → ¬ M b) : ∀ {ts : List Re} {rows : List (List Value)}, RowsIn S w ts rows → RowsIn S w' ts rows
  | [], _, h => h
  | t :: ts, rows, h => by
    obtain ⟨r, rs, h1, h2, h3⟩ := h
    exact ⟨r, rs, h1, ReIn.chg c hm t h2, RowsIn.chg c hm h3⟩
theorem RowsIn.mono {S S' : Nat → Prop} {w : World} (hs : ∀ b, S b → S' b) : ∀ {ts : List Re} {rows : List (List Value)}, RowsIn S w ts rows → RowsIn S' w ts rows
  | [], _, h => h
  | t :: ts, rows, h => by
    obtain ⟨r, rs, h1, h2, h3⟩ := h
    exact ⟨r, rs, h1, ReIn.mono hs t h2, RowsIn.mono hs h3⟩
theorem SlIn.lt {S : Nat → Prop} {w : World} {v : Value} {l : List (Int × Int)} (h : SlIn S w 2 v (l.map spanV)) : SlIn (fun b => S b ∧ b < w.heap.size) w 2 v (l.map spanV) := by
  obtain ⟨a, cap, h1, h2, h3, h4⟩ := h
  refine ⟨a, cap, h1, h2, h3, ?_⟩
  rcases h4 with h | ⟨b, o, hb, h5, h6⟩
  · exact .inl h
  · cases l with
    | nil => exact .inl rfl
    | cons s r =>
      have := h6 0 (spanV s) rfl 0 _ rfl
      exact .inr ⟨b, o, ⟨hb, World.block_lt_of_cell? w _ this⟩, h5, h6⟩
mutual
theorem ReIn.lt {S : Nat → Prop} {w : World} : ∀ (t : Re) {vs : List Value}, ReIn S w t vs → ReIn (fun b => S b ∧ b < w.heap.size) w t vs
  | .mk k set args mn mx ng, vs, h => by
    simp only [ReIn] at h ⊢
    obtain ⟨sa, sc, aa, ac, hv, hs, hl, ha⟩ := h
    refine ⟨sa, sc, aa, ac, hv, SlIn.lt hs, hl, ?_⟩
    rcases ha with h | ⟨b, o, hb, h1, h2⟩
    · exact .inl h
    · match args, h2 with
      | [], _ => exact .inl rfl
      | t :: ts, h2 =>
        have h3 := h2
        simp only [ResIn] at h3
        obtain ⟨⟨us, h4, h5⟩, _⟩ := h3
        obtain ⟨_, _, _, _, rfl, _⟩ := h5.form
        have := h4 0 _ rfl
        exact .inr ⟨b, o, ⟨hb, World.block_lt_of_cell? w _ this⟩, h1, ResIn.lt (t :: ts) h2⟩
theorem ResIn.lt {S : Nat → Prop} {w : World} {b : Nat} : ∀ (ts : List Re) {o : Nat}, ResIn S w b o ts → ResIn (fun b => S b ∧ b < w.heap.size) w b o ts
  | [], _, _ => by simp only [ResIn]
  | t :: ts, o, h => by
    simp only [ResIn] at h ⊢
    obtain ⟨⟨vs, h1, h2⟩, h3⟩ := h
    exact ⟨⟨vs, h1, ReIn.lt t h2⟩, ResIn.lt ts h3⟩
end
end Go.Proofs
namespace Go.Proofs
open Go Go.Eng
set_option maxRecDepth 100000
theorem gspan_c (s : Int × Int) (w0 : World) :
  Ret Try.prog 112 #[.agg #[.int .i64 s.1, .int .i64 s.2]] w0 fun v w => v = .bool (validB s) ∧ Ext w0 w := by
 refine Ret_of Try.func112 rfl Try.ntmps112 (Nat.le_of_ble_eq_true rfl) ?_
 have E : Chg none1 w0 w0 := Chg.refl _ _
 refine Wp_seq_region ?_
 refine s_box (v := (.agg #[(I6 s.1), (I6 s.2)])) (c := #[(I6 s.1), (I6 s.2)]) (by decide) rfl rfl ?_
 intro b1 w1 N1
 have F1 := N1.ge E
 replace E := E.ext N1.ext
 have B1 := N1.blk
 refine qA _ rfl ?_
 refine WpL_nil (Wp_seq_region ?_)
 refine qF b1 0 0 rfl Try.underlying74 rfl siz3 rfl ?_
 refine qV (r_load rfl flat3 (B1.cell rfl)) ?_
 obtain ⟨e2, he2⟩ : ∃ e, (decide ((0 : Int) ≤ s.1)) = e := ⟨_, rfl⟩
 refine qV ((r_leq rfl rfl).trans (by rw [he2]; try rfl)) ?_
 refine qM _ rfl ?_
 refine qG (.bool e2) (yU e2 (P6 b1 0)) (by cases e2 <;> first | exact gA | exact gB | exact .inl ⟨rfl, r_fieldAddr rfl Try.underlying74 rfl siz3 rfl⟩) ?_
 refine qG (.bool e2) (yU e2 (I6 s.1)) (by cases e2 <;> first | exact gA | exact gB | exact .inl ⟨rfl, r_load rfl flat3 (B1.cell rfl)⟩) ?_
 refine qG (.bool e2) (yU e2 (P6 b1 1)) (by cases e2 <;> first | exact gA | exact gB | exact .inl ⟨rfl, r_fieldAddr rfl Try.underlying74 rfl siz3 rfl⟩) ?_
 refine qG (.bool e2) (yU e2 (I6 s.2)) (by cases e2 <;> first | exact gA | exact gB | exact .inl ⟨rfl, r_load rfl flat3 (B1.cell rfl)⟩) ?_
 obtain ⟨e3, he3⟩ : ∃ e, (decide ((s.1 : Int) ≤ s.2)) = e := ⟨_, rfl⟩
 refine qG (.bool e2) (yU e2 (.bool e3)) (by cases e2 <;> first | exact gA | exact gB | exact .inl ⟨rfl, (r_leq rfl rfl).trans (by rw [he3]; try rfl)⟩) ?_
 obtain ⟨e4, he4⟩ : ∃ e, (e2 && e3) = e := ⟨_, rfl⟩
 refine qV (r_pick (v := .bool e4) rfl (by rw [← he4]; cases e2 <;> rfl)) ?_
 refine qM _ rfl ?_
 refine qG (.bool e4) (yU e4 (P6 b1 1)) (by cases e4 <;> first | exact gA | exact gB | exact .inl ⟨rfl, r_fieldAddr rfl Try.underlying74 rfl siz3 rfl⟩) ?_
 refine qG (.bool e4) (yU e4 (I6 s.2)) (by cases e4 <;> first | exact gA | exact gB | exact .inl ⟨rfl, r_load rfl flat3 (B1.cell rfl)⟩) ?_
 obtain ⟨e5, he5⟩ : ∃ e, (decide ((s.2 : Int) ≤ 1114111)) = e := ⟨_, rfl⟩
 refine qG (.bool e4) (yU e4 (.bool e5)) (by cases e4 <;> first | exact gA | exact gB | exact .inl ⟨rfl, (r_leq rfl rfl).trans (by rw [he5]; try rfl)⟩) ?_
 obtain ⟨e6, he6⟩ : ∃ e, (e4 && e5) = e := ⟨_, rfl⟩
 refine qV (r_pick (v := .bool e6) rfl (by rw [← he6]; cases e4 <;> rfl)) ?_
 refine qA _ rfl ?_
 refine WpL_nil ?_
 subst he6
 subst he5
 subst he4
 subst he3
 subst he2
 refine Wp_ret ?_
 refine fin_tmp Try.results112 (v := (.bool (((decide ((0 : Int) ≤ s.1)) && (decide ((s.1 : Int) ≤ s.2))) && (decide ((s.2 : Int) ≤ 1114111))))) rfl ?_
 exact ⟨bool_eq (by unfold validB; rfl), E⟩
theorem first_c : ∀ (l : List (Int × Int)), checkL none l = checkL (some (-2)) (l.drop 0)
  | [] => rfl
  | s :: r => by
    simp only [List.drop]
    rw [checkL_cons, checkL_cons]
    by_cases hv : validB s = false
    · rw [if_pos hv, if_pos hv]
    · rw [if_neg hv, if_neg hv]
      have : ¬ s.1 < 0 := by simp [validB] at hv; omega
      simp [this]
theorem cset_c (w0 : World) (v : Value) (l : List (Int × Int)) (hs : SpansAt w0 v l) :
  Ret Try.prog 81 #[v] w0 fun v w => v = .int .i64 (checkE l) ∧ Ext w0 w := by
 obtain ⟨a, c, rfl⟩ := SlAt.form hs
 simp only [List.length_map] at hs ⊢
 refine Ret_of Try.func81 rfl Try.ntmps81 (Nat.le_of_ble_eq_true rfl) ?_
 have E : Chg none1 w0 w0 := Chg.refl _ _
 refine Wp_seq_region ?_
 refine qA _ rfl ?_
 refine WpL_nil (Wp_seq (Wp_seq_region ?_))
 refine qM _ rfl ?_
 refine qV (r_lenSlice Try.underlying22 rfl) ?_
 refine qV (r_gtr rfl rfl) ?_
 refine WpL_nil ?_
 refine Wp_cond rfl (fun h16 => ?_) (fun h16 => ?_)
 ·have kh16 := h16
  replace h16 := of_decide_eq_true h16
  refine Wp_seq_region ?_
  refine qA _ rfl ?_
  refine WpL_nil (Wp_ret (thn_ret ?_))
  refine fin_tmp Try.results81 (v := (.int .i64 2)) rfl ?_
  exact ⟨int_eq (by unfold checkE; rw [if_pos (by omega)]), E⟩
 ·have kh16 := h16
  replace h16 := of_decide_eq_false h16
  have hE16 : checkE l = checkL none l := by unfold checkE; rw [if_neg (by omega)]
  rw [hE16]
  refine Wp_skip (thn_normal (Wp_seq_region ?_))
  refine qA _ rfl ?_
  refine WpL_nil (Wp_seq (Wp_seq_region ?_))
  refine qM _ rfl ?_
  refine qV (r_lenSlice Try.underlying22 rfl) ?_
  refine qM _ rfl ?_
  refine WpL_nil (Wp_block ?_)
  refine Wp_loop (fun nn_ σ W2 => ∃ (k : Nat) (p : Int), (∃ jj_, σ = upds jj_ [(9, (.slice a l.length c)), (10, (I6 (l.length : Int))), (11, (I6 (k : Int))), (3, (I6 p))]) ∧ Chg none1 w0 W2 ∧ (k ≤ l.length) ∧ (-2 ≤ p ∧ p ≤ 1114111 ∧ (checkL none l = checkL (some p) (l.drop k))) ∧ nn_ = l.length - k) (n := l.length - 0) ?_ ?_
  ·exact ⟨0, -2, Fits.out ⟨rfl, rfl, rfl, rfl, trivial⟩, E, Nat.zero_le _, ⟨by omega, by omega, first_c l⟩, rfl⟩
  ·clear E
   rintro _ _ W2 ⟨k, p, ⟨j2, rfl⟩, E, hk, hp, rfl⟩
   refine Wp_seq_region ?_
   refine qV (r_lss rfl rfl) ?_
   refine WpL_nil (Wp_seq ?_)
   refine Wp_cond rfl (fun hlt => ?_) (fun hlt => ?_)
   ·have khlt := hlt
    replace hlt := of_decide_eq_true hlt
    obtain ⟨s, hx⟩ := get_of_lt (l := l) (i := k) (by omega)
    obtain ⟨b, o, rfl, hcl⟩ := spans_cells hs (by omega)
    have hd := drop_cons hx
    refine Wp_skip (thn_normal (Wp_seq (Wp_block (Wp_seq_region ?_))))
    refine qV (r_indexSlice (b := b) (o := o) (len := l.length) (cap := c) (i := k) (o' := o + k * 2) rfl rfl rfl Try.underlying22 siz74 (by omega) (by omega)) ?_
    refine qV (r_loadAgg rfl agg74 siz74 rfl ((hcl k s hx).ext E)) ?_
    refine s_allocStore (v := (.agg #[(I6 s.1), (I6 s.2)])) (c := #[(I6 s.1), (I6 s.2)]) (n := 2) (by decide) zer74 rfl siz74 rfl rfl rfl (by simp [Value.oneCell']) ?_
    intro b4 w4 N4
    have F4 := N4.ge E
    replace E := E.ext N4.ext
    have B4 := N4.blk
    refine WpL_nil (Wp_seq (Wp_seq_region ?_))
    refine qV (r_loadAgg (vs := [(I6 s.1), (I6 s.2)]) rfl agg74 siz74 rfl (B4.cells rfl)) ?_
    refine WpL_enter rfl rfl (by decide) (r_callF Try.func112 kQ kQ rfl) (gspan_c s _) ?_
    rintro _ w9 ⟨rfl, X9⟩
    replace B4 := X9.keep B4
    replace E := E.ext X9
    refine qV (r_not rfl) ?_
    refine WpL_nil ?_
    refine Wp_cond rfl (fun hv => ?_) (fun hv => ?_)
    ·have khv := hv
     replace hv := by simpa using hv
     refine Wp_seq_region ?_
     refine qA _ rfl ?_
     refine WpL_nil (Wp_ret (thn_ret (inB_ret (thn_ret (thn_ret (inB_ret (thn_ret ?_)))))))
     refine fin_tmp Try.results81 (v := (.int .i64 1)) rfl ?_
     exact ⟨int_eq (by rw [hp.2.2, hd, checkL_cons, if_pos hv]), E⟩
    ·have khv := hv
     replace hv := by simpa using hv
     have hv2 : 0 ≤ s.1 ∧ s.1 ≤ s.2 ∧ s.2 ≤ 1114111 := by simp [validB] at hv; omega
     refine Wp_skip (thn_normal (Wp_seq (Wp_seq_region ?_)))
     refine qF b4 0 0 rfl Try.underlying74 rfl siz3 rfl ?_
     refine qV (r_load rfl flat3 (B4.cell rfl)) ?_
     refine qM _ rfl ?_
     refine qV (r_add rfl rfl (wI64 (by omega))) ?_
     refine qV (r_lss rfl rfl) ?_
     refine WpL_nil ?_
     refine Wp_cond rfl (fun ho => ?_) (fun ho => ?_)
     ·have kho := ho
      replace ho := of_decide_eq_true ho
      refine Wp_seq_region ?_
      refine qA _ rfl ?_
      refine WpL_nil (Wp_ret (thn_ret (inB_ret (thn_ret (thn_ret (inB_ret (thn_ret ?_)))))))
      refine fin_tmp Try.results81 (v := (.int .i64 3)) rfl ?_
      exact ⟨int_eq (by rw [hp.2.2, hd, checkL_cons, if_neg (by simp [hv]), if_pos (by simpa using ho)]), E⟩
     ·have kho := ho
      replace ho := of_decide_eq_false ho
      refine Wp_skip (thn_normal (Wp_region ?_))
      refine qF b4 0 1 rfl Try.underlying74 rfl siz3 rfl ?_
      refine qV (r_load rfl flat3 (B4.cell rfl)) ?_
      refine qA _ rfl ?_
      refine WpL_nil (inB_normal (thn_normal (Wp_region ?_)))
      refine qV (r_add rfl rfl (wI64 (by omega))) ?_
      refine qM _ rfl ?_
      refine WpL_nil (thn_normal ?_)
      exact ⟨l.length - (k + 1), by omega, k + 1, s.2, Fits.out ⟨rfl, rfl, rfl, rfl, trivial⟩, E, (by omega), ⟨by omega, by omega, by rw [hp.2.2, hd, checkL_cons, if_neg (by simp [hv]), if_neg (by simpa using ho)]⟩, rfl⟩
   ·have khlt := hlt
    replace hlt := of_decide_eq_false hlt
    have hkl : l.drop k = [] := List.drop_eq_nil_of_le (by omega)
    refine Wp_exit (thn_exit (thn_exit (inB_here (thn_normal (Wp_seq_region ?_)))))
    refine qA _ rfl ?_
    refine WpL_nil (Wp_ret ?_)
    refine fin_tmp Try.results81 (v := (.int .i64 0)) rfl ?_
    exact ⟨int_eq (by rw [hp.2.2, hkl]; rfl), E⟩
set_option maxHeartbeats 400000 in
theorem rspeq_c (w0 : World) (v1 v2 : Value) (l1 l2 : List (Int × Int)) (h1 : SpansAt w0 v1 l1) (h2 : SpansAt w0 v2 l2) :
  Ret Try.prog 40 #[v1, v2] w0 fun v w => v = .bool (decide (l1 = l2)) ∧ Ext w0 w := by
 obtain ⟨a1, c1, rfl⟩ := SlAt.form h1
 obtain ⟨a2, c2, rfl⟩ := SlAt.form h2
 have hb1 : l1.length ≤ 9223372036854775807 := by simpa using SlAt.le h1
 simp only [List.length_map] at h1 h2 ⊢
 refine Ret_of Try.func40 rfl Try.ntmps40 (Nat.le_of_ble_eq_true rfl) ?_
 have E : Chg none1 w0 w0 := Chg.refl _ _
 refine Wp_seq_region ?_
 refine qA _ rfl ?_
 refine WpL_nil (Wp_seq (Wp_seq_region ?_))
 refine qM _ rfl ?_
 refine qV (r_lenSlice Try.underlying22 rfl) ?_
 refine qM _ rfl ?_
 refine qV (r_lenSlice Try.underlying22 rfl) ?_
 refine qV (r_neq rfl rfl) ?_
 refine WpL_nil ?_
 refine Wp_cond rfl (fun hl => ?_) (fun hl => ?_)
 ·have khl := hl
  replace hl := of_decide_eq_true hl
  refine Wp_seq_region ?_
  refine qA _ rfl ?_
  refine WpL_nil (Wp_ret (thn_ret ?_))
  refine fin_tmp Try.results40 (v := (.bool false)) rfl ?_
  exact ⟨bool_eq (by symm; rw [decide_eq_false_iff_not]; intro h; rw [h] at hl; exact hl rfl), E⟩
 ·have khl := hl
  replace hl := of_decide_eq_false hl
  refine Wp_skip (thn_normal (Wp_seq (Wp_seq_region ?_)))
  refine qM _ rfl ?_
  refine qV (r_lenSlice Try.underlying22 rfl) ?_
  refine qM _ rfl ?_
  refine WpL_nil (Wp_block ?_)
  refine Wp_loop (fun nn_ σ W2 => ∃ (k : Nat), (∃ jj_, σ = upds jj_ [(0, (.slice a1 l1.length c1)), (1, (.slice a2 l2.length c2)), (12, (I6 (l1.length : Int))), (13, (I6 (k : Int)))]) ∧ Chg none1 w0 W2 ∧ (k ≤ l1.length) ∧ (∀ (i : Nat), i < k → l1[i]? = l2[i]?) ∧ nn_ = l1.length - k) (n := l1.length - 0) ?_ ?_
  ·exact ⟨0, Fits.out ⟨rfl, rfl, rfl, rfl, trivial⟩, E, Nat.zero_le _, (fun i h => absurd h (Nat.not_lt_zero _)), rfl⟩
  ·clear E
   rintro _ _ W2 ⟨k, ⟨j2, rfl⟩, E, hk, heq, rfl⟩
   refine Wp_seq_region ?_
   refine qV (r_lss rfl rfl) ?_
   refine WpL_nil (Wp_seq ?_)
   refine Wp_cond rfl (fun hlt => ?_) (fun hlt => ?_)
   ·have khlt := hlt
    replace hlt := of_decide_eq_true hlt
    obtain ⟨p, hp⟩ := get_of_lt (l := l1) (i := k) (by omega)
    obtain ⟨q, hq⟩ := get_of_lt (l := l2) (i := k) (by omega)
    obtain ⟨b1, o1, rfl, hc1⟩ := spans_cells h1 (by omega)
    obtain ⟨b2, o2, rfl, hc2⟩ := spans_cells h2 (by omega)
    refine Wp_skip (thn_normal (Wp_seq (Wp_block (Wp_seq_region ?_))))
    refine qM _ rfl ?_
    refine qA _ rfl ?_
    refine WpL_nil ?_
    refine Wp_seq_draw 8 mixed (by kernel_rfl) ?_
    intro w4 X4 _
    replace E := E.ext X4
    refine qT (r_move rfl) ?_
    refine qT (r_move rfl) ?_
    refine qT (r_indexSlice (b := b1) (o := o1) (len := l1.length) (cap := c1) (i := k) (o' := o1 + k * 2) rfl rfl rfl Try.underlying22 siz74 (by omega) (by omega)) ?_
    refine qT (r_loadAgg rfl agg74 siz74 rfl ((hc1 k p hp).ext E)) ?_
    refine qT (r_move rfl) ?_
    refine qT (r_move rfl) ?_
    refine qT (r_indexSlice (b := b2) (o := o2) (len := l2.length) (cap := c2) (i := k) (o' := o2 + k * 2) rfl rfl rfl Try.underlying22 siz74 (by omega) (by omega)) ?_
    refine qT (r_loadAgg rfl agg74 siz74 rfl ((hc2 k q hq).ext E)) ?_
    refine WpT_zero ?_
    refine WpL_val (v := (.bool (!(decide (p.1 = q.1) && decide (p.2 = q.2))))) rfl rfl (by decide) (r_neqSpan stoodSpan Try.underlying74 (by decide) (by decide) rfl rfl rfl rfl Try.underlying3 flat3 eqgSpan rfl rfl) ?_
    refine WpL_nil ?_
    refine Wp_cond rfl (fun hpq => ?_) (fun hpq => ?_)
    ·have khpq := hpq
     replace hpq := by simpa using hpq
     refine Wp_seq_region ?_
     refine qA _ rfl ?_
     refine WpL_nil (Wp_ret (inB_ret (thn_ret (thn_ret (inB_ret (thn_ret ?_))))))
     refine fin_tmp Try.results40 (v := (.bool false)) rfl ?_
     exact ⟨bool_eq (by symm; rw [decide_eq_false_iff_not]; intro h; subst h; rw [hp] at hq; cases hq; simp at hpq), E⟩
    ·have khpq := hpq
     replace hpq := by simpa using hpq
     have hpq2 : p = q := by obtain ⟨p1, p2⟩ := p; obtain ⟨q1, q2⟩ := q; simp at hpq; simp; exact hpq
     refine Wp_skip (inB_normal (thn_normal (Wp_region ?_)))
     refine qV (r_add rfl rfl (wI64 (by omega))) ?_
     refine qM _ rfl ?_
     refine WpL_nil (thn_normal ?_)
     exact ⟨l1.length - (k + 1), by omega, k + 1, Fits.out ⟨rfl, rfl, rfl, rfl, trivial⟩, E, (by omega), (fun i hi => by rcases Nat.lt_or_ge i k with h | h; exact heq i h; obtain rfl : i = k := (by omega); rw [hp, hq, hpq2]), rfl⟩
   ·have khlt := hlt
    replace hlt := of_decide_eq_false hlt
    have hkk : k = l1.length := by omega
    refine Wp_exit (thn_exit (thn_exit (inB_here (thn_normal (Wp_seq_region ?_)))))
    refine qA _ rfl ?_
    refine WpL_nil (Wp_ret ?_)
    refine fin_tmp Try.results40 (v := (.bool true)) rfl ?_
    exact ⟨bool_eq (by symm; rw [decide_eq_true_eq]; exact get_ext (by omega) (fun i hi => heq i (by omega))), E⟩
end Go.Proofs
namespace Go.Proofs
open Go Go.Eng
instance (k : Int) : Decidable (isL k) := by unfold isL; infer_instance
end Go.Proofs
namespace Go.Proofs
open Go Go.Eng
set_option maxRecDepth 100000
theorem rempty_c (w0 : World) : Ret Try.prog 88 #[] w0 fun v w => v = .agg #[.int .i64 1, .slice none 0 0, .slice none 0 0, .int .i64 0, .int .i64 0, .bool false] ∧ Ext w0 w := by
 refine Ret_of Try.func88 rfl Try.ntmps88 (Nat.le_of_ble_eq_true rfl) ?_
 have E : Chg none1 w0 w0 := Chg.refl _ _
 refine Wp_seq_region ?_
 refine s_alloc (c := #[(I6 0), (.slice none 0 0), (.slice none 0 0), (I6 0), (I6 0), (.bool false)]) (by decide) zer25 rfl ?_
 intro b1 w1 N1
 have F1 := N1.ge E
 replace E := E.ext N1.ext
 have B1 := N1.blk
 refine WpL_nil (Wp_seq_region ?_)
 refine qV (r_build (ps := [(0, (I6 1))]) (v := (.agg #[(I6 1), (.slice none 0 0), (.slice none 0 0), (I6 0), (I6 0), (.bool false)])) rfl (by kernel_rfl)) ?_
 refine s_storeAgg (b := b1) (o := 0) (c' := #[(I6 1), (.slice none 0 0), (.slice none 0 0), (I6 0), (I6 0), (.bool false)]) rfl rfl (by simp [Value.oneCell']) siz25 rfl B1 (by first | (simp; done) | exact Nat.le_of_ble_eq_true rfl) rfl ?_
 intro w2 S2
 replace E := S2.step E (by first | exact Or.inl (by omega) | exact Or.inr rfl | exact Or.inr (by assumption) | exact Or.inr (by simp) | exact Or.inr (by omega) | exact Or.inr (by dsimp only; omega))
 replace B1 := S2.blk
 refine WpL_nil (Wp_ret ?_)
 refine fin_agg Try.results88 (vs := [(.int .i64 1), (.slice none 0 0), (.slice none 0 0), (.int .i64 0), (.int .i64 0), (.bool false)]) (b := b1) rfl agg25 siz25 rfl (B1.cells rfl) ?_
 exact ⟨rfl, E⟩
end Go.Proofs
namespace Go.Proofs
open Go Go.Eng
set_option maxRecDepth 100000
theorem map_step {S D : Nat → Prop} {base n1 : Nat} {w w1 w2 : World} {v v' : Value} {ts : List Re} {rows : List (List Value)} {x : Re} {us : List Value}
  (hR : RowsIn (fun b => S b ∨ D b) w ts rows) (hE : Ext w w1) (hn1 : n1 = w.heap.size) (hS : ∀ b, S b → b < base) (hD : ∀ b, D b → base ≤ b ∧ b < w.heap.size) (hv : ∀ q, v.ownBlock = some q → ¬ D q ∧ (base ≤ q ∧ q < n1))
  (hx : ReIn (fun b => S b ∨ n1 ≤ b) w1 x us) (C : Chg (fun y => v.ownBlock = some y) w1 w2) (hv' : ∀ q, v'.ownBlock = some q → v.ownBlock = some q ∨ w1.heap.size ≤ q) (hb : base ≤ n1) :
  RowsIn (fun b => S b ∨ (D b ∨ (n1 ≤ b ∧ b < w1.heap.size))) w2 (ts ++ [x]) (rows ++ [us]) ∧ (∀ b, (D b ∨ (n1 ≤ b ∧ b < w1.heap.size)) → base ≤ b ∧ b < w2.heap.size) ∧ (∀ q, v'.ownBlock = some q → ¬ (D q ∨ (n1 ≤ q ∧ q < w1.heap.size))) := by
 have hs := C.size
 have hs1 := hE.size
 refine ⟨RowsIn.append (RowsIn.single ?_) ?_, ?_, ?_⟩
 ·refine ReIn.mono (S := fun b => (S b ∨ n1 ≤ b) ∧ b < w1.heap.size) ?_ _ (ReIn.chg C ?_ _ (ReIn.lt _ hx))
  ·rintro b ⟨h | h, h2⟩
   ·exact .inl h
   ·exact .inr (.inr ⟨h, h2⟩)
  ·rintro b ⟨h | h, h2⟩ hm
   ·have := (hv b hm).2; have := hS b h; omega
   ·have := (hv b hm).2; omega
 ·refine RowsIn.mono (S := fun b => S b ∨ D b) (fun b hb => hb.imp id .inl) (RowsIn.chg C ?_ (RowsIn.ext hE hR))
  rintro b (h | h) hm
  ·have := (hv b hm).2; have := hS b h; omega
  ·exact (hv b hm).1 h
 ·rintro b (h | h)
  ·have := hD b h; omega
  ·omega
 ·intro q hq
  rcases hv' q hq with h | h
  ·rintro (h2 | h2)
   ·exact (hv q h).1 h2
   ·have := (hv q h).2; omega
  ·rintro (h2 | h2)
   ·have := hD q h2; omega
   ·omega
theorem re_cong {S : Nat → Prop} {w : World} {k mn mx : Int} {ng : Bool} {set : List (Int × Int)} {a : List Re} {sa aa : Option Addr} {sc ac n : Nat} (hn : a.length = n)
  (h : ReIn S w (.mk k set a mn mx ng) [.int .i64 k, .slice sa set.length sc, .slice aa a.length ac, .int .i64 mn, .int .i64 mx, .bool ng]) : ReIn S w (.mk k set a mn mx ng) [.int .i64 k, .slice sa set.length sc, .slice aa n ac, .int .i64 mn, .int .i64 mx, .bool ng] := by
 rw [← hn]; exact h
set_option maxHeartbeats 2000000 in
theorem mapped_c (w0 : World) (S : Nat → Prop) (t : Re) (vs : List Value) (fv : Value) (g : Re → Re) (ht : ReIn S w0 t vs) (hS : ∀ b, S b → b < w0.heap.size) (hM : t.size ≤ 1000000)
  (hf : ∀ (w : World) (x : Re) (xs : List Value), Ext w0 w → x ∈ t.args → ReIn S w x xs → CallV Try.prog fv #[.agg xs.toArray] w fun r w' => ∃ us, r = .agg us.toArray ∧ ReIn (fun b => S b ∨ w.heap.size ≤ b) w' (g x) us ∧ Ext w w') :
  Ret Try.prog 86 #[.agg vs.toArray, fv] w0 fun v w => ∃ us, v = .agg us.toArray ∧ ReIn (fun b => S b ∨ w0.heap.size ≤ b) w (.mk t.kind t.set (t.args.map g) t.mn t.mx t.neg) us ∧ Ext w0 w := by
 have ht0 := ht
 obtain ⟨sa, sc, aa, ac, rfl, hset, hac, hta⟩ := ht.form
 have hal := len_sizes t.args
 have hse := t.size_eq
 refine Ret_of Try.func86 rfl Try.ntmps86 (Nat.le_of_ble_eq_true rfl) ?_
 have E : Chg none1 w0 w0 := Chg.refl _ _
 refine Wp_seq_region ?_
 refine s_box (v := (.agg (R6 t sa sc aa ac))) (c := (R6 t sa sc aa ac)) (by decide) rfl rfl ?_
 intro br wr Nr
 have Fr := Nr.ge E
 replace E := E.ext Nr.ext
 have Br := Nr.blk
 refine s_alloc (c := #[(I6 0), (.slice none 0 0), (.slice none 0 0), (I6 0), (I6 0), (.bool false)]) (by decide) zer25 rfl ?_
 intro bo wo No
 have Fo := No.ge E
 have Oo_br := No.lt Br
 replace Br := No.keep Br
 replace E := E.ext No.ext
 have Bo := No.blk
 refine WpL_nil (Wp_seq_region ?_)
 refine qA _ rfl ?_
 refine WpL_nil (Wp_seq (Wp_seq_region ?_))
 refine qF br 0 2 rfl Try.underlying25 rfl siz23 rfl ?_
 refine qV (r_load rfl flat23 (Br.cell rfl)) ?_
 refine qV (r_lenSlice Try.underlying23 rfl) ?_
 refine qM _ rfl ?_
 refine WpL_nil (Wp_block ?_)
 obtain ⟨base, hbase⟩ : ∃ base, base = wo.heap.size := ⟨_, rfl⟩
 have hbo : bo < base := by rw [hbase]; exact Bo.lt
 have hbr : br < base := by rw [hbase]; exact Br.lt
 have hSb : ∀ b, S b → b < base := fun b hb => by have := hS b hb; omega
 refine Wp_loop (fun nn_ σ W1 => ∃ (k : Nat) (la : Option Addr) (lc : Nat) (rows : List (List Value)) (D : Nat → Prop), (∃ jj_, σ = upds jj_ [(1, fv), (2, (P6 br 0)), (4, (P6 bo 0)), (9, (.slice aa t.args.length ac)), (10, (I6 (t.args.length : Int))), (11, (I6 (k : Int))), (5, (.slice la k lc))]) ∧ Chg none1 w0 W1 ∧ Blk W1 br (R6 t sa sc aa ac) 25 ∧ Blk W1 bo #[(I6 0), (.slice none 0 0), (.slice none 0 0), (I6 0), (I6 0), (.bool false)] 25 ∧ (k ≤ t.args.length) ∧ (W1.ownsRow base TRe 6 (.slice la k lc) k rows.flatten) ∧ (RowsIn (fun b => S b ∨ D b) W1 ((t.args.take k).map g) rows) ∧ (∀ b, D b → base ≤ b ∧ b < W1.heap.size) ∧ (∀ q, (Value.slice la k lc).ownBlock = some q → ¬ D q) ∧ (base ≤ W1.heap.size) ∧ nn_ = t.args.length - k) (n := t.args.length - 0) ?_ ?_
 ·exact ⟨0, none, 0, [], (fun _ => False), Fits.out ⟨rfl, rfl, rfl, rfl, rfl, rfl, rfl, trivial⟩, E, Br, Bo, Nat.zero_le _, World.ownsRow_nil _ _ _ _, rfl, (fun b f => f.elim), (by simp [Value.ownBlock]), (by omega), rfl⟩
 ·clear E Br Bo
  rintro _ _ W1 ⟨k, la, lc, rows, D, ⟨j1, rfl⟩, E, Br, Bo, hk, hown, hR, hD, hv, hbs, rfl⟩
  refine Wp_seq_region ?_
  refine qV (r_lss rfl rfl) ?_
  refine WpL_nil (Wp_seq ?_)
  refine Wp_cond rfl (fun hlt => ?_) (fun hlt => ?_)
  ·have khlt := hlt
   replace hlt := of_decide_eq_true hlt
   obtain ⟨x, hx⟩ := get_of_lt (l := t.args) (i := k) (by omega)
   obtain ⟨b, o, hSb1, rfl, hxr⟩ := hta.resolve_left (fun h => by rw [h] at hx; simp at hx)
   obtain ⟨xs, hcx, hrx⟩ := ResIn.get hxr hx
   have hrx0 := hrx
   obtain ⟨xsa, xsc, xaa, xac, rfl, _, _, _⟩ := hrx.form
   have hxm : x ∈ t.args := List.mem_of_getElem? hx
   obtain ⟨wk, hwk⟩ : ∃ wk, wk = (W1) := ⟨_, rfl⟩
   have hlt3 := hown.lt
   have hbs0 := hbs
   refine Wp_skip (thn_normal (Wp_seq (Wp_block (Wp_seq_region ?_))))
   refine qV (r_indexSlice (b := b) (o := o) (len := t.args.length) (cap := ac) (i := k) (o' := o + k * 6) rfl rfl rfl Try.underlying23 siz25 (by omega) (by omega)) ?_
   refine qV (r_loadAgg rfl agg25 siz25 rfl (hcx.ext E)) ?_
   refine s_allocStore (v := (.agg (R6 x xsa xsc xaa xac))) (c := (R6 x xsa xsc xaa xac)) (n := 6) (by decide) zer25 rfl siz25 rfl rfl rfl (by simp [Value.oneCell']) ?_
   intro bs ws Ns
   have Fs := Ns.ge E
   have Os_br := Ns.lt Br
   have Os_bo := Ns.lt Bo
   replace Br := Ns.keep Br
   replace Bo := Ns.keep Bo
   replace hown := own_ext hown Ns.ext
   replace hR := RowsIn.ext Ns.ext hR
   replace hbs := Nat.le_trans hbs Ns.ext.size
   replace E := E.ext Ns.ext
   have Bs := Ns.blk
   refine WpL_nil (Wp_region ?_)
   refine qM _ rfl ?_
   refine qM _ rfl ?_
   refine qV (r_loadAgg (vs := [(I6 x.kind), (.slice xsa x.set.length xsc), (.slice xaa x.args.length xac), (I6 x.mn), (I6 x.mx), (.bool x.neg)]) rfl agg25 siz25 rfl (Bs.cells rfl)) ?_
   obtain ⟨n1, hn1⟩ : ∃ n1, n1 = ws.heap.size := ⟨_, rfl⟩
   have hD1 : ∀ b, D b → base ≤ b ∧ b < ws.heap.size := fun b hb => by have := hD b hb; have := Ns.ext.size; omega
   have hRs := hR
   refine WpL_callV (by decide) rfl rfl (hf _ x _ E hxm (ReIn.ext E x hrx0)) ?_
   rintro _ w9 ⟨us, rfl, hus, X9⟩
   replace Br := X9.keep Br
   replace Bo := X9.keep Bo
   replace Bs := X9.keep Bs
   replace hown := own_ext hown X9
   replace hbs := Nat.le_trans hbs X9.size
   replace E := E.ext X9
   rw [← hn1] at hus
   have hus0 := hus
   obtain ⟨usa, usc, uaa, uac, rfl, _, _, _⟩ := hus.form
   have Y9 : Ext ws (w9) := X9
   refine s_buildSlice (ps := [(0, (.agg #[(I6 ((g x).kind)), (.slice usa ((g x).set.length) usc), (.slice uaa ((g x).args.length) uac), (I6 ((g x).mn)), (I6 ((g x).mx)), (.bool ((g x).neg))]))]) (c := #[(I6 ((g x).kind)), (.slice usa ((g x).set.length) usc), (.slice uaa ((g x).args.length) uac), (I6 ((g x).mn)), (I6 ((g x).mx)), (.bool ((g x).neg))]) (by decide) rfl Try.underlying23 siz25 zer25 (by decide) (by decide) (by kernel_rfl) ?_
   intro bq wq Nq
   have Fq := Nq.ge E
   have Oq_br := Nq.lt Br
   have Oq_bo := Nq.lt Bo
   have Oq_bs := Nq.lt Bs
   replace Br := Nq.keep Br
   replace Bo := Nq.keep Bo
   replace Bs := Nq.keep Bs
   replace hown := own_ext hown Nq.ext
   replace hbs := Nat.le_trans hbs Nq.ext.size
   replace Y9 := Ext.trans Y9 Nq.ext
   replace hus0 := ReIn.ext Nq.ext _ hus0
   replace E := E.ext Nq.ext
   have Bq := Nq.blk
   refine s_append (base := base) (n := k) (m := 1) (xs := rows.flatten) (news := [(I6 ((g x).kind)), (.slice usa ((g x).set.length) usc), (.slice uaa ((g x).args.length) uac), (I6 ((g x).mn)), (I6 ((g x).mx)), (.bool ((g x).neg))]) (size := 6) (bytes := 80) (v := (.slice la k lc)) (by decide) Try.underlying23 siz25 byt25 zer25 rfl (by decide) rfl hown rfl (rfl) (Bq.cells rfl) (by simp [Value.oneCell']) (by unfold maxLen; omega) (by omega) (hbs) ?_
   intro v9 w29 Ov9 Cv9 Dv9
   replace Br := Cv9.keep (fun h => by have := (hown.lt _ h).1; omega) Br
   replace Bo := Cv9.keep (fun h => by have := (hown.lt _ h).1; omega) Bo
   replace E := E.step Cv9 (fun x hx h => absurd (hown.lt x h).1 (by omega))
   obtain ⟨la2, lc2, rfl⟩ := own_form Ov9
   have hstep := map_step (base := base) (n1 := n1) hRs Y9 hn1 hSb hD1 (fun q hq => ⟨hv q hq, by have := hlt3 q hq; have := Ns.ext.size; omega⟩) hus0 Cv9 Dv9 (by have := Ns.ext.size; omega)
   refine qA _ rfl ?_
   refine WpL_nil (inB_normal (thn_normal (Wp_region ?_)))
   refine qV (r_add rfl rfl (wI64 (by omega))) ?_
   refine qM _ rfl ?_
   refine WpL_nil (thn_normal ?_)
   exact ⟨t.args.length - (k + 1), by omega, k + 1, la2, lc2, rows ++ [[.int .i64 (g x).kind, .slice usa (g x).set.length usc, .slice uaa (g x).args.length uac, .int .i64 (g x).mn, .int .i64 (g x).mx, .bool (g x).neg]], (fun b => D b ∨ (n1 ≤ b ∧ b < wq.heap.size)), Fits.out ⟨rfl, rfl, rfl, rfl, rfl, rfl, rfl, trivial⟩, E, Br, Bo, (by omega), (by simpa using Ov9), (by rw [List.take_add_one, hx, List.map_append]; exact hstep.1), hstep.2.1, hstep.2.2, Nat.le_trans hbs Cv9.size, rfl⟩
  ·have khlt := hlt
   replace hlt := of_decide_eq_false hlt
   have hkk : k = t.args.length := by omega
   subst hkk
   rw [List.take_length] at hR
   obtain ⟨hcl, hcells⟩ := own_res hown hR (by simp)
   have hset9 : SlIn (fun y => S y ∨ base ≤ y) (W1) 2 (.slice sa t.set.length sc) (t.set.map spanV) := (SlIn.chg hset E (fun _ _ f => f)).mono (fun y hy => Or.inl hy)
   have hC9 : Chg (fun y => y = bo ∨ y = br) (W1) (W1) := Chg.refl _ _
   refine Wp_exit (thn_exit (thn_exit (inB_here (thn_normal (Wp_seq_region ?_)))))
   refine qM _ rfl ?_
   refine qF br 0 2 rfl Try.underlying25 rfl siz23 rfl ?_
   refine s_store (b := br) (o := 2) (c' := (R6 t sa sc la lc)) (v := (.slice la t.args.length lc)) rfl rfl rfl siz23 Br (by simp) rfl ?_
   intro w3 S3
   replace hC9 := hC9.step S3.chg (fun y _ h => by first | exact .inl h | exact .inr h)
   replace Bo := S3.keep (by omega) Bo
   replace E := S3.step E (by first | exact Or.inl (by omega) | exact Or.inr rfl | exact Or.inr (by assumption) | exact Or.inr (by simp) | exact Or.inr (by omega) | exact Or.inr (by dsimp only; omega))
   replace Br := S3.blk
   refine WpL_nil (Wp_seq_region ?_)
   refine qV (r_loadAgg (vs := [(I6 t.kind), (.slice sa t.set.length sc), (.slice la t.args.length lc), (I6 t.mn), (I6 t.mx), (.bool t.neg)]) rfl agg25 siz25 rfl (Br.cells rfl)) ?_
   refine s_storeAgg (b := bo) (o := 0) (c' := (R6 t sa sc la lc)) rfl rfl (by simp [Value.oneCell']) siz25 rfl Bo (by first | (simp; done) | exact Nat.le_of_ble_eq_true rfl) rfl ?_
   intro w4 S4
   replace hC9 := hC9.step S4.chg (fun y _ h => by first | exact .inl h | exact .inr h)
   replace Br := S4.keep (by omega) Br
   replace E := S4.step E (by first | exact Or.inl (by omega) | exact Or.inr rfl | exact Or.inr (by assumption) | exact Or.inr (by simp) | exact Or.inr (by omega) | exact Or.inr (by dsimp only; omega))
   replace Bo := S4.blk
   refine WpL_nil (Wp_ret ?_)
   refine fin_agg Try.results86 (vs := [(.int .i64 t.kind), (.slice sa t.set.length sc), (.slice la t.args.length lc), (.int .i64 t.mn), (.int .i64 t.mx), (.bool t.neg)]) (b := bo) rfl agg25 siz25 rfl (Bo.cells rfl) ?_
   refine ⟨_, rfl, ?_, E⟩
   have hlm : (t.args.map g).length = t.args.length := by simp
   have hne : ∀ y, (S y ∨ base ≤ y) → ¬ (y = bo ∨ y = br) := by
    rintro y (h | h) (h2 | h2)
    ·have := hSb y h; have := hS y h; omega
    ·have := hSb y h; have := hS y h; omega
    ·omega
    ·omega
   refine re_cong (by simp) (ReIn.mono (S := fun y => S y ∨ base ≤ y) (fun y hy => hy.imp id (fun h => by omega)) _ (ReIn.chg hC9 hne _ (ReIn.of (set := t.set) (args := t.args.map g) hset9 (by rw [hlm]; exact hcl) ?_)))
   rcases hcells with h | ⟨gb, h1, h2, h3, h4⟩
   ·exact .inl h
   ·exact .inr ⟨gb, 0, .inr h1, h3, resin_of fun i u hu => by obtain ⟨us, h5, h6⟩ := h4 i u hu; exact ⟨us, h5, ReIn.mono (fun y hy => hy.imp id (fun h => (hD y h).1)) u h6⟩⟩
end Go.Proofs
namespace Go.Eng
open Go
def edgeB (l : List Oper) (t u : Nat) : Bool := match l[t]? with
  | some o => o.after.any fun e => Region.binds .any e && Nat.beq e.on u
  | none => false
def guardB (hd : List Bool) (o : Oper) : Bool := match o.guard with | some p => hd.getD p.1 false | none => true
def permB (ops : Array Oper) : List Nat → Array Bool → Bool
  | [], listed => (Region.ready .any ops listed).isEmpty
  | k :: ks, listed => decide (Region.ready .any ops listed = [k]) && permB ops ks (listed.setIfInBounds k true)
theorem wpAny_of_perm {P : Program} {ops : Array Oper} {Q' : Exit → Act → World → Prop} : ∀ (ks : List Nat) (listed : Array Bool) (a : Act) (w : World), permB ops ks listed = true → wpList P ops Q' (ks.filterMap fun k => ops[k]?) a w → wpAny P .any ops Q' ks.length listed a w
  | [], _, _, _, hB, h => ⟨by simpa [permB] using hB, h⟩
  | k :: ks, listed, a, w, hB, h => by
    simp only [permB, Bool.and_eq_true, decide_eq_true_eq] at hB
    refine ⟨fun h1 => (by rw [hB.1] at h1; cases h1), fun i hi => ?_⟩
    have hi0 := hi
    rw [hB.1] at hi
    have hik : i = k := by simpa using hi
    subst hik
    obtain ⟨_, o, h0, _⟩ := mem_ready.1 hi0
    have hw : wpOp P ops Q' i (wpList P ops Q' (ks.filterMap fun k => ops[k]?)) a w := by
      rw [List.filterMap_cons, h0] at h
      unfold wpOp; simp only [h0]; exact h
    exact wpOp_mono (fun a' w' h' => wpAny_of_perm ks _ a' w' hB.2 h') hw
/-- How many of the head are yet to come. -/
def leftH (hd : List Bool) (listed : List Bool) : Nat := ((hd.zip listed).filter fun p => p.1 && !p.2).length
theorem leftH_set : ∀ {hd listed : List Bool} {i : Nat}, hd[i]? = some true → listed[i]? = some false → leftH hd (listed.set i true) + 1 = leftH hd listed
  | [], _, _, h, _ => by simp at h
  | _ :: _, [], _, _, h => by simp at h
  | h :: hd, x :: listed, 0, h1, h2 => by
    simp at h1 h2
    subst h1; subst h2
    simp [leftH]
  | h :: hd, x :: listed, i + 1, h1, h2 => by
    have := leftH_set (hd := hd) (listed := listed) (i := i) (by simpa using h1) (by simpa using h2)
    simp only [leftH, List.set_cons_succ, List.zip_cons_cons, List.filter_cons] at this ⊢
    split
    · simp only [List.length_cons]; omega
    · exact this
theorem leftH_zero : ∀ {hd listed : List Bool}, hd.length = listed.length → leftH hd listed = 0 → (∀ (i : Nat), hd[i]? = some false → listed[i]? = some false) → listed = hd
  | [], [], _, _, _ => rfl
  | [], _ :: _, h, _, _ => by simp at h
  | _ :: _, [], h, _, _ => by simp at h
  | h :: hd, x :: listed, hl, h0, ht => by
    have e1 : leftH hd listed = 0 := by
      simp only [leftH, List.zip_cons_cons, List.filter_cons] at h0 ⊢
      split at h0
      · simp at h0
      · exact h0
    have e2 := leftH_zero (by simpa using hl) e1 fun i hi => by have := ht (i + 1) (by simpa using hi); simpa using this
    have e3 : x = h := by
      cases h with
      | false => have := ht 0 rfl; simpa using this
      | true =>
        cases x with
        | true => rfl
        | false => simp [leftH] at h0
    rw [e2, e3]
theorem leftH_pos : ∀ {hd listed : List Bool}, 0 < leftH hd listed → ∃ i : Nat, hd[i]? = some true ∧ listed[i]? = some false
  | [], _, h => by simp [leftH] at h
  | _ :: _, [], h => by simp [leftH] at h
  | h :: hd, x :: listed, hp => by
    simp only [leftH, List.zip_cons_cons, List.filter_cons] at hp
    split at hp
    · rename_i hc
      simp at hc
      exact ⟨0, by simp [hc.1], by simp [hc.2]⟩
    · obtain ⟨i, h1, h2⟩ := leftH_pos (hd := hd) (listed := listed) hp
      exact ⟨i + 1, by simpa using h1, by simpa using h2⟩
theorem getD_arr {listed : Array Bool} {i : Nat} {b d : Bool} (h : listed.toList[i]? = some b) : listed.getD i d = b := by
 have : listed[i]? = some b := by simpa using h
 simp [Array.getD_eq_getD_getElem?, this]
section
variable {P : Program} {N : Nat} {σ : Env} {w : World} {dst : Option Tmp} {ty : TypeId} {pos : String} {af : Array Edge} {g : Option (Nat × Bool)} {t : TypeId} {x y z u : Operand} {a b c d : Value} {i j k m : Nat}
theorem bld1 (h : ev σ x = a) : ([(i, x)].map fun (i, x) => (i, ev σ x)) = [(i, a)] := by simp only [List.map, h]
theorem bld2 (h : ev σ x = a) (h2 : ev σ y = b) : ([(i, x), (j, y)].map fun (i, x) => (i, ev σ x)) = [(i, a), (j, b)] := by simp only [List.map, h, h2]
theorem bld3 (h : ev σ x = a) (h2 : ev σ y = b) (h3 : ev σ z = c) : ([(i, x), (j, y), (k, z)].map fun (i, x) => (i, ev σ x)) = [(i, a), (j, b), (k, c)] := by simp only [List.map, h, h2, h3]
/-- A new variable, with its cells. -/
def alF (e : Nat) (c : Array Value) (hs : Nat) : Fct := fun v w => ∃ b, v = .pointer (some ⟨b, 0, none⟩) ∧ Blk w b c e ∧ hs ≤ b
theorem alF_ext (e : Nat) (c : Array Value) (hs : Nat) : Stable (alF e c hs) := by
 rintro v w w' x ⟨b, h1, h2, h3⟩
 exact ⟨b, h1, Ext.keep x h2, h3⟩
end
end Go.Eng
namespace Go.Eng
open Go
def two (c1 c2 : Nat) (M1 M2 : Nat → Prop) (p : Nat) : Nat → Prop := bif Nat.beq p c1 then M1 else bif Nat.beq p c2 then M2 else none1
/-- Waits that follow from the given ones. -/
def closB1 (wss cl : List (List Nat)) (i : Nat) : Bool := (cl.getD i []).all fun c => (wss.getD i []).contains c || (wss.getD i []).any fun e => (cl.getD e []).contains c
def closB (wss cl : List (List Nat)) : Bool := (List.range wss.length).all (closB1 wss cl)
theorem closB_get {wss cl : List (List Nat)} (h : closB wss cl = true) {i c : Nat} {ws : List Nat} (hw : wss[i]? = some ws) (hc : (cl.getD i []).contains c = true) : c ∈ ws ∨ ∃ e ∈ ws, (cl.getD e []).contains c = true := by
 have h1 := List.all_eq_true.1 h i (List.mem_range.2 (lt_of_get hw))
 have h2 := List.all_eq_true.1 h1 c (by simpa using hc)
 rw [List.getD_eq_getElem?_getD, hw, Option.getD_some, Bool.or_eq_true] at h2
 rcases h2 with h2 | h2
 ·exact .inl (by simpa using h2)
 ·obtain ⟨e, he, h3⟩ := List.any_eq_true.1 h2
  exact .inr ⟨e, he, h3⟩
end Go.Eng
namespace Go.Eng
open Go
abbrev FctS := (Nat → Bool) → Env → Fct
abbrev eF (u : Value) : FctS := fun _ _ v _ => v = u
def HoldsS (ds : List Nat) (Fs : List FctS) (S : Nat → Bool) (j : Nat) (σ : Env) (w : World) : Prop := ∀ d F, ds[j]? = some d → Fs[j]? = some F → F S σ (σ d) w
def insS (S : Nat → Bool) (i : Nat) : Nat → Bool := fun j => bif Nat.beq j i then true else S j
theorem insS_self (S : Nat → Bool) (i : Nat) : insS S i i = true := by simp [insS]
theorem insS_ne {S : Nat → Bool} {i j : Nat} (h : j ≠ i) : insS S i j = S j := by
 have : Nat.beq j i = false := by cases hb : Nat.beq j i; rfl; exact absurd (Nat.eq_of_beq_eq_true hb) h
 simp [insS, this]
/-- The blocks that the operations change. -/
def MsL : List (Nat × (Nat → Prop)) → Nat → Nat → Prop
  | [], _, _ => False
  | p :: r, j, y => (j = p.1 ∧ p.2 y) ∨ MsL r j y
theorem MsL_or {c : Nat} {M : Nat → Prop} {r : List (Nat × (Nat → Prop))} {j y : Nat} (h : MsL ((c, M) :: r) j y) : (j = c ∧ M y) ∨ MsL r j y := h
theorem xN0 {S : Nat → Bool} {w w' : World} (X : Chg (fun y => ∃ j, S j = true ∧ MsL [] j y) w w') : Chg none1 w w' := X.mono fun y _ ⟨_, _, h⟩ => h.elim
theorem xN1 {S : Nat → Bool} {w w' : World} {c : Nat} {M : Nat → Prop} (hN : S c = false) (X : Chg (fun y => ∃ j, S j = true ∧ MsL [(c, M)] j y) w w') : Chg none1 w w' := X.mono fun y _ ⟨j, hj, h⟩ => by
  rcases MsL_or h with ⟨rfl, _⟩ | h0
  · rw [hj] at hN; cases hN
  · exact h0.elim
theorem xN2 {S : Nat → Bool} {w w' : World} {c d : Nat} {M M2 : Nat → Prop} (hN : S c = false) (hN2 : S d = false) (X : Chg (fun y => ∃ j, S j = true ∧ MsL [(c, M), (d, M2)] j y) w w') : Chg none1 w w' := X.mono fun y _ ⟨j, hj, h⟩ => by
  rcases MsL_or h with ⟨rfl, _⟩ | h
  · rw [hj] at hN; cases hN
  rcases MsL_or h with ⟨rfl, _⟩ | h0
  · rw [hj] at hN2; cases hN2
  · exact h0.elim
theorem xM1 {S : Nat → Bool} {w w' : World} {c : Nat} {M : Nat → Prop} (X : Chg (fun y => ∃ j, S j = true ∧ MsL [(c, M)] j y) w w') : Chg M w w' := X.mono fun y _ ⟨j, hj, h⟩ => by
  rcases MsL_or h with ⟨_, h⟩ | h0
  · exact h
  · exact h0.elim
theorem xM2 {S : Nat → Bool} {w w' : World} {c d : Nat} {M M2 : Nat → Prop} (hN2 : S d = false) (X : Chg (fun y => ∃ j, S j = true ∧ MsL [(c, M), (d, M2)] j y) w w') : Chg M w w' := X.mono fun y _ ⟨j, hj, h⟩ => by
  rcases MsL_or h with ⟨_, h⟩ | h
  · exact h
  rcases MsL_or h with ⟨rfl, _⟩ | h0
  · rw [hj] at hN2; cases hN2
  · exact h0.elim
def dagOneS (N i : Nat) (hd : List Bool) (o : Oper) (d : Nat) (ws : List Nat) : Bool :=
 (match o.dst with | some d' => Nat.beq d' d && Nat.blt d N | none => Nat.ble N d) && (o.after.all fun e => !Region.binds .any e || (Nat.blt e.on i && hd.getD e.on false)) && (ws.all fun j => o.after.any fun e => Region.binds .any e && Nat.beq e.on j) && guardB hd o
def dagSB (N : Nat) (hd : List Bool) : Nat → List Oper → List Nat → List (List Nat) → List Bool → Bool
  | _, [], [], [], [] => true
  | i, o :: l, d :: ds, ws :: wss, h :: hs => (bif h then dagOneS N i hd o d ws else Nat.ble N d) && dagSB N hd (i + 1) l ds wss hs
  | _, _, _, _, _ => false
theorem dagSB_get {N : Nat} {hd : List Bool} : ∀ {i : Nat} {l : List Oper} {ds : List Nat} {wss : List (List Nat)} {hs : List Bool}, dagSB N hd i l ds wss hs = true → ∀ {j : Nat} {o : Oper}, l[j]? = some o → ∃ d ws h, ds[j]? = some d ∧ wss[j]? = some ws ∧ hs[j]? = some h ∧ (bif h then dagOneS N (i + j) hd o d ws else Nat.ble N d) = true
  | _, [], _, _, _, _, j, o, h => by simp at h
  | i, x :: l, [], _, _, hB, _, _, _ => by simp [dagSB] at hB
  | i, x :: l, d :: ds, [], _, hB, _, _, _ => by simp [dagSB] at hB
  | i, x :: l, d :: ds, ws :: wss, [], hB, _, _, _ => by simp [dagSB] at hB
  | i, x :: l, d :: ds, ws :: wss, h0 :: hs, hB, j, o, h => by
    simp only [dagSB, Bool.and_eq_true] at hB
    cases j with
    | zero => simp at h; subst h; exact ⟨d, ws, h0, rfl, rfl, rfl, hB.1⟩
    | succ j =>
      simp at h
      obtain ⟨d', ws', h', h1, h2, h3, h4⟩ := dagSB_get hB.2 h
      exact ⟨d', ws', h', by simpa using h1, by simpa using h2, by simpa using h3, by rw [show i + (j + 1) = i + 1 + j from by omega]; exact h4⟩
theorem dagSB_len {N : Nat} {hd : List Bool} : ∀ {i : Nat} {l : List Oper} {ds : List Nat} {wss : List (List Nat)} {hs : List Bool}, dagSB N hd i l ds wss hs = true → ds.length = l.length ∧ hs.length = l.length ∧ wss.length = l.length
  | _, [], [], [], [], _ => ⟨rfl, rfl, rfl⟩
  | _, [], [], [], _ :: _, hB => by simp [dagSB] at hB
  | _, [], [], _ :: _, _, hB => by simp [dagSB] at hB
  | _, [], _ :: _, _, _, hB => by simp [dagSB] at hB
  | i, x :: l, [], _, _, hB => by simp [dagSB] at hB
  | i, x :: l, d :: ds, [], _, hB => by simp [dagSB] at hB
  | i, x :: l, d :: ds, ws :: wss, [], hB => by simp [dagSB] at hB
  | i, x :: l, d :: ds, ws :: wss, h0 :: hs, hB => by
    simp only [dagSB, Bool.and_eq_true] at hB
    have := dagSB_len hB.2
    simp [this.1, this.2.1, this.2.2]
def DagStepS (P : Program) (N : Nat) (ds : List Nat) (Fs : List FctS) (σ : Env) (w : World) (Ms : Nat → Nat → Prop) (cl : List (List Nat)) (i : Nat) (o : Oper) (ws : List Nat) (F : FctS) : Prop :=
 ∀ (S : Nat → Bool) σ' w', S i = false → (∀ j, (cl.getD j []).contains i = true → S j = false) → Chg (fun y => ∃ j, S j = true ∧ Ms j y) w w' → (∀ t, ds.contains t = false → σ' t = σ t) → (∀ j d, ds[j]? = some d → S j = false → σ' d = σ d) → (∀ j, ws.contains j = true → S j = true ∧ HoldsS ds Fs S j σ' w') →
  (Guarded ds o σ' ∧ DoesT (Ms i) P N o (fun v w => F (insS S i) σ' (Go.Eng.valOf o v) w) σ' w') ∨ (Unmet ds o σ' ∧ F (insS S i) σ' undef w')
/-- A fact lasts while other operations are done. -/
def StabS (Ms : Nat → Nat → Prop) (i : Nat) (ws : List Nat) (F : FctS) : Prop := ∀ p, p ≠ i → ws.contains p = false → ∀ S σ v w w', S i = true → S p = false → Chg (Ms p) w w' → F S σ v w → F (insS S p) σ v w'
/-- A fact speaks of the values of the operations that it waits for alone. -/
def LocS (ds : List Nat) (ws : List Nat) (F : FctS) : Prop := ∀ S (σ1 σ2 : Env), (∀ j d, ws.contains j = true → ds[j]? = some d → σ2 d = σ1 d) → ∀ v w, F S σ1 v w → F S σ2 v w
inductive DagStepsS (P : Program) (N : Nat) (ds : List Nat) (Fs : List FctS) (σ : Env) (w : World) (Ms : Nat → Nat → Prop) (cl : List (List Nat)) : Nat → List Oper → List (List Nat) → List Bool → List FctS → Prop where
  | nil {i : Nat} : DagStepsS P N ds Fs σ w Ms cl i [] [] [] []
  | cons {i : Nat} {o : Oper} {ws : List Nat} {F : FctS} {l : List Oper} {wss : List (List Nat)} {hs : List Bool} {Gs : List FctS} (s : StabS Ms i ws F) (lc : LocS ds ws F) (h : DagStepS P N ds Fs σ w Ms cl i o ws F) (t : DagStepsS P N ds Fs σ w Ms cl (i + 1) l wss hs Gs) : DagStepsS P N ds Fs σ w Ms cl i (o :: l) (ws :: wss) (true :: hs) (F :: Gs)
  | tail {i : Nat} {o : Oper} {ws : List Nat} {F : FctS} {l : List Oper} {wss : List (List Nat)} {hs : List Bool} {Gs : List FctS} (t : DagStepsS P N ds Fs σ w Ms cl (i + 1) l wss hs Gs) : DagStepsS P N ds Fs σ w Ms cl i (o :: l) (ws :: wss) (false :: hs) (F :: Gs)
def allS (hd : List Bool) : Nat → Bool := fun j => hd.getD j false
def DoesX (M : Nat → Prop) (ch : List PanicEntry) (X : World → Prop) (P : Program) (N : Nat) (o : Oper) (R : Fct) (σ : Env) (w : World) : Prop :=
 ∀ dz a, Ok dz N a → env a = σ → ∀ (Q : Exit → Act → World → Prop) (K : Act → World → Prop), (∀ v w', Chg M w w' → R v w' → K (a.put o.dst v) w') → (∀ w', Chg M w w' → X w' → Q (.panic ch) a w') → o.wp P a w K Q
theorem DoesT.x {M : Nat → Prop} {ch : List PanicEntry} {X : World → Prop} {P : Program} {N : Nat} {o : Oper} {R : Fct} {σ : Env} {w : World} (h : DoesT M P N o R σ w) : DoesX M ch X P N o R σ w := fun dz a ha he Q K hK _ => h dz a ha he Q K hK
theorem DoesX_enter {M : Nat → Prop} {ch : List PanicEntry} {X : World → Prop} {P : Program} {N : Nat} {o : Oper} {R : Fct} {σ : Env} {w : World} {f : FuncId} {args : Array Value} (hr : (execOp (ev σ) o).run P w = .ok (.enter f args) w) (hc : RetX P ch f args w (fun v w' => R v w' ∧ Chg M w w') (fun w' => X w' ∧ Chg M w w')) : DoesX M ch X P N o R σ w := by
 intro dz a ha he Q K hK hX
 unfold Oper.wp
 rw [eval_env, he, hr]
 simp only [Oper.upon]
 refine Calls.mono hc ?_
 rintro e w' (⟨v, rfl, r, c⟩ | ⟨rfl, x, c⟩)
 ·exact hK v w' c r
 ·exact hX w' c x
theorem DoesX.weak {M : Nat → Prop} {ch : List PanicEntry} {X : World → Prop} {P : Program} {N : Nat} {o : Oper} {R R' : Fct} {σ : Env} {w : World} (h : DoesX M ch X P N o R σ w) (hr : ∀ v w', Chg M w w' → R v w' → R' v w') : DoesX M ch X P N o R' σ w := fun dz a ha he Q K hK hX => h dz a ha he Q K (fun v w' c r => hK v w' c (hr v w' c r)) hX
def DagStepG (P : Program) (N : Nat) (ds : List Nat) (Fs : List FctS) (σ : Env) (w : World) (Ms : Nat → Nat → Prop) (Rs : Nat → World → World → Prop) (ch : List PanicEntry) (X : World → Prop) (cl : List (List Nat)) (i : Nat) (o : Oper) (ws : List Nat) (F : FctS) : Prop :=
 ∀ (S : Nat → Bool) σ' w', S i = false → (∀ j, (cl.getD j []).contains i = true → S j = false) → Chg (fun y => ∃ j, S j = true ∧ Ms j y) w w' → (∀ t, ds.contains t = false → σ' t = σ t) → (∀ j d, ds[j]? = some d → S j = false → σ' d = σ d) → (∀ j, ws.contains j = true → S j = true ∧ HoldsS ds Fs S j σ' w') →
  (Guarded ds o σ' ∧ DoesX (Ms i) ch X P N o (fun v w => F (insS S i) σ' (Go.Eng.valOf o v) w ∧ Rs i w' w) σ' w') ∨ (Unmet ds o σ' ∧ F (insS S i) σ' undef w' ∧ Rs i w' w')
/-- A fact lasts while other operations are done. -/
def StabG (Ms : Nat → Nat → Prop) (Rs : Nat → World → World → Prop) (cl : List (List Nat)) (i : Nat) (ws : List Nat) (F : FctS) : Prop := ∀ p, p ≠ i → ws.contains p = false → ∀ S σ v w w', S i = true → S p = false → (∀ j, (cl.getD p []).contains j = true → S j = true) → Chg (Ms p) w w' → Rs p w w' → F S σ v w → F (insS S p) σ v w'
inductive DagStepsG (P : Program) (N : Nat) (ds : List Nat) (Fs : List FctS) (σ : Env) (w : World) (Ms : Nat → Nat → Prop) (Rs : Nat → World → World → Prop) (ch : List PanicEntry) (X : World → Prop) (cl : List (List Nat)) : Nat → List Oper → List (List Nat) → List Bool → List FctS → Prop where
  | nil {i : Nat} : DagStepsG P N ds Fs σ w Ms Rs ch X cl i [] [] [] []
  | cons {i : Nat} {o : Oper} {ws : List Nat} {F : FctS} {l : List Oper} {wss : List (List Nat)} {hs : List Bool} {Gs : List FctS} (s : StabG Ms Rs cl i ws F) (lc : LocS ds ws F) (h : DagStepG P N ds Fs σ w Ms Rs ch X cl i o ws F) (t : DagStepsG P N ds Fs σ w Ms Rs ch X cl (i + 1) l wss hs Gs) : DagStepsG P N ds Fs σ w Ms Rs ch X cl i (o :: l) (ws :: wss) (true :: hs) (F :: Gs)
  | tail {i : Nat} {o : Oper} {ws : List Nat} {F : FctS} {l : List Oper} {wss : List (List Nat)} {hs : List Bool} {Gs : List FctS} (t : DagStepsG P N ds Fs σ w Ms Rs ch X cl (i + 1) l wss hs Gs) : DagStepsG P N ds Fs σ w Ms Rs ch X cl i (o :: l) (ws :: wss) (false :: hs) (F :: Gs)
theorem DagStepsG.get {P : Program} {N : Nat} {ds : List Nat} {Fs : List FctS} {σ : Env} {w : World} {Ms : Nat → Nat → Prop} {Rs : Nat → World → World → Prop} {ch : List PanicEntry} {X : World → Prop} {cl : List (List Nat)} : ∀ {i : Nat} {l : List Oper} {wss : List (List Nat)} {hs : List Bool} {Gs : List FctS}, DagStepsG P N ds Fs σ w Ms Rs ch X cl i l wss hs Gs → ∀ {j : Nat} {o : Oper}, l[j]? = some o → hs[j]? = some true → ∃ ws F, wss[j]? = some ws ∧ Gs[j]? = some F ∧ StabG Ms Rs cl (i + j) ws F ∧ LocS ds ws F ∧ DagStepG P N ds Fs σ w Ms Rs ch X cl (i + j) o ws F
  | _, _, _, _, _, .nil, j, o, h, _ => by simp at h
  | i, _, _, _, _, .cons s lc h t, 0, o, ho, _ => by
    simp at ho; subst ho
    exact ⟨_, _, rfl, rfl, s, lc, h⟩
  | _, _, _, _, _, .tail t, 0, o, h, ht => by simp at ht
  | i, _, _, _, _, .cons s lc h t, j + 1, o, ho, ht => by
    obtain ⟨ws, F, h1, h2, h3, h5, h4⟩ := t.get (j := j) (by simpa using ho) (by simpa using ht)
    exact ⟨ws, F, by simpa using h1, by simpa using h2, by rw [show i + (j + 1) = i + 1 + j from by omega]; exact h3, h5, by rw [show i + (j + 1) = i + 1 + j from by omega]; exact h4⟩
  | i, _, _, _, _, .tail t, j + 1, o, ho, ht => by
    obtain ⟨ws, F, h1, h2, h3, h5, h4⟩ := t.get (j := j) (by simpa using ho) (by simpa using ht)
    exact ⟨ws, F, by simpa using h1, by simpa using h2, by rw [show i + (j + 1) = i + 1 + j from by omega]; exact h3, h5, by rw [show i + (j + 1) = i + 1 + j from by omega]; exact h4⟩
/-- An operation waits for another, be it by way of others. -/
def reachB (l : List Oper) : Nat → Nat → Nat → Bool
  | 0, i, u => edgeB l i u
  | k + 1, i, u => edgeB l i u || (List.range l.length).any fun v => edgeB l i v && reachB l k v u
def tailQB (l : List Oper) (hd : List Bool) (ts : List Nat) : Bool :=
 (List.range l.length).all fun i => hd.getD i false || (ts.contains i && ((List.range l.length).all (fun u => !hd.getD u false || reachB l 4 i u) || ts.any fun p => !hd.getD p true && edgeB l i p))
theorem reach_listed {l : List Oper} {listed : Array Bool} (hcd : ∀ (j : Nat) oj, l[j]? = some oj → listed.getD j false = true → ∀ e ∈ oj.after, Region.binds .any e = true → listed.getD e.on false = true) :
    ∀ (k j u : Nat), listed.getD j false = true → reachB l k j u = true → listed.getD u false = true := by
  have edge : ∀ j u, listed.getD j false = true → edgeB l j u = true → listed.getD u false = true := fun j u hj hu => by
    unfold edgeB at hu
    cases ho : l[j]? with
    | none => rw [ho] at hu; cases hu
    | some o =>
      rw [ho] at hu
      simp only [Array.any_eq_true', Bool.and_eq_true] at hu
      obtain ⟨e, he, hb1, hb2⟩ := hu
      have := Nat.eq_of_beq_eq_true hb2
      rw [← this]
      exact hcd j o ho hj e he hb1
  intro k
  induction k with
  | zero => intro j u hj h; exact edge j u hj h
  | succ k ih =>
    intro j u hj h
    simp only [reachB, Bool.or_eq_true] at h
    rcases h with h | h
    · exact edge j u hj h
    · obtain ⟨v, _, h2⟩ := List.any_eq_true.1 h
      rw [Bool.and_eq_true] at h2
      exact ih v u (edge j v hj h2.1) h2.2
theorem Wp_dagG {P : Program} {N : Nat} {Q : Post} {σ : Env} {w : World} {id : Nat} {l : List Oper} (Ms : Nat → Nat → Prop) (Rs : Nat → World → World → Prop) (ch : List PanicEntry) (X : World → Prop) (hd : List Bool) (ts : List Nat) (ds : List Nat) (wss cl : List (List Nat)) (Fs : List FctS) {Gs : List FctS} (hG : Fs = Gs) (hC : closB wss cl = true) (hm : P.follows .mixedOrders = true) (hB : dagSB N hd 0 l ds wss hd = true) (hn : nodupB ds = true)
    (hT : (tailQB l hd ts && permB l.toArray ts hd.toArray) = true) (hN : Nat.beq (leftH hd (List.replicate l.length false) + ts.length) l.length = true)
    (steps : ∀ w1, Ext w w1 → DagStepsG P N ds Fs σ w1 Ms Rs ch X cl 0 l cl hd Gs)
    (hX : ∀ σ' w1 w', Ext w w1 → Chg (fun y => ∃ j, Ms j y) w1 w' → X w' → Q (.panic ch) σ' w')
    (k : ∀ σ' w1 w', Ext w w1 → Chg (fun y => ∃ j, hd.getD j false = true ∧ Ms j y) w1 w' → (∀ t, ds.contains t = false → σ' t = σ t) → (∀ j, hd[j]? = some true → HoldsS ds Fs (allS hd) j σ' w') → WpL P N l.toArray (Q .normal) Q (ts.filterMap fun k => l[k]?) σ' w') : Wp P N (.region id l.toArray true) Q σ w := by
  intro dz a ha he
  have eQ : lift dz N (thn (Q .normal) Q) = lift dz N Q := by funext e a w; cases e <;> rfl
  refine wp_region_any hm ?_
  obtain ⟨w1, hw1⟩ : ∃ w1 : World, w1 = { w with drawn := w.drawn + 1 } := ⟨_, rfl⟩
  have hE1 : Ext w w1 := by rw [hw1]; exact drew_ext w
  rw [← hw1]
  have hst := steps w1 hE1
  rw [← hG] at hst
  rw [Bool.and_eq_true] at hT
  obtain ⟨hT1, hT2⟩ := hT
  obtain ⟨hlen, hlen2, hlen3⟩ := dagSB_len hB
  let Lf : Array Bool → Nat → Bool := fun listed j => listed.getD j false
  have key : ∀ (m : Nat) (listed : Array Bool) (a : Act) (w' : World), leftH hd listed.toList = m → listed.size = l.length → (∀ (t : Nat), hd[t]? = some false → listed.toList[t]? = some false) → (∀ (j : Nat) oj, l[j]? = some oj → listed.getD j false = true → ∀ e ∈ oj.after, Region.binds .any e = true → listed.getD e.on false = true) → Ok dz N a → Chg (fun y => ∃ j, listed.getD j false = true ∧ Ms j y) w1 w' → (∀ t, ds.contains t = false → env a t = σ t) → (∀ j d, ds[j]? = some d → listed.getD j false = false → env a d = σ d) → (∀ j, hd[j]? = some true → listed.getD j false = true → HoldsS ds Fs (Lf listed) j (env a) w') →
      wpAny P .any l.toArray (lift dz N Q) (m + ts.length) listed a w' := by
    intro m
    induction m with
    | zero =>
      intro listed a w' hc0 hsz htl hcd ha hx hu hv0 hh
      have hl : listed = hd.toArray := by
        apply Array.ext'
        exact leftH_zero (by simp; omega) hc0 htl
      have hLf : Lf listed = allS hd := by
        funext j
        show listed.getD j false = hd.getD j false
        rw [hl]; simp [List.getD_eq_getElem?_getD]
      rw [Nat.zero_add]
      have h1 := k (env a) w1 w' hE1 (hx.mono fun y _ h => by
        obtain ⟨j, h1, h2⟩ := h
        have : allS hd j = true := by rw [← hLf]; exact h1
        exact ⟨j, this, h2⟩) hu (fun j hj => by rw [← hLf]; exact hh j hj (getD_arr (by rw [hl]; exact hj))) dz a ha rfl
      rw [eQ] at h1
      exact wpAny_of_perm ts listed a w' (by rw [hl]; exact hT2) (by simpa using h1)
    | succ m ih =>
      intro listed a w' hcm hsz htl hcd ha hx hu hv0 hh
      obtain ⟨i0, hi0, hi1⟩ := leftH_pos (hd := hd) (listed := listed.toList) (by omega)
      rw [show m + 1 + ts.length = (m + ts.length) + 1 by omega]
      refine ⟨fun hr => ?_, fun i hi => ?_⟩
      · exfalso
        have hall : ∀ i : Nat, hd[i]? = some true → listed.getD i true = true := by
          intro i
          induction i using Nat.strongRecOn with
          | _ i ihi =>
            intro hi
            cases hv : listed.getD i true with
            | true => rfl
            | false =>
              exfalso
              obtain ⟨o, ho⟩ := get_of_lt (l := l) (i := i) (by have := lt_of_get hi; omega)
              obtain ⟨d, ws, h, _, _, h2, h3⟩ := dagSB_get hB ho
              rw [hi] at h2
              cases h2
              simp only [cond_true, dagOneS, Bool.and_eq_true, Nat.zero_add] at h3
              have : i ∈ Region.ready .any l.toArray listed := by
                refine mem_ready.2 ⟨hv, o, by simpa using ho, fun e he hb => ?_⟩
                have h4 := h3.1.1.2
                simp only [Array.all_eq_true_iff_forall_mem, Bool.or_eq_true, Bool.not_eq_true', Bool.and_eq_true] at h4
                have h6 := (h4 e he).resolve_left (by simp [hb])
                have hlt : e.on < i := by simpa [Nat.blt_eq] using h6.1
                have h7 := h6.2
                have hj0 : e.on < hd.length := by have := lt_of_get hi; omega
                have h8 : hd[e.on]? = some true := by
                  rw [List.getD_eq_getElem?_getD, List.getElem?_eq_getElem hj0, Option.getD_some] at h7
                  rw [List.getElem?_eq_getElem hj0, h7]
                have h9 := ihi e.on hlt h8
                have hj : e.on < listed.size := by omega
                simpa only [Array.getD_eq_getD_getElem?, Array.getElem?_eq_getElem hj, Option.getD_some] using h9
              rw [hr] at this
              cases this
        have := hall i0 hi0
        rw [getD_arr hi1] at this
        cases this
      · obtain ⟨h1, o, h2, h3⟩ := mem_ready.1 hi
        have ho : l[i]? = some o := by simpa using h2
        have hil : i < l.length := lt_of_get ho
        have hih : hd[i]? = some true := by
          obtain ⟨b, hb⟩ := get_of_lt (l := hd) (i := i) (by omega)
          cases b with
          | true => exact hb
          | false =>
            exfalso
            have h4 := List.all_eq_true.1 hT1 i (List.mem_range.2 hil)
            rw [List.getD_eq_getElem?_getD, hb, Option.getD_some, Bool.false_or, Bool.and_eq_true, Bool.or_eq_true] at h4
            have edge : ∀ u, edgeB l i u = true → listed.getD u false = true := fun u hu' => by
              unfold edgeB at hu'
              rw [ho] at hu'
              simp only [Array.any_eq_true', Bool.and_eq_true] at hu'
              obtain ⟨e, he, hb1, hb2⟩ := hu'
              have := Nat.eq_of_beq_eq_true hb2
              rw [← this]
              exact h3 e he hb1
            rcases h4.2 with h5 | h5
            · have h6 := List.all_eq_true.1 h5 i0 (List.mem_range.2 (by have := lt_of_get hi0; omega))
              rw [List.getD_eq_getElem?_getD, hi0, Option.getD_some, Bool.not_true, Bool.false_or] at h6
              have : listed.getD i0 false = true := by
                simp only [reachB, Bool.or_eq_true] at h6
                rcases h6 with h6 | h6
                · exact edge i0 h6
                · obtain ⟨v, _, h7⟩ := List.any_eq_true.1 h6
                  rw [Bool.and_eq_true] at h7
                  refine reach_listed hcd 3 v i0 (edge v h7.1) ?_
                  simp only [reachB]
                  exact h7.2
              rw [getD_arr hi1] at this
              cases this
            · obtain ⟨p, _, h6⟩ := List.any_eq_true.1 h5
              rw [Bool.and_eq_true, Bool.not_eq_true'] at h6
              have h7 := edge p h6.2
              have hp : hd[p]? = some false := by
                have h8 := h6.1
                rw [List.getD_eq_getElem?_getD] at h8
                cases h9 : hd[p]? with
                | none => rw [h9] at h8; cases h8
                | some b => rw [h9, Option.getD_some] at h8; rw [h8]
              rw [getD_arr (htl p hp)] at h7
              cases h7
        obtain ⟨d, ws, h, hd', hws, hhs, h4⟩ := dagSB_get hB ho
        rw [hih] at hhs
        cases hhs
        obtain ⟨ci, F, hci, hF, hstab, hloc, hstep⟩ := hst.get ho hih
        rw [Nat.zero_add] at hstab hstep
        simp only [cond_true, dagOneS, Bool.and_eq_true, List.all_eq_true, Array.any_eq_true', Nat.zero_add] at h4
        obtain ⟨⟨⟨hdst, _⟩, hwait⟩, hgB⟩ := h4
        have hlisted : ∀ j, listed.getD j false = true → hd[j]? = some true := fun j hj => by
          obtain ⟨b, hb⟩ := get_of_lt (l := hd) (i := j) (by
            rcases Nat.lt_or_ge j listed.size with h9 | h9
            · omega
            · simp [Array.getD_eq_getD_getElem?, Array.getElem?_eq_none h9] at hj)
          cases b with
          | true => exact hb
          | false => rw [getD_arr (htl j hb)] at hj; cases hj
        have hcl : ∀ j, listed.getD j false = true → ∀ c, (cl.getD j []).contains c = true → listed.getD c false = true := by
          intro j
          induction j using Nat.strongRecOn with
          | _ j ihj =>
            intro hlj c hc
            have hjh := hlisted j hlj
            obtain ⟨oc, hoc⟩ := get_of_lt (l := l) (i := j) (by have := lt_of_get hjh; omega)
            obtain ⟨dc, wsc, hb, _, hwsc, hhb, h5⟩ := dagSB_get hB hoc
            rw [hjh] at hhb
            cases hhb
            simp only [cond_true, dagOneS, Bool.and_eq_true, List.all_eq_true, Array.any_eq_true', Array.all_eq_true_iff_forall_mem, Bool.or_eq_true, Bool.not_eq_true', Nat.zero_add] at h5
            have hdir : ∀ e' ∈ wsc, listed.getD e' false = true ∧ e' < j := by
              intro e' he'
              obtain ⟨e, he, hb1, hb2⟩ := h5.1.2 e' he'
              have hei : e.on = e' := Nat.eq_of_beq_eq_true hb2
              have h6 := hcd j oc hoc hlj e he hb1
              have h7 := (h5.1.1.2 e he).resolve_left (by simp [hb1])
              rw [hei] at h6 h7
              exact ⟨h6, by simpa [Nat.blt_eq] using h7.1⟩
            rcases closB_get hC hwsc hc with h6 | ⟨e', he', h6⟩
            · exact (hdir c h6).1
            · exact ihj e' (hdir e' he').2 (hdir e' he').1 c h6
        have hclo : ∀ j, ci.contains j = true → listed.getD j false = true := by
          intro j hj
          have hj' : (cl.getD i []).contains j = true := by rw [List.getD_eq_getElem?_getD, hci, Option.getD_some]; exact hj
          have hdir : ∀ e' ∈ ws, listed.getD e' false = true := by
            intro e' he'
            obtain ⟨e, he, hb1, hb2⟩ := hwait e' he'
            have : e.on = e' := Nat.eq_of_beq_eq_true hb2
            exact this ▸ h3 e he hb1
          rcases closB_get hC hws hj' with h6 | ⟨e', he', h6⟩
          · exact hdir j h6
          · exact hcl e' (hdir e' he') j h6
        have hclo0 : ∀ j, (cl.getD i []).contains j = true → Lf listed j = true := fun j hj => hclo j (by rw [List.getD_eq_getElem?_getD, hci, Option.getD_some] at hj; exact hj)
        have hSi : Lf listed i = false := getD_both h1
        have hSn : ∀ j, (cl.getD j []).contains i = true → Lf listed j = false := by
          intro j hj
          cases hlj : Lf listed j with
          | false => rfl
          | true =>
            exfalso
            have := hcl j hlj i hj
            rw [getD_both h1] at this; cases this
        have hH : ∀ j, ci.contains j = true → Lf listed j = true ∧ HoldsS ds Fs (Lf listed) j (env a) w' := fun j hj => ⟨hclo j hj, hh j (hlisted j (hclo j hj)) (hclo j hj)⟩
        have hil2 : i < listed.size := by omega
        have hLs : Lf (listed.setIfInBounds i true) = insS (Lf listed) i := by
          funext j
          by_cases hij : j = i
          · subst hij
            rw [insS_self]
            show (listed.setIfInBounds j true).getD j false = true
            simp [Array.getD_eq_getD_getElem?, hil2]
          · rw [insS_ne hij]
            exact getD_set_ne _ (Ne.symm hij)
        have hstep2 : ∀ w2, Chg (Ms i) w' w2 → Chg (fun y => ∃ j, (listed.setIfInBounds i true).getD j false = true ∧ Ms j y) w1 w2 := by
          intro w2 hx2
          have hg : (listed.setIfInBounds i true).getD i false = true := by simp [Array.getD_eq_getD_getElem?, hil2]
          refine Chg.step (hx.mono fun y _ h => ?_) hx2 (fun y _ h => ⟨i, hg, h⟩)
          obtain ⟨j, h5, h6⟩ := h
          by_cases hij : j = i
          · exact ⟨i, hg, hij ▸ h6⟩
          · exact ⟨j, by rw [getD_set_ne _ (Ne.symm hij)]; exact h5, h6⟩
        have cont : ∀ v w2, Chg (Ms i) w' w2 → F (insS (Lf listed) i) (env a) (Go.Eng.valOf o v) w2 ∧ Rs i w' w2 → wpAny P .any l.toArray (lift dz N Q) (m + ts.length) (listed.setIfInBounds i true) (a.put o.dst v) w2 := by
          rintro v w2 hx2 ⟨hv, hrs⟩
          have henv : (∀ t, t ≠ d → env (a.put o.dst v) t = env a t) ∧ env (a.put o.dst v) d = Go.Eng.valOf o v := by
            cases hod : o.dst with
            | none =>
              rw [hod] at hdst
              have hNd : N ≤ d := Nat.le_of_ble_eq_true hdst
              refine ⟨fun t _ => rfl, ?_⟩
              simp only [Go.Eng.valOf, hod]
              show a.tmps.getD d undef = undef
              have : a.tmps.size ≤ d := by rw [ha.size]; exact hNd
              simp [Array.getElem?_eq_none this]
            | some d' =>
              rw [hod] at hdst
              simp only [Bool.and_eq_true] at hdst
              have hd1 : d' = d := Nat.eq_of_beq_eq_true hdst.1
              have hd2 : d < N := by simpa [Nat.blt_eq] using hdst.2
              subst hd1
              rw [env_put ha hd2 v]
              refine ⟨fun t ht => ?_, ?_⟩
              · have : Nat.beq t d' = false := by cases hb : Nat.beq t d'; rfl; exact absurd (Nat.eq_of_beq_eq_true hb) ht
                simp [upd, this]
              · simp [upd, Go.Eng.valOf, hod]
          have hlf : listed.toList[i]? = some false := by
            simp only [Array.getD_eq_getD_getElem?, Array.getElem?_eq_getElem hil2, Option.getD_some] at h1
            rw [Array.getElem?_toList, Array.getElem?_eq_getElem hil2, h1]
          refine ih _ _ _ ?_ (by simpa using hsz) (fun t ht => ?_) (fun j oj hoj hlj e he hb => ?_) (ha.put _ _) (hstep2 w2 hx2) ?_ ?_ ?_
          · rw [Array.toList_setIfInBounds]
            have := leftH_set hih hlf
            omega
          · rw [Array.toList_setIfInBounds, List.getElem?_set]
            have hne : i ≠ t := fun e => by rw [← e, hih] at ht; cases ht
            rw [if_neg hne]
            exact htl t ht
          · refine getD_set_true ?_
            by_cases hij : j = i
            · subst hij
              rw [ho] at hoj; cases hoj
              exact h3 e he hb
            · rw [getD_set_ne _ (Ne.symm hij)] at hlj
              exact hcd j oj hoj hlj e he hb
          · intro t ht
            rw [henv.1 t (fun h => by
              subst h
              have := List.mem_of_getElem? hd'
              simp [this] at ht), hu t ht]
          · intro j d2 hd2 hj2
            by_cases hij : j = i
            · subst hij
              have hg2 : (listed.setIfInBounds j true).getD j false = true := by simp [Array.getD_eq_getD_getElem?, hil2]
              rw [hg2] at hj2; cases hj2
            · rw [getD_set_ne _ (Ne.symm hij)] at hj2
              rw [henv.1 d2 (fun h => by subst h; exact hij (nodupB_get hn hd2 hd')), hv0 j d2 hd2 hj2]
          · intro j hjh hj d2 F2 hd2 hF2
            rw [hLs]
            by_cases hij : j = i
            · subst hij
              rw [hd'] at hd2; cases hd2
              rw [hF] at hF2; cases hF2
              rw [henv.2]
              refine hloc _ (env a) _ (fun j' d2 hj' hd2 => henv.1 d2 fun he => ?_) _ _ hv
              have := nodupB_get hn (he ▸ hd2) hd'
              subst this
              have := hclo j' hj'
              rw [getD_both h1] at this
              cases this
            · have hne : d2 ≠ d := by
                intro h
                subst h
                exact hij (nodupB_get hn hd2 hd')
              rw [henv.1 d2 hne]
              rw [getD_set_ne _ (Ne.symm hij)] at hj
              have h6 := hh j hjh hj d2 F2 hd2 hF2
              obtain ⟨oj, hoj⟩ := get_of_lt (l := l) (i := j) (by have := lt_of_get hjh; omega)
              obtain ⟨cj, Fj, hcj, hFj, hsj, hlj, _⟩ := hst.get hoj hjh
              rw [hF2] at hFj; cases hFj
              rw [Nat.zero_add] at hsj
              have hgc : cl.getD j [] = cj := by rw [List.getD_eq_getElem?_getD, hcj, Option.getD_some]
              have hcji : cj.contains i = false := by
                cases hcji : cj.contains i with
                | false => rfl
                | true =>
                  exfalso
                  have := hSn j (by rw [hgc]; exact hcji)
                  have hj' : Lf listed j = true := hj
                  rw [hj'] at this; cases this
              refine hlj _ (env a) _ (fun j' d3 hj' hd3 => henv.1 d3 fun he => ?_) _ _ (hsj i (Ne.symm hij) hcji (Lf listed) (env a) _ _ _ hj hSi hclo0 hx2 hrs h6)
              have h8 := nodupB_get hn (he ▸ hd3) hd'
              subst h8
              rw [hcji] at hj'
              cases hj'
        have gd : ∀ j b, o.guard = some (j, b) → ∀ dj, ds[j]? = some dj → ((∃ oj, l[j]? = some oj ∧ oj.dst = some dj) ∧ dj < N) ∨ (N ≤ dj ∧ ∃ oj, l[j]? = some oj ∧ oj.dst = none) := fun j b hgd dj hdj => by
          obtain ⟨oj, hoj⟩ := get_of_lt (l := l) (i := j) (by have := lt_of_get hdj; omega)
          obtain ⟨dj', _, hj, hdj', _, h5, h6⟩ := dagSB_get hB hoj
          rw [hdj] at hdj'
          cases hdj'
          unfold guardB at hgB
          rw [hgd] at hgB
          simp only at hgB
          have h7 : hj = true := by rw [List.getD_eq_getElem?_getD, h5, Option.getD_some] at hgB; exact hgB
          rw [h7] at h6
          simp only [cond_true, Bool.and_eq_true, dagOneS] at h6
          have hdst2 := h6.1.1.1
          split at hdst2
          · rename_i d2 hq
            rw [Bool.and_eq_true] at hdst2
            exact .inl ⟨⟨oj, hoj, by rw [hq, Nat.eq_of_beq_eq_true hdst2.1]⟩, by simpa [Nat.blt_eq] using hdst2.2⟩
          · rename_i hq
            exact .inr ⟨Nat.le_of_ble_eq_true hdst2, oj, hoj, hq⟩
        rcases hstep (Lf listed) (env a) w' hSi hSn hx hu hv0 hH with ⟨hg, hdo⟩ | ⟨⟨j, b, dj, hgd, hdj, hvj⟩, hund, hrs⟩
        · have hw : Region.wanted o (yielded l.toArray a.tmps) = true := by
            cases hgd : o.guard with
            | none => simp [Region.wanted, hgd]
            | some p =>
              obtain ⟨j, b⟩ := p
              obtain ⟨dj, hdj, hvj⟩ := hg j b hgd
              rcases gd j b hgd dj hdj with ⟨hdst2, hdN2⟩ | ⟨hge, _⟩
              · have h6 : a.tmps[dj]? = some (Value.bool b) := by
                  have h2 : a.tmps.getD dj undef = .bool b := hvj
                  have hlt : dj < a.tmps.size := by rw [ha.size]; exact hdN2
                  rw [Array.getElem?_eq_getElem hlt]
                  simpa [hlt] using h2
                obtain ⟨oj, hoj, hdst2⟩ := hdst2
                simp [Region.wanted, hgd, yielded, hoj, hdst2, h6]
              · exfalso
                have h2 : a.tmps.getD dj undef = .bool b := hvj
                have : a.tmps.size ≤ dj := by rw [ha.size]; exact hge
                simp [Array.getElem?_eq_none this, undef] at h2
          unfold wpOp
          simp only [h2, hw, if_true]
          exact Or.inl (hdo _ a ha rfl _ _ cont (fun w2 hx2 hX2 => ⟨ha, hX (env a) w1 w2 hE1 ((hstep2 w2 hx2).mono fun y _ h => h.imp fun j h => h.2) hX2⟩))
        · have hw : Region.wanted o (yielded l.toArray a.tmps) = false := by
            rcases gd j b hgd dj hdj with ⟨hdst2, hdN2⟩ | ⟨_, oj, hoj, hq⟩
            · have hlt : dj < a.tmps.size := by rw [ha.size]; exact hdN2
              have h6 : a.tmps[dj]? = some (env a dj) := by
                rw [Array.getElem?_eq_getElem hlt]
                simp [env, hlt]
              obtain ⟨oj, hoj, hdst2⟩ := hdst2
              rcases hvj with hvj | hvj
              · rw [hvj] at h6
                cases b <;> simp [Region.wanted, hgd, yielded, hoj, hdst2, h6]
              · rw [hvj] at h6
                simp [Region.wanted, hgd, yielded, hoj, hdst2, h6, undef]
            · simp [Region.wanted, hgd, yielded, hoj, hq]
          unfold wpOp
          simp only [h2, hw, Bool.false_eq_true, if_false]
          exact cont undef w' (Chg.refl _ _) (by
            have : Go.Eng.valOf o undef = undef := by unfold Go.Eng.valOf; split <;> rfl
            rw [this]; exact ⟨hund, hrs⟩)
  have h1 := key (leftH hd (Array.replicate l.toArray.size false).toList) (Array.replicate l.toArray.size false) a w1 rfl (by simp) (fun t ht => by have h9 := lt_of_get ht; rw [Array.toList_replicate, List.getElem?_replicate, if_pos (by rw [List.size_toArray]; omega)]) (fun j oj _ hl => (by rw [getD_replicate_false] at hl; cases hl)) ha (Chg.refl _ _) (fun t _ => by rw [he]) (fun j d _ _ => by rw [he]) (fun j _ hj => by rw [getD_replicate_false] at hj; cases hj)
  have e3 : leftH hd (Array.replicate l.toArray.size false).toList + ts.length = l.toArray.size := by have h9 := Nat.eq_of_beq_eq_true hN; simpa using h9
  rw [e3] at h1
  exact h1
theorem DagStepS.toG {P : Program} {N : Nat} {ds : List Nat} {Fs : List FctS} {σ : Env} {w : World} {Ms : Nat → Nat → Prop} {cl : List (List Nat)} {i : Nat} {o : Oper} {ws : List Nat} {F : FctS} (h : DagStepS P N ds Fs σ w Ms cl i o ws F) : DagStepG P N ds Fs σ w Ms (fun _ _ _ => True) [] (fun _ => False) cl i o ws F := fun S σ' w' a b c d e f =>
 (h S σ' w' a b c d e f).imp (fun ⟨g, h⟩ => ⟨g, (DoesT.x h).weak fun _ _ _ r => ⟨r, trivial⟩⟩) fun ⟨u, f⟩ => ⟨u, f, trivial⟩
theorem DagStepsS.toG {P : Program} {N : Nat} {ds : List Nat} {Fs : List FctS} {σ : Env} {w : World} {Ms : Nat → Nat → Prop} {cl : List (List Nat)} : ∀ {i : Nat} {l : List Oper} {wss : List (List Nat)} {hs : List Bool} {Gs : List FctS}, DagStepsS P N ds Fs σ w Ms cl i l wss hs Gs → DagStepsG P N ds Fs σ w Ms (fun _ _ _ => True) [] (fun _ => False) cl i l wss hs Gs
  | _, _, _, _, _, .nil => .nil
  | _, _, _, _, _, .cons s lc h t => .cons (fun p hp hw S σ v w w' hi hS _ hC _ hF => s p hp hw S σ v w w' hi hS hC hF) lc h.toG t.toG
  | _, _, _, _, _, .tail t => .tail t.toG
theorem Wp_dagS {P : Program} {N : Nat} {Q : Post} {σ : Env} {w : World} {id : Nat} {l : List Oper} (Ms : Nat → Nat → Prop) (hd : List Bool) (ts : List Nat) (ds : List Nat) (wss cl : List (List Nat)) (Fs : List FctS) {Gs : List FctS} (hG : Fs = Gs) (hC : closB wss cl = true) (hm : P.follows .mixedOrders = true) (hB : dagSB N hd 0 l ds wss hd = true) (hn : nodupB ds = true)
  (hT : (tailQB l hd ts && permB l.toArray ts hd.toArray) = true) (hN : Nat.beq (leftH hd (List.replicate l.length false) + ts.length) l.length = true)
  (steps : ∀ w1, Ext w w1 → DagStepsS P N ds Fs σ w1 Ms cl 0 l cl hd Gs)
  (k : ∀ σ' w1 w', Ext w w1 → Chg (fun y => ∃ j, hd.getD j false = true ∧ Ms j y) w1 w' → (∀ t, ds.contains t = false → σ' t = σ t) → (∀ j, hd[j]? = some true → HoldsS ds Fs (allS hd) j σ' w') → WpL P N l.toArray (Q .normal) Q (ts.filterMap fun k => l[k]?) σ' w') : Wp P N (.region id l.toArray true) Q σ w :=
 Wp_dagG Ms (fun _ _ _ => True) [] (fun _ => False) hd ts ds wss cl Fs hG hC hm hB hn hT hN (fun w1 e => (steps w1 e).toG) (fun _ _ _ _ _ h => h.elim) k
section
variable {Ms : Nat → Nat → Prop} {i : Nat} {ws ds : List Nat}
theorem StabS.eq {u : Value} : StabS Ms i ws (fun _ _ v _ => v = u) := fun _ _ _ _ _ _ _ _ _ _ _ h => h
theorem StabS.chg {F : Fct} {U : Nat → Prop} (hF : ∀ v w w', Chg U w w' → F v w → F v w') (hM : ∀ p y, p ≠ i → ws.contains p = false → Ms p y → U y) : StabS Ms i ws (fun _ _ => F) :=
 fun p h1 h2 _ _ v w w' _ _ x h => hF v w w' (x.mono fun y _ hy => hM p y h1 h2 hy) h
theorem StabS.till {F : Fct} {U : Nat → Prop} {c : Nat} (hF : ∀ v w w', Chg U w w' → F v w → F v w') (hM : ∀ p y, p ≠ i → ws.contains p = false → p ≠ c → Ms p y → U y) : StabS Ms i ws (fun S _ v w => S c = false → F v w) :=
 fun p h1 h2 S _ v w w' _ _ x h hc => by
  have hpc : p ≠ c := fun e => by subst e; rw [insS_self] at hc; cases hc
  rw [insS_ne (Ne.symm hpc)] at hc
  exact hF v w w' (x.mono fun y _ hy => hM p y h1 h2 hpc hy) (h hc)
theorem LocS.const {G : (Nat → Bool) → Fct} : LocS ds ws (fun S _ => G S) := fun _ _ _ _ _ _ h => h
end
theorem qZ {P : Program} {N : Nat} {ds : List Nat} {Fs : List FctS} {σ : Env} {w : World} {Ms : Nat → Nat → Prop} {cl : List (List Nat)} {i : Nat} {dst : Option Tmp} {op : Op} {ty : TypeId} {pos : String} {af : Array Edge} {ws : List Nat} {u : Value} {l : List Oper} {wss : List (List Nat)} {hs : List Bool} {Gs : List FctS}
  (h : ∀ (S : Nat → Bool) σ' w', S i = false → (∀ j, (cl.getD j []).contains i = true → S j = false) → Chg (fun y => ∃ j, S j = true ∧ Ms j y) w w' → (∀ t, ds.contains t = false → σ' t = σ t) → (∀ j d, ds[j]? = some d → S j = false → σ' d = σ d) → (∀ j, ws.contains j = true → S j = true ∧ HoldsS ds Fs S j σ' w') → DoesT (Ms i) P N ⟨dst, op, ty, pos, af, none⟩ (fun v _ => Go.Eng.valOf ⟨dst, op, ty, pos, af, none⟩ v = u) σ' w')
  (t : DagStepsS P N ds Fs σ w Ms cl (i + 1) l wss hs Gs) : DagStepsS P N ds Fs σ w Ms cl i (⟨dst, op, ty, pos, af, none⟩ :: l) (ws :: wss) (true :: hs) ((eF u) :: Gs) :=
 .cons StabS.eq LocS.const (fun S s' w' a b c d e f => .inl ⟨Guarded_none rfl, h S s' w' a b c d e f⟩) t
section
variable {M : Nat → Prop} {P : Program} {N : Nat} {o : Oper} {R : Fct} {σ : Env} {w : World} {dst : Option Tmp} {ty : TypeId} {pos : String} {af : Array Edge} {g : Option (Nat × Bool)} {t : TypeId}
theorem DoesT_pure {v : Value} (hr : (execOp (ev σ) o).run P w = .ok (.value v) w) (h : R v w) : DoesT M P N o R σ w := DoesT_val hr (Chg.refl _ _) h
theorem DoesT_weakT {R R' : Fct} (h : DoesT M P N o R σ w) (hr : ∀ v w, R v w → R' (Go.Eng.valOf o v) w) : DoesT M P N o (fun v w => R' (Go.Eng.valOf o v) w) σ w := fun dz a ha he Q K hK => h dz a ha he Q K fun v w2 hx2 h2 => hK v w2 hx2 (hr v w2 h2)
theorem DoesT_callE {f : FuncId} {args : Array Value} (hr : (execOp (ev σ) o).run P w = .ok (.enter f args) w) (hc : Ret P f args w fun v w' => R v w' ∧ Ext w w') : DoesT M P N o R σ w :=
 DoesT_enter hr (hc.mono fun _ _ h => ⟨h.1, Ext.chg h.2⟩)
theorem DoesT_alloc {d hs : Nat} {z : Value} {c : Array Value} (hz : Zer P t z) (hc : z.cells = c) (hh : hs ≤ w.heap.size) : DoesT M P N ⟨some d, .alloc t, ty, pos, af, g⟩ (alF t c hs) σ w := by
 subst hc
 have hn := New.mk' w z.cells t
 exact DoesT_val (v := .pointer (some ⟨w.heap.size, 0, none⟩)) (by simp [execOp, Instr.alloc, hz.run, newVar, newRow]) (Ext.chg hn.ext) ⟨_, rfl, hn.blk, hh⟩
end
end Go.Eng
namespace Go.Proofs
open Go Go.Eng
set_option maxRecDepth 100000
mutual
def usesB (ks : List Int) : Re → Bool
  | .mk k _ args _ _ _ => ks.contains k || usesBs ks args
def usesBs (ks : List Int) : List Re → Bool
  | [] => false
  | t :: ts => usesB ks t || usesBs ks ts
end
def useF (ks : List Int) : Unit → Re → Bool × Unit := fun _ t => (!ks.contains t.kind, ())
mutual
theorem walk_use (ks : List Int) : ∀ (t : Re), (walkF (useF ks) t ()).1 = !usesB ks t
  | .mk k set args mn mx ng => by
    have h := walks_use ks args
    rw [walkF_eq]
    split
    · rename_i hk
      have hk : ks.contains k = false := by simpa only [useF, Re.kind, Bool.not_eq_true'] using hk
      show (walkFs (useF ks) args ()).1 = _
      rw [h]
      simp only [usesB, hk, Bool.false_or]
    · rename_i hk
      have hk : ks.contains k = true := by
        cases hc : ks.contains k with
        | true => rfl
        | false => exact absurd (show (useF ks () (.mk k set args mn mx ng)).1 = true by simp only [useF, Re.kind, hc, Bool.not_false]) hk
      simp only [usesB, hk, Bool.true_or, Bool.not_true]
theorem walks_use (ks : List Int) : ∀ (ts : List Re), (walkFs (useF ks) ts ()).1 = !usesBs ks ts
  | [] => rfl
  | t :: ts => by
    have h1 := walk_use ks t
    have h := walks_use ks ts
    rw [walkFs_cons]
    split
    · rename_i hk
      rw [hk] at h1
      have hu : usesB ks t = false := by simpa using h1.symm
      show (walkFs (useF ks) ts ()).1 = _
      rw [h]
      simp only [usesBs, hu, Bool.false_or]
    · rename_i hk
      have hu : usesB ks t = true := by
        cases hc : usesB ks t with
        | true => rfl
        | false => rw [hc] at h1; exact absurd h1 hk
      simp only [usesBs, hu, Bool.true_or, Bool.not_true]
end
theorem uses1_c (w0 : World) (t : Re) (vs : List Value) (ks : List Int) (v : Value) (b : Nat) (ht : ReAt w0 t vs) (hB : Blk w0 b #[v] 26) (hks : IntsAt w0 v ks) :
  Ret Try.prog 84 #[.agg vs.toArray, .pointer (some ⟨b, 0, none⟩)] w0 fun r w => r = .bool (!ks.contains t.kind) ∧ Ext w0 w := by
 obtain ⟨sa, sc, aa, ac, rfl, _, _, _⟩ := ht.form
 refine Ret_of Try.func84 rfl Try.ntmps84 (Nat.le_of_ble_eq_true rfl) ?_
 have E : Chg none1 w0 w0 := Chg.refl _ _
 refine Wp_seq_region ?_
 refine s_box (v := (.agg (R6 t sa sc aa ac))) (c := (R6 t sa sc aa ac)) (by decide) rfl rfl ?_
 intro b1 w1 N1
 have F1 := N1.ge E
 have O1_b := N1.lt hB
 replace hB := N1.keep hB
 replace E := E.ext N1.ext
 have B1 := N1.blk
 refine qA _ rfl ?_
 refine WpL_nil (Wp_seq_region ?_)
 refine qV (r_load rfl flat26 (hB.cell rfl)) ?_
 refine qF b1 0 0 rfl Try.underlying25 rfl siz3 rfl ?_
 refine qV (r_load rfl flat3 (B1.cell rfl)) ?_
 refine WpL_enter rfl rfl (by decide) (r_callF Try.func85 kQ kQ rfl) (hasi_c _ v t.kind ks (hks.ext E)) ?_
 rintro _ w9 ⟨rfl, X9⟩
 replace hB := X9.keep hB
 replace B1 := X9.keep B1
 replace E := E.ext X9
 refine qV (r_not rfl) ?_
 refine qA _ rfl ?_
 refine WpL_nil (Wp_ret ?_)
 refine fin_tmp Try.results84 (v := (.bool (!(ks.contains t.kind)))) rfl ?_
 exact ⟨rfl, E⟩
set_option maxHeartbeats 1000000 in
theorem uses_c (w0 : World) (t : Re) (vs : List Value) (ks : List Int) (v : Value) (ht : ReAt w0 t vs) (hks : IntsAt w0 v ks) :
  Ret Try.prog 38 #[.agg vs.toArray, v] w0 fun r w => r = .bool (usesB ks t) ∧ Ext w0 w := by
 have ht0 := ht
 obtain ⟨sa, sc, aa, ac, rfl, _, _, _⟩ := ht.form
 obtain ⟨ka, kc, rfl⟩ := SlAt.form hks
 simp only [List.length_map] at hks ⊢
 refine Ret_of Try.func38 rfl Try.ntmps38 (Nat.le_of_ble_eq_true rfl) ?_
 have E : Chg none1 w0 w0 := Chg.refl _ _
 refine Wp_seq_region ?_
 refine s_box (v := (.agg (R6 t sa sc aa ac))) (c := (R6 t sa sc aa ac)) (by decide) rfl rfl ?_
 intro br wr Nr
 have Fr := Nr.ge E
 replace E := E.ext Nr.ext
 have Br := Nr.blk
 refine s_box (v := (.slice ka ks.length kc)) (c := #[(.slice ka ks.length kc)]) (by decide) rfl rfl ?_
 intro bp wp Np
 have Fp := Np.ge E
 have Op_br := Np.lt Br
 replace Br := Np.keep Br
 replace E := E.ext Np.ext
 have Bp := Np.blk
 refine qA _ rfl ?_
 refine WpL_nil (Wp_seq_region ?_)
 refine qV (r_loadAgg (vs := [(I6 t.kind), (.slice sa t.set.length sc), (.slice aa t.args.length ac), (I6 t.mn), (I6 t.mx), (.bool t.neg)]) rfl agg25 siz25 rfl (Br.cells rfl)) ?_
 refine qV (r_makeFunc rfl rfl) ?_
 have hf : ∀ (s : Unit) (w : World) (t : Re) (vs : List Value), bp + 1 ≤ w.heap.size → Ext wp w → Blk w bp #[.slice ka ks.length kc] 26 → ReAt wp t vs → CallV Try.prog (.func (.func 84) #[] #[.pointer (some ⟨bp, 0, none⟩)]) #[.agg vs.toArray] w fun r w' => r = .bool (useF ks s t).1 ∧ Chg none1 w w' ∧ Blk w' bp #[.slice ka ks.length kc] 26 := fun s w t vs _ hE hI ht => CallV.mk (first := #[]) (cap := #[.pointer (some ⟨bp, 0, none⟩)]) Try.func84 kQ kQ rfl ((uses1_c w t vs ks (.slice ka ks.length kc) bp (ReAt.ext hE t ht) hI ((hks.ext E).ext hE)).mono fun r w' h => ⟨h.1, h.2, Ext.keep h.2 hI⟩)
 refine WpL_enter rfl rfl (by decide) (r_callF Try.func83 kQ kQ rfl) ((walk_c (useF ks) (fun _ w => Blk w bp #[.slice ka ks.length kc] 26) none1 (bp + 1) _ wp (fun b hb => hb.elim) (fun s w w' hI e => e.keep hI) hf t.size t (Nat.le_refl _) () _ _ (by have := Bp.lt; omega) (Ext.refl _) Bp (ReAt.ext E t ht0)).mono (R' := fun r w => r = .bool (walkF (useF ks) t ()).1 ∧ Ext wp w) (fun r w h => ⟨h.1, h.2.1⟩)) ?_
 rintro _ w9 ⟨rfl, X9⟩
 replace Br := X9.keep Br
 replace Bp := X9.keep Bp
 replace E := E.ext X9
 refine qV (r_not rfl) ?_
 refine qA _ rfl ?_
 refine WpL_nil (Wp_ret ?_)
 refine fin_tmp Try.results38 (v := (.bool (!((walkF (useF ks) t ()).1)))) rfl ?_
 exact ⟨bool_eq (by rw [walk_use]; simp), E⟩
structure NodeI (t : Re) : Prop where
 k : 0 ≤ t.kind ∧ t.kind ≤ 10
 two : t.kind = 3 ∨ t.kind = 4 ∨ t.kind = 7 → 2 ≤ t.args.length
 one : t.kind = 5 ∨ t.kind = 6 ∨ t.kind = 8 ∨ t.kind = 9 ∨ t.kind = 10 → t.args.length = 1
 rep : t.kind = 6 → 0 ≤ t.mn ∧ t.mn ≤ t.mx ∧ t.mx ≤ 8
 grp : t.kind = 9 → 0 ≤ t.mn ∧ t.mn ≤ 9
 sett : t.kind = 2 → t.set ≠ []
theorem node_inv {t : Re} (h : nodeE t = 0) : NodeI t := by
 unfold nodeE at h
 split at h
 ·cases h
 rename_i h1
 split at h
 ·cases h
 rename_i h2
 have h3 : formB t = true := by simpa using h2
 unfold formB at h3
 simp only [Bool.and_eq_true] at h3
 have h4 := h3.1.1.1.1
 unfold okB at h4
 refine ⟨by omega, fun hk => ?_, fun hk => ?_, fun hk => ?_, fun hk => ?_, fun hk => ?_⟩
 ·rw [if_pos hk] at h4
  have := of_decide_eq_true h4; omega
 ·rw [if_neg (by omega), if_pos hk] at h4
  have := of_decide_eq_true h4; omega
 ·rw [if_neg (by omega), if_pos hk] at h
  split at h
  ·cases h
  ·omega
 ·rw [if_neg (by omega), if_neg (by omega), if_pos hk] at h
  split at h
  ·cases h
  ·omega
 ·rw [if_pos hk] at h
  intro e
  rw [e] at h
  simp [checkE, checkL] at h
end Go.Proofs
namespace Go.Proofs
open Go Go.Eng
set_option maxRecDepth 100000
abbrev Sp := Int × Int
end Go.Proofs
namespace Go.Proofs
open Go Go.Eng
set_option maxRecDepth 100000
abbrev TSp : Nat := 74
theorem own_low {w : World} {base base' e size n : Nat} {v : Value} {xs : List Value} (h : w.ownsRow base e size v n xs) (hb : base' ≤ base) : w.ownsRow base' e size v n xs := by
 obtain ⟨h1, h2⟩ := h
 refine ⟨h1, h2.imp id ?_⟩
 rintro ⟨g, cap, cur, a, b, r⟩
 exact ⟨g, cap, cur, a, Nat.le_trans hb b, r⟩
theorem own_le {w : World} {base e size n c : Nat} {a : Option Addr} {xs : List Value} (h : w.ownsRow base e size (.slice a n c) n xs) : n ≤ c := by
 rcases h.2 with ⟨h1, h2⟩ | ⟨g, cap, cur, hv, _, _, hnc, _⟩
 ·omega
 ·simp only [Value.slice.injEq] at hv
  obtain ⟨_, _, rfl⟩ := hv
  exact hnc
/-- A list of spans that lies in memory of one's own. -/
def OwnS (w : World) (base : Nat) (r : Value) (l : List Sp) : Prop := (∃ a c, r = .slice a l.length c) ∧ w.ownsRow base TSp 2 r l.length (l.map spanV).flatten
theorem OwnS.at {w : World} {base : Nat} {r : Value} {l : List Sp} (h : OwnS w base r l) : SpansAt w r l :=
 own_slat h.2 (by intro x hx; simp only [List.mem_map] at hx; obtain ⟨p, _, rfl⟩ := hx; rfl) (by simp) (by decide)
theorem OwnS.ext {w w' : World} {base : Nat} {r : Value} {l : List Sp} (h : OwnS w base r l) (e : Ext w w') : OwnS w' base r l := ⟨h.1, own_ext h.2 e⟩
set_option maxHeartbeats 1000000 in
theorem clones_c (w0 : World) (v : Value) (l : List Sp) (h : SpansAt w0 v l) (hl : l.length ≤ 8796093022208) :
  Ret Try.prog 29 #[v] w0 fun r w => OwnS w w0.heap.size r l ∧ Ext w0 w := by
 obtain ⟨a, c, rfl⟩ := SlAt.form h
 simp only [List.length_map] at h ⊢
 obtain ⟨base, hbase⟩ : ∃ base, base = w0.heap.size := ⟨_, rfl⟩
 rw [← hbase]
 refine Ret_of Try.func29 rfl Try.ntmps29 (Nat.le_of_ble_eq_true rfl) ?_
 have E : Chg none1 w0 w0 := Chg.refl _ _
 refine Wp_seq_region ?_
 refine qA _ rfl ?_
 refine WpL_nil (Wp_seq (Wp_seq_region ?_))
 refine qM _ rfl ?_
 refine WpL_val (v := (.bool a.isNone)) rfl rfl (by decide) (r_eqlNil Try.underlying22 rfl rfl) ?_
 refine WpL_nil ?_
 refine Wp_cond rfl (fun hn => ?_) (fun hn => ?_)
 ·have khn := hn
  have hl0 : l.length = 0 := by rcases Nat.eq_zero_or_pos l.length with h0 | h0; exact h0; obtain ⟨b, o, rfl, _⟩ := spans_cells h h0; simp at hn
  have hl1 : l = [] := List.eq_nil_of_length_eq_zero hl0
  refine Wp_seq_region ?_
  refine qA _ rfl ?_
  refine WpL_nil (Wp_ret (thn_ret ?_))
  refine fin_tmp Try.results29 (v := (.slice none 0 0)) rfl ?_
  subst hl1; exact ⟨⟨⟨none, 0, rfl⟩, World.ownsRow_nil _ _ _ _⟩, E⟩
 ·have khn := hn
  rcases Bool.eq_false_or_eq_true (decide (l.length = 0)) with hz | hz
  ·have khz := hz
   replace khz := of_decide_eq_true khz
   refine Wp_skip (thn_normal (Wp_seq_region ?_))
   refine s_build0 (by decide) Try.underlying22 siz74 ?_
   intro bq wq Nq
   have Fq := Nq.ge E
   replace E := E.ext Nq.ext
   have Bq := Nq.blk
   refine qM _ rfl ?_
   refine qV (r_append0 Try.underlying22 siz74 (a' := a) (c' := c) rfl (Nat.le_refl _) (by show Value.slice a l.length c = _; rw [khz])) ?_
   refine qA _ rfl ?_
   refine WpL_nil (Wp_ret ?_)
   refine fin_tmp Try.results29 (v := (.slice (some ⟨bq, 0, none⟩) 0 0)) rfl ?_
   have hl1 : l = [] := List.eq_nil_of_length_eq_zero khz
   subst hl1; exact ⟨⟨⟨_, 0, rfl⟩, own_empty (base := base) (size := 2) Bq (by omega)⟩, E⟩
  ·have khz := hz
   replace khz := of_decide_eq_false khz
   obtain ⟨b, o, rfl, hcl⟩ := spans_cells h (by omega)
   refine Wp_skip (thn_normal (Wp_seq_region ?_))
   refine s_build0 (by decide) Try.underlying22 siz74 ?_
   intro bq wq Nq
   have Fq := Nq.ge E
   replace E := E.ext Nq.ext
   have Bq := Nq.blk
   refine qM _ rfl ?_
   have hown := own_empty (base := base) (size := 2) Bq (by omega)
   have hbs : base ≤ wq.heap.size := by have := Nq.ext.size; omega
   refine s_append (base := base) (n := 0) (m := l.length) (xs := []) (news := (l.map spanV).flatten) (size := 2) (bytes := 16) (v := (.slice (some ⟨bq, 0, none⟩) 0 0)) (by decide) Try.underlying22 siz74 byt74 zer74 rfl (by decide) rfl hown rfl (spans_six l) ((spans_flat hcl).ext Nq.ext) (spans_one l) (by unfold maxLen; omega) (by omega) (hbs) ?_
   intro v9 w29 Ov9 Cv9 Dv9
   replace E := E.step Cv9 (fun x hx h => absurd (hown.lt x h).1 (by omega))
   obtain ⟨la, lc, rfl⟩ := own_form Ov9
   refine qA _ rfl ?_
   refine WpL_nil (Wp_ret ?_)
   refine fin_tmp Try.results29 (v := (.slice la (0 + l.length) lc)) rfl ?_
   simp only [Nat.zero_add, List.nil_append] at Ov9 ⊢
   exact ⟨⟨⟨la, lc, rfl⟩, Ov9⟩, E⟩
/-- One append of whatever slice, an empty one too. -/
theorem s_appendAny {P : Program} {N : Nat} {Q : Post} {σ : Env} {w : World} {K : Env → World → Prop} {ops : Array Oper} {rest : List Oper} {d : Nat} {ty : TypeId} {pos : String} {af : Array Edge} {t : TypeId} {s x : Operand}
  {base e size bytes n m c : Nat} {ax : Option Addr} {z v : Value} {xs news : List Value} (hN : d < N) (hu : P.underlying t = some (.slice e)) (hsz : Siz P e size) (hby : Byt P e bytes) (hz : Zer P e z) (hzs : z.cells.size = size) (h0 : 0 < size)
  (hs : ev σ s = v) (hown : w.ownsRow base e size v n xs) (hx : ev σ x = .slice ax m c) (hl : news.length = m * size) (hany : (m = 0 ∧ news = []) ∨ ∃ bx ox, ax = some ⟨bx, ox, none⟩ ∧ CellsAt w bx ox news) (h1 : ∀ u ∈ news, u.oneCell' = true)
  (h63 : n + m ≤ maxLen) (hbytes : (n + m) * bytes ≤ 140737488355328) (hbase : base ≤ w.heap.size)
  (k : ∀ v' w', w'.ownsRow base e size v' (n + m) (xs ++ news) → Chg (fun x => v.ownBlock = some x) w w' → (∀ k, v'.ownBlock = some k → v.ownBlock = some k ∨ w.heap.size ≤ k) → WpL P N ops K Q rest (upd σ d v') w') :
  WpL P N ops K Q (⟨some d, .call ⟨.builtin .append, #[s, x], #[t, t]⟩, ty, pos, af, none⟩ :: rest) σ w := by
 rcases hany with ⟨rfl, rfl⟩ | ⟨bx, ox, rfl, hc⟩
 ·obtain ⟨a, c', rfl⟩ := own_form hown
  refine WpL_val rfl rfl hN (r_append0 hu hsz hs (own_le hown) hx) (k _ w (by simpa using hown) (Chg.refl _ _) fun _ h => .inl h)
 ·exact s_append hN hu hsz hby hz hzs h0 hs hown hx hl hc h1 h63 hbytes hbase k
theorem ints_any {w : World} {a : Option Addr} {n c : Nat} {l : List Int} (h : IntsAt w (.slice a n c) l) : (n = 0 ∧ l.map (Value.int .i64) = []) ∨ ∃ b o, a = some ⟨b, o, none⟩ ∧ CellsAt w b o (l.map (Value.int .i64)) := by
 have hn : n = l.length := by have := (SlAt.cap h).2; simpa using this.symm
 rcases Nat.eq_zero_or_pos n with h0 | h0
 ·left; exact ⟨h0, by rw [List.eq_nil_of_length_eq_zero (show l.length = 0 by omega)]; rfl⟩
 ·right
  obtain ⟨b, o, ha, hc⟩ := ints_cells h h0
  exact ⟨b, o, ha, fun i u hu => by rw [List.getElem?_map, Option.map_eq_some_iff] at hu; obtain ⟨x, hx, rfl⟩ := hu; exact hc i x hx⟩
theorem s_appendZ {P : Program} {N : Nat} {Q : Post} {σ : Env} {w : World} {K : Env → World → Prop} {ops : Array Oper} {rest : List Oper} {d : Nat} {ty : TypeId} {pos : String} {af : Array Edge} {t ti : TypeId} {s x : Operand} {ik : IntKind}
    {base e size bytes n : Nat} {z : Value} (hN : d < N) (hu : P.underlying t = some (.slice e)) (hti : P.underlying ti = some (.int ik)) (hsz : Siz P e size) (hby : Byt P e bytes) (hz : Zer P e z) (hzs : z.cells.size = size) (h0 : 0 < size)
    (hs : ev σ s = .slice none 0 0) (hx : ev σ x = .int .i64 ((n : Nat) : Int)) (hn : 0 < n) (hbytes : n * bytes ≤ 140737488355328 ∧ n ≤ 8796093022208) (hbase : base ≤ w.heap.size)
    (k : ∀ cc w', Ext w w' → w'.ownsRow base e size (.slice (some ⟨w.heap.size, 0, none⟩) 0 cc) 0 [] → n ≤ cc → WpL P N ops K Q rest (upd σ d (.slice (some ⟨w.heap.size, 0, none⟩) n cc)) w') :
    WpL P N ops K Q (⟨some d, .call ⟨.builtin .append, #[s, x], #[t, ti]⟩, ty, pos, af, none⟩ :: rest) σ w := by
  unfold Siz at hsz; unfold Byt at hby; unfold Zer at hz
  cases hi : P.info? e with
  | none => rw [hi] at hsz; simp at hsz
  | some i =>
  rw [hi] at hsz hby hz
  simp at hsz hby hz
  subst hsz; subst hby
  have hge := grownCap_ge w n 0 e
  have hcm := grownCap_le_maxLen w n 0 e (by simp only [maxLen]; omega)
  refine WpL_val (v := .slice (some ⟨w.heap.size, 0, none⟩) n (grownCap w n 0 e)) (w' := w.drew.alloc (.cells (Builtin.zeroCells z.cells n ++ Builtin.zeroCells z.cells (grownCap w n 0 e - n)) e)) rfl rfl hN ?_ (k _ _ ?_ ?_ hge)
  · have hn0 : n ≠ 0 := by omega
    have h1 : IntKind.i64.wrap ((n : Nat) : Int) = n := wI64 (by omega)
    have h2 : ¬ ((n : Int) < 0) := by omega
    have h3 : ¬ ((281474976710656 : Int) < (n : Int) * (i.bytes : Int)) := by
      have : ((n * i.bytes : Nat) : Int) = (n : Int) * (i.bytes : Int) := by simp
      omega
    have h4 : ¬ (9223372036854775807 < (n : Int)) := by omega
    have h5 : ¬ (281474976710656 < Builtin.nextslicecap n 0 * i.bytes) := by rw [nextslicecap_zero hn]; omega
    have h6 : ¬ (n * i.size = 0) := fun h => by rcases Nat.mul_eq_zero.1 h with h | h <;> omega
    have h7 : i.size ≠ 0 := by omega
    simp [execOp, resolve, invoke, builtin, hs, hx, Builtin.append_, run_underlying hu, run_underlying hti, sizeOf, typeInfo, zeroValue, hi, hz, hn0, h1, h2, h3, h4, h5, h7, asInt, asIntOf, Question.forced, run_firstCells_none, newRow, grownCap]
    exact fun h => absurd h h6
  · exact ⟨rfl, rfl, rfl, Nat.le_succ _, by simp, fun b hb _ => by first | exact heap_alloc_old w.drew _ b hb | exact heap_alloc_old w.drew _ hb⟩
  · refine ⟨by simp, .inr ⟨w.heap.size, _, _, rfl, hbase, heap_alloc_new w.drew _, Nat.zero_le _, hcm, ?_, by simp⟩⟩
    simp only [Array.size_append, size_zeroCells, hzs, ← Nat.add_mul]
    congr 1
    omega
theorem r_capSlice {P : Program} {σ : Env} {w : World} {dst : Option Tmp} {ty : TypeId} {pos : String} {af : Array Edge} {g : Option (Nat × Bool)} {t e : TypeId} {x : Operand} {ad : Option Addr} {n cap : Nat} (hu : P.underlying t = some (.slice e)) (hx : ev σ x = .slice ad n cap) :
  (execOp (ev σ) ⟨dst, .call ⟨.builtin .cap, #[x], #[t]⟩, ty, pos, af, g⟩).run P w = .ok (.value (.int .i64 cap)) w := by
 simp only [execOp, resolve, List.map_toArray, List.map_cons, List.map_nil, hx]
 simp [invoke, builtin, Builtin.cap_, run_underlying hu, goInt]
end Go.Proofs
namespace Go.Eng
open Go
section
variable {κ ν : Type} [DecidableEq κ]
def getM : List (κ × ν) → κ → Option ν
  | [], _ => none
  | p :: r, k => if p.1 = k then some p.2 else getM r k
def putM : List (κ × ν) → κ → ν → List (κ × ν)
  | [], k, v => [(k, v)]
  | p :: r, k, v => if p.1 = k then (k, v) :: r else p :: putM r k v
def findM (eV : ν → Value) : List (κ × ν) → κ → Nat → Option (Nat × Value)
  | [], _, _ => none
  | p :: r, k, i => if p.1 = k then some (i, eV p.2) else findM eV r k (i + 1)
theorem findM_none {eV : ν → Value} : ∀ {es : List (κ × ν)} {k : κ} {i : Nat}, getM es k = none → findM eV es k i = none
  | [], _, _, _ => rfl
  | p :: r, k, i, h => by
    unfold getM at h
    unfold findM
    split at h
    · cases h
    · rename_i hne; rw [if_neg hne]; exact findM_none h
theorem findM_some {eV : ν → Value} : ∀ {es : List (κ × ν)} {k : κ} {i : Nat} {v : ν}, getM es k = some v → ∃ j, findM eV es k i = some (i + j, eV v) ∧ es[j]? = some (k, v) ∧ ∀ u, putM es k u = es.set j (k, u)
  | [], _, _, _, h => by cases h
  | p :: r, k, i, v, h => by
    unfold getM at h
    unfold findM
    split at h
    · rename_i he
      cases h
      rw [if_pos he]
      exact ⟨0, rfl, by obtain ⟨a, b⟩ := p; simp at he; subst he; rfl, fun u => by unfold putM; rw [if_pos he]; rfl⟩
    · rename_i hne
      rw [if_neg hne]
      obtain ⟨j, h1, h2, h3⟩ := findM_some (eV := eV) (i := i + 1) h
      exact ⟨j + 1, by rw [h1]; congr 2; omega, by simpa using h2, fun u => by unfold putM; rw [if_neg hne, h3 u]; rfl⟩
theorem putM_none : ∀ {es : List (κ × ν)} {k : κ} (v : ν), getM es k = none → putM es k v = es ++ [(k, v)]
  | [], _, _, _ => rfl
  | p :: r, k, v, h => by
    unfold getM at h
    unfold putM
    split at h
    · cases h
    · rename_i hne; rw [if_neg hne, putM_none v h]; rfl
theorem getM_put (es : List (κ × ν)) (k : κ) (v : ν) (q : κ) : getM (putM es k v) q = if k = q then some v else getM es q := by
  induction es with
  | nil => unfold putM getM getM; rfl
  | cons p r ih =>
    unfold putM
    split
    · rename_i he
      unfold getM
      by_cases h : k = q
      · rw [if_pos h, if_pos h]
      · rw [if_neg h, if_neg h, if_neg (by rw [he]; exact h)]
    · rename_i hne
      unfold getM
      rw [ih]
      by_cases h : k = q
      · rw [if_pos h, if_neg (by rw [← h]; exact hne), if_pos h]
      · rw [if_neg h, if_neg h]
end
/-- A map in memory: its entries in the order in which the keys came. -/
def ents {κ ν : Type} (ek : κ → Value) (eV : ν → Value) (es : List (κ × ν)) : List MapEntry := es.zipIdx.map fun p => { key := ek p.1.1, val := eV p.1.2, born := p.2 }
def MapAt {κ ν : Type} (w : World) (b : Nat) (ek : κ → Value) (eV : ν → Value) (es : List (κ × ν)) : Prop := w.heap[b]? = some (.map (ents ek eV es).toArray es.length)
theorem ents_get {κ ν : Type} {ek : κ → Value} {eV : ν → Value} {es : List (κ × ν)} {i : Nat} : (ents ek eV es)[i]? = (es[i]?).map fun p => { key := ek p.1, val := eV p.2, born := i } := by
 unfold ents; rw [List.getElem?_map, List.getElem?_zipIdx]; cases es[i]? <;> simp
theorem ents_kv {κ ν : Type} (ek : κ → Value) (eV : ν → Value) (es : List (κ × ν)) : (ents ek eV es).map (fun e => (e.key, e.val)) = es.map fun p => (ek p.1, eV p.2) := by
 apply List.ext_getElem?
 intro i
 rw [List.getElem?_map, ents_get, List.getElem?_map]
 cases es[i]? <;> rfl
section
variable {κ ν : Type} {ek : κ → Value} {eV : ν → Value} {es : List (κ × ν)} {w w' : World} {b : Nat}
theorem MapAt.lt (h : MapAt w b ek eV es) : b < w.heap.size := (Array.getElem?_eq_some_iff.1 h).1
theorem Chg.keepM {M : Nat → Prop} (h : Chg M w w') (hm : ¬ M b) (hb : MapAt w b ek eV es) : MapAt w' b ek eV es := (h.blk b hb.lt hm).trans hb
theorem Ext.keepM (h : Ext w w') (hb : MapAt w b ek eV es) : MapAt w' b ek eV es := Chg.keepM h (fun f => f) hb
theorem New.keepM {n : Nat} {c : Array Value} {t : TypeId} (h : New w w' n c t) (hb : MapAt w b ek eV es) : MapAt w' b ek eV es := h.ext.keepM hb
theorem New.ltM {n : Nat} {c : Array Value} {t : TypeId} (h : New w w' n c t) (hb : MapAt w b ek eV es) : b < n := by rw [h.eq]; exact hb.lt
theorem Put.keepM {n : Nat} {c : Array Value} {t : TypeId} (h : Put w w' n c t) (hne : b ≠ n) (hb : MapAt w b ek eV es) : MapAt w' b ek eV es := h.chg.keepM hne hb
end
/-- A new object that is no row of cells. -/
structure NewO (w w' : World) (b : Nat) (o : Obj) : Prop where
 at' : w'.heap[b]? = some o
 ext : Ext w w'
 eq : b = w.heap.size
 size : w'.heap.size = w.heap.size + 1
theorem NewO.mk' (w : World) (o : Obj) : NewO w { w with heap := w.heap.push o } w.heap.size o :=
 ⟨by simp, ⟨rfl, rfl, rfl, Nat.le_refl _, by simp, fun x hx _ => by simp [Array.getElem?_push, Nat.ne_of_lt hx]⟩, rfl, by simp⟩
section
variable {w w' : World} {b : Nat} {o : Obj}
theorem NewO.keep (h : NewO w w' b o) {b' : Nat} {c' : Array Value} {t' : TypeId} (hb : Blk w b' c' t') : Blk w' b' c' t' := h.ext.keep hb
theorem NewO.lt (h : NewO w w' b o) {b' : Nat} {c' : Array Value} {t' : TypeId} (hb : Blk w b' c' t') : b' < b := by rw [h.eq]; exact hb.lt
theorem NewO.ge (h : NewO w w' b o) {w0 : World} {M : Nat → Prop} (e : Chg M w0 w) : w0.heap.size ≤ b := by rw [h.eq]; exact e.size
variable {κ ν : Type} {ek : κ → Value} {eV : ν → Value} {es : List (κ × ν)} {b' : Nat}
end
/-- An object that is no row of cells is replaced. -/
structure PutO (w w' : World) (b : Nat) (o : Obj) : Prop where
 at' : w'.heap[b]? = some o
 chg : Chg (fun x => x = b) w w'
 size : w'.heap.size = w.heap.size
theorem PutO.mk' {w : World} {b : Nat} (o : Obj) (hb : b < w.heap.size) : PutO w { w with heap := w.heap.setIfInBounds b o } b o :=
 ⟨by simp [hb], ⟨rfl, rfl, rfl, Nat.le_refl _, by simp, fun x hx hne => by simp [Array.getElem?_setIfInBounds, Ne.symm hne]⟩, by simp⟩
section
variable {w w' : World} {b : Nat} {o : Obj}
theorem PutO.step (h : PutO w w' b o) {w0 : World} {M : Nat → Prop} (e : Chg M w0 w) (hb : w0.heap.size ≤ b ∨ M b) : Chg M w0 w' :=
 e.step h.chg fun x hx hm => by subst hm; rcases hb with hb | hb; omega; exact hb
variable {κ ν : Type} {ek : κ → Value} {eV : ν → Value} {es : List (κ × ν)} {b' : Nat}
end
/-- What is asked of a key's type. -/
structure KeyOk (P : Program) (kt : TypeId) {κ : Type} [DecidableEq κ] (ek : κ → Value) : Prop where
 check : ∀ (b : Bool) (w : World) (k : κ), (Instr.checkKey b 10000 kt (ek k)).run P w = .ok () w
 find : ∀ (ν : Type) (w : World) (k : κ) (es : List (κ × ν)) (eV : ν → Value) (L : List MapEntry), L.map (fun e => (e.key, e.val)) = es.map (fun p => (ek p.1, eV p.2)) → (Instr.findKey kt (ek k) L).run P w = .ok (findM eV es k 0) w
 same : ∀ k, Instr.sameBits 10000 (ek k) (ek k) = true
def kBool (x : Bool) : Value := .bool x
section
variable {P : Program} {N : Nat} {Q : Post} {σ : Env} {w : World} {K : Env → World → Prop} {ops : Array Oper} {rest : List Oper} {d : Nat} {ty : TypeId} {pos : String} {af : Array Edge} {g : Option (Nat × Bool)} {dst : Option Tmp} {t kt et : TypeId} {m x y : Operand} {b : Nat}
variable {κ ν : Type} [DecidableEq κ] {ek : κ → Value} {eV : ν → Value} {es : List (κ × ν)} {k : κ} {v : ν}
omit [DecidableEq κ] in
theorem s_makeMap (ek : κ → Value) (eV : ν → Value) (hN : d < N) (kk : ∀ b w', NewO w w' b (.map #[] 0) → MapAt w' b ek eV [] → WpL P N ops K Q rest (upd σ d (.map (some b))) w') :
  WpL P N ops K Q (⟨some d, .makeMap t none, ty, pos, af, none⟩ :: rest) σ w := by
 refine WpL_val (v := .map (some w.heap.size)) (w' := { w with heap := w.heap.push (.map #[] 0) }) rfl rfl hN ?_ (kk _ _ (NewO.mk' w _) (NewO.mk' w _).at')
 simp [execOp, Instr.makeMap]
theorem run_mapUpdate (hu : P.underlying t = some (.map kt et)) (hk : KeyOk P kt ek) (hm : MapAt w b ek eV es) :
    (Instr.mapUpdate t (.map (some b)) (ek k) (eV v)).run P w = .ok () { w with heap := w.heap.setIfInBounds b (.map (ents ek eV (putM es k v)).toArray (putM es k v).length) } := by
  have hlt := hm.lt
  unfold MapAt at hm
  have hg : (getObj b).run P w = .ok (.map (ents ek eV es).toArray es.length) w := by simp [getObj, Sem.run, hm]
  have hs : ∀ o, (setObj b o).run P w = .ok () { w with heap := w.heap.setIfInBounds b o } := fun o => by simp [setObj, Sem.run, hm]
  have hf := hk.find ν w k es eV (ents ek eV es) (ents_kv ek eV es)
  simp only [Instr.mapUpdate, Sem.run_bind, run_underlying hu, Result.andThen_ok, hg, hk.check, hf]
  cases hgm : getM es k with
  | none =>
    rw [findM_none hgm]
    simp only [hs]
    congr 4
    · apply Array.ext'
      rw [putM_none v hgm]
      simp [ents, List.zipIdx_append]
    · rw [putM_none v hgm]; simp
  | some u =>
    obtain ⟨j, h1, h2, h3⟩ := findM_some (eV := eV) (i := 0) hgm
    rw [Nat.zero_add] at h1
    rw [h1]
    have hj := lt_of_get h2
    have he : (ents ek eV es).toArray[j]? = some { key := ek k, val := eV u, born := j } := by rw [List.getElem?_toArray, ents_get, h2]; rfl
    simp only [he, Option.map_some, Option.getD_some, Instr.keyThatStays, hk.same, if_true, Sem.run_bind, Sem.run_pure, Result.andThen_ok, hs]
    congr 4
    · apply Array.ext'
      rw [h3 v]
      apply List.ext_getElem?
      intro i
      rw [List.getElem?_toArray.symm.trans (by rfl)] <;> simp only [Array.getElem?_toList, Array.getElem?_modify, List.getElem?_toArray, ents_get, List.getElem?_set]
      by_cases hi : j = i
      · subst hi; simp [h2, hj]
      · simp [hi]
    · rw [h3 v]; simp
theorem s_mapUpdate (hu : P.underlying t = some (.map kt et)) (hk : KeyOk P kt ek) (hm : MapAt w b ek eV es) (h1 : ev σ m = .map (some b)) (h2 : ev σ x = ek k) (h3 : ev σ y = eV v)
  (kk : ∀ w', PutO w w' b (.map (ents ek eV (putM es k v)).toArray (putM es k v).length) → MapAt w' b ek eV (putM es k v) → WpL P N ops K Q rest σ w') :
  WpL P N ops K Q (⟨none, .mapUpdate t m x y, ty, pos, af, none⟩ :: rest) σ w := by
 have hr := run_mapUpdate (k := k) (v := v) hu hk hm
 refine WpL_skip rfl rfl (w' := { w with heap := w.heap.setIfInBounds b (.map (ents ek eV (putM es k v)).toArray (putM es k v).length) }) ?_ (kk _ (PutO.mk' _ hm.lt) (PutO.mk' _ hm.lt).at')
 simp [execOp, h1, h2, h3, hr]
theorem run_lookup (c : Bool) {z : ν} (hu : P.underlying t = some (.map kt et)) (hk : KeyOk P kt ek) (hz : Zer P et (eV z)) (hm : MapAt w b ek eV es) :
    (Instr.lookup t (.map (some b)) (ek k) c).run P w = .ok (if c then .tuple #[eV ((getM es k).getD z), .bool (getM es k).isSome] else eV ((getM es k).getD z)) w := by
  unfold MapAt at hm
  have hg : (getObj b).run P w = .ok (.map (ents ek eV es).toArray es.length) w := by simp [getObj, Sem.run, hm]
  have hf := hk.find ν w k es eV (ents ek eV es) (ents_kv ek eV es)
  simp only [Instr.lookup, Sem.run_bind, run_underlying hu, Result.andThen_ok, hg, Sem.run_pure, hk.check, hf]
  cases hgm : getM es k with
  | none => rw [findM_none hgm]; simp [hz.run]
  | some u =>
    obtain ⟨j, h1, _, _⟩ := findM_some (eV := eV) (i := 0) hgm
    rw [h1]; simp
theorem r_lookup {z : ν} (hu : P.underlying t = some (.map kt et)) (hk : KeyOk P kt ek) (hz : Zer P et (eV z)) (hm : MapAt w b ek eV es) (h1 : ev σ m = .map (some b)) (h2 : ev σ x = ek k) :
  (execOp (ev σ) ⟨dst, .lookup t m x false, ty, pos, af, g⟩).run P w = .ok (.value (eV ((getM es k).getD z))) w := by
 simp [execOp, h1, h2, run_lookup false hu hk hz hm]
end
def IterAt (w : World) (it b n : Nat) (seen : List Nat) : Prop := w.heap[it]? = some (.mapIter (some b) n seen.toArray n)
end Go.Eng
namespace Go.Proofs
open Go Go.Eng Go.Sort
section
variable {P : Program} {N : Nat} {Q : Post} {σ : Env} {w : World} {K : Env → World → Prop} {ops : Array Oper} {rest : List Oper} {d : Nat} {ty : TypeId} {pos : String} {af : Array Edge} {t : TypeId} {x y : Operand}
theorem s_make {e bytes n : Nat} {z : Value} (hN : d < N) (hu : P.underlying t = some (.slice e)) (hsz : Siz P e 1) (hby : Byt P e bytes) (hz : Zer P e z) (hz1 : z.cells = #[z]) (hx : ev σ x = .int .i64 ((n : Nat) : Int)) (hy : ev σ y = .int .i64 ((n : Nat) : Int)) (hb : n * bytes ≤ 140737488355328) (hn : n ≤ 140737488355328)
    (k : ∀ b w', New w w' b (List.replicate n z).toArray e → WpL P N ops K Q rest (upd σ d (.slice (some ⟨b, 0, none⟩) n n)) w') : WpL P N ops K Q (⟨some d, .makeSlice t x y, ty, pos, af, none⟩ :: rest) σ w := by
  refine WpL_val (v := .slice (some ⟨w.heap.size, 0, none⟩) n n) (w' := { w with heap := w.heap.push (.cells (List.replicate n z).toArray e (0, 0)) }) rfl rfl hN ?_ (k _ _ (New.mk' w _ e))
  unfold Siz at hsz; unfold Byt at hby; unfold Zer at hz
  cases hi : P.info? e with
  | none => rw [hi] at hsz; simp at hsz
  | some i =>
  rw [hi] at hsz hby hz
  simp at hsz hby hz
  have h := run_make (P := P) w t e i _ hu hi hz .i64 .i64 ((n : Nat) : Int) ((n : Nat) : Int) (by omega) (Int.le_refl _) (by rw [hby]; have : ((bytes : Nat) : Int) * ((n : Nat) : Int) = (((n * bytes : Nat) : Nat) : Int) := (by rw [Int.natCast_mul, Int.mul_comm]); rw [this]; omega) (by omega)
  have hc : madeCells z.cells (n * i.size) = (List.replicate n z).toArray := by
    rw [hsz, Nat.mul_one, hz1]
    apply Array.ext'
    simp only [madeCells]
    apply List.ext_getElem?
    intro j
    simp only [Array.toList_map, List.getElem?_map, List.getElem?_replicate]
    rcases Nat.lt_or_ge j n with hj | hj
    · have h1 : (Array.range n).toList[j]? = some j := by simp [hj]
      rw [h1, if_pos hj]
      simp [Nat.mod_one]
    · have h1 : (Array.range n).toList[j]? = none := by simp; omega
      rw [h1, if_neg (by omega)]; rfl
  simp only [Int.toNat_natCast, hc] at h
  simp only [execOp, hx, hy, Sem.run_bind, h, Result.andThen_ok]
  rfl
end
def appF (base e size n : Nat) (xs : List Value) (old : Value) (hs : Nat) : Fct := fun v w => (∃ a c, v = .slice a n c) ∧ w.ownsRow base e size v n xs ∧ ∀ k, v.ownBlock = some k → old.ownBlock = some k ∨ hs ≤ k
theorem appF_ext (base e size n : Nat) (xs : List Value) (old : Value) (hs : Nat) : ∀ v w w', Ext w w' → appF base e size n xs old hs v w → appF base e size n xs old hs v w' := by
 rintro v w w' e ⟨h1, h2, h3⟩
 exact ⟨h1, own_ext h2 e, h3⟩
/-- The append to a slice of one's own, in a region that draws its order. -/
theorem DoesT_append {P : Program} {N : Nat} {σ : Env} {w : World} {dst : Option Tmp} {ty : TypeId} {pos : String} {af : Array Edge} {g : Option (Nat × Bool)} {M : Nat → Prop} {t : TypeId} {s x : Operand} {base e size bytes n m c bx ox hs : Nat} {z v : Value} {xs news : List Value} (hu : P.underlying t = some (.slice e)) (hsz : Siz P e size) (hby : Byt P e bytes) (hz : Zer P e z) (hzs : z.cells.size = size) (h0 : 0 < size)
    (he : ev σ s = v) (hown : w.ownsRow base e size v n xs) (hx : ev σ x = .slice (some ⟨bx, ox, none⟩) m c) (hl : news.length = m * size) (hnews : CellsAt w bx ox news) (h1 : ∀ u ∈ news, u.oneCell' = true)
    (h63 : n + m ≤ maxLen) (hbytes : (n + m) * bytes ≤ 140737488355328) (hbase : base ≤ w.heap.size) (hM : ∀ y, v.ownBlock = some y → M y) (hhs : hs ≤ w.heap.size) :
    DoesT M P N ⟨dst, .call ⟨.builtin .append, #[s, x], #[t, t]⟩, ty, pos, af, g⟩ (appF base e size (n + m) (xs ++ news) v hs) σ w := by
  unfold Siz at hsz; unfold Byt at hby; unfold Zer at hz
  cases hi : P.info? e with
  | none => rw [hi] at hsz; simp at hsz
  | some i =>
  rw [hi] at hsz hby hz
  simp at hsz hby hz
  have hcells : ∀ j u, news[j]? = some u → w.cell? ((⟨bx, ox, none⟩ : Addr).add j) = some u := fun j u hj => by rw [Addr.add_lit]; exact hnews j u hj
  obtain ⟨v', w', hr, h2, h3, _⟩ := run_append_own (P := P) w base t ty e i z size bytes hu hi hz hsz hby hzs h0 v n xs hown ⟨bx, ox, none⟩ m c news hl hcells h1 h63 hbytes hbase
  have hC : Chg (fun x => v.ownBlock = some x) w w' := ⟨h3.os, h3.tape, h3.output, append_drawn (P := P) hu hi hz hsz hby hown hl hcells h1 h63 hbytes hr, h3.size, fun b hb hn => h3.block b hb (fun h => hn h.symm)⟩
  have hW := append_where (P := P) hu hi hz hsz hby hzs h0 hown hl hcells h1 h63 hbytes hr
  refine DoesT_val (v := v') (w' := w') (by simp [execOp, resolve, invoke, builtin, he, hx, hr]) (hC.mono fun y _ hy => hM y hy) ⟨own_form h2, h2, fun k hk => ?_⟩
  rcases hW k hk with h4 | h4
  · exact .inl h4
  · exact .inr (Nat.le_trans hhs h4)
/-- A slice of one new element, whose cells are known. -/
def litF (e : Nat) (c : Array Value) (hs : Nat) : Fct := fun v w => ∃ b, v = .slice (some ⟨b, 0, none⟩) 1 1 ∧ Blk w b c e ∧ hs ≤ b
theorem litF_ext (e : Nat) (c : Array Value) (hs : Nat) : ∀ v w w', Ext w w' → litF e c hs v w → litF e c hs v w' := by
 rintro v w w' x ⟨b, h1, h2, h3⟩
 exact ⟨b, h1, Ext.keep x h2, h3⟩
theorem DoesT_lit {P : Program} {N : Nat} {σ : Env} {w : World} {dst : Option Tmp} {ty : TypeId} {pos : String} {af : Array Edge} {g : Option (Nat × Bool)} {M : Nat → Prop} {t e n hs : Nat} {x : Operand} {v z : Value} {c : Array Value} (hu : P.underlying t = some (.slice e)) (hsz : Siz P e n) (hz : Zer P e z) (hx : ev σ x = v)
  (hl : ¬ (1 * n > 2 ^ 24)) (h0 : 1 * n ≠ 0) (hc : Instr.fill (fun i => some (i * n, n)) ((Array.range (1 * n)).map (z.cells[· % z.cells.size]!)) [(0, v)] = some c) (hhs : hs ≤ w.heap.size) :
  DoesT M P N ⟨dst, .buildSlice t 1 #[(0, x)], ty, pos, af, g⟩ (litF e c hs) σ w := by
 have hn := New.mk' w c e
 exact DoesT_val (run_buildSlice (parts := [(0, x)]) (ps := [(0, v)]) (by simp only [List.map, hx]) hu hsz hz hl h0 hc) (Ext.chg hn.ext) ⟨_, rfl, hn.blk, hhs⟩
theorem own_lit1 {w : World} {b e base : Nat} {v : Value} (h : Blk w b #[v] e) (hb : base ≤ b) : w.ownsRow base e 1 (.slice (some ⟨b, 0, none⟩) 1 1) 1 [v] :=
 ⟨rfl, .inr ⟨b, 1, #[v], rfl, hb, h, Nat.le_refl _, by decide, rfl, rfl⟩⟩
structure LSt (To e sz : Nat) (w : World) (base : Nat) (vo : Value) (vs : List Value) (ns : List (Nat × List Value)) : Prop where
 o : w.ownsRow base To 1 vo ns.length vs
 len : vs.length = ns.length
 inn : ∀ (i : Nat) v p, vs[i]? = some v → ns[i]? = some p → w.ownsRow base e sz v p.1 p.2
 apo : ∀ (i : Nat) v b, vs[i]? = some v → v.ownBlock = some b → vo.ownBlock ≠ some b
theorem LSt.chg {M : Nat → Prop} {To e sz base : Nat} {w w' : World} {vo : Value} {vs : List Value} {ns : List (Nat × List Value)} (h : LSt To e sz w base vo vs ns) (c : Chg M w w') (hM : ∀ b, base ≤ b → b < w.heap.size → ¬ M b) : LSt To e sz w' base vo vs ns :=
 ⟨own_chg h.o c fun k hk => hM k (h.o.lt k hk).1 (h.o.lt k hk).2, h.len, fun i v l hv hl => own_chg (h.inn i v l hv hl) c fun k hk => hM k ((h.inn i v l hv hl).lt k hk).1 ((h.inn i v l hv hl).lt k hk).2, h.apo⟩
theorem LSt.ext {To e sz base : Nat} {w w' : World} {vo : Value} {vs : List Value} {ns : List (Nat × List Value)} (h : LSt To e sz w base vo vs ns) (c : Ext w w') : LSt To e sz w' base vo vs ns := h.chg c fun _ _ _ f => f
theorem LSt.on {To e sz base n : Nat} {w : World} {vo : Value} {vs : List Value} {ns : List (Nat × List Value)} (h : LSt To e sz w base vo vs ns) (hn : n = ns.length) : w.ownsRow base To 1 vo n vs := by subst hn; exact h.o
/-- A slice that was made later is appended. -/
theorem LSt.push {To e sz base bu n m : Nat} {w w' : World} {vo v' u : Value} {vs us : List Value} {ns : List (Nat × List Value)} (h : LSt To e sz w base vo vs ns) (hn : n = ns.length) (hu : w.ownsRow bu e sz u m us) (hb : base ≤ bu) (hbu : ∀ k, vo.ownBlock = some k → k < bu)
  (Ov : w'.ownsRow base To 1 v' (n + 1) (vs ++ [u])) (Cv : Chg (fun x => vo.ownBlock = some x) w w') (Wv : ∀ k, v'.ownBlock = some k → vo.ownBlock = some k ∨ w.heap.size ≤ k) : LSt To e sz w' base v' (vs ++ [u]) (ns ++ [(m, us)]) := by
 have hold : ∀ (i : Nat) v, (vs ++ [u])[i]? = some v → vs[i]? = some v ∨ (i = vs.length ∧ v = u) := by
  intro i v hv
  rcases Nat.lt_or_ge i vs.length with h1 | h1
  ·left; rwa [List.getElem?_append_left h1] at hv
  ·right
   rw [List.getElem?_append_right h1] at hv
   have h2 := lt_of_get hv
   simp at h2
   obtain rfl : i = vs.length := by omega
   simp at hv
   exact ⟨rfl, hv.symm⟩
 have hun : ∀ b, u.ownBlock = some b → vo.ownBlock ≠ some b := fun b hb' e' => by
  have h1 := hbu b e'
  have h2 := (hu.lt b hb').1
  omega
 refine ⟨by rw [List.length_append, ← hn]; exact Ov, by simp [h.len], ?_, ?_⟩
 ·intro i v p hv hp
  rcases hold i v hv with h1 | ⟨h1, rfl⟩
  ·rw [List.getElem?_append_left (by have := lt_of_get h1; have := h.len; omega)] at hp
   exact own_chg (h.inn i v p h1 hp) Cv fun k hk => h.apo i v k h1 hk
  ·rw [h1, h.len] at hp
   simp at hp
   subst hp
   exact own_low (own_chg hu Cv fun k hk => hun k hk) hb
 ·intro i v b hv hb1 hb2
  rcases hold i v hv with h1 | ⟨_, rfl⟩
  ·rcases Wv b hb2 with h2 | h2
   ·exact h.apo i v b h1 hb1 h2
   ·obtain ⟨p, hp⟩ := get_of_lt (l := ns) (i := i) (by have := lt_of_get h1; have := h.len; omega)
    have := ((h.inn i v p h1 hp).lt b hb1).2
    omega
  ·rcases Wv b hb2 with h2 | h2
   ·exact hun b hb1 h2
   ·have := (hu.lt b hb1).2; omega
theorem own_writeG {w w' : World} {base e size n cap g i : Nat} {xs : List Value} {cur : Array Value} {v : Value} (h : w.ownsRow base e size (.slice (some ⟨g, 0, none⟩) n cap) n xs) (hB : Blk w g cur e) (hi : i < n * size) (hB' : Blk w' g (cur.setIfInBounds i v) e) : w'.ownsRow base e size (.slice (some ⟨g, 0, none⟩) n cap) n (xs.set i v) := by
 rcases h.2 with ⟨h1, _⟩ | ⟨g', cap', cur', hv, hbg, hg, hnc, hcm, hcs, htake⟩
 ·simp at h1
 ·simp only [Value.slice.injEq, Option.some.injEq, Addr.mk.injEq, and_true] at hv
  obtain ⟨rfl, _, rfl⟩ := hv
  unfold Blk at hB hB'
  rw [hB] at hg
  simp only [Option.some.injEq, Obj.cells.injEq, and_true] at hg
  obtain ⟨rfl, _⟩ := hg
  refine ⟨by simpa using h.1, .inr ⟨g, cap, _, rfl, hbg, hB', hnc, hcm, by simpa using hcs, ?_⟩⟩
  rw [← htake, Array.toList_setIfInBounds, List.take_set]
theorem own_blkG {w : World} {base e size n cap g : Nat} {xs : List Value} (h : w.ownsRow base e size (.slice (some ⟨g, 0, none⟩) n cap) n xs) : ∃ cur, Blk w g cur e ∧ n * size ≤ cur.size := by
 rcases h.2 with ⟨h1, _⟩ | ⟨g', cap', cur', hv, hbg, hg, hnc, hcm, hcs, htake⟩
 ·simp at h1
 ·simp only [Value.slice.injEq, Option.some.injEq, Addr.mk.injEq, and_true] at hv
  obtain ⟨rfl, _, rfl⟩ := hv
  exact ⟨cur', hg, by rw [hcs]; exact Nat.mul_le_mul_right _ hnc⟩
/-- The same, and no two members share a block: a member may grow. -/
structure GSt (To e sz : Nat) (w : World) (base : Nat) (vo : Value) (vs : List Value) (ns : List (Nat × List Value)) : Prop where
 l : LSt To e sz w base vo vs ns
 ap : ∀ (i j : Nat) v u b, vs[i]? = some v → vs[j]? = some u → v.ownBlock = some b → u.ownBlock = some b → i = j
theorem GSt.chg {M : Nat → Prop} {To e sz base : Nat} {w w' : World} {vo : Value} {vs : List Value} {ns : List (Nat × List Value)} (h : GSt To e sz w base vo vs ns) (c : Chg M w w') (hM : ∀ b, base ≤ b → b < w.heap.size → ¬ M b) : GSt To e sz w' base vo vs ns := ⟨h.l.chg c hM, h.ap⟩
theorem GSt.ext {To e sz base : Nat} {w w' : World} {vo : Value} {vs : List Value} {ns : List (Nat × List Value)} (h : GSt To e sz w base vo vs ns) (c : Ext w w') : GSt To e sz w' base vo vs ns := ⟨h.l.ext c, h.ap⟩
theorem GSt.made {To e sz base b n : Nat} {w : World} (hB : Blk w b (List.replicate n (Value.slice none 0 0)).toArray To) (hb : base ≤ b) (hn : n ≤ 9223372036854775807) (hbw : base ≤ b) : GSt To e sz w base (.slice (some ⟨b, 0, none⟩) n n) (List.replicate n (.slice none 0 0)) (List.replicate n (0, [])) := by
 have hv : ∀ (i : Nat) v, (List.replicate n (Value.slice none 0 0))[i]? = some v → v = .slice none 0 0 := fun i v h => by
  have := List.mem_of_getElem? h
  exact (List.mem_replicate.1 this).2
 refine ⟨⟨?_, by simp, fun i v p h hp => ?_, fun i v b h h2 => ?_⟩, fun i j v u b h _ h2 => ?_⟩
 ·rw [List.length_replicate]
  exact ⟨by simp, .inr ⟨b, n, _, rfl, hb, hB, Nat.le_refl _, hn, by simp, by simp⟩⟩
 ·have hp2 := (List.mem_replicate.1 (List.mem_of_getElem? hp)).2
  subst hp2
  rw [hv i v h]
  exact World.ownsRow_nil _ _ _ _
 ·rw [hv i v h] at h2; cases h2
 ·rw [hv i v h] at h2; cases h2
/-- One member grows, and its new slice is stored in the outer one. -/
theorem GSt.grow {To e sz : Nat} {w w' w2 : World} {base g cap k n m m' : Nat} {v v' : Value} {vs : List Value} {ns : List (Nat × List Value)} {xs xs' : List Value} {cur : Array Value} (h : GSt To e sz w base (.slice (some ⟨g, 0, none⟩) n cap) vs ns) (hn : n = ns.length) (hv : vs[k]? = some v) (hp : ns[k]? = some (m, xs))
  (Ov : w'.ownsRow base e sz v' m' xs') (Cv : Chg (fun x => v.ownBlock = some x) w w') (Wv : ∀ k, v'.ownBlock = some k → v.ownBlock = some k ∨ w.heap.size ≤ k)
  (hB : Blk w' g cur To) (P2 : Put w' w2 g (cur.setIfInBounds k v') To) : GSt To e sz w2 base (.slice (some ⟨g, 0, none⟩) n cap) (vs.set k v') (ns.set k (m', xs')) := by
 have hkl := lt_of_get hv
 have hgv : v.ownBlock ≠ some g := fun e => h.l.apo k v g hv e rfl
 have hgl := (h.l.o.lt g rfl).2
 have hv'g : v'.ownBlock ≠ some g := fun e => by rcases Wv g e with h1 | h1; exact hgv h1; omega
 have ho1 : w'.ownsRow base To 1 (.slice (some ⟨g, 0, none⟩) n cap) ns.length vs := own_chg h.l.o Cv fun q hq => by cases hq; exact hgv
 rw [← hn] at ho1
 have ho2 := own_writeG ho1 hB (i := k) (by have := h.l.len; omega) P2.blk
 have hset : ∀ (i : Nat) u, (vs.set k v')[i]? = some u → (i = k ∧ u = v') ∨ (i ≠ k ∧ vs[i]? = some u) := by
  intro i u hu
  rw [List.getElem?_set] at hu
  split at hu
  ·rename_i he
   exact .inl ⟨he.symm, (Option.some.inj hu).symm⟩
  ·rename_i he
   exact .inr ⟨fun e => he e.symm, hu⟩
 have hsome : ∀ (i : Nat) u, vs[i]? = some u → ∃ q, ns[i]? = some q := fun i u hu => get_of_lt (by have := lt_of_get hu; have := h.l.len; omega)
 have hne : ∀ (i : Nat) u b, i ≠ k → vs[i]? = some u → u.ownBlock = some b → v.ownBlock ≠ some b ∧ v'.ownBlock ≠ some b ∧ b ≠ g := by
  intro i u b hi hu hb
  have h1 : v.ownBlock ≠ some b := fun e => hi (h.ap i k u v b hu hv hb e)
  refine ⟨h1, fun e => ?_, fun e => h.l.apo i u b hu hb (by rw [e]; rfl)⟩
  rcases Wv b e with h2 | h2
  ·exact h1 h2
  ·obtain ⟨q, hq⟩ := hsome i u hu
   have := ((h.l.inn i u q hu hq).lt b hb).2
   omega
 refine ⟨⟨by rw [List.length_set, ← hn]; exact ho2, by simp [h.l.len], ?_, ?_⟩, ?_⟩
 ·intro i u q hu hq
  rcases hset i u hu with ⟨rfl, rfl⟩ | ⟨h1, h2⟩
  ·rw [List.getElem?_set, if_pos rfl, if_pos (by have := h.l.len; omega)] at hq
   have hq' := Option.some.inj hq
   subst hq'
   exact own_chg Ov P2.chg fun b hb e => hv'g (e ▸ hb)
  ·rw [List.getElem?_set, if_neg (fun e => h1 e.symm)] at hq
   exact own_chg (own_chg (h.l.inn i u q h2 hq) Cv fun b hb => (hne i u b h1 h2 hb).1) P2.chg fun b hb e => (hne i u b h1 h2 hb).2.2 e
 ·intro i u b hu hb
  rcases hset i u hu with ⟨rfl, rfl⟩ | ⟨h1, h2⟩
  ·intro e; cases e; exact hv'g hb
  ·exact h.l.apo i u b h2 hb
 ·intro i j u z b hu hz hb hb'
  rcases hset i u hu with ⟨rfl, rfl⟩ | ⟨h1, h2⟩ <;> rcases hset j z hz with ⟨rfl, rfl⟩ | ⟨h3, h4⟩
  ·rfl
  ·exact absurd hb (hne j z b h3 h4 hb').2.1
  ·exact absurd hb' (hne i u b h1 h2 hb).2.1
  ·exact h.ap i j u z b h2 h4 hb hb'
end Go.Proofs
namespace Go.Eng
open Go
theorem DoesT_lit2c {P : Program} {N : Nat} {σ : Env} {w : World} {dst : Option Tmp} {ty : TypeId} {pos : String} {af : Array Edge} {g : Option (Nat × Bool)} {M : Nat → Prop} {t e n : Nat} {x y : Operand} {u v z : Value} {c : Array Value} {R : Value → World → Prop} (hu : P.underlying t = some (.slice e)) (hsz : Siz P e n) (hz : Zer P e z) (hx : ev σ x = u) (hy : ev σ y = v)
  (hl : ¬ (2 * n > 2 ^ 24)) (h0 : 2 * n ≠ 0) (hc : Instr.fill (fun i => some (i * n, n)) ((Array.range (2 * n)).map (z.cells[· % z.cells.size]!)) [(0, u), (1, v)] = some c) (hR : ∀ b w', Blk w' b c e → w.heap.size ≤ b → R (.slice (some ⟨b, 0, none⟩) 2 2) w') :
  DoesT M P N ⟨dst, .buildSlice t 2 #[(0, x), (1, y)], ty, pos, af, g⟩ R σ w := by
 have hn := New.mk' w c e
 exact DoesT_val (run_buildSlice (parts := [(0, x), (1, y)]) (ps := [(0, u), (1, v)]) (by simp only [List.map, hx, hy]) hu hsz hz hl h0 hc) (Ext.chg hn.ext) (hR _ _ hn.blk (Nat.le_refl _))
end Go.Eng
namespace Go.Proofs
open Go Go.Eng
set_option maxRecDepth 100000
def emptyR : Re := .mk 1 [] [] 0 0 false
def itE (mn : Int) (b : Re) (j : Nat) : Re := if (j : Int) < mn then b else .mk 4 [] [b, emptyR] 0 0 false
def expE (k : Int) (z : List (Int × Int)) (mn mx : Int) (g : Bool) (bs : List Re) : Re :=
 if k = 9 then bs.headD emptyR else if k = 6 then .mk 3 [] (emptyR :: (List.range mx.toNat).map (itE mn (bs.headD emptyR))) 0 0 false else .mk k z bs mn mx g
mutual
def expT : Re → Re
  | .mk k z a mn mx g => expE k z mn mx g (expTs a)
def expTs : List Re → List Re
  | [] => []
  | x :: l => expT x :: expTs l
end
theorem expTs_map : ∀ l : List Re, expTs l = l.map expT
  | [] => rfl
  | x :: l => by rw [expTs, expTs_map l]; rfl
theorem expT_eq (x : Re) : expT x = expE x.kind x.set x.mn x.mx x.neg (x.args.map expT) := by cases x; rw [expT, expTs_map]; rfl
def emptyV : List Value := [.int .i64 1, .slice none 0 0, .slice none 0 0, .int .i64 0, .int .i64 0, .bool false]
def altC (us : List Value) : Array Value := (us ++ emptyV).toArray
def alt4 (b : Nat) : List Value := [.int .i64 4, .slice none 0 0, .slice (some ⟨b, 0, none⟩) 2 2, .int .i64 0, .int .i64 0, .bool false]
def l2F (us : List Value) (z : Nat) : Fct := fun v w => ∃ b, v = .slice (some ⟨b, 0, none⟩) 2 2 ∧ Blk w b (altC us) TRe ∧ z ≤ b
theorem l2F_chg {U : Nat → Prop} {us : List Value} {z : Nat} (h : ∀ y, U y → y < z) : ∀ v w w', Chg U w w' → l2F us z v w → l2F us z v w' := by
 rintro v w w' c ⟨b, h1, h2, h3⟩
 exact ⟨b, h1, Chg.keep c (fun hu => by have := h b hu; omega) h2, h3⟩
def n4F (us : List Value) (z : Nat) : Fct := fun v w => ∃ b, v = .agg (alt4 b).toArray ∧ Blk w b (altC us) TRe ∧ z ≤ b
theorem n4F_chg {U : Nat → Prop} {us : List Value} {z : Nat} (h : ∀ y, U y → y < z) : ∀ v w w', Chg U w w' → n4F us z v w → n4F us z v w' := by
 rintro v w w' c ⟨b, h1, h2, h3⟩
 exact ⟨b, h1, Chg.keep c (fun hu => by have := h b hu; omega) h2, h3⟩
def l4F (us : List Value) (z : Nat) : Fct := fun v w => ∃ q b, v = .slice (some ⟨q, 0, none⟩) 1 1 ∧ Blk w q (alt4 b).toArray TRe ∧ z ≤ q ∧ Blk w b (altC us) TRe ∧ z ≤ b
theorem l4F_chg {U : Nat → Prop} {us : List Value} {z : Nat} (h : ∀ y, U y → y < z) : ∀ v w w', Chg U w w' → l4F us z v w → l4F us z v w' := by
 rintro v w w' c ⟨q, b, h1, h2, h3, h4, h5⟩
 exact ⟨q, b, h1, Chg.keep c (fun hu => by have := h q hu; omega) h2, h3, Chg.keep c (fun hu => by have := h b hu; omega) h4, h5⟩
def a4F (base m : Nat) (xs : List Value) (old : Value) (us : List Value) (z : Nat) : Fct := fun v w => ∃ b h, appF base TRe 6 (m + 1) (xs ++ alt4 b) old h v w ∧ b < h ∧ z ≤ b ∧ Blk w b (altC us) TRe
theorem a4F_ext (base m : Nat) (xs : List Value) (old : Value) (us : List Value) (z : Nat) : ∀ v w w', Ext w w' → a4F base m xs old us z v w → a4F base m xs old us z v w' := by
 rintro v w w' e ⟨b, h, h1, h2, h3, h4⟩
 exact ⟨b, h, appF_ext _ _ _ _ _ _ _ v w w' e h1, h2, h3, e.keep h4⟩
theorem DoesT_app4 {M : Nat → Prop} {N : Nat} {σ : Env} {w : World} {dst : Option Tmp} {ty : TypeId} {pos : String} {af : Array Edge} {g : Option (Nat × Bool)} {s x : Operand} {base n q b z : Nat} {v : Value} {xs us : List Value} (hs : ev σ s = v) (hown : w.ownsRow base TRe 6 v n xs) (hx : ev σ x = .slice (some ⟨q, 0, none⟩) 1 1) (hq : Blk w q (alt4 b).toArray TRe) (hb : Blk w b (altC us) TRe) (hn : n ≤ 1000000) (hbase : base ≤ w.heap.size) (hM : ∀ y, v.ownBlock = some y → M y) (hMz : ∀ y, M y → y < z) (hz : z ≤ b) :
  DoesT M Try.prog N ⟨dst, .call ⟨.builtin .append, #[s, x], #[23, 23]⟩, ty, pos, af, g⟩ (a4F base n xs v us z) σ w := by
 have h1 : DoesT M Try.prog N ⟨dst, .call ⟨.builtin .append, #[s, x], #[23, 23]⟩, ty, pos, af, g⟩ (appF base TRe 6 (n + 1) (xs ++ alt4 b) v w.heap.size) σ w :=
  DoesT_append (M := M) (hs := w.heap.size) Try.underlying23 siz25 byt25 zer25 rfl (by decide) hs hown hx (m := 1) (news := alt4 b) rfl (hq.cells rfl) (by simp [alt4, Value.oneCell']) (by unfold maxLen; omega) (by omega) hbase hM (Nat.le_refl _)
 exact fun dz a9 ha he9 Q K hK => h1 dz a9 ha he9 Q K fun v9 w9 hx9 hR => hK v9 w9 hx9 ⟨b, w.heap.size, hR, hb.lt, hz, Chg.keep hx9 (fun hm => by have := hMz b hm; omega) hb⟩
theorem DoesT_lit4 {M : Nat → Prop} {N : Nat} {σ : Env} {w : World} {dst : Option Tmp} {ty : TypeId} {pos : String} {af : Array Edge} {g : Option (Nat × Bool)} {x : Operand} {b z : Nat} {us : List Value} (hx : ev σ x = .agg #[.int .i64 4, .slice none 0 0, .slice (some ⟨b, 0, none⟩) 2 2, .int .i64 0, .int .i64 0, .bool false]) (hb : Blk w b (altC us) TRe) (hz : z ≤ b) (hw : z ≤ w.heap.size) :
  DoesT M Try.prog N ⟨dst, .buildSlice 23 1 #[(0, x)], ty, pos, af, g⟩ (l4F us z) σ w := by
 have hn := New.mk' w (alt4 b).toArray TRe
 exact DoesT_val (run_buildSlice (parts := [(0, x)]) (ps := [(0, .agg (alt4 b).toArray)]) (by simp only [List.map, hx]; rfl) Try.underlying23 siz25 zer25 (by decide) (by decide) (by kernel_rfl)) (Ext.chg hn.ext) ⟨_, b, rfl, hn.blk, hw, hn.ext.keep hb, hz⟩
/-- The written-out repetition has one part more. -/
theorem exp_step {S D : Nat → Prop} {z base : Nat} {w w1 : World} {v v' : Value} {ts : List Re} {rows : List (List Value)} {x : Re} {us : List Value}
  (hR : RowsIn (fun b => S b ∨ D b) w ts rows) (hS : ∀ b, S b → b < base) (hD : ∀ b, D b → base ≤ b ∧ b < w.heap.size) (hv : ∀ q, v.ownBlock = some q → ¬ D q ∧ base ≤ q)
  (hx : ReIn S w x us) (C : Chg (fun y => v.ownBlock = some y) w w1) (hz : z = w.heap.size) (hv' : ∀ q, v'.ownBlock = some q → v.ownBlock = some q ∨ z ≤ q) :
  RowsIn (fun b => S b ∨ D b) w1 (ts ++ [x]) (rows ++ [us]) ∧ (∀ b, D b → base ≤ b ∧ b < w1.heap.size) ∧ (∀ q, v'.ownBlock = some q → ¬ D q) := by
 have hs := C.size
 have hSv : ∀ b, S b → ¬ v.ownBlock = some b := fun b hb h => by have := (hv b h).2; have := hS b hb; omega
 refine ⟨RowsIn.append (RowsIn.single (ReIn.mono (fun b hb => .inl hb) _ (ReIn.chg C hSv _ hx))) (RowsIn.chg C (fun b hb => ?_) hR), fun b hb => ?_, fun q hq hd => ?_⟩
 ·rcases hb with h | h
  ·exact hSv b h
  ·exact fun e => (hv b e).1 h
 ·have := hD b hb; omega
 ·rcases hv' q hq with h | h
  ·exact (hv q h).1 hd
  ·have := hD q hd; omega
theorem exp_step4 {S D : Nat → Prop} {base b h : Nat} {w w1 : World} {v v' : Value} {ts : List Re} {rows : List (List Value)} {x : Re} {us : List Value}
  (hR : RowsIn (fun b => S b ∨ D b) w ts rows) (hS : ∀ b, S b → b < base) (hD : ∀ b, D b → base ≤ b ∧ b < w.heap.size) (hv : ∀ q, v.ownBlock = some q → ¬ D q ∧ base ≤ q)
  (hx : ReIn S w x us) (C : Chg (fun y => v.ownBlock = some y) w w1) (hv' : ∀ q, v'.ownBlock = some q → v.ownBlock = some q ∨ h ≤ q) (hvl : ∀ q, v.ownBlock = some q → q < w.heap.size) (hb : w.heap.size ≤ b) (hbh : b < h) (hB : Blk w1 b (altC us) TRe) (hbw : base ≤ w.heap.size) :
  RowsIn (fun y => S y ∨ (D y ∨ y = b)) w1 (ts ++ [.mk 4 [] [x, emptyR] 0 0 false]) (rows ++ [alt4 b]) ∧ (∀ y, (D y ∨ y = b) → base ≤ y ∧ y < w1.heap.size) ∧ (∀ q, v'.ownBlock = some q → ¬ (D q ∨ q = b)) := by
 have hs := C.size
 have hSv : ∀ b, S b → ¬ v.ownBlock = some b := fun b hb h => by have := (hv b h).2; have := hS b hb; omega
 have hus := ReIn.len hx
 have hcl : CellsAt w1 b 0 (us ++ emptyV) := hB.cells (by unfold altC; simp [List.take_of_length_le])
 have hc1 : CellsAt w1 b 0 us := fun i u hu => hcl i u (by rw [List.getElem?_append_left (lt_of_get hu)]; exact hu)
 have hc2 : CellsAt w1 b (0 + 6) emptyV := fun i u hu => by
  have h9 := hcl (6 + i) u (by rw [List.getElem?_append_right (by omega), hus]; rw [show 6 + i - 6 = i by omega]; exact hu)
  rw [show 0 + 6 + i = 0 + (6 + i) by omega]; exact h9
 have hx1 : ReIn (fun y => S y ∨ (D y ∨ y = b)) w1 x us := ReIn.mono (fun b hb => .inl hb) _ (ReIn.chg C hSv _ hx)
 refine ⟨RowsIn.append (RowsIn.single (ReIn.of (set := []) (args := [x, emptyR]) (sa := none) (sc := 0) (aa := some ⟨b, 0, none⟩) (ac := 2) (SlIn.nil _ _ _ _ _) (by simp) (.inr ⟨b, 0, .inr (.inr rfl), rfl, ResIn.two hc1 hx1 hc2 (re_empty _ _ 1)⟩))) (RowsIn.mono (fun y hy => hy.imp id .inl) (RowsIn.chg C (fun b hb => ?_) hR)), fun y hy => ?_, fun q hq hd => ?_⟩
 ·rcases hb with h | h
  ·exact hSv b h
  ·exact fun e => (hv b e).1 h
 ·rcases hy with hy | hy
  ·have := hD y hy; omega
  ·subst hy; exact ⟨by omega, hB.lt⟩
 ·rcases hv' q hq with h1 | h1
  ·rcases hd with hd | hd
   ·exact (hv q h1).1 hd
   ·subst hd; have := hvl q h1; omega
  ·rcases hd with hd | hd
   ·have := hD q hd; omega
   ·omega
theorem kids1 {α : Type} {l : List α} (h : l.length = 1) : ∃ y, l = [y] := by
  match l, h with
  | [y], _ => exact ⟨y, rfl⟩
def ExpOk (x : Re) : Prop := ∀ (w0 : World) (vs : List Value) (S : Nat → Prop), ReIn S w0 x vs → (∀ b, S b → b < w0.heap.size) → x.size ≤ 1000000 → okRe x → Ret Try.prog 42 #[.agg vs.toArray] w0 fun v w => ∃ us, v = .agg us.toArray ∧ ReIn (fun b => S b ∨ w0.heap.size ≤ b) w (expT x) us ∧ Ext w0 w
theorem exp9_c (x : Re) (hk : x.kind = 9) (ha : x.args.length = 1) (hof : ∀ y ∈ x.args, ExpOk y) : ExpOk x := by
 intro w0 vs S hxt hS hsz hok
 obtain ⟨y, hy⟩ := kids1 ha
 have hxt0 := hxt
 obtain ⟨sa, sc, aa, ac, rfl, hset, hac, hargs⟩ := hxt.form
 have hy0 : x.args[0]? = some y := by rw [hy]; rfl
 obtain ⟨ab, ao, hSab, rfl, hxr⟩ := hargs.resolve_left (fun h => by rw [h] at hy0; simp at hy0)
 obtain ⟨us, hus, hyt⟩ := ResIn.get hxr hy0
 have hyt0 := hyt
 obtain ⟨ysa, ysc, yaa, yac, rfl, _, _, _⟩ := hyt.form
 have hys := Re.size_arg hy0
 have hyo := okRes_get (okRe_args hok) hy0
 have he : expT x = expT y := by rw [expT_eq, expE, if_pos hk, hy]; rfl
 rw [he]
 refine Ret_of Try.func42 rfl Try.ntmps42 (Nat.le_of_ble_eq_true rfl) ?_
 have E : Chg none1 w0 w0 := Chg.refl _ _
 refine Wp_seq_region ?_
 refine s_box (v := (.agg (R6 x sa sc (some ⟨ab, ao, none⟩) ac))) (c := (R6 x sa sc (some ⟨ab, ao, none⟩) ac)) (by decide) rfl rfl ?_
 intro br wr Nr
 have Fr := Nr.ge E
 replace E := E.ext Nr.ext
 have Br := Nr.blk
 refine s_alloc (c := #[(I6 0), (.slice none 0 0), (.slice none 0 0), (I6 0), (I6 0), (.bool false)]) (by decide) zer25 rfl ?_
 intro bo wo No
 have Fo := No.ge E
 have Oo_br := No.lt Br
 replace Br := No.keep Br
 replace E := E.ext No.ext
 have Bo := No.blk
 refine WpL_nil (Wp_seq (Wp_seq_region ?_))
 refine qF br 0 0 rfl Try.underlying25 rfl siz3 rfl ?_
 refine qV (r_load rfl flat3 (Br.cell rfl)) ?_
 refine qV (r_eql rfl rfl) ?_
 refine WpL_nil ?_
 have hc1 : (decide ((x.kind : Int) = 9)) = true := decide_eq_true hk
 refine Wp_cond_true (congrArg Value.bool hc1) ?_
 refine Wp_seq_region ?_
 refine qF br 0 2 rfl Try.underlying25 rfl siz23 rfl ?_
 refine qV (r_load rfl flat23 (Br.cell rfl)) ?_
 refine qV (r_indexSlice (b := ab) (o := ao) (len := x.args.length) (cap := ac) (i := 0) (o' := ao + 0 * 6) rfl rfl rfl Try.underlying23 siz25 (by omega) (by omega)) ?_
 refine qV (r_loadAgg rfl agg25 siz25 rfl (hus.ext E)) ?_
 have hbo9 : bo < (wo).heap.size := Bo.lt
 have hw9 : w0.heap.size ≤ (wo).heap.size := E.size
 refine WpL_enter rfl rfl (by decide) (r_callF Try.func42 kQ kQ rfl) (hof y (List.mem_of_getElem? hy0) _ _ S (ReIn.ext E y hyt0) (fun b hb => by have := hS b hb; have := E.size; omega) (by omega) hyo) ?_
 rintro _ w9 ⟨zs, rfl, hz, X9⟩
 replace Br := X9.keep Br
 replace Bo := X9.keep Bo
 replace E := E.ext X9
 have hz0 := ReIn.lt _ (ReIn.mono (S' := fun b => (S b ∨ w0.heap.size ≤ b) ∧ b ≠ bo) (fun b hb => by rcases hb with h | h; exact ⟨.inl h, by have := hS b h; omega⟩; exact ⟨.inr (by omega), by omega⟩) _ hz)
 obtain ⟨zsa, zsc, zaa, zac, rfl, _, _, _⟩ := hz.form
 have hC9 : Chg (fun y => y = bo) (w9) (w9) := Chg.refl _ _
 refine s_storeAgg (b := bo) (o := 0) (c' := #[(I6 ((expT y).kind)), (.slice zsa ((expT y).set.length) zsc), (.slice zaa ((expT y).args.length) zac), (I6 ((expT y).mn)), (I6 ((expT y).mx)), (.bool ((expT y).neg))]) rfl rfl (by simp [Value.oneCell']) siz25 rfl Bo (by first | (simp; done) | exact Nat.le_of_ble_eq_true rfl) rfl ?_
 intro w2 S2
 replace hC9 := hC9.step S2.chg (fun y _ h => h)
 replace Br := S2.keep (by omega) Br
 replace E := S2.step E (by first | exact Or.inl (by omega) | exact Or.inr rfl | exact Or.inr (by assumption) | exact Or.inr (by simp) | exact Or.inr (by omega) | exact Or.inr (by dsimp only; omega))
 replace Bo := S2.blk
 refine WpL_nil (Wp_ret (thn_ret ?_))
 refine fin_agg Try.results42 (vs := [(.int .i64 ((expT y).kind)), (.slice zsa ((expT y).set.length) zsc), (.slice zaa ((expT y).args.length) zac), (.int .i64 ((expT y).mn)), (.int .i64 ((expT y).mx)), (.bool ((expT y).neg))]) (b := bo) rfl agg25 siz25 rfl (Bo.cells rfl) ?_
 exact ⟨_, rfl, ReIn.mono (fun b hb => hb.1.1) _ (ReIn.chg hC9 (fun b hb h => hb.1.2 h) _ hz0), E⟩
theorem exp0_c (x : Re) (hk : x.kind ≠ 9 ∧ x.kind ≠ 6) (hof : ∀ y ∈ x.args, ExpOk y) : ExpOk x := by
 intro w0 vs S hxt hS hsz hok
 have hxt0 := hxt
 obtain ⟨sa, sc, aa, ac, rfl, hset, hac, hargs⟩ := hxt.form
 have he : expT x = .mk x.kind x.set (x.args.map expT) x.mn x.mx x.neg := by rw [expT_eq, expE, if_neg hk.1, if_neg hk.2]
 obtain ⟨N, hN⟩ : ∃ N, N = expT x := ⟨_, rfl⟩
 rw [he] at hN
 rw [he, ← hN]
 refine Ret_of Try.func42 rfl Try.ntmps42 (Nat.le_of_ble_eq_true rfl) ?_
 have E : Chg none1 w0 w0 := Chg.refl _ _
 refine Wp_seq_region ?_
 refine s_box (v := (.agg (R6 x sa sc aa ac))) (c := (R6 x sa sc aa ac)) (by decide) rfl rfl ?_
 intro br wr Nr
 have Fr := Nr.ge E
 replace E := E.ext Nr.ext
 have Br := Nr.blk
 refine s_alloc (c := #[(I6 0), (.slice none 0 0), (.slice none 0 0), (I6 0), (I6 0), (.bool false)]) (by decide) zer25 rfl ?_
 intro bo wo No
 have Fo := No.ge E
 have Oo_br := No.lt Br
 replace Br := No.keep Br
 replace E := E.ext No.ext
 have Bo := No.blk
 refine WpL_nil (Wp_seq (Wp_seq_region ?_))
 refine qF br 0 0 rfl Try.underlying25 rfl siz3 rfl ?_
 refine qV (r_load rfl flat3 (Br.cell rfl)) ?_
 refine qV (r_eql rfl rfl) ?_
 refine WpL_nil ?_
 have hc1 : (decide ((x.kind : Int) = 9)) = false := decide_eq_false (by omega)
 refine Wp_cond_false (congrArg Value.bool hc1) ?_
 refine Wp_skip (thn_normal (Wp_seq (Wp_seq_region ?_)))
 refine qF br 0 0 rfl Try.underlying25 rfl siz3 rfl ?_
 refine qV (r_load rfl flat3 (Br.cell rfl)) ?_
 refine qV (r_neq rfl rfl) ?_
 refine WpL_nil ?_
 have hc2 : (decide ((x.kind : Int) ≠ 6)) = true := decide_eq_true hk.2
 refine Wp_cond_true (congrArg Value.bool hc2) ?_
 refine Wp_seq_region ?_
 refine qV (r_loadAgg (vs := [(I6 x.kind), (.slice sa x.set.length sc), (.slice aa x.args.length ac), (I6 x.mn), (I6 x.mx), (.bool x.neg)]) rfl agg25 siz25 rfl (Br.cells rfl)) ?_
 have hbo9 : bo < (wo).heap.size := Bo.lt
 have hw9 : w0.heap.size ≤ (wo).heap.size := E.size
 refine WpL_enter rfl rfl (by decide) (r_callF Try.func86 kQ kQ rfl) (mapped_c _ S x _ _ expT (ReIn.ext E x hxt0) (fun b hb => by have := hS b hb; have := E.size; omega) hsz (fun w y ys hE hy h => CallV.mk (first := #[]) (cap := #[]) Try.func42 kQ kQ rfl (hof y hy w ys S h (fun b hb => by have := hS b hb; have := E.size; have := hE.size; omega) (by obtain ⟨i, hi⟩ := List.mem_iff_getElem?.1 hy; have := Re.size_arg hi; omega) (by obtain ⟨i, hi⟩ := List.mem_iff_getElem?.1 hy; exact okRes_get (okRe_args hok) hi)))) ?_
 rintro _ w9 ⟨zs, rfl, hz, X9⟩
 replace Br := X9.keep Br
 replace Bo := X9.keep Bo
 replace E := E.ext X9
 rw [← hN] at hz
 have hz0 := ReIn.lt _ (ReIn.mono (S' := fun b => (S b ∨ w0.heap.size ≤ b) ∧ b ≠ bo) (fun b hb => by rcases hb with h | h; exact ⟨.inl h, by have := hS b h; omega⟩; exact ⟨.inr (by omega), by omega⟩) _ hz)
 obtain ⟨zsa, zsc, zaa, zac, rfl, _, _, _⟩ := hz.form
 have hC9 : Chg (fun y => y = bo) (w9) (w9) := Chg.refl _ _
 refine s_storeAgg (b := bo) (o := 0) (c' := (R6 N zsa zsc zaa zac)) rfl rfl (by simp [Value.oneCell']) siz25 rfl Bo (by first | (simp; done) | exact Nat.le_of_ble_eq_true rfl) rfl ?_
 intro w3 S3
 replace hC9 := hC9.step S3.chg (fun y _ h => h)
 replace Br := S3.keep (by omega) Br
 replace E := S3.step E (by first | exact Or.inl (by omega) | exact Or.inr rfl | exact Or.inr (by assumption) | exact Or.inr (by simp) | exact Or.inr (by omega) | exact Or.inr (by dsimp only; omega))
 replace Bo := S3.blk
 refine WpL_nil (Wp_ret (thn_ret ?_))
 refine fin_agg Try.results42 (vs := [(.int .i64 N.kind), (.slice zsa N.set.length zsc), (.slice zaa N.args.length zac), (.int .i64 N.mn), (.int .i64 N.mx), (.bool N.neg)]) (b := bo) rfl agg25 siz25 rfl (Bo.cells rfl) ?_
 exact ⟨_, rfl, ReIn.mono (fun b hb => hb.1.1) _ (ReIn.chg hC9 (fun b hb h => hb.1.2 h) _ hz0), E⟩
theorem D_grow {D : Nat → Prop} {z a b : Nat} (h : ∀ y, D y → z ≤ y ∧ y < a) (hab : a ≤ b) : ∀ y, D y → z ≤ y ∧ y < b := fun y hy => ⟨(h y hy).1, Nat.lt_of_lt_of_le (h y hy).2 hab⟩
theorem itE_yes {mn : Int} {b : Re} {j : Nat} (h : (j : Int) < mn) : itE mn b j = b := if_pos h
theorem itE_no {mn : Int} {b : Re} {j : Nat} (h : ¬ (j : Int) < mn) : itE mn b j = .mk 4 [] [b, emptyR] 0 0 false := if_neg h
theorem range_it (mn : Int) (b : Re) (k : Nat) : emptyR :: (List.range (k + 1)).map (itE mn b) = (emptyR :: (List.range k).map (itE mn b)) ++ [itE mn b k] := by
 rw [List.range_succ, List.map_append]; rfl
set_option maxHeartbeats 1000000 in
theorem exp6_c (x : Re) (hk : x.kind = 6) (ha : x.args.length = 1) (hof : ∀ y ∈ x.args, ExpOk y) : ExpOk x := by
 intro w0 vs S hxt hS hsz hok
 obtain ⟨y, hy⟩ := kids1 ha
 have hxt0 := hxt
 obtain ⟨sa, sc, aa, ac, rfl, hset, hac, hargs⟩ := hxt.form
 have hy0 : x.args[0]? = some y := by rw [hy]; rfl
 obtain ⟨ab, ao, hSab, rfl, hxr⟩ := hargs.resolve_left (fun h => by rw [h] at hy0; simp at hy0)
 obtain ⟨us, hus, hyt⟩ := ResIn.get hxr hy0
 have hyt0 := hyt
 obtain ⟨ysa, ysc, yaa, yac, rfl, _, _, _⟩ := hyt.form
 have hys := Re.size_arg hy0
 have hyo := okRes_get (okRe_args hok) hy0
 have hrep := okRe_rep hok hk
 obtain ⟨mx, hmx⟩ : ∃ m : Nat, x.mx = (m : Int) := ⟨x.mx.toNat, by omega⟩
 have he : expT x = .mk 3 [] (emptyR :: (List.range mx).map (itE x.mn (expT y))) 0 0 false := by rw [expT_eq, expE, if_neg (by omega), if_pos hk, hy, hmx, Int.toNat_natCast]; rfl
 rw [he]
 obtain ⟨Y, hY⟩ : ∃ Y, Y = expT y := ⟨_, rfl⟩
 rw [← hY]
 refine Ret_of Try.func42 rfl Try.ntmps42 (Nat.le_of_ble_eq_true rfl) ?_
 have E : Chg none1 w0 w0 := Chg.refl _ _
 refine Wp_seq_region ?_
 refine s_box (v := (.agg (R6 x sa sc (some ⟨ab, ao, none⟩) ac))) (c := (R6 x sa sc (some ⟨ab, ao, none⟩) ac)) (by decide) rfl rfl ?_
 intro br wr Nr
 have Fr := Nr.ge E
 replace E := E.ext Nr.ext
 have Br := Nr.blk
 refine s_alloc (c := #[(I6 0), (.slice none 0 0), (.slice none 0 0), (I6 0), (I6 0), (.bool false)]) (by decide) zer25 rfl ?_
 intro bo wo No
 have Fo := No.ge E
 have Oo_br := No.lt Br
 replace Br := No.keep Br
 replace E := E.ext No.ext
 have Bo := No.blk
 refine WpL_nil (Wp_seq (Wp_seq_region ?_))
 refine qF br 0 0 rfl Try.underlying25 rfl siz3 rfl ?_
 refine qV (r_load rfl flat3 (Br.cell rfl)) ?_
 refine qV (r_eql rfl rfl) ?_
 refine WpL_nil ?_
 have hc1 : (decide ((x.kind : Int) = 9)) = false := decide_eq_false (by omega)
 refine Wp_cond_false (congrArg Value.bool hc1) ?_
 refine Wp_skip (thn_normal (Wp_seq (Wp_seq_region ?_)))
 refine qF br 0 0 rfl Try.underlying25 rfl siz3 rfl ?_
 refine qV (r_load rfl flat3 (Br.cell rfl)) ?_
 refine qV (r_neq rfl rfl) ?_
 refine WpL_nil ?_
 have hc2 : (decide ((x.kind : Int) ≠ 6)) = false := decide_eq_false (by omega)
 refine Wp_cond_false (congrArg Value.bool hc2) ?_
 refine Wp_skip (thn_normal (Wp_seq_region ?_))
 refine qF br 0 2 rfl Try.underlying25 rfl siz23 rfl ?_
 refine qV (r_load rfl flat23 (Br.cell rfl)) ?_
 refine qV (r_indexSlice (b := ab) (o := ao) (len := x.args.length) (cap := ac) (i := 0) (o' := ao + 0 * 6) rfl rfl rfl Try.underlying23 siz25 (by omega) (by omega)) ?_
 refine qV (r_loadAgg rfl agg25 siz25 rfl (hus.ext E)) ?_
 obtain ⟨n1, hn1⟩ : ∃ n1, n1 = (wo).heap.size := ⟨_, rfl⟩
 have hbo9 : bo < n1 ∧ br < n1 ∧ w0.heap.size ≤ n1 ∧ w0.heap.size ≤ bo := ⟨by rw [hn1]; exact Bo.lt, by rw [hn1]; exact Br.lt, by rw [hn1]; exact E.size, by omega⟩
 refine WpL_enter rfl rfl (by decide) (r_callF Try.func42 kQ kQ rfl) (hof y (List.mem_of_getElem? hy0) _ _ S (ReIn.ext E y hyt0) (fun b hb => by have := hS b hb; have := E.size; omega) (by omega) hyo) ?_
 rintro _ w9 ⟨zs, rfl, hz, X9⟩
 replace Br := X9.keep Br
 replace Bo := X9.keep Bo
 replace E := E.ext X9
 rw [← hY, ← hn1] at hz
 have hz0 := ReIn.lt _ hz
 obtain ⟨n2, hn2⟩ : ∃ n2, n2 = w9.heap.size := ⟨_, rfl⟩
 rw [← hn2] at hz0
 have h12 : n1 ≤ n2 := by have := X9.size; omega
 obtain ⟨zsa, zsc, zaa, zac, rfl, _, _, _⟩ := hz.form
 refine s_allocStore (v := (.agg (R6 Y zsa zsc zaa zac))) (c := (R6 Y zsa zsc zaa zac)) (n := 6) (by decide) zer25 rfl siz25 rfl rfl rfl (by simp [Value.oneCell']) ?_
 intro be we Ne
 have Fe := Ne.ge E
 have Oe_br := Ne.lt Br
 have Oe_bo := Ne.lt Bo
 replace Br := Ne.keep Br
 replace Bo := Ne.keep Bo
 replace hz0 := ReIn.ext Ne.ext _ hz0
 replace E := E.ext Ne.ext
 have Be := Ne.blk
 refine WpL_nil (Wp_seq_region ?_)
 refine WpL_enter rfl rfl (by decide) (r_callF Try.func88 kQ kQ rfl) (rempty_c _) ?_
 rintro _ w19 ⟨rfl, X19⟩
 replace Br := X19.keep Br
 replace Bo := X19.keep Bo
 replace Be := X19.keep Be
 replace hz0 := ReIn.ext X19 _ hz0
 replace E := E.ext X19
 obtain ⟨z0, hz9⟩ : ∃ z0, z0 = (w19).heap.size := ⟨_, rfl⟩
 have hbz0 : be < z0 := by rw [hz9]; exact Be.lt
 have hbz : n2 ≤ be ∧ n2 ≤ z0 := by have := Ne.eq; omega
 refine s_buildSlice (ps := [(0, (.agg #[(I6 1), (.slice none 0 0), (.slice none 0 0), (I6 0), (I6 0), (.bool false)]))]) (c := #[(I6 1), (.slice none 0 0), (.slice none 0 0), (I6 0), (I6 0), (.bool false)]) (by decide) rfl Try.underlying23 siz25 zer25 (by decide) (by decide) (by kernel_rfl) ?_
 intro bl wl Nl
 have Fl := Nl.ge E
 have Ol_br := Nl.lt Br
 have Ol_bo := Nl.lt Bo
 have Ol_be := Nl.lt Be
 replace Br := Nl.keep Br
 replace Bo := Nl.keep Bo
 replace Be := Nl.keep Be
 replace hz0 := ReIn.ext Nl.ext _ hz0
 replace E := E.ext Nl.ext
 have Bl := Nl.blk
 refine qV (r_build (ps := [(0, (I6 3)), (2, (.slice (some ⟨bl, 0, none⟩) 1 1))]) (v := (.agg #[(I6 3), (.slice none 0 0), (.slice (some ⟨bl, 0, none⟩) 1 1), (I6 0), (I6 0), (.bool false)])) rfl (by kernel_rfl)) ?_
 refine s_allocStore (v := (.agg #[(I6 3), (.slice none 0 0), (.slice (some ⟨bl, 0, none⟩) 1 1), (I6 0), (I6 0), (.bool false)])) (c := #[(I6 3), (.slice none 0 0), (.slice (some ⟨bl, 0, none⟩) 1 1), (I6 0), (I6 0), (.bool false)]) (n := 6) (by decide) zer25 rfl siz25 rfl rfl rfl (by simp [Value.oneCell']) ?_
 intro bc wc Nc
 have Fc := Nc.ge E
 have Oc_br := Nc.lt Br
 have Oc_bo := Nc.lt Bo
 have Oc_be := Nc.lt Be
 have Oc_bl := Nc.lt Bl
 replace Br := Nc.keep Br
 replace Bo := Nc.keep Bo
 replace Be := Nc.keep Be
 replace Bl := Nc.keep Bl
 replace hz0 := ReIn.ext Nc.ext _ hz0
 replace E := E.ext Nc.ext
 have Bc := Nc.blk
 refine WpL_nil (Wp_seq (Wp_seq_region ?_))
 refine qF br 0 4 rfl Try.underlying25 rfl siz3 rfl ?_
 refine qV (r_load rfl flat3 (Br.cell rfl)) ?_
 refine qM _ rfl ?_
 refine WpL_nil (Wp_block ?_)
 have hS1 : ∀ b, ((S b ∨ n1 ≤ b) ∧ b < n2) → b < z0 := fun b hb => by have := hb.2; omega
 have hown0 : (wc).ownsRow z0 TRe 6 (.slice (some ⟨bl, 0, none⟩) 1 1) 1 [emptyV].flatten := ⟨rfl, .inr ⟨bl, 1, _, rfl, by have := Nl.eq; omega, Bl, Nat.le_refl _, by decide, rfl, rfl⟩⟩
 have hR0 : RowsIn (fun b => ((S b ∨ n1 ≤ b) ∧ b < n2) ∨ False) (wc) (emptyR :: (List.range 0).map (itE x.mn Y)) [emptyV] := RowsIn.single (re_empty _ _ 1)
 have hcl : bl < bc ∧ z0 ≤ (wc).heap.size := ⟨by have := Nc.eq; have := Nl.size; have := Nl.eq; omega, by have := Nl.eq; have := Bl.lt; omega⟩
 refine Wp_loop (fun nn_ σ W3 => ∃ (k : Nat) (la : Option Addr) (lc : Nat) (rows : List (List Value)) (D : Nat → Prop), (∃ jj_, σ = upds jj_ [(1, (P6 br 0)), (2, (P6 bo 0)), (3, (P6 be 0)), (4, (P6 bc 0)), (28, (I6 x.mx)), (29, (I6 (k : Int)))]) ∧ Chg none1 w0 W3 ∧ Blk W3 br (R6 x sa sc (some ⟨ab, ao, none⟩) ac) 25 ∧ Blk W3 bo #[(I6 0), (.slice none 0 0), (.slice none 0 0), (I6 0), (I6 0), (.bool false)] 25 ∧ Blk W3 be (R6 Y zsa zsc zaa zac) 25 ∧ Blk W3 bc (#[Value.int .i64 3, .slice none 0 0, .slice la (k + 1) lc, .int .i64 0, .int .i64 0, .bool false]) 25 ∧ (k ≤ mx) ∧ (W3.ownsRow z0 TRe 6 (.slice la (k + 1) lc) (k + 1) rows.flatten) ∧ (RowsIn (fun b => ((S b ∨ n1 ≤ b) ∧ b < n2) ∨ D b) W3 (emptyR :: (List.range k).map (itE x.mn Y)) rows) ∧ (∀ b, D b → z0 ≤ b ∧ b < W3.heap.size) ∧ (∀ q, (Value.slice la (k + 1) lc).ownBlock = some q → ¬ D q ∧ q ≠ bc) ∧ (¬ D bc) ∧ (z0 ≤ W3.heap.size) ∧ (ReIn (fun b => (S b ∨ n1 ≤ b) ∧ b < n2) W3 Y [.int .i64 Y.kind, .slice zsa Y.set.length zsc, .slice zaa Y.args.length zac, .int .i64 Y.mn, .int .i64 Y.mx, .bool Y.neg]) ∧ nn_ = mx - k) (n := mx - 0) ?_ ?_
 ·exact ⟨0, some ⟨bl, 0, none⟩, 1, [emptyV], (fun _ => False), Fits.out ⟨rfl, rfl, rfl, rfl, rfl, rfl, trivial⟩, E, Br, Bo, Be, Bc, Nat.zero_le _, hown0, hR0, (fun b f => f.elim), (fun q hq => ⟨fun f => f, by simp [Value.ownBlock] at hq; omega⟩), (fun f => f), hcl.2, hz0, rfl⟩
 ·clear E Br Bo Be Bc
  rintro _ _ W3 ⟨k, la, lc, rows, D, ⟨j3, rfl⟩, E, Br, Bo, Be, Bc, hk1, hown, hR, hD, hv, hDc, hzs, hZ, rfl⟩
  refine Wp_seq_region ?_
  refine qV (r_lss rfl rfl) ?_
  refine WpL_nil (Wp_seq ?_)
  refine Wp_cond rfl (fun hlt => ?_) (fun hlt => ?_)
  ·have khlt := hlt
   replace hlt := of_decide_eq_true hlt
   have hlt3 := hown.lt
   have hbcl := Bc.lt
   refine Wp_skip (thn_normal (Wp_seq (Wp_block (Wp_seq_region ?_))))
   refine qM _ rfl ?_
   refine qA _ rfl ?_
   refine WpL_nil (Wp_seq_region ?_)
   refine qM _ rfl ?_
   refine qF br 0 3 rfl Try.underlying25 rfl siz3 rfl ?_
   refine qV (r_load rfl flat3 (Br.cell rfl)) ?_
   refine qV (r_lss rfl rfl) ?_
   refine WpL_nil ?_
   refine Wp_cond rfl (fun hmn => ?_) (fun hmn => ?_)
   ·have khmn := hmn
    replace hmn := of_decide_eq_true hmn
    refine Wp_region ?_
    refine qF bc 0 2 rfl Try.underlying25 rfl siz23 rfl ?_
    refine qV (r_load rfl flat23 (Bc.cell rfl)) ?_
    refine qV (r_loadAgg (vs := [(I6 Y.kind), (.slice zsa Y.set.length zsc), (.slice zaa Y.args.length zac), (I6 Y.mn), (I6 Y.mx), (.bool Y.neg)]) rfl agg25 siz25 rfl (Be.cells rfl)) ?_
    refine s_buildSlice (ps := [(0, (.agg (R6 Y zsa zsc zaa zac)))]) (c := (R6 Y zsa zsc zaa zac)) (by decide) rfl Try.underlying23 siz25 zer25 (by decide) (by decide) (by kernel_rfl) ?_
    intro bq wq Nq
    have Fq := Nq.ge E
    have Oq_br := Nq.lt Br
    have Oq_bo := Nq.lt Bo
    have Oq_be := Nq.lt Be
    have Oq_bc := Nq.lt Bc
    replace Br := Nq.keep Br
    replace Bo := Nq.keep Bo
    replace Be := Nq.keep Be
    replace Bc := Nq.keep Bc
    replace hown := own_ext hown Nq.ext
    replace hR := RowsIn.ext Nq.ext hR
    replace hzs := Nat.le_trans hzs Nq.ext.size
    replace hZ := ReIn.ext Nq.ext _ hZ
    replace E := E.ext Nq.ext
    have Bq := Nq.blk
    have hDw : ∀ b, D b → z0 ≤ b ∧ b < (wq).heap.size := fun b hb => by have := hD b hb; have := Nq.ext.size; omega
    refine s_append (base := z0) (n := (k + 1)) (m := 1) (xs := rows.flatten) (news := [(I6 Y.kind), (.slice zsa Y.set.length zsc), (.slice zaa Y.args.length zac), (I6 Y.mn), (I6 Y.mx), (.bool Y.neg)]) (size := 6) (bytes := 80) (v := (.slice la (k + 1) lc)) (by decide) Try.underlying23 siz25 byt25 zer25 rfl (by decide) rfl hown rfl (rfl) (Bq.cells rfl) (by simp [Value.oneCell']) (by unfold maxLen; omega) (by omega) (hzs) ?_
    intro v7 w59 Ov7 Cv7 Dv7
    replace Br := Cv7.keep (fun h => by have := (hown.lt _ h).1; omega) Br
    replace Bo := Cv7.keep (fun h => by have := (hown.lt _ h).1; omega) Bo
    replace Be := Cv7.keep (fun h => by have := (hown.lt _ h).1; omega) Be
    replace Bc := Cv7.keep (fun h => (hv _ h).2 rfl) Bc
    replace E := E.step Cv7 (fun x hx h => absurd (hown.lt x h).1 (by omega))
    obtain ⟨la2, lc2, rfl⟩ := own_form Ov7
    have hst := exp_step (base := z0) hR hS1 hDw (fun q hq => ⟨(hv q hq).1, (hown.lt q hq).1⟩) hZ Cv7 rfl Dv7
    have hbc1 : ∀ q, (Value.slice la2 (k + 1 + 1) lc2).ownBlock = some q → q ≠ bc := fun q hq => by have := Nq.ext.size; rcases Dv7 q hq with h | h; exact (hv q h).2; omega
    have hZ7 := ReIn.chg Cv7 (fun b hb h => by have := (hown.lt b h).1; have := hS1 b hb; omega) _ hZ
    have hO7 := Ov7
    have hs7 := Nat.le_trans hzs Cv7.size
    have hR7 := hst.1
    have hD7 := hst.2.1
    refine qF bc 0 2 rfl Try.underlying25 rfl siz23 rfl ?_
    refine s_store (b := bc) (o := 2) (c' := #[(I6 3), (.slice none 0 0), (.slice la2 ((k + 1) + 1) lc2), (I6 0), (I6 0), (.bool false)]) (v := (.slice la2 ((k + 1) + 1) lc2)) rfl rfl rfl siz23 Bc (by simp) rfl ?_
    intro w6 S6
    replace hO7 := own_chg hO7 S6.chg fun q hq h => by have h' : q = bc := h; exact hbc1 q hq h'
    replace hZ7 := ReIn.chg S6.chg (fun b hb h => by have h' : b = bc := h; have := hS1 b hb; omega) _ hZ7
    replace hs7 := Nat.le_trans hs7 S6.chg.size
    replace hR7 := RowsIn.chg S6.chg (fun b hb h => by have h' : b = bc := h; rcases hb with hb | hb; have := hS1 b hb; omega; exact hDc (h' ▸ hb)) hR7
    replace hD7 := D_grow hD7 S6.chg.size
    replace Br := S6.keep (by omega) Br
    replace Bo := S6.keep (by omega) Bo
    replace Be := S6.keep (by omega) Be
    replace E := S6.step E (by first | exact Or.inl (by omega) | exact Or.inr rfl | exact Or.inr (by assumption) | exact Or.inr (by simp) | exact Or.inr (by omega) | exact Or.inr (by dsimp only; omega))
    replace Bc := S6.blk
    refine WpL_nil (inB_normal (thn_normal (Wp_region ?_)))
    refine qV (r_add rfl rfl (wI64 (by omega))) ?_
    refine qM _ rfl ?_
    refine WpL_nil (thn_normal ?_)
    exact ⟨mx - (k + 1), by omega, k + 1, la2, lc2, rows ++ [[.int .i64 Y.kind, .slice zsa Y.set.length zsc, .slice zaa Y.args.length zac, .int .i64 Y.mn, .int .i64 Y.mx, .bool Y.neg]], D, Fits.out ⟨rfl, rfl, rfl, rfl, rfl, rfl, trivial⟩, E, Br, Bo, Be, Bc, (by omega), (by simpa using hO7), (by rw [range_it, itE_yes hmn]; exact hR7), hD7, (fun q hq => ⟨hst.2.2 q hq, hbc1 q hq⟩), hDc, hs7, hZ7, rfl⟩
   ·have khmn := hmn
    replace hmn := of_decide_eq_false hmn
    obtain ⟨z1, hz1⟩ : ∃ z1, z1 = (W3).heap.size := ⟨_, rfl⟩
    have hz_7 : w0.heap.size ≤ W3.heap.size := E.size
    have lz_7_br : br < W3.heap.size := Br.lt
    have lz_7_bo : bo < W3.heap.size := Bo.lt
    have lz_7_be : be < W3.heap.size := Be.lt
    have lz_7_bc : bc < W3.heap.size := Bc.lt
    obtain ⟨Fs7, hFs7⟩ : ∃ Fs : List FctS, Fs = [(eF (P6 bc 2)), (eF (.slice la (k + 1) lc)), (eF (.agg (R6 Y zsa zsc zaa zac))), (eF (.agg #[(I6 1), (.slice none 0 0), (.slice none 0 0), (I6 0), (I6 0), (.bool false)])), (fun _ _ => l2F [.int .i64 Y.kind, .slice zsa Y.set.length zsc, .slice zaa Y.args.length zac, .int .i64 Y.mn, .int .i64 Y.mx, .bool Y.neg] z1), (fun _ _ => n4F [.int .i64 Y.kind, .slice zsa Y.set.length zsc, .slice zaa Y.args.length zac, .int .i64 Y.mn, .int .i64 Y.mx, .bool Y.neg] z1), (fun _ _ => l4F [.int .i64 Y.kind, .slice zsa Y.set.length zsc, .slice zaa Y.args.length zac, .int .i64 Y.mn, .int .i64 Y.mx, .bool Y.neg] z1), (fun _ _ => a4F z0 (k + 1) rows.flatten (.slice la (k + 1) lc) [.int .i64 Y.kind, .slice zsa Y.set.length zsc, .slice zaa Y.args.length zac, .int .i64 Y.mn, .int .i64 Y.mx, .bool Y.neg] z1), (eF undef), (eF undef)] := ⟨_, rfl⟩
    refine Wp_dagS (MsL [(7, (fun q => (Value.slice la (k + 1) lc).ownBlock = some q))]) [true, true, true, true, true, true, true, true, false, false] [8, 9] [42, 43, 44, 45, 46, 47, 48, 49, 61, 62] [[], [0], [], [], [2, 3], [4], [5], [1, 3, 6], [], []] [[], [0], [], [], [2, 3], [4, 2, 3], [5, 4, 2, 3], [1, 0, 3, 6, 5, 4, 2], [], []] Fs7 hFs7 (by kernel_rfl) mixed (by kernel_rfl) (by kernel_rfl) (by kernel_rfl) (by kernel_rfl) ?_ ?_
    ·intro wd X0
     refine qZ (fun S s' w' hi hN X U V H => ?_) ?_
     ·replace X := xN1 (hN 7 rfl) X
      exact DoesT_pure (r_fieldAddr (U 4 rfl) Try.underlying25 rfl siz23 rfl) rfl
     refine qZ (fun S s' w' hi hN X U V H => ?_) ?_
     ·replace X := xN1 (hN 7 rfl) X
      have e42 := (H 0 rfl).2 42 _ rfl (by rw [hFs7]; rfl)
      exact DoesT_pure (r_load e42 flat23 (((X0.trans X).keep Bc).cell rfl)) rfl
     refine qZ (fun S s' w' hi hN X U V H => ?_) ?_
     ·replace X := xN1 (hN 7 rfl) X
      exact DoesT_pure (r_loadAgg (U 3 rfl) agg25 siz25 rfl (((X0.trans X).keep Be).cells rfl)) rfl
     refine qZ (fun S s' w' hi hN X U V H => ?_) ?_
     ·replace X := xN1 (hN 7 rfl) X
      exact DoesT_callE (r_callF Try.func88 kQ kQ rfl) (rempty_c _)
     refine DagStepsS.cons (StabS.chg (U := (fun y => (fun q => (Value.slice la (k + 1) lc).ownBlock = some q) y)) (l2F_chg (fun q h => by have := (hown.lt q h).2; omega)) (fun p y hp hw h => by
        rcases MsL_or h with ⟨rfl, h0⟩ | h0
        ·exact h0
        exact h0.elim)) (LocS.const) (fun S s' w' hi hN X U V H => Or.inl ⟨Guarded_none rfl, ?_⟩) ?_
     ·replace X := xN1 (hN 7 rfl) X
      have e44 := (H 2 rfl).2 44 _ rfl (by rw [hFs7]; rfl)
      have e45 := (H 3 rfl).2 45 _ rfl (by rw [hFs7]; rfl)
      exact DoesT_lit2c (R := l2F [.int .i64 Y.kind, .slice zsa Y.set.length zsc, .slice zaa Y.args.length zac, .int .i64 Y.mn, .int .i64 Y.mx, .bool Y.neg] z1) Try.underlying23 siz25 zer25 e44 e45 (by decide) (by decide) (by kernel_rfl) (fun b w9 h1 h2 => ⟨b, rfl, h1, by have := X0.size; have := X.size; omega⟩)
     refine DagStepsS.cons (StabS.chg (U := (fun y => (fun q => (Value.slice la (k + 1) lc).ownBlock = some q) y)) (n4F_chg (fun q h => by have := (hown.lt q h).2; omega)) (fun p y hp hw h => by
        rcases MsL_or h with ⟨rfl, h0⟩ | h0
        ·exact h0
        exact h0.elim)) (LocS.const) (fun S s' w' hi hN X U V H => Or.inl ⟨Guarded_none rfl, ?_⟩) ?_
     ·replace X := xN1 (hN 7 rfl) X
      obtain ⟨b46, e46, B46, g46⟩ := (show ((fun _ _ => l2F [.int .i64 Y.kind, .slice zsa Y.set.length zsc, .slice zaa Y.args.length zac, .int .i64 Y.mn, .int .i64 Y.mx, .bool Y.neg] z1) : FctS) S s' (s' 46) w' from (H 4 rfl).2 46 (fun _ _ => l2F [.int .i64 Y.kind, .slice zsa Y.set.length zsc, .slice zaa Y.args.length zac, .int .i64 Y.mn, .int .i64 Y.mx, .bool Y.neg] z1) rfl (by rw [hFs7]; rfl))
      exact DoesT_pure (r_build (ps := [(0, .int .i64 4), (2, .slice (some ⟨b46, 0, none⟩) 2 2)]) (v := .agg (alt4 b46).toArray) (bld2 rfl e46) (by kernel_rfl)) ⟨b46, rfl, B46, g46⟩
     refine DagStepsS.cons (StabS.chg (U := (fun y => (fun q => (Value.slice la (k + 1) lc).ownBlock = some q) y)) (l4F_chg (fun q h => by have := (hown.lt q h).2; omega)) (fun p y hp hw h => by
        rcases MsL_or h with ⟨rfl, h0⟩ | h0
        ·exact h0
        exact h0.elim)) (LocS.const) (fun S s' w' hi hN X U V H => Or.inl ⟨Guarded_none rfl, ?_⟩) ?_
     ·replace X := xN1 (hN 7 rfl) X
      obtain ⟨b47, e47, B47, g47⟩ := (show ((fun _ _ => n4F [.int .i64 Y.kind, .slice zsa Y.set.length zsc, .slice zaa Y.args.length zac, .int .i64 Y.mn, .int .i64 Y.mx, .bool Y.neg] z1) : FctS) S s' (s' 47) w' from (H 5 rfl).2 47 (fun _ _ => n4F [.int .i64 Y.kind, .slice zsa Y.set.length zsc, .slice zaa Y.args.length zac, .int .i64 Y.mn, .int .i64 Y.mx, .bool Y.neg] z1) rfl (by rw [hFs7]; rfl))
      exact DoesT_lit4 e47 B47 g47 (by have := X0.size; have := X.size; omega)
     refine DagStepsS.cons (StabS.chg (U := none1) (a4F_ext _ _ _ _ _ _) (fun p y hp hw h => by
        rcases MsL_or h with ⟨rfl, h0⟩ | h0
        ·exact absurd rfl hp
        exact h0.elim)) (LocS.const) (fun S s' w' hi hN X U V H => Or.inl ⟨Guarded_none rfl, ?_⟩) ?_
     ·replace X := xN1 hi X
      have e43 := (H 1 rfl).2 43 _ rfl (by rw [hFs7]; rfl)
      obtain ⟨q48, b48, e48, Q48, g48, B48, h48⟩ := (show ((fun _ _ => l4F [.int .i64 Y.kind, .slice zsa Y.set.length zsc, .slice zaa Y.args.length zac, .int .i64 Y.mn, .int .i64 Y.mx, .bool Y.neg] z1) : FctS) S s' (s' 48) w' from (H 6 rfl).2 48 (fun _ _ => l4F [.int .i64 Y.kind, .slice zsa Y.set.length zsc, .slice zaa Y.args.length zac, .int .i64 Y.mn, .int .i64 Y.mx, .bool Y.neg] z1) rfl (by rw [hFs7]; rfl))
      exact DoesT_app4 e43 (own_ext (own_ext hown X0) X) e48 Q48 B48 (by omega) (by have := X0.size; have := X.size; omega) (fun q h => .inl ⟨rfl, h⟩) (fun q h => by rcases h with h | h; exact (by have := (hown.lt q h.2).2; omega); exact h.elim) h48
     refine DagStepsS.tail (DagStepsS.tail ?_)
     exact DagStepsS.nil
    ·intro s' wd7 w7 X0 X7 U H
     replace X7 := X7.mono (M' := (fun y => (fun q => (Value.slice la (k + 1) lc).ownBlock = some q) y)) (fun y _ h => by
       obtain ⟨j, hj, h⟩ := h
       rcases MsL_or h with ⟨rfl, h0⟩ | h0
       ·exact h0
       exact h0.elim)
     obtain ⟨b49, h49, ⟨⟨u49, v49, e49⟩, O49, D49⟩, l49, g49, B49⟩ := (show ((fun _ _ => a4F z0 (k + 1) rows.flatten (.slice la (k + 1) lc) [.int .i64 Y.kind, .slice zsa Y.set.length zsc, .slice zaa Y.args.length zac, .int .i64 Y.mn, .int .i64 Y.mx, .bool Y.neg] z1) : FctS) (allS [true, true, true, true, true, true, true, true, false, false]) s' (s' 49) w7 from H 7 rfl 49 (fun _ _ => a4F z0 (k + 1) rows.flatten (.slice la (k + 1) lc) [.int .i64 Y.kind, .slice zsa Y.set.length zsc, .slice zaa Y.args.length zac, .int .i64 Y.mn, .int .i64 Y.mx, .bool Y.neg] z1) rfl (by rw [hFs7]; rfl))
     obtain ⟨j7, rfl⟩ := Fits.out (σ := s') (l := [(1, (.pointer (some ⟨br, 0, none⟩))), (2, (.pointer (some ⟨bo, 0, none⟩))), (3, (.pointer (some ⟨be, 0, none⟩))), (4, (.pointer (some ⟨bc, 0, none⟩))), (28, (.int .i64 x.mx)), (29, (.int .i64 ((k : Nat) : Int))), (49, (.slice u49 (k + 1 + 1) v49))]) ⟨U 1 rfl, U 2 rfl, U 3 rfl, U 4 rfl, U 28 rfl, U 29 rfl, e49, trivial⟩
     clear U H
     replace Br := Chg.keep X7 (fun h => by have := (hown.lt _ h).1; omega) (X0.keep Br)
     replace Bo := Chg.keep X7 (fun h => by have := (hown.lt _ h).1; omega) (X0.keep Bo)
     replace Be := Chg.keep X7 (fun h => by have := (hown.lt _ h).1; omega) (X0.keep Be)
     replace Bc := Chg.keep X7 (fun h => (hv _ h).2 rfl) (X0.keep Bc)
     have hXm := Chg.trans (Ext.chg X0) X7
     replace E := (E.ext X0).step X7 (fun q hq h => by have := (hown.lt q h).1; omega)
     rw [e49] at O49 D49
     have hst4 := exp_step4 (base := z0) hR hS1 hD (fun q hq => ⟨(hv q hq).1, (hown.lt q hq).1⟩) hZ hXm D49 (fun q hq => (hown.lt q hq).2) (by omega) l49 B49 hzs
     have hbc1 : ∀ q, (Value.slice u49 (k + 1 + 1) v49).ownBlock = some q → q ≠ bc := fun q hq => by rcases D49 q hq with h | h; exact (hv q h).2; omega
     have hZ7 := ReIn.chg hXm (fun b hb h => by have := (hown.lt b h).1; have := hS1 b hb; omega) _ hZ
     have hO7 := O49
     have hs7 := Nat.le_trans hzs hXm.size
     have hR7 := hst4.1
     have hD7 := hst4.2.1
     refine qF bc 0 2 rfl Try.underlying25 rfl siz23 rfl ?_
     refine s_store (b := bc) (o := 2) (c' := #[(I6 3), (.slice none 0 0), (.slice u49 (k + 1 + 1) v49), (I6 0), (I6 0), (.bool false)]) (v := (.slice u49 (k + 1 + 1) v49)) rfl rfl rfl siz23 Bc (by simp) rfl ?_
     intro w8 S8
     replace hO7 := own_chg hO7 S8.chg fun q hq h => by have h' : q = bc := h; exact hbc1 q hq h'
     replace hZ7 := ReIn.chg S8.chg (fun b hb h => by have h' : b = bc := h; have := hS1 b hb; omega) _ hZ7
     replace hs7 := Nat.le_trans hs7 S8.chg.size
     replace hR7 := RowsIn.chg S8.chg (fun b hb h => by have h' : b = bc := h; rcases hb with hb | hb | hb; have := hS1 b hb; omega; exact hDc (h' ▸ hb); omega) hR7
     replace hD7 := D_grow hD7 S8.chg.size
     replace Br := S8.keep (by omega) Br
     replace Bo := S8.keep (by omega) Bo
     replace Be := S8.keep (by omega) Be
     replace E := S8.step E (by first | exact Or.inl (by omega) | exact Or.inr rfl | exact Or.inr (by assumption) | exact Or.inr (by simp) | exact Or.inr (by omega) | exact Or.inr (by dsimp only; omega))
     replace Bc := S8.blk
     refine WpL_nil (inB_normal (thn_normal (Wp_region ?_)))
     refine qV (r_add rfl rfl (wI64 (by omega))) ?_
     refine qM _ rfl ?_
     refine WpL_nil (thn_normal ?_)
     exact ⟨mx - (k + 1), by omega, k + 1, u49, v49, rows ++ [alt4 b49], (fun y => D y ∨ y = b49), Fits.out ⟨rfl, rfl, rfl, rfl, rfl, rfl, trivial⟩, E, Br, Bo, Be, Bc, (by omega), (by simpa using hO7), (by rw [range_it, itE_no (by simpa using hmn)]; exact hR7), hD7, (fun q hq => ⟨hst4.2.2 q hq, hbc1 q hq⟩), (fun h => h.elim hDc fun h => by omega), hs7, hZ7, rfl⟩
  ·have khlt := hlt
   replace hlt := of_decide_eq_false hlt
   have hkk : k = mx := by omega
   subst hkk
   obtain ⟨hcl9, hcells⟩ := own_res hown hR (by simp)
   have hC9 : Chg (fun y => y = bo) (W3) (W3) := Chg.refl _ _
   refine Wp_exit (thn_exit (thn_exit (inB_here (thn_normal (Wp_seq_region ?_)))))
   refine qV (r_loadAgg (vs := [(I6 3), (.slice none 0 0), (.slice la (k + 1) lc), (I6 0), (I6 0), (.bool false)]) rfl agg25 siz25 rfl (Bc.cells rfl)) ?_
   refine s_storeAgg (b := bo) (o := 0) (c' := #[(I6 3), (.slice none 0 0), (.slice la (k + 1) lc), (I6 0), (I6 0), (.bool false)]) rfl rfl (by simp [Value.oneCell']) siz25 rfl Bo (by first | (simp; done) | exact Nat.le_of_ble_eq_true rfl) rfl ?_
   intro w9 S9
   replace hC9 := hC9.step S9.chg (fun y _ h => h)
   replace Br := S9.keep (by omega) Br
   replace Be := S9.keep (by omega) Be
   replace Bc := S9.keep (by omega) Bc
   replace E := S9.step E (by first | exact Or.inl (by omega) | exact Or.inr rfl | exact Or.inr (by assumption) | exact Or.inr (by simp) | exact Or.inr (by omega) | exact Or.inr (by dsimp only; omega))
   replace Bo := S9.blk
   refine WpL_nil (Wp_ret ?_)
   refine fin_agg Try.results42 (vs := [(.int .i64 3), (.slice none 0 0), (.slice la (k + 1) lc), (.int .i64 0), (.int .i64 0), (.bool false)]) (b := bo) rfl agg25 siz25 rfl (Bo.cells rfl) ?_
   refine ⟨_, rfl, ?_, E⟩
   have hlm : (emptyR :: (List.range k).map (itE x.mn Y)).length = k + 1 := by simp
   refine ReIn.mono (S := fun y => ((S y ∨ n1 ≤ y) ∧ y < n2) ∨ z0 ≤ y) (fun y hy => by rcases hy with ⟨h | h, _⟩ | h; exact .inl h; exact .inr (by omega); exact .inr (by omega)) _ (ReIn.chg hC9 (fun y hy h => ?_) _ ?_)
   ·rcases hy with hy | hy
    ·rcases hy.1 with h1 | h1
     ·have := hS y h1; omega
     ·omega
    ·omega
   ·refine re_cong hlm (ReIn.of (set := []) (args := emptyR :: (List.range k).map (itE x.mn Y)) (SlIn.nil _ _ _ _ _) (by rw [hlm]; exact hcl9) ?_)
    rcases hcells with h | ⟨gb, h1, h2, h3, h4⟩
    ·cases h
    ·exact .inr ⟨gb, 0, .inr h1, h3, resin_of fun i u hu => by obtain ⟨us, h5, h6⟩ := h4 i u hu; exact ⟨us, h5, ReIn.mono (fun y hy => hy.imp id (fun h => (hD y h).1)) u h6⟩⟩
theorem expand_c : ∀ (n : Nat) (x : Re), x.size ≤ n → okRe x → ExpOk x := by
  intro n
  induction n with
  | zero => intro x h; have := x.size_pos; omega
  | succ n ih =>
  intro x hn hok
  have hN := node_inv (okRe_node hok)
  have hof : ∀ y ∈ x.args, ExpOk y := fun y hy => by
    obtain ⟨i, hi⟩ := List.getElem?_of_mem hy
    have h1 := Re.size_arg hi
    exact ih y (by omega) (okRes_get (okRe_args hok) hi)
  by_cases h9 : x.kind = 9
  · exact exp9_c x h9 (hN.one (by omega)) hof
  by_cases h6 : x.kind = 6
  · exact exp6_c x h6 (hN.one (by omega)) hof
  · exact exp0_c x ⟨h9, h6⟩ hof
end Go.Proofs
namespace Go.Proofs
open Go Go.Eng
set_option maxRecDepth 100000
def runN (h : Re → Nat → Re × Nat) : List Re → Nat → List Re × Nat
  | [], n => ([], n)
  | x :: l, n => ((h x n).1 :: (runN h l (h x n).2).1, (runN h l (h x n).2).2)
theorem runN_app (h : Re → Nat → Re × Nat) : ∀ (a b : List Re) (n : Nat), runN h (a ++ b) n = ((runN h a n).1 ++ (runN h b (runN h a n).2).1, (runN h b (runN h a n).2).2)
  | [], b, n => by simp [runN]
  | x :: a, b, n => by simp only [List.cons_append, runN, runN_app h a b]
theorem runN_succ (h : Re → Nat → Re × Nat) (n : Nat) {l : List Re} {k : Nat} {x : Re} (hx : l[k]? = some x) : runN h (l.take (k + 1)) n = ((runN h (l.take k) n).1 ++ [(h x (runN h (l.take k) n).2).1], (h x (runN h (l.take k) n).2).2) := by
 rw [List.take_add_one, hx, Option.toList_some, runN_app]; rfl
theorem runN_len (h : Re → Nat → Re × Nat) : ∀ (a : List Re) (n : Nat), (runN h a n).1.length = a.length
  | [], n => rfl
  | x :: a, n => by simp only [runN, List.length_cons, runN_len h a]
mutual
def numR : Re → Nat → Re × Nat
  | .mk k z a mn mx g, n => if k = 2 then (.mk k z a ((n + 1 : Nat) : Int) mx g, n + 1) else (.mk k z (numRs a n).1 mn mx g, (numRs a n).2)
def numRs : List Re → Nat → List Re × Nat
  | [], n => ([], n)
  | x :: l, n => ((numR x n).1 :: (numRs l (numR x n).2).1, (numRs l (numR x n).2).2)
end
theorem numRs_run : ∀ (l : List Re) (n : Nat), numRs l n = runN numR l n
  | [], n => rfl
  | x :: l, n => by rw [numRs, runN, numRs_run l]
theorem numR_two {x : Re} (h : x.kind = 2) (n : Nat) : numR x n = (.mk x.kind x.set x.args ((n + 1 : Nat) : Int) x.mx x.neg, n + 1) := by cases x; rw [numR]; exact if_pos h
theorem numR_no {x : Re} (h : x.kind ≠ 2) (n : Nat) : numR x n = (.mk x.kind x.set (runN numR x.args n).1 x.mn x.mx x.neg, (runN numR x.args n).2) := by cases x; rw [numR, numRs_run]; exact if_neg h
mutual
theorem numR_le : ∀ (x : Re) (n : Nat), (numR x n).2 ≤ n + x.size
  | .mk k z a mn mx g, n => by
    rw [numR]
    have h := numRs_le a n
    show _ ≤ n + (Re.sizes a + 1)
    split
    · show n + 1 ≤ _; omega
    · show (numRs a n).2 ≤ _; omega
theorem numRs_le : ∀ (l : List Re) (n : Nat), (numRs l n).2 ≤ n + Re.sizes l
  | [], n => Nat.le_refl _
  | x :: l, n => by
    rw [numRs]
    have h1 := numR_le x n
    have h2 := numRs_le l (numR x n).2
    show (numRs l (numR x n).2).2 ≤ n + (x.size + Re.sizes l)
    omega
end
theorem run_bd {l : List Re} {k n : Nat} {x : Re} (h : l[k]? = some x) : (runN numR (l.take k) n).2 + x.size ≤ n + Re.sizes l := by
 have h1 := numRs_le (l.take k) n
 rw [numRs_run] at h1
 have h2 : Re.sizes (l.take k) + x.size ≤ Re.sizes l := by
  have h3 : l = l.take k ++ l.drop k := (List.take_append_drop k l).symm
  have h4 : Re.sizes l = Re.sizes (l.take k) + Re.sizes (l.drop k) := by conv => lhs; rw [h3, Re.sizes_append]
  have h5 : x.size ≤ Re.sizes (l.drop k) := Re.sizes_get (i := 0) (by rw [List.getElem?_drop]; exact h)
  omega
 omega
theorem map_stepN {be : Nat} {S D : Nat → Prop} {base n1 : Nat} {w w1 w2 : World} {v v' : Value} {ts : List Re} {rows : List (List Value)} {x : Re} {us : List Value}
  (hR : RowsIn (fun b => S b ∨ D b) w ts rows) (hE : Chg (fun y => y = be) w w1) (hbe : ∀ b, S b ∨ D b → ¬ b = be) (hn1 : n1 = w.heap.size) (hS : ∀ b, S b → b < base) (hD : ∀ b, D b → base ≤ b ∧ b < w.heap.size) (hv : ∀ q, v.ownBlock = some q → ¬ D q ∧ (base ≤ q ∧ q < n1))
  (hx : ReIn (fun b => S b ∨ n1 ≤ b) w1 x us) (C : Chg (fun y => v.ownBlock = some y) w1 w2) (hv' : ∀ q, v'.ownBlock = some q → v.ownBlock = some q ∨ w1.heap.size ≤ q) (hb : base ≤ n1) :
  RowsIn (fun b => S b ∨ (D b ∨ (n1 ≤ b ∧ b < w1.heap.size))) w2 (ts ++ [x]) (rows ++ [us]) ∧ (∀ b, (D b ∨ (n1 ≤ b ∧ b < w1.heap.size)) → base ≤ b ∧ b < w2.heap.size) ∧ (∀ q, v'.ownBlock = some q → ¬ (D q ∨ (n1 ≤ q ∧ q < w1.heap.size))) := by
 have hs := C.size
 have hs1 := hE.size
 refine ⟨RowsIn.append (RowsIn.single ?_) ?_, ?_, ?_⟩
 ·refine ReIn.mono (S := fun b => (S b ∨ n1 ≤ b) ∧ b < w1.heap.size) ?_ _ (ReIn.chg C ?_ _ (ReIn.lt _ hx))
  ·rintro b ⟨h | h, h2⟩
   ·exact .inl h
   ·exact .inr (.inr ⟨h, h2⟩)
  ·rintro b ⟨h | h, h2⟩ hm
   ·have := (hv b hm).2; have := hS b h; omega
   ·have := (hv b hm).2; omega
 ·refine RowsIn.mono (S := fun b => S b ∨ D b) (fun b hb => hb.imp id .inl) (RowsIn.chg C ?_ (RowsIn.chg hE hbe hR))
  rintro b (h | h) hm
  ·have := (hv b hm).2; have := hS b h; omega
  ·exact (hv b hm).1 h
 ·rintro b (h | h)
  ·have := hD b h; omega
  ·omega
 ·intro q hq
  rcases hv' q hq with h | h
  ·rintro (h2 | h2)
   ·exact (hv q h).1 h2
   ·have := (hv q h).2; omega
  ·rintro (h2 | h2)
   ·have := hD q h2; omega
   ·omega
set_option maxHeartbeats 2000000 in
theorem mappedN_c (h : Re → Nat → Re × Nat) (Bd : Nat) (be : Nat) (w0 : World) (S : Nat → Prop) (t : Re) (vs : List Value) (fv : Value) (ht : ReIn S w0 t vs) (hS : ∀ b, S b → b < w0.heap.size) (hM : t.size ≤ 1000000) (e0 : Nat) (hbe : ¬ S be) (hBe : Blk w0 be #[.int .i64 ((e0 : Nat) : Int)] 3)
  (hbd : ∀ k x, t.args[k]? = some x → (runN h (t.args.take k) e0).2 + x.size ≤ Bd)
  (hf : ∀ (w : World) (x : Re) (xs : List Value) (e : Nat), e + x.size ≤ Bd → Chg (fun y => y = be) w0 w → x ∈ t.args → ReIn S w x xs → Blk w be #[.int .i64 ((e : Nat) : Int)] 3 → CallV Try.prog fv #[.agg xs.toArray] w fun r w' => ∃ us, r = .agg us.toArray ∧ ReIn (fun b => S b ∨ w.heap.size ≤ b) w' (h x e).1 us ∧ Chg (fun y => y = be) w w' ∧ Blk w' be #[.int .i64 (((h x e).2 : Nat) : Int)] 3) :
  Ret Try.prog 86 #[.agg vs.toArray, fv] w0 fun v w => ∃ us, v = .agg us.toArray ∧ ReIn (fun b => S b ∨ w0.heap.size ≤ b) w (.mk t.kind t.set (runN h t.args e0).1 t.mn t.mx t.neg) us ∧ Chg (fun y => y = be) w0 w ∧ Blk w be #[.int .i64 (((runN h t.args e0).2 : Nat) : Int)] 3 := by
 have ht0 := ht
 obtain ⟨sa, sc, aa, ac, rfl, hset, hac, hta⟩ := ht.form
 have hal := len_sizes t.args
 have hse := t.size_eq
 have hbl := hBe.lt
 refine Ret_of Try.func86 rfl Try.ntmps86 (Nat.le_of_ble_eq_true rfl) ?_
 have E : Chg (fun y => y = be) w0 w0 := Chg.refl _ _
 refine Wp_seq_region ?_
 refine s_box (v := (.agg (R6 t sa sc aa ac))) (c := (R6 t sa sc aa ac)) (by decide) rfl rfl ?_
 intro br wr Nr
 have Fr := Nr.ge E
 have Or_be := Nr.lt hBe
 replace hBe := Nr.keep hBe
 replace E := E.ext Nr.ext
 have Br := Nr.blk
 refine s_alloc (c := #[(I6 0), (.slice none 0 0), (.slice none 0 0), (I6 0), (I6 0), (.bool false)]) (by decide) zer25 rfl ?_
 intro bo wo No
 have Fo := No.ge E
 have Oo_be := No.lt hBe
 have Oo_br := No.lt Br
 replace hBe := No.keep hBe
 replace Br := No.keep Br
 replace E := E.ext No.ext
 have Bo := No.blk
 refine WpL_nil (Wp_seq_region ?_)
 refine qA _ rfl ?_
 refine WpL_nil (Wp_seq (Wp_seq_region ?_))
 refine qF br 0 2 rfl Try.underlying25 rfl siz23 rfl ?_
 refine qV (r_load rfl flat23 (Br.cell rfl)) ?_
 refine qV (r_lenSlice Try.underlying23 rfl) ?_
 refine qM _ rfl ?_
 refine WpL_nil (Wp_block ?_)
 obtain ⟨base, hbase⟩ : ∃ base, base = wo.heap.size := ⟨_, rfl⟩
 have hbo : bo < base := by rw [hbase]; exact Bo.lt
 have hbeb : be < base := by have := E.size; omega
 have hbr : br < base := by rw [hbase]; exact Br.lt
 have hSb : ∀ b, S b → b < base := fun b hb => by have := hS b hb; omega
 refine Wp_loop (fun nn_ σ W1 => ∃ (k : Nat) (la : Option Addr) (lc : Nat) (rows : List (List Value)) (D : Nat → Prop), (∃ jj_, σ = upds jj_ [(1, fv), (2, (P6 br 0)), (4, (P6 bo 0)), (9, (.slice aa t.args.length ac)), (10, (I6 (t.args.length : Int))), (11, (I6 (k : Int))), (5, (.slice la k lc))]) ∧ Chg (fun y => y = be) w0 W1 ∧ Blk W1 be (#[.int .i64 (((runN h (t.args.take k) e0).2 : Nat) : Int)]) 3 ∧ Blk W1 br (R6 t sa sc aa ac) 25 ∧ Blk W1 bo #[(I6 0), (.slice none 0 0), (.slice none 0 0), (I6 0), (I6 0), (.bool false)] 25 ∧ (k ≤ t.args.length) ∧ (W1.ownsRow base TRe 6 (.slice la k lc) k rows.flatten) ∧ (RowsIn (fun b => S b ∨ D b) W1 (runN h (t.args.take k) e0).1 rows) ∧ (∀ b, D b → base ≤ b ∧ b < W1.heap.size) ∧ (∀ q, (Value.slice la k lc).ownBlock = some q → ¬ D q) ∧ (base ≤ W1.heap.size) ∧ nn_ = t.args.length - k) (n := t.args.length - 0) ?_ ?_
 ·exact ⟨0, none, 0, [], (fun _ => False), Fits.out ⟨rfl, rfl, rfl, rfl, rfl, rfl, rfl, trivial⟩, E, hBe, Br, Bo, Nat.zero_le _, World.ownsRow_nil _ _ _ _, rfl, (fun b f => f.elim), (by simp [Value.ownBlock]), (by omega), rfl⟩
 ·clear E hBe Br Bo
  rintro _ _ W1 ⟨k, la, lc, rows, D, ⟨j1, rfl⟩, E, hBe, Br, Bo, hk, hown, hR, hD, hv, hbs, rfl⟩
  refine Wp_seq_region ?_
  refine qV (r_lss rfl rfl) ?_
  refine WpL_nil (Wp_seq ?_)
  refine Wp_cond rfl (fun hlt => ?_) (fun hlt => ?_)
  ·have khlt := hlt
   replace hlt := of_decide_eq_true hlt
   obtain ⟨x, hx⟩ := get_of_lt (l := t.args) (i := k) (by omega)
   obtain ⟨b, o, hSb1, rfl, hxr⟩ := hta.resolve_left (fun h => by rw [h] at hx; simp at hx)
   obtain ⟨xs, hcx, hrx⟩ := ResIn.get hxr hx
   have hrx0 := hrx
   obtain ⟨xsa, xsc, xaa, xac, rfl, _, _, _⟩ := hrx.form
   have hxm : x ∈ t.args := List.mem_of_getElem? hx
   obtain ⟨wk, hwk⟩ : ∃ wk, wk = (W1) := ⟨_, rfl⟩
   have hlt3 := hown.lt
   have hbs0 := hbs
   refine Wp_skip (thn_normal (Wp_seq (Wp_block (Wp_seq_region ?_))))
   refine qV (r_indexSlice (b := b) (o := o) (len := t.args.length) (cap := ac) (i := k) (o' := o + k * 6) rfl rfl rfl Try.underlying23 siz25 (by omega) (by omega)) ?_
   refine qV (r_loadAgg rfl agg25 siz25 rfl (hcx.chg E (fun h => hbe (h ▸ hSb1)))) ?_
   refine s_allocStore (v := (.agg (R6 x xsa xsc xaa xac))) (c := (R6 x xsa xsc xaa xac)) (n := 6) (by decide) zer25 rfl siz25 rfl rfl rfl (by simp [Value.oneCell']) ?_
   intro bs ws Ns
   have Fs := Ns.ge E
   have Os_be := Ns.lt hBe
   have Os_br := Ns.lt Br
   have Os_bo := Ns.lt Bo
   replace hBe := Ns.keep hBe
   replace Br := Ns.keep Br
   replace Bo := Ns.keep Bo
   replace hown := own_ext hown Ns.ext
   replace hR := RowsIn.ext Ns.ext hR
   replace hbs := Nat.le_trans hbs Ns.ext.size
   replace E := E.ext Ns.ext
   have Bs := Ns.blk
   refine WpL_nil (Wp_region ?_)
   refine qM _ rfl ?_
   refine qM _ rfl ?_
   refine qV (r_loadAgg (vs := [(I6 x.kind), (.slice xsa x.set.length xsc), (.slice xaa x.args.length xac), (I6 x.mn), (I6 x.mx), (.bool x.neg)]) rfl agg25 siz25 rfl (Bs.cells rfl)) ?_
   obtain ⟨n1, hn1⟩ : ∃ n1, n1 = ws.heap.size := ⟨_, rfl⟩
   have hD1 : ∀ b, D b → base ≤ b ∧ b < ws.heap.size := fun b hb => by have := hD b hb; have := Ns.ext.size; omega
   have hRs := hR
   refine WpL_callV (by decide) rfl rfl (hf _ x _ _ (hbd k x hx) E hxm (ReIn.chg E (fun y hy h => hbe (h ▸ hy)) x hrx0) hBe) ?_
   rintro _ w9 ⟨us, rfl, hus, X9, hB9⟩
   replace Br := X9.keep (by omega) Br
   replace Bo := X9.keep (by omega) Bo
   replace Bs := X9.keep (by omega) Bs
   replace E := E.step X9 (by intro x hx hm; omega)
   replace hown := own_chg hown X9 (fun q hq hm => by have h2 : q = be := hm; have := hown.lt q hq; omega)
   replace hbs := Nat.le_trans hbs X9.size
   rw [← hn1] at hus
   obtain ⟨gx, hgx⟩ : ∃ gx, gx = (h x (runN h (t.args.take k) e0).2).1 := ⟨_, rfl⟩
   rw [← hgx] at hus
   have hus0 := hus
   obtain ⟨usa, usc, uaa, uac, rfl, _, _, _⟩ := hus.form
   have Y9 : Chg (fun y => y = be) ws (w9) := X9
   refine s_buildSlice (ps := [(0, (.agg (R6 gx usa usc uaa uac)))]) (c := (R6 gx usa usc uaa uac)) (by decide) rfl Try.underlying23 siz25 zer25 (by decide) (by decide) (by kernel_rfl) ?_
   intro bq wq Nq
   have Fq := Nq.ge E
   have Oq_br := Nq.lt Br
   have Oq_bo := Nq.lt Bo
   have Oq_bs := Nq.lt Bs
   have Oq_be := Nq.lt hB9
   replace Br := Nq.keep Br
   replace Bo := Nq.keep Bo
   replace Bs := Nq.keep Bs
   replace hB9 := Nq.keep hB9
   replace hown := own_ext hown Nq.ext
   replace hbs := Nat.le_trans hbs Nq.ext.size
   replace Y9 := Y9.step Nq.ext (fun _ _ f => f.elim)
   replace hus0 := ReIn.ext Nq.ext _ hus0
   replace E := E.ext Nq.ext
   have Bq := Nq.blk
   refine s_append (base := base) (n := k) (m := 1) (xs := rows.flatten) (news := [(I6 gx.kind), (.slice usa gx.set.length usc), (.slice uaa gx.args.length uac), (I6 gx.mn), (I6 gx.mx), (.bool gx.neg)]) (size := 6) (bytes := 80) (v := (.slice la k lc)) (by decide) Try.underlying23 siz25 byt25 zer25 rfl (by decide) rfl hown rfl (rfl) (Bq.cells rfl) (by simp [Value.oneCell']) (by unfold maxLen; omega) (by omega) (hbs) ?_
   intro v9 w29 Ov9 Cv9 Dv9
   replace Br := Cv9.keep (fun h => by have := (hown.lt _ h).1; omega) Br
   replace Bo := Cv9.keep (fun h => by have := (hown.lt _ h).1; omega) Bo
   replace hB9 := Cv9.keep (fun h => by have := (hown.lt _ h).1; omega) hB9
   replace E := E.step Cv9 (fun x hx h => absurd (hown.lt x h).1 (by omega))
   obtain ⟨la2, lc2, rfl⟩ := own_form Ov9
   have hstep := map_stepN (base := base) (n1 := n1) hRs Y9 (fun y hy h => by rcases hy with g | g; exact hbe (h ▸ g); have := hD1 y g; omega) hn1 hSb hD1 (fun q hq => ⟨hv q hq, by have := hlt3 q hq; have := Ns.ext.size; omega⟩) hus0 Cv9 Dv9 (by have := Ns.ext.size; omega)
   have hB10 : Blk (w29) be #[.int .i64 (((runN h (t.args.take (k + 1)) e0).2 : Nat) : Int)] 3 := by rw [runN_succ h e0 hx]; exact hB9
   refine qA _ rfl ?_
   refine WpL_nil (inB_normal (thn_normal (Wp_region ?_)))
   refine qV (r_add rfl rfl (wI64 (by omega))) ?_
   refine qM _ rfl ?_
   refine WpL_nil (thn_normal ?_)
   exact ⟨t.args.length - (k + 1), by omega, k + 1, la2, lc2, rows ++ [[.int .i64 gx.kind, .slice usa gx.set.length usc, .slice uaa gx.args.length uac, .int .i64 gx.mn, .int .i64 gx.mx, .bool gx.neg]], (fun b => D b ∨ (n1 ≤ b ∧ b < wq.heap.size)), Fits.out ⟨rfl, rfl, rfl, rfl, rfl, rfl, rfl, trivial⟩, E, hB10, Br, Bo, (by omega), (by simpa using Ov9), (by rw [runN_succ h e0 hx, ← hgx]; exact hstep.1), hstep.2.1, hstep.2.2, Nat.le_trans hbs Cv9.size, rfl⟩
  ·have khlt := hlt
   replace hlt := of_decide_eq_false hlt
   have hkk : k = t.args.length := by omega
   subst hkk
   rw [List.take_length] at hR
   obtain ⟨hcl, hcells⟩ := own_res hown hR (runN_len h _ _)
   have hset9 : SlIn (fun y => S y ∨ base ≤ y) (W1) 2 (.slice sa t.set.length sc) (t.set.map spanV) := (SlIn.chg hset E (fun y hy h => hbe (h ▸ hy))).mono (fun y hy => Or.inl hy)
   have hC9 : Chg (fun y => y = bo ∨ y = br) (W1) (W1) := Chg.refl _ _
   refine Wp_exit (thn_exit (thn_exit (inB_here (thn_normal (Wp_seq_region ?_)))))
   refine qM _ rfl ?_
   refine qF br 0 2 rfl Try.underlying25 rfl siz23 rfl ?_
   refine s_store (b := br) (o := 2) (c' := (R6 t sa sc la lc)) (v := (.slice la t.args.length lc)) rfl rfl rfl siz23 Br (by simp) rfl ?_
   intro w3 S3
   replace hC9 := hC9.step S3.chg (fun y _ h => by first | exact .inl h | exact .inr h)
   replace hBe := S3.keep (by omega) hBe
   replace Bo := S3.keep (by omega) Bo
   replace E := S3.step E (by first | exact Or.inl (by omega) | exact Or.inr rfl | exact Or.inr (by assumption) | exact Or.inr (by simp) | exact Or.inr (by omega) | exact Or.inr (by dsimp only; omega))
   replace Br := S3.blk
   refine WpL_nil (Wp_seq_region ?_)
   refine qV (r_loadAgg (vs := [(I6 t.kind), (.slice sa t.set.length sc), (.slice la t.args.length lc), (I6 t.mn), (I6 t.mx), (.bool t.neg)]) rfl agg25 siz25 rfl (Br.cells rfl)) ?_
   refine s_storeAgg (b := bo) (o := 0) (c' := (R6 t sa sc la lc)) rfl rfl (by simp [Value.oneCell']) siz25 rfl Bo (by first | (simp; done) | exact Nat.le_of_ble_eq_true rfl) rfl ?_
   intro w4 S4
   replace hC9 := hC9.step S4.chg (fun y _ h => by first | exact .inl h | exact .inr h)
   replace hBe := S4.keep (by omega) hBe
   replace Br := S4.keep (by omega) Br
   replace E := S4.step E (by first | exact Or.inl (by omega) | exact Or.inr rfl | exact Or.inr (by assumption) | exact Or.inr (by simp) | exact Or.inr (by omega) | exact Or.inr (by dsimp only; omega))
   replace Bo := S4.blk
   refine WpL_nil (Wp_ret ?_)
   refine fin_agg Try.results86 (vs := [(.int .i64 t.kind), (.slice sa t.set.length sc), (.slice la t.args.length lc), (.int .i64 t.mn), (.int .i64 t.mx), (.bool t.neg)]) (b := bo) rfl agg25 siz25 rfl (Bo.cells rfl) ?_
   refine ⟨_, rfl, ?_, E, by rw [List.take_length] at hBe; exact hBe⟩
   have hlm : (runN h t.args e0).1.length = t.args.length := runN_len h _ _
   have hne : ∀ y, (S y ∨ base ≤ y) → ¬ (y = bo ∨ y = br) := by
    rintro y (h | h) (h2 | h2)
    ·have := hSb y h; have := hS y h; omega
    ·have := hSb y h; have := hS y h; omega
    ·omega
    ·omega
   refine re_cong hlm (ReIn.mono (S := fun y => S y ∨ base ≤ y) (fun y hy => hy.imp id (fun h => by omega)) _ (ReIn.chg hC9 hne _ (ReIn.of (set := t.set) (args := (runN h t.args e0).1) hset9 (by rw [hlm]; exact hcl) ?_)))
   rcases hcells with h | ⟨gb, h1, h2, h3, h4⟩
   ·exact .inl h
   ·exact .inr ⟨gb, 0, .inr h1, h3, resin_of fun i u hu => by obtain ⟨us, h5, h6⟩ := h4 i u hu; exact ⟨us, h5, ReIn.mono (fun y hy => hy.imp id (fun h => (hD y h).1)) u h6⟩⟩
theorem re_mn {S : Nat → Prop} {w : World} {x : Re} {v1 v2 v3 v5 v6 : Value} {m0 : Int} (m : Int) (h : ReIn S w x [v1, v2, v3, .int .i64 m0, v5, v6]) : ReIn S w (.mk x.kind x.set x.args m x.mx x.neg) [v1, v2, v3, .int .i64 m, v5, v6] := by
 cases x
 simp only [ReIn] at h ⊢
 obtain ⟨sa, sc, aa, ac, hv, h1, h2, h3⟩ := h
 simp only [List.cons.injEq, and_true] at hv
 obtain ⟨rfl, rfl, rfl, _, rfl, rfl⟩ := hv
 exact ⟨sa, sc, aa, ac, rfl, h1, h2, h3⟩
abbrev TPI : Nat := 91
def NumOk (x : Re) : Prop := ∀ (w0 : World) (vs : List Value) (S : Nat → Prop) (be n : Nat), ReIn S w0 x vs → (∀ b, S b → b < w0.heap.size) → ¬ S be → Blk w0 be #[.int .i64 ((n : Nat) : Int)] 3 → n + x.size ≤ 2000000 → x.size ≤ 1000000 →
 Ret Try.prog 41 #[.agg vs.toArray, .pointer (some ⟨be, 0, none⟩)] w0 fun v w => ∃ us, v = .agg us.toArray ∧ ReIn (fun b => S b ∨ w0.heap.size ≤ b) w (numR x n).1 us ∧ Chg (fun y => y = be) w0 w ∧ Blk w be #[.int .i64 (((numR x n).2 : Nat) : Int)] 3
theorem num2_c (x : Re) (hk : x.kind = 2) : NumOk x := by
 intro w0 vs S be n hxt hS hbe hBe hn hsz
 have hxt0 := hxt
 obtain ⟨sa, sc, aa, ac, rfl, hset, hac, hargs⟩ := hxt.form
 have hbl := hBe.lt
 rw [numR_two hk]
 refine Ret_of Try.func41 rfl Try.ntmps41 (Nat.le_of_ble_eq_true rfl) ?_
 have E : Chg (fun y => y = be) w0 w0 := Chg.refl _ _
 refine Wp_seq_region ?_
 refine s_box (v := (.agg (R6 x sa sc aa ac))) (c := (R6 x sa sc aa ac)) (by decide) rfl rfl ?_
 intro br wr Nr
 have Fr := Nr.ge E
 have Or_be := Nr.lt hBe
 replace hBe := Nr.keep hBe
 replace E := E.ext Nr.ext
 have Br := Nr.blk
 refine s_box (v := (P6 be 0)) (c := #[(P6 be 0)]) (by decide) rfl rfl ?_
 intro bp wp Np
 have Fp := Np.ge E
 have Op_be := Np.lt hBe
 have Op_br := Np.lt Br
 replace hBe := Np.keep hBe
 replace Br := Np.keep Br
 replace E := E.ext Np.ext
 have Bp := Np.blk
 refine s_alloc (c := #[(I6 0), (.slice none 0 0), (.slice none 0 0), (I6 0), (I6 0), (.bool false)]) (by decide) zer25 rfl ?_
 intro bo wo No
 have Fo := No.ge E
 have Oo_be := No.lt hBe
 have Oo_br := No.lt Br
 have Oo_bp := No.lt Bp
 replace hBe := No.keep hBe
 replace Br := No.keep Br
 replace Bp := No.keep Bp
 replace E := E.ext No.ext
 have Bo := No.blk
 refine WpL_nil (Wp_seq (Wp_seq_region ?_))
 refine qF br 0 0 rfl Try.underlying25 rfl siz3 rfl ?_
 refine qV (r_load rfl flat3 (Br.cell rfl)) ?_
 refine qV (r_eql rfl rfl) ?_
 refine WpL_nil ?_
 have hc1 : (decide ((x.kind : Int) = 2)) = true := decide_eq_true hk
 refine Wp_cond_true (congrArg Value.bool hc1) ?_
 refine Wp_seq_region ?_
 refine qV (r_load rfl flat91 (Bp.cell rfl)) ?_
 refine qV (r_nilCheck rfl) ?_
 refine qV (r_load rfl flat3 (hBe.cell rfl)) ?_
 refine qV (r_add (c := ((n + 1 : Nat) : Int)) rfl rfl ((wI64 (by omega)).trans (by omega))) ?_
 refine qV (r_nilCheck rfl) ?_
 refine s_store (b := be) (o := 0) (c' := #[(I6 ((n + 1 : Nat) : Int))]) (v := (I6 ((n + 1 : Nat) : Int))) rfl rfl rfl siz3 hBe (by simp) rfl ?_
 intro w2 S2
 replace Br := S2.keep (by omega) Br
 replace Bp := S2.keep (by omega) Bp
 replace Bo := S2.keep (by omega) Bo
 replace E := S2.step E (by first | exact Or.inl (by omega) | exact Or.inr rfl | exact Or.inr (by assumption) | exact Or.inr (by simp) | exact Or.inr (by omega) | exact Or.inr (by dsimp only; omega))
 replace hBe := S2.blk
 refine WpL_nil (Wp_seq_region ?_)
 refine qV (r_load rfl flat91 (Bp.cell rfl)) ?_
 refine qV (r_nilCheck rfl) ?_
 refine qV (r_load rfl flat3 (hBe.cell rfl)) ?_
 refine qF br 0 3 rfl Try.underlying25 rfl siz3 rfl ?_
 refine s_store (b := br) (o := 3) (c' := #[(I6 x.kind), (.slice sa x.set.length sc), (.slice aa x.args.length ac), (I6 ((n + 1 : Nat) : Int)), (I6 x.mx), (.bool x.neg)]) (v := (I6 ((n + 1 : Nat) : Int))) rfl rfl rfl siz3 Br (by simp) rfl ?_
 intro w3 S3
 replace hBe := S3.keep (by omega) hBe
 replace Bp := S3.keep (by omega) Bp
 replace Bo := S3.keep (by omega) Bo
 replace E := S3.step E (by first | exact Or.inl (by omega) | exact Or.inr rfl | exact Or.inr (by assumption) | exact Or.inr (by simp) | exact Or.inr (by omega) | exact Or.inr (by dsimp only; omega))
 replace Br := S3.blk
 refine WpL_nil (Wp_seq_region ?_)
 refine qV (r_loadAgg (vs := [(I6 x.kind), (.slice sa x.set.length sc), (.slice aa x.args.length ac), (I6 ((n + 1 : Nat) : Int)), (I6 x.mx), (.bool x.neg)]) rfl agg25 siz25 rfl (Br.cells rfl)) ?_
 refine s_storeAgg (b := bo) (o := 0) (c' := #[(I6 x.kind), (.slice sa x.set.length sc), (.slice aa x.args.length ac), (I6 ((n + 1 : Nat) : Int)), (I6 x.mx), (.bool x.neg)]) rfl rfl (by simp [Value.oneCell']) siz25 rfl Bo (by first | (simp; done) | exact Nat.le_of_ble_eq_true rfl) rfl ?_
 intro w4 S4
 replace hBe := S4.keep (by omega) hBe
 replace Br := S4.keep (by omega) Br
 replace Bp := S4.keep (by omega) Bp
 replace E := S4.step E (by first | exact Or.inl (by omega) | exact Or.inr rfl | exact Or.inr (by assumption) | exact Or.inr (by simp) | exact Or.inr (by omega) | exact Or.inr (by dsimp only; omega))
 replace Bo := S4.blk
 refine WpL_nil (Wp_ret (thn_ret ?_))
 refine fin_agg Try.results41 (vs := [(.int .i64 x.kind), (.slice sa x.set.length sc), (.slice aa x.args.length ac), (.int .i64 ((n + 1 : Nat) : Int)), (.int .i64 x.mx), (.bool x.neg)]) (b := bo) rfl agg25 siz25 rfl (Bo.cells rfl) ?_
 exact ⟨_, rfl, ReIn.mono (fun b hb => .inl hb) _ (re_mn _ (ReIn.chg E (fun y hy h => hbe (h ▸ hy)) x hxt0)), E, hBe⟩
theorem num1_c (x : Re) (hx : NumOk x) (w0 : World) (xs : List Value) (S : Nat → Prop) (be bp n : Nat) (hxt : ReIn S w0 x xs) (hS : ∀ b, S b → b < w0.heap.size) (hbe : ¬ S be) (hBe : Blk w0 be #[.int .i64 ((n : Nat) : Int)] 3) (hBp : Blk w0 bp #[.pointer (some ⟨be, 0, none⟩)] TPI) (hn : n + x.size ≤ 2000000) (hsz : x.size ≤ 1000000) :
  Ret Try.prog 87 #[.agg xs.toArray, .pointer (some ⟨bp, 0, none⟩)] w0 fun v w => ∃ us, v = .agg us.toArray ∧ ReIn (fun b => S b ∨ w0.heap.size ≤ b) w (numR x n).1 us ∧ Chg (fun y => y = be) w0 w ∧ Blk w be #[.int .i64 (((numR x n).2 : Nat) : Int)] 3 := by
 have hxt0 := hxt
 obtain ⟨sa, sc, aa, ac, rfl, _, _, _⟩ := hxt.form
 have hbl := hBe.lt
 have hbp := hBp.lt
 have hne : be ≠ bp := fun e => by subst e; unfold Blk at hBe hBp; rw [hBe] at hBp; simp at hBp
 obtain ⟨N, hN⟩ : ∃ N, N = (numR x n).1 := ⟨_, rfl⟩
 rw [← hN]
 refine Ret_of Try.func87 rfl Try.ntmps87 (Nat.le_of_ble_eq_true rfl) ?_
 have E : Chg (fun y => y = be) w0 w0 := Chg.refl _ _
 refine Wp_seq_region ?_
 refine s_box (v := (.agg (R6 x sa sc aa ac))) (c := (R6 x sa sc aa ac)) (by decide) rfl rfl ?_
 intro br wr Nr
 have Fr := Nr.ge E
 have Or_be := Nr.lt hBe
 have Or_bp := Nr.lt hBp
 replace hBe := Nr.keep hBe
 replace hBp := Nr.keep hBp
 replace E := E.ext Nr.ext
 have Br := Nr.blk
 refine s_alloc (c := #[(I6 0), (.slice none 0 0), (.slice none 0 0), (I6 0), (I6 0), (.bool false)]) (by decide) zer25 rfl ?_
 intro bo wo No
 have Fo := No.ge E
 have Oo_be := No.lt hBe
 have Oo_bp := No.lt hBp
 have Oo_br := No.lt Br
 replace hBe := No.keep hBe
 replace hBp := No.keep hBp
 replace Br := No.keep Br
 replace E := E.ext No.ext
 have Bo := No.blk
 refine WpL_nil (Wp_seq_region ?_)
 refine qV (r_loadAgg (vs := [(I6 x.kind), (.slice sa x.set.length sc), (.slice aa x.args.length ac), (I6 x.mn), (I6 x.mx), (.bool x.neg)]) rfl agg25 siz25 rfl (Br.cells rfl)) ?_
 refine qV (r_load rfl flat91 (hBp.cell rfl)) ?_
 obtain ⟨n1, hn1⟩ : ∃ n1, n1 = (wo).heap.size := ⟨_, rfl⟩
 have hbo9 : bo < n1 ∧ w0.heap.size ≤ bo ∧ w0.heap.size ≤ n1 := ⟨by rw [hn1]; exact Bo.lt, by omega, by rw [hn1]; exact E.size⟩
 refine WpL_enter rfl rfl (by decide) (r_callF Try.func41 kQ kQ rfl) (hx _ _ S be n (ReIn.chg E (fun y hy h => hbe (h ▸ hy)) x hxt0) (fun b hb => by have := hS b hb; have := E.size; omega) hbe hBe hn hsz) ?_
 rintro _ w9 ⟨us, rfl, hus, X9, hB9⟩
 replace hBp := X9.keep (by omega) hBp
 replace Br := X9.keep (by omega) Br
 replace Bo := X9.keep (by omega) Bo
 replace E := E.step X9 (by intro x hx hm; omega)
 rw [← hN, ← hn1] at hus
 have hus0 := ReIn.lt _ (ReIn.mono (S' := fun b => (S b ∨ w0.heap.size ≤ b) ∧ b ≠ bo) (fun b hb => by rcases hb with h | h; exact ⟨.inl h, by have := hS b h; omega⟩; exact ⟨.inr (by omega), by omega⟩) _ hus)
 obtain ⟨usa, usc, uaa, uac, rfl, _, _, _⟩ := hus.form
 have hC9 : Chg (fun y => y = bo) (w9) (w9) := Chg.refl _ _
 refine s_storeAgg (b := bo) (o := 0) (c' := (R6 N usa usc uaa uac)) rfl rfl (by simp [Value.oneCell']) siz25 rfl Bo (by first | (simp; done) | exact Nat.le_of_ble_eq_true rfl) rfl ?_
 intro w1 S1
 replace hC9 := hC9.step S1.chg (fun y _ h => h)
 replace hBp := S1.keep (by omega) hBp
 replace Br := S1.keep (by omega) Br
 replace hB9 := S1.keep (by omega) hB9
 replace E := S1.step E (by first | exact Or.inl (by omega) | exact Or.inr rfl | exact Or.inr (by assumption) | exact Or.inr (by simp) | exact Or.inr (by omega) | exact Or.inr (by dsimp only; omega))
 replace Bo := S1.blk
 refine WpL_nil (Wp_ret ?_)
 refine fin_agg Try.results87 (vs := [(.int .i64 N.kind), (.slice usa N.set.length usc), (.slice uaa N.args.length uac), (.int .i64 N.mn), (.int .i64 N.mx), (.bool N.neg)]) (b := bo) rfl agg25 siz25 rfl (Bo.cells rfl) ?_
 exact ⟨_, rfl, ReIn.mono (fun b hb => hb.1.1) _ (ReIn.chg hC9 (fun b hb h => hb.1.2 h) _ hus0), E, hB9⟩
theorem num0_c (x : Re) (hk : x.kind ≠ 2) (hof : ∀ y ∈ x.args, NumOk y) : NumOk x := by
 intro w0 vs S be n hxt hS hbe hBe hn hsz
 have hxt0 := hxt
 obtain ⟨sa, sc, aa, ac, rfl, hset, hac, hargs⟩ := hxt.form
 have hbl := hBe.lt
 have hse := x.size_eq
 rw [numR_no hk]
 obtain ⟨N, hN⟩ : ∃ N, N = Re.mk x.kind x.set (runN numR x.args n).1 x.mn x.mx x.neg := ⟨_, rfl⟩
 rw [← hN]
 refine Ret_of Try.func41 rfl Try.ntmps41 (Nat.le_of_ble_eq_true rfl) ?_
 have E : Chg (fun y => y = be) w0 w0 := Chg.refl _ _
 refine Wp_seq_region ?_
 refine s_box (v := (.agg (R6 x sa sc aa ac))) (c := (R6 x sa sc aa ac)) (by decide) rfl rfl ?_
 intro br wr Nr
 have Fr := Nr.ge E
 have Or_be := Nr.lt hBe
 replace hBe := Nr.keep hBe
 replace E := E.ext Nr.ext
 have Br := Nr.blk
 refine s_box (v := (P6 be 0)) (c := #[(P6 be 0)]) (by decide) rfl rfl ?_
 intro bp wp Np
 have Fp := Np.ge E
 have Op_be := Np.lt hBe
 have Op_br := Np.lt Br
 replace hBe := Np.keep hBe
 replace Br := Np.keep Br
 replace E := E.ext Np.ext
 have Bp := Np.blk
 refine s_alloc (c := #[(I6 0), (.slice none 0 0), (.slice none 0 0), (I6 0), (I6 0), (.bool false)]) (by decide) zer25 rfl ?_
 intro bo wo No
 have Fo := No.ge E
 have Oo_be := No.lt hBe
 have Oo_br := No.lt Br
 have Oo_bp := No.lt Bp
 replace hBe := No.keep hBe
 replace Br := No.keep Br
 replace Bp := No.keep Bp
 replace E := E.ext No.ext
 have Bo := No.blk
 refine WpL_nil (Wp_seq (Wp_seq_region ?_))
 refine qF br 0 0 rfl Try.underlying25 rfl siz3 rfl ?_
 refine qV (r_load rfl flat3 (Br.cell rfl)) ?_
 refine qV (r_eql rfl rfl) ?_
 refine WpL_nil ?_
 have hc1 : (decide ((x.kind : Int) = 2)) = false := decide_eq_false hk
 refine Wp_cond_false (congrArg Value.bool hc1) ?_
 refine Wp_skip (thn_normal (Wp_seq_region ?_))
 refine qV (r_loadAgg (vs := [(I6 x.kind), (.slice sa x.set.length sc), (.slice aa x.args.length ac), (I6 x.mn), (I6 x.mx), (.bool x.neg)]) rfl agg25 siz25 rfl (Br.cells rfl)) ?_
 refine qV (r_makeFunc rfl rfl) ?_
 obtain ⟨n1, hn1⟩ : ∃ n1, n1 = (wo).heap.size := ⟨_, rfl⟩
 have hbo9 : bo < n1 ∧ w0.heap.size ≤ bo ∧ w0.heap.size ≤ n1 := ⟨by rw [hn1]; exact Bo.lt, by omega, by rw [hn1]; exact E.size⟩
 have hbp9 : bp ≠ be := by omega
 have hSn : ∀ b, S b → b < n1 := fun b hb => by have := hS b hb; omega
 refine WpL_enter rfl rfl (by decide) (r_callF Try.func86 kQ kQ rfl) (mappedN_c numR 2000000 be _ S x _ _ (ReIn.chg E (fun y hy h => hbe (h ▸ hy)) x hxt0) (fun b hb => by have := hSn b hb; omega) hsz n hbe hBe (fun k y hy => by have := run_bd (n := n) hy; omega) (fun w y ys e hb hE hy h hB => CallV.mk (first := #[]) (cap := #[.pointer (some ⟨bp, 0, none⟩)]) Try.func87 kQ kQ rfl (num1_c y (hof y hy) w ys S be bp e h (fun b hb => by have := hSn b hb; have := hE.size; omega) hbe hB (hE.keep hbp9 Bp) hb (by obtain ⟨i, hi⟩ := List.mem_iff_getElem?.1 hy; have := Re.size_arg hi; omega)))) ?_
 rintro _ w9 ⟨us, rfl, hus, X9, hB9⟩
 replace Br := X9.keep (by omega) Br
 replace Bp := X9.keep (by omega) Bp
 replace Bo := X9.keep (by omega) Bo
 replace E := E.step X9 (by intro x hx hm; omega)
 rw [← hN, ← hn1] at hus
 have hus0 := ReIn.lt _ (ReIn.mono (S' := fun b => (S b ∨ w0.heap.size ≤ b) ∧ b ≠ bo) (fun b hb => by rcases hb with h | h; exact ⟨.inl h, by have := hS b h; omega⟩; exact ⟨.inr (by omega), by omega⟩) _ hus)
 obtain ⟨usa, usc, uaa, uac, rfl, _, _, _⟩ := hus.form
 have hC9 : Chg (fun y => y = bo) (w9) (w9) := Chg.refl _ _
 refine s_storeAgg (b := bo) (o := 0) (c' := (R6 N usa usc uaa uac)) rfl rfl (by simp [Value.oneCell']) siz25 rfl Bo (by first | (simp; done) | exact Nat.le_of_ble_eq_true rfl) rfl ?_
 intro w2 S2
 replace hC9 := hC9.step S2.chg (fun y _ h => h)
 replace Br := S2.keep (by omega) Br
 replace Bp := S2.keep (by omega) Bp
 replace hB9 := S2.keep (by omega) hB9
 replace E := S2.step E (by first | exact Or.inl (by omega) | exact Or.inr rfl | exact Or.inr (by assumption) | exact Or.inr (by simp) | exact Or.inr (by omega) | exact Or.inr (by dsimp only; omega))
 replace Bo := S2.blk
 refine WpL_nil (Wp_ret ?_)
 refine fin_agg Try.results41 (vs := [(.int .i64 N.kind), (.slice usa N.set.length usc), (.slice uaa N.args.length uac), (.int .i64 N.mn), (.int .i64 N.mx), (.bool N.neg)]) (b := bo) rfl agg25 siz25 rfl (Bo.cells rfl) ?_
 exact ⟨_, rfl, ReIn.mono (fun b hb => hb.1.1) _ (ReIn.chg hC9 (fun b hb h => hb.1.2 h) _ hus0), E, hB9⟩
theorem numbered_c : ∀ (n : Nat) (x : Re), x.size ≤ n → NumOk x := by
  intro n
  induction n with
  | zero => intro x h; have := x.size_pos; omega
  | succ n ih =>
  intro x hn
  have hof : ∀ y ∈ x.args, NumOk y := fun y hy => by
    obtain ⟨i, hi⟩ := List.getElem?_of_mem hy
    have h1 := Re.size_arg hi
    exact ih y (by omega)
  by_cases h2 : x.kind = 2
  · exact num2_c x h2
  · exact num0_c x h2 hof
end Go.Proofs
namespace Go.Eng
open Go
def kPair (p : Int × Int) : Value := .agg #[.int .i64 p.1, .int .i64 p.2]
theorem keyOfEq {P : Program} {kt : TypeId} {κ : Type} [DecidableEq κ] {ek : κ → Value} (hwide : (match P.underlying kt with | some (.array _ _) | some (.struct _) => true | _ => false) = true)
    (hchk : ∀ (b : Bool) (w : World) (k : κ), (Instr.checkKey b 10000 kt (ek k)).run P w = .ok () w) (heq : ∀ (w : World) (a b : κ), (Op.equal kt (ek a) (ek b)).run P w = .ok (decide (a = b)) w) (hsame : ∀ k, Instr.sameBits 10000 (ek k) (ek k) = true) : KeyOk P kt ek where
  check := hchk
  same := hsame
  find := fun ν w k es eV L hL => by
    have key : ∀ (L : List MapEntry) (es : List (κ × ν)) (i : Nat), L.map (fun e => (e.key, e.val)) = es.map (fun p => (ek p.1, eV p.2)) → (Instr.findAsking kt (ek k) L i).run P w = .ok (findM eV es k i) w := by
      intro L
      induction L with
      | nil =>
        intro es i h
        cases es with
        | nil => rfl
        | cons _ _ => simp at h
      | cons e L ih =>
        intro es i h
        cases es with
        | nil => simp at h
        | cons p es =>
          simp only [List.map_cons, List.cons.injEq, Prod.mk.injEq] at h
          obtain ⟨⟨h1, h2⟩, h3⟩ := h
          unfold Instr.findAsking findM
          simp only [Sem.run_bind, h1, heq, Result.andThen_ok]
          by_cases hk : p.1 = k
          · rw [if_pos hk, hk]; simp [h2]
          · rw [if_neg hk, show decide (k = p.1) = false by simpa using fun h => hk h.symm]
            exact ih es (i + 1) h3
    rw [run_findKey_eq w hwide]
    exact key L es 0 hL
theorem eqArr2 {P : Program} {t e : TypeId} {i : TypeInfo} (hu : P.underlying t = some (.array 2 e)) (he : P.underlying e = some (.int .i64)) (hi : P.info? e = some i) (hc : P.cellsOf e = 1) (w : World) (a b : Int × Int) : (Op.equal t (kPair a) (kPair b)).run P w = .ok (decide (a = b)) w := by
 have hp : P.plainKey e = true := by simp [Program.plainKey, he]
 have hq0 : ∀ (d : Nat) (x y : Int), (Op.equalIn (d + 1) e (.int .i64 x) (.int .i64 y)).run P w = .ok (x == y) w := fun d x y => by
  simp [Op.equalIn, run_underlying he]
 have hq : ∀ x y : Int, (Op.equalIn 9999 e (.int .i64 x) (.int .i64 y)).run P w = .ok (x == y) w := hq0 9998
 show (Op.equalIn (9999 + 1) t (.agg #[.int .i64 a.1, .int .i64 a.2]) (.agg #[.int .i64 b.1, .int .i64 b.2])).run P w = _
 rw [run_equalIn_array w 9999 _ _ hu hi, hc, show List.range 2 = [0, 1] from rfl]
 obtain ⟨a1, a2⟩ := a
 obtain ⟨b1, b2⟩ := b
 have p1 : ∀ (x y : Int), (part e #[.int .i64 x, .int .i64 y] 0).run P w = .ok (.int .i64 x) w := fun x y => run_part_plain w hp rfl
 have p2 : ∀ (x y : Int), (part e #[.int .i64 x, .int .i64 y] 1).run P w = .ok (.int .i64 y) w := fun x y => run_part_plain w hp rfl
 simp only [Op.eqItems, Sem.run_bind, Nat.zero_mul, Nat.one_mul, p1, p2, Result.andThen_ok, hq, Prod.mk.injEq]
 by_cases h1 : a1 = b1
 ·by_cases h2 : a2 = b2
  ·simp [h1, h2, p2, hq]
  ·simp [h1, h2, p2, hq, show (a2 == b2) = false by simpa using h2]
 ·simp [h1, show (a1 == b1) = false by simpa using h1]
theorem same_pair (k : Int × Int) : Instr.sameBits 10000 (kPair k) (kPair k) = true := by
 show Instr.sameBits (9999 + 1) (.agg _) (.agg _) = true
 simp [Instr.sameBits]
end Go.Eng
namespace Go.Proofs
open Go Go.Eng
set_option maxRecDepth 100000
theorem chk_pair (b : Bool) (w : World) (k : Int × Int) : (Instr.checkKey b 10000 88 (kPair k)).run Try.prog w = .ok () w := by kernel_rfl
theorem info_int : ∃ i, Try.prog.info? 3 = some i := info_of_underlying Try.underlying3
theorem cells_int : Try.prog.cellsOf 3 = 1 := by kernel_rfl
theorem key88 : KeyOk Try.prog 88 kPair := keyOfEq (by rw [Try.underlying88]) chk_pair (fun w a b => by obtain ⟨i, hi⟩ := info_int; exact eqArr2 Try.underlying88 Try.underlying3 hi cells_int w a b) same_pair
end Go.Proofs
namespace Go.Proofs
open Go Go.Eng
set_option maxRecDepth 100000
def IntssAt (w : World) (v : Value) (ll : List (List Int)) : Prop := ∃ vs : List Value, SlAt w 1 v (vs.map fun x => [x]) ∧ vs.length = ll.length ∧ ∀ (i : Nat) (u : Value) (l : List Int), vs[i]? = some u → ll[i]? = some l → IntsAt w u l
theorem IntssAt.form {w : World} {v : Value} {ll : List (List Int)} (h : IntssAt w v ll) : ∃ a c, v = .slice a ll.length c ∧ ll.length ≤ c ∧ ll.length ≤ 9223372036854775807 := by
 obtain ⟨vs, h1, h2, _⟩ := h
 obtain ⟨a, c, rfl⟩ := h1.form
 have := h1.cap
 have := h1.le
 simp only [List.length_map] at *
 rw [h2] at *
 exact ⟨a, c, rfl, by omega, by omega⟩
theorem intss_cells {w : World} {a : Option Addr} {n c : Nat} {ll : List (List Int)} (h : IntssAt w (.slice a n c) ll) (hn : 0 < n) :
  ∃ b o, a = some ⟨b, o, none⟩ ∧ ∀ i l, ll[i]? = some l → ∃ ra rc, w.cell? ⟨b, o + i, none⟩ = some (.slice ra l.length rc) ∧ IntsAt w (.slice ra l.length rc) l := by
 obtain ⟨vs, h1, h2, h3⟩ := h
 obtain ⟨b, o, ha, hc⟩ := SlAt.at h1 hn
 refine ⟨b, o, ha, fun i l hl => ?_⟩
 have hi : i < vs.length := by have := lt_of_get hl; omega
 have hu : vs[i]? = some vs[i] := List.getElem?_eq_getElem hi
 have h4 := h3 i vs[i] l hu hl
 obtain ⟨ra, rc, hf⟩ := SlAt.form h4
 simp only [List.length_map] at hf
 have h5 := hc i [vs[i]] (by simp [hu]) 0 _ rfl
 rw [Nat.mul_one, Nat.add_zero, hf] at h5
 rw [hf] at h4
 exact ⟨ra, rc, h5, h4⟩
end Go.Proofs
