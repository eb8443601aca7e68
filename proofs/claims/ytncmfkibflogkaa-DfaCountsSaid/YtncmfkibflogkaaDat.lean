/- Regular expressions as data, and how they and slices lie in memory. Generic: no program is named. -/
import Derived.Test.YtncmfkibflogkaaOps
namespace Go.Eng
open Go

inductive Re where
  | mk (kind : Int) (set : List (Int × Int)) (args : List Re) (mn mx : Int) (neg : Bool)

namespace Re
def kind : Re → Int | .mk k _ _ _ _ _ => k
def set : Re → List (Int × Int) | .mk _ s _ _ _ _ => s
def args : Re → List Re | .mk _ _ a _ _ _ => a
def mn : Re → Int | .mk _ _ _ m _ _ => m
def mx : Re → Int | .mk _ _ _ _ m _ => m
def neg : Re → Bool | .mk _ _ _ _ _ n => n
mutual
def size : Re → Nat
  | .mk _ _ a _ _ _ => sizes a + 1
def sizes : List Re → Nat
  | [] => 0
  | t :: ts => size t + sizes ts
end
theorem size_pos (t : Re) : 0 < t.size := by cases t; simp [size]
theorem size_eq (t : Re) : t.size = sizes t.args + 1 := by cases t; rfl
theorem sizes_get {ts : List Re} {i : Nat} {t : Re} (h : ts[i]? = some t) : t.size ≤ sizes ts := by
  induction ts generalizing i with
  | nil => simp at h
  | cons a r ih =>
    cases i with
    | zero => simp at h; subst h; simp [sizes]
    | succ i => simp at h; have := ih h; simp [sizes]; omega
theorem size_arg {t : Re} {i : Nat} {x : Re} (h : t.args[i]? = some x) : x.size < t.size := by
  have := sizes_get h; rw [size_eq t]; omega
theorem sizes_append (a b : List Re) : sizes (a ++ b) = sizes a + sizes b := by
  induction a with
  | nil => simp [sizes]
  | cons x r ih => simp [sizes, ih]; omega
end Re

theorem lt_of_get {α : Type} {l : List α} {i : Nat} {y : α} (h : l[i]? = some y) : i < l.length := by
  rcases Nat.lt_or_ge i l.length with h' | h'
  · exact h'
  · simp [List.getElem?_eq_none h'] at h

/-- A slice value that reads as a list of rows of k cells. -/
def SlAt (w : World) (k : Nat) (v : Value) (rows : List (List Value)) : Prop :=
  ∃ a cap, v = .slice a rows.length cap ∧ rows.length ≤ 9223372036854775807 ∧ rows.length ≤ cap ∧ (rows = [] ∨ ∃ b o, a = some ⟨b, o, none⟩ ∧ ∀ i r, rows[i]? = some r → CellsAt w b (o + i * k) r)

theorem SlAt.ext {w w' : World} {k : Nat} {v : Value} {rows : List (List Value)} (h : SlAt w k v rows) (e : Ext w w') : SlAt w' k v rows := by
  obtain ⟨a, cap, hv, hl, hc, h⟩ := h
  refine ⟨a, cap, hv, hl, hc, ?_⟩
  rcases h with h | ⟨b, o, ha, hc⟩
  · exact .inl h
  · exact .inr ⟨b, o, ha, fun i r hr => (hc i r hr).ext e⟩
theorem SlAt.nil (w : World) (k : Nat) (a : Option Addr) (cap : Nat) : SlAt w k (.slice a 0 cap) [] := ⟨a, cap, rfl, by simp, by simp, .inl rfl⟩
/-- Where there is an element the slice has an address. -/
theorem SlAt.at {w : World} {k : Nat} {a : Option Addr} {n cap : Nat} {rows : List (List Value)} (h : SlAt w k (.slice a n cap) rows) (hn : 0 < n) :
    ∃ b o, a = some ⟨b, o, none⟩ ∧ ∀ i r, rows[i]? = some r → CellsAt w b (o + i * k) r := by
  obtain ⟨a', cap', hv, _, _, h⟩ := h
  simp only [Value.slice.injEq] at hv
  obtain ⟨rfl, rfl, rfl⟩ := hv
  rcases h with rfl | h
  · simp at hn
  · exact h
theorem SlAt.le {w : World} {k : Nat} {v : Value} {rows : List (List Value)} (h : SlAt w k v rows) : rows.length ≤ 9223372036854775807 := let ⟨_, _, _, h, _⟩ := h; h
theorem SlAt.cap {w : World} {k : Nat} {a : Option Addr} {n c : Nat} {rows : List (List Value)} (h : SlAt w k (.slice a n c) rows) : n ≤ c ∧ rows.length = n := by
  obtain ⟨a', cap', hv, _, hc, _⟩ := h
  simp only [Value.slice.injEq] at hv
  obtain ⟨rfl, rfl, rfl⟩ := hv
  exact ⟨hc, rfl⟩
/-- A part of a slice. -/
theorem SlAt.cut {w : World} {k : Nat} {a a' : Option Addr} {n c lo hi n' c' : Nat} {rows : List (List Value)} (h : SlAt w k (.slice a n c) rows) (h1 : lo ≤ hi) (h2 : hi ≤ n) (ha : (if c = lo then a else a.map (·.add (lo * k))) = a') (hn : hi - lo = n') (hc : c - lo = c') :
    SlAt w k (.slice a' n' c') ((rows.drop lo).take n') := by
  obtain ⟨h3, h4⟩ := h.cap
  have hl := h.le
  have hlen : ((rows.drop lo).take n').length = n' := by simp; omega
  refine ⟨a', c', by rw [hlen], by rw [hlen]; omega, by rw [hlen]; omega, ?_⟩
  rcases Nat.eq_zero_or_pos n' with h0 | h0
  · left; subst h0; simp
  · obtain ⟨b, o, rfl, hcells⟩ := h.at (by omega)
    rw [if_neg (by omega)] at ha
    refine .inr ⟨b, o + lo * k, ?_, fun i r hr => ?_⟩
    · rw [← ha]; simp [Addr.add_lit]
    · have hi' := lt_of_get hr
      rw [hlen] at hi'
      rw [List.getElem?_take_of_lt hi', List.getElem?_drop] at hr
      have := hcells (lo + i) r hr
      rwa [show o + (lo + i) * k = o + lo * k + i * k from by rw [Nat.add_mul]; omega] at this
theorem SlAt.form {w : World} {k : Nat} {v : Value} {rows : List (List Value)} (h : SlAt w k v rows) : ∃ a cap, v = .slice a rows.length cap := let ⟨a, c, h, _⟩ := h; ⟨a, c, h⟩

def intV (x : Int) : List Value := [.int .i64 x]
def spanV (s : Int × Int) : List Value := [.int .i64 s.1, .int .i64 s.2]
def IntsAt (w : World) (v : Value) (l : List Int) : Prop := SlAt w 1 v (l.map intV)
def SpansAt (w : World) (v : Value) (l : List (Int × Int)) : Prop := SlAt w 2 v (l.map spanV)
theorem IntsAt.ext {w w' : World} {v : Value} {l : List Int} (h : IntsAt w v l) (e : Ext w w') : IntsAt w' v l := SlAt.ext h e
theorem SpansAt.ext {w w' : World} {v : Value} {l : List (Int × Int)} (h : SpansAt w v l) (e : Ext w w') : SpansAt w' v l := SlAt.ext h e

theorem CellsAt.at1 {w : World} {b o : Nat} {x y : Value} (h : CellsAt w b o [x, y]) : w.cell? ⟨b, o + 1, none⟩ = some y := h 1 y rfl
theorem CellsAt.at0 {w : World} {b o : Nat} {x : Value} {r : List Value} (h : CellsAt w b o (x :: r)) : w.cell? ⟨b, o, none⟩ = some x := h 0 x rfl
theorem spans_cells {w : World} {a : Option Addr} {n c : Nat} {l : List (Int × Int)} (h : SpansAt w (.slice a n c) l) (hn : 0 < n) :
    ∃ b o, a = some ⟨b, o, none⟩ ∧ ∀ i s, l[i]? = some s → CellsAt w b (o + i * 2) [.int .i64 s.1, .int .i64 s.2] := by
  obtain ⟨b, o, ha, h⟩ := SlAt.at h hn
  exact ⟨b, o, ha, fun i s hs => h i (spanV s) (by simp [hs])⟩
mutual
/-- The cells of an expression. -/
def ReAt (w : World) : Re → List Value → Prop
  | .mk k set args mn mx ng, vs => ∃ sa sc aa ac, vs = [.int .i64 k, .slice sa set.length sc, .slice aa args.length ac, .int .i64 mn, .int .i64 mx, .bool ng] ∧ SpansAt w (.slice sa set.length sc) set ∧ (args.length ≤ ac ∧ ac ≤ 9223372036854775807) ∧
      (args = [] ∨ ∃ b o, aa = some ⟨b, o, none⟩ ∧ ResAt w b o args)
/-- Expressions one behind the other. -/
def ResAt (w : World) (b : Nat) : Nat → List Re → Prop
  | _, [] => True
  | o, t :: ts => (∃ vs, CellsAt w b o vs ∧ ReAt w t vs) ∧ ResAt w b (o + 6) ts
end

mutual
theorem ReAt.ext {w w' : World} (e : Ext w w') : ∀ (t : Re) {vs : List Value}, ReAt w t vs → ReAt w' t vs
  | .mk k set args mn mx ng, vs, h => by
    simp only [ReAt] at h ⊢
    obtain ⟨sa, sc, aa, ac, hv, hs, hl, ha⟩ := h
    refine ⟨sa, sc, aa, ac, hv, hs.ext e, hl, ?_⟩
    rcases ha with h | ⟨b, o, h1, h2⟩
    · exact .inl h
    · exact .inr ⟨b, o, h1, ResAt.ext e args h2⟩
theorem ResAt.ext {w w' : World} (e : Ext w w') {b : Nat} : ∀ (ts : List Re) {o : Nat}, ResAt w b o ts → ResAt w' b o ts
  | [], _, _ => by simp only [ResAt]
  | t :: ts, o, h => by
    simp only [ResAt] at h ⊢
    obtain ⟨⟨vs, h1, h2⟩, h3⟩ := h
    exact ⟨⟨vs, h1.ext e, ReAt.ext e t h2⟩, ResAt.ext e ts h3⟩
end

theorem ResAt.get {w : World} {b : Nat} : ∀ {ts : List Re} {o i : Nat} {t : Re}, ResAt w b o ts → ts[i]? = some t → ∃ vs, CellsAt w b (o + i * 6) vs ∧ ReAt w t vs
  | [], _, _, _, _, h => by simp at h
  | x :: ts, o, 0, t, h, hi => by
    simp only [ResAt] at h
    simp at hi
    subst hi
    simpa using h.1
  | x :: ts, o, i + 1, t, h, hi => by
    simp only [ResAt] at h
    have := ResAt.get h.2 (i := i) (by simpa using hi)
    rwa [show o + (i + 1) * 6 = o + 6 + i * 6 from by omega]
theorem ResAt.mk {w : World} {b : Nat} : ∀ {ts : List Re} {o : Nat}, (∀ i t, ts[i]? = some t → ∃ vs, CellsAt w b (o + i * 6) vs ∧ ReAt w t vs) → ResAt w b o ts
  | [], _, _ => by simp only [ResAt]
  | x :: ts, o, h => by
    simp only [ResAt]
    refine ⟨by simpa using h 0 x rfl, ResAt.mk fun i t hi => ?_⟩
    have := h (i + 1) t (by simpa using hi)
    rwa [show o + (i + 1) * 6 = o + 6 + i * 6 from by omega] at this

/-- The form of an expression's value. -/
theorem ReAt.form {w : World} {t : Re} {vs : List Value} (h : ReAt w t vs) : ∃ sa sc aa ac, vs = [.int .i64 t.kind, .slice sa t.set.length sc, .slice aa t.args.length ac, .int .i64 t.mn, .int .i64 t.mx, .bool t.neg] ∧ SpansAt w (.slice sa t.set.length sc) t.set ∧ (t.args.length ≤ ac ∧ ac ≤ 9223372036854775807) ∧
    (t.args = [] ∨ ∃ b o, aa = some ⟨b, o, none⟩ ∧ ResAt w b o t.args) := by
  cases t; simp only [ReAt] at h; exact h
theorem ReAt.of {w : World} {k : Int} {set : List (Int × Int)} {args : List Re} {mn mx : Int} {ng : Bool} {sa aa : Option Addr} {sc ac : Nat} (hs : SpansAt w (.slice sa set.length sc) set) (hl : (args.length ≤ ac ∧ ac ≤ 9223372036854775807)) (ha : args = [] ∨ ∃ b o, aa = some ⟨b, o, none⟩ ∧ ResAt w b o args) :
    ReAt w (.mk k set args mn mx ng) [.int .i64 k, .slice sa set.length sc, .slice aa args.length ac, .int .i64 mn, .int .i64 mx, .bool ng] := by
  simp only [ReAt]; exact ⟨sa, sc, aa, ac, rfl, hs, hl, ha⟩
theorem ReAt.len {w : World} {t : Re} {vs : List Value} (h : ReAt w t vs) : vs.length = 6 := by
  obtain ⟨_, _, _, _, rfl, _⟩ := h.form; rfl

/-- A call of a function value. -/
def CallV (P : Program) (fv : Value) (args : Array Value) (w : World) (R : Value → World → Prop) : Prop :=
  ∃ f fn first cap, fv = .func (.func f) first cap ∧ P.funcs[f]? = some fn ∧ (fn.name == "runtime.NumGoroutine") = false ∧ fn.body.isNone = false ∧ Ret P f (first ++ args ++ cap) w R
theorem CallV.mk {P : Program} {f : FuncId} {fn : Func} {first cap args ws : Array Value} {w : World} {R : Value → World → Prop} (hf : P.funcs[f]? = some fn) (hn : (fn.name == "runtime.NumGoroutine") = false) (hb : fn.body.isNone = false) (hw : first ++ args ++ cap = ws) (h : Ret P f ws w R) :
    CallV P (.func (.func f) first cap) args w R := ⟨f, fn, first, cap, rfl, hf, hn, hb, hw ▸ h⟩
theorem CallV.mono {P : Program} {fv : Value} {args : Array Value} {w : World} {R R' : Value → World → Prop} (h : CallV P fv args w R) (hr : ∀ v w', R v w' → R' v w') : CallV P fv args w R' :=
  let ⟨f, fn, first, cap, h1, h2, h3, h4, h5⟩ := h; ⟨f, fn, first, cap, h1, h2, h3, h4, h5.mono hr⟩
theorem WpL_callV {P : Program} {N : Nat} {Q : Post} {σ : Env} {w : World} {K : Env → World → Prop} {ops : Array Oper} {rest : List Oper} {d : Nat} {z : Operand} {args : List Operand} {tys : Array TypeId} {ty : TypeId} {pos : String} {af : Array Edge} {fv : Value} {vs : List Value} {R : Value → World → Prop}
    (hN : d < N) (hz : ev σ z = fv) (ha : args.map (ev σ) = vs) (hc : CallV P fv vs.toArray w R) (k : ∀ v w', R v w' → WpL P N ops K Q rest (upd σ d v) w') :
    WpL P N ops K Q (⟨some d, .call ⟨.value z, args.toArray, tys⟩, ty, pos, af, none⟩ :: rest) σ w := by
  obtain ⟨f, fn, first, cap, rfl, hf, hn, hb, hr⟩ := hc
  exact WpL_enter rfl rfl hN (r_callV hz hf hn hb ha rfl) hr k

/-! Walking over the nodes of an expression, in preorder, until a function says no. -/
section
variable {S : Type} (F : S → Re → Bool × S)
mutual
def walkF : Re → S → Bool × S
  | .mk k set args mn mx ng, s => match F s (.mk k set args mn mx ng) with
    | (false, s') => (false, s')
    | (true, s') => walkFs args s'
def walkFs : List Re → S → Bool × S
  | [], s => (true, s)
  | t :: ts, s => match walkF t s with
    | (false, s') => (false, s')
    | (true, s') => walkFs ts s'
end
theorem walkF_eq (t : Re) (s : S) : walkF F t s = if (F s t).1 then walkFs F t.args (F s t).2 else (false, (F s t).2) := by
  cases t
  simp only [walkF, Re.args]
  split <;> rename_i h <;> simp [h]
theorem walkFs_cons (t : Re) (ts : List Re) (s : S) : walkFs F (t :: ts) s = if (walkF F t s).1 then walkFs F ts (walkF F t s).2 else (false, (walkF F t s).2) := by
  simp only [walkFs]
  split <;> rename_i h <;> simp [h]
end

/-- The first place at which a test holds, or -1. -/
def idx {α : Type} (p : α → Bool) (l : List α) : Int := match l.findIdx? p with
  | some i => i
  | none => -1
theorem idx_any {α : Type} (p : α → Bool) (l : List α) : decide (0 ≤ idx p l) = l.any p := by
  unfold idx
  cases h : l.findIdx? p with
  | none =>
    have h' : l.any p = false := by
      rw [List.findIdx?_eq_none_iff] at h
      rw [List.any_eq_false]
      intro x hx
      simp [h x hx]
    rw [h']
    decide
  | some i =>
    have h' : l.any p = true := by
      rw [List.findIdx?_eq_some_iff_getElem] at h
      obtain ⟨hi, hp, _⟩ := h
      rw [List.any_eq_true]
      exact ⟨_, List.getElem_mem hi, hp⟩
    rw [h']
    simp
theorem idx_hit {α : Type} {p : α → Bool} {l : List α} {k : Nat} {x : α} (hk : l[k]? = some x) (hp : p x = true) (hb : ∀ i y, i < k → l[i]? = some y → p y = false) : idx p l = k := by
  unfold idx
  have hlt : k < l.length := by
    rcases Nat.lt_or_ge k l.length with h | h
    · exact h
    · simp [List.getElem?_eq_none h] at hk
  have : l.findIdx? p = some k := by
    rw [List.findIdx?_eq_some_iff_getElem]
    refine ⟨hlt, ?_, fun j hj => ?_⟩
    · rw [List.getElem?_eq_getElem hlt] at hk; cases hk; exact hp
    · have := hb j l[j] hj (List.getElem?_eq_getElem (by omega)); simp [this]
  rw [this]
theorem idx_miss {α : Type} {p : α → Bool} {l : List α} (hb : ∀ (i : Nat) (y : α), l[i]? = some y → p y = false) : idx p l = -1 := by
  unfold idx
  have : l.findIdx? p = none := by
    rw [List.findIdx?_eq_none_iff]
    intro x hx
    obtain ⟨i, hi⟩ := List.mem_iff_getElem?.1 hx
    simp [hb i x hi]
  rw [this]
theorem int_eq {a b : Int} (h : a = b) : Value.int .i64 a = .int .i64 b := by rw [h]
theorem bool_eq {a b : Bool} (h : a = b) : Value.bool a = .bool b := by rw [h]
theorem ints_cells {w : World} {a : Option Addr} {n c : Nat} {l : List Int} (h : IntsAt w (.slice a n c) l) (hn : 0 < n) :
    ∃ b o, a = some ⟨b, o, none⟩ ∧ ∀ i x, l[i]? = some x → w.cell? ⟨b, o + i, none⟩ = some (.int .i64 x) := by
  obtain ⟨b, o, ha, h⟩ := SlAt.at h hn
  refine ⟨b, o, ha, fun i x hx => ?_⟩
  have := h i (intV x) (by simp [hx]) 0 _ rfl
  simpa using this
theorem get_of_lt {α : Type} {l : List α} {i : Nat} (h : i < l.length) : ∃ x, l[i]? = some x := ⟨_, List.getElem?_eq_getElem h⟩
theorem drop_cons {α : Type} {l : List α} {k : Nat} {x : α} (h : l[k]? = some x) : l.drop k = x :: l.drop (k + 1) := by
  have hlt := lt_of_get h
  rw [List.drop_eq_getElem_cons hlt]; rw [List.getElem?_eq_getElem hlt] at h; cases h; rfl
theorem below_next {α : Type} {p : α → Bool} {l : List α} {k : Nat} {x : α} (hx : l[k]? = some x) (hp : p x = false) (hno : ∀ (i : Nat) (y : α), i < k → l[i]? = some y → p y = false) : ∀ (i : Nat) (y : α), i < k + 1 → l[i]? = some y → p y = false := by
  intro i y hi hy
  rcases Nat.lt_or_ge i k with h | h
  · exact hno i y h hy
  · obtain rfl : i = k := by omega
    rw [hx] at hy; cases hy; exact hp
theorem slat_of_blk {w : World} {b t k cap : Nat} {rows : List (List Value)} (h : Blk w b rows.flatten.toArray t) (hk : ∀ r ∈ rows, r.length = k) (hl : rows.length ≤ 9223372036854775807) (hcap : rows.length ≤ cap) : SlAt w k (.slice (some ⟨b, 0, none⟩) rows.length cap) rows := by
  refine ⟨_, cap, rfl, hl, hcap, .inr ⟨b, 0, rfl, fun i r hr j u hu => ?_⟩⟩
  have hc : (rows.flatten)[i * k + j]? = some u := by
    clear h hl hcap
    induction rows generalizing i with
    | nil => simp at hr
    | cons x rs ih =>
      have hx : x.length = k := hk x (by simp)
      cases i with
      | zero =>
        simp at hr; subst hr
        have hj := lt_of_get hu
        simp only [List.flatten_cons, Nat.zero_mul, Nat.zero_add]
        rw [List.getElem?_append_left hj]; exact hu
      | succ i =>
        simp at hr
        simp only [List.flatten_cons]
        rw [List.getElem?_append_right (by rw [hx, Nat.succ_mul]; omega)]
        rw [show (i + 1) * k + j - x.length = i * k + j from by rw [hx, Nat.succ_mul]; omega]
        exact ih (fun r hr => hk r (by simp [hr])) _ hr
  rw [Nat.zero_add]
  exact h.cell (by simpa using hc)
theorem ints_of_blk {w : World} {b t cap : Nat} (l : List Int) (h : Blk w b (l.map intV).flatten.toArray t) (hl : l.length ≤ 9223372036854775807) (hcap : l.length ≤ cap) : IntsAt w (.slice (some ⟨b, 0, none⟩) l.length cap) l := by
  have := slat_of_blk (k := 1) (cap := cap) h (by intro r hr; simp only [List.mem_map] at hr; obtain ⟨x, _, rfl⟩ := hr; rfl) (by simpa using hl) (by simpa using hcap)
  simpa [IntsAt] using this
theorem spans_of_blk {w : World} {b t cap : Nat} (l : List (Int × Int)) (h : Blk w b (l.map spanV).flatten.toArray t) (hl : l.length ≤ 9223372036854775807) (hcap : l.length ≤ cap) : SpansAt w (.slice (some ⟨b, 0, none⟩) l.length cap) l := by
  have := slat_of_blk (k := 2) (cap := cap) h (by intro r hr; simp only [List.mem_map] at hr; obtain ⟨x, _, rfl⟩ := hr; rfl) (by simpa using hl) (by simpa using hcap)
  simpa [SpansAt] using this
theorem ReAt.one {w : World} {t : Re} {vs : List Value} (h : ReAt w t vs) : ∀ u ∈ vs, u.oneCell' = true := by
  obtain ⟨_, _, _, _, rfl, _⟩ := h.form
  simp [Value.oneCell']
end Go.Eng
