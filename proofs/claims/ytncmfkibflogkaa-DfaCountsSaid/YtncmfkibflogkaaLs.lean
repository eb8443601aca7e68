/- Plain laws of sets of runes as lists of spans: sorted lists with gaps are told by their members; joining, complements, and sizes. -/
import Derived.Test.YtncmfkibflogkaaRel
import Derived.Test.YtncmfkibflogkaaDat
namespace Go.Proofs
open Go Go.Eng
set_option maxRecDepth 100000

abbrev Sp := Int × Int
def MaxR : Int := 1114111
def vSp (s : Sp) : Prop := 0 ≤ s.1 ∧ s.1 ≤ s.2 ∧ s.2 ≤ 1114111
structure Canon (l : List Sp) : Prop where
  ok : ∀ s ∈ l, vSp s
  gap : l.Pairwise fun s t => s.2 + 2 ≤ t.1

theorem leLt (a b : Int) : a ≤ b ∨ b < a := by omega
theorem ltLe (a b : Int) : a < b ∨ b ≤ a := by omega
theorem inS_iff {l : List Sp} {r : Int} : inS l r = true ↔ ∃ s ∈ l, s.1 ≤ r ∧ r ≤ s.2 := by
  unfold inS
  simp [List.any_eq_true]
theorem inS_cons (s : Sp) (l : List Sp) (r : Int) : inS (s :: l) r = ((decide (s.1 ≤ r) && decide (r ≤ s.2)) || inS l r) := rfl
theorem inS_append (a b : List Sp) (r : Int) : inS (a ++ b) r = (inS a r || inS b r) := by
  unfold inS; rw [List.any_append]
theorem inS_nil (r : Int) : inS [] r = false := rfl
theorem inS_perm {a b : List Sp} (h : a.Perm b) (r : Int) : inS a r = inS b r := by
  rw [Bool.eq_iff_iff, inS_iff, inS_iff]
  exact ⟨fun ⟨s, hs, q⟩ => ⟨s, h.mem_iff.1 hs, q⟩, fun ⟨s, hs, q⟩ => ⟨s, h.mem_iff.2 hs, q⟩⟩

theorem Canon.nil : Canon [] := ⟨fun _ h => (by cases h), List.Pairwise.nil⟩
theorem Canon.one {s : Sp} (h : vSp s) : Canon [s] := ⟨fun t ht => by rw [List.mem_singleton] at ht; subst ht; exact h, List.pairwise_singleton _ _⟩
theorem Canon.tail {s : Sp} {l : List Sp} (h : Canon (s :: l)) : Canon l := ⟨fun t ht => h.ok t (List.mem_cons_of_mem _ ht), (List.pairwise_cons.1 h.gap).2⟩
theorem Canon.head {s : Sp} {l : List Sp} (h : Canon (s :: l)) : vSp s := h.ok s List.mem_cons_self
theorem Canon.far {s : Sp} {l : List Sp} (h : Canon (s :: l)) : ∀ t ∈ l, s.2 + 2 ≤ t.1 := (List.pairwise_cons.1 h.gap).1
theorem Canon.cons {s : Sp} {l : List Sp} (h1 : vSp s) (h2 : ∀ t ∈ l, s.2 + 2 ≤ t.1) (h3 : Canon l) : Canon (s :: l) :=
  ⟨fun t ht => by rcases List.mem_cons.1 ht with rfl | ht; exact h1; exact h3.ok t ht, List.pairwise_cons.2 ⟨h2, h3.gap⟩⟩

theorem canon_low {s : Sp} {l : List Sp} (h : Canon (s :: l)) {r : Int} (hr : r ≤ s.2 + 1) : inS l r = false := by
  cases e : inS l r with
  | false => rfl
  | true =>
    obtain ⟨t, ht, h1, _⟩ := inS_iff.1 e
    have := h.far t ht
    omega
theorem canon_below {s : Sp} {l : List Sp} (h : Canon (s :: l)) {r : Int} (hr : r < s.1) : inS (s :: l) r = false := by
  have hv := h.head
  rw [inS_cons, canon_low h (by unfold vSp at hv; omega), Bool.or_false, decide_eq_false (by omega)]; rfl
theorem canon_unique : ∀ {a b : List Sp}, Canon a → Canon b → (∀ r, inS a r = inS b r) → a = b
  | [], [], _, _, _ => rfl
  | [], t :: b, _, hb, h => by
    have hv := hb.head
    unfold vSp at hv
    have := h t.1
    rw [inS_nil, inS_cons, decide_eq_true (Int.le_refl _), decide_eq_true (by omega)] at this
    simp at this
  | s :: a, [], ha, _, h => by
    have hv := ha.head
    unfold vSp at hv
    have := h s.1
    rw [inS_nil, inS_cons, decide_eq_true (Int.le_refl _), decide_eq_true (by omega)] at this
    simp at this
  | s :: a, t :: b, ha, hb, h => by
    have hv := ha.head
    have hu := hb.head
    unfold vSp at hv hu
    have self : ∀ {s : Sp} {l : List Sp} {r : Int}, s.1 ≤ r → r ≤ s.2 → inS (s :: l) r = true := fun h1 h2 => by
      rw [inS_cons, decide_eq_true h1, decide_eq_true h2]; rfl
    have e1 : s.1 = t.1 := by
      rcases Int.lt_trichotomy s.1 t.1 with h1 | h1 | h1
      · have h2 := h s.1
        rw [self (Int.le_refl _) (by omega), canon_below hb h1] at h2
        cases h2
      · exact h1
      · have h2 := h t.1
        rw [self (s := t) (Int.le_refl _) (by omega), canon_below ha h1] at h2
        cases h2
    have e2 : s.2 = t.2 := by
      rcases Int.lt_trichotomy s.2 t.2 with h1 | h1 | h1
      · have h2 := h (s.2 + 1)
        rw [self (s := t) (by omega) (by omega), inS_cons, canon_low ha (Int.le_refl _), decide_eq_false (p := s.2 + 1 ≤ s.2) (by omega)] at h2
        simp at h2
      · exact h1
      · have h2 := h (t.2 + 1)
        rw [self (s := s) (by omega) (by omega), inS_cons, canon_low hb (Int.le_refl _), decide_eq_false (p := t.2 + 1 ≤ t.2) (by omega)] at h2
        simp at h2
    have e3 : s = t := Prod.ext e1 e2
    subst e3
    have e4 : a = b := canon_unique ha.tail hb.tail fun r => by
      rcases leLt r (s.2 + 1) with h1 | h1
      · rw [canon_low ha h1, canon_low hb h1]
      · have h2 := h r
        rw [inS_cons, inS_cons, decide_eq_false (p := r ≤ s.2) (by omega)] at h2
        simpa using h2
    rw [e4]

/-! Joining. -/
def jstep (out : List Sp) (s : Sp) : List Sp := match out.getLast? with
  | some c => if s.1 ≤ c.2 + 1 then out.dropLast ++ [(c.1, max c.2 s.2)] else out ++ [s]
  | none => [s]
def joinF (l : List Sp) : List Sp := l.foldl jstep []
theorem jstep_snoc (o : List Sp) (c s : Sp) : jstep (o ++ [c]) s = if s.1 ≤ c.2 + 1 then o ++ [(c.1, max c.2 s.2)] else o ++ [c] ++ [s] := by
  unfold jstep; simp
theorem jstep_nil (s : Sp) : jstep [] s = [s] := rfl
structure JInv (out l : List Sp) (m : Int) : Prop where
  can : Canon out
  low : ∀ s ∈ out, s.1 ≤ m
  mem : ∀ r, inS out r = inS l r
  len : out.length ≤ l.length
theorem snoc_cases {α : Type} (l : List α) : l = [] ∨ ∃ o c, l = o ++ [c] := by
  rcases List.eq_nil_or_concat l with h | ⟨o, c, h⟩
  · exact .inl h
  · exact .inr ⟨o, c, by simpa using h⟩
theorem canon_snoc {o : List Sp} {c : Sp} : Canon (o ++ [c]) ↔ Canon o ∧ vSp c ∧ ∀ t ∈ o, t.2 + 2 ≤ c.1 := by
  constructor
  · intro h
    have h1 := List.pairwise_append.1 h.gap
    exact ⟨⟨fun t ht => h.ok t (by simp [ht]), h1.1⟩, h.ok c (by simp), fun t ht => h1.2.2 t ht c (by simp)⟩
  · rintro ⟨h1, h2, h3⟩
    refine ⟨fun t ht => ?_, List.pairwise_append.2 ⟨h1.gap, List.pairwise_singleton _ _, fun t ht u hu => ?_⟩⟩
    · rcases List.mem_append.1 ht with ht | ht
      · exact h1.ok t ht
      · rw [List.mem_singleton] at ht; subst ht; exact h2
    · rw [List.mem_singleton] at hu; subst hu; exact h3 t ht
theorem jstep_inv {out l : List Sp} {m : Int} {s : Sp} (h : JInv out l m) (hs : vSp s) (hm : m ≤ s.1) : JInv (jstep out s) (l ++ [s]) s.1 := by
  rcases snoc_cases out with rfl | ⟨o, c, rfl⟩
  · rw [jstep_nil]
    refine ⟨Canon.one hs, fun t ht => by rw [List.mem_singleton] at ht; subst ht; exact Int.le_refl _, fun r => ?_, by simp⟩
    rw [inS_append, ← h.mem r]; rfl
  · obtain ⟨h1, h2, h3⟩ := canon_snoc.1 h.can
    have hc := h.low c (by simp)
    unfold vSp at h2 hs
    rw [jstep_snoc]
    split
    · rename_i h4
      have hmx : max c.2 s.2 = c.2 ∨ max c.2 s.2 = s.2 := by omega
      have hge : c.2 ≤ max c.2 s.2 ∧ s.2 ≤ max c.2 s.2 := by omega
      refine ⟨canon_snoc.2 ⟨h1, ⟨h2.1, by simp only; omega, by simp only; omega⟩, h3⟩, fun t ht => ?_, fun r => ?_, ?_⟩
      · rcases List.mem_append.1 ht with ht | ht
        · have := h.low t (by simp [ht]); omega
        · rw [List.mem_singleton] at ht; subst ht; simp only; omega
      · have hr := h.mem r
        rw [inS_append] at hr
        rw [inS_append, inS_append, ← hr]
        have e : inS [(c.1, max c.2 s.2)] r = (inS [c] r || inS [s] r) := by
          rw [Bool.eq_iff_iff]
          simp only [inS_cons, inS_nil, Bool.or_false, Bool.or_eq_true, Bool.and_eq_true, decide_eq_true_eq]
          constructor
          · intro ⟨q1, q2⟩; omega
          · rintro (⟨q1, q2⟩ | ⟨q1, q2⟩) <;> omega
        rw [e, Bool.or_assoc]
      · have := h.len; simp at this ⊢; omega
    · rename_i h4
      refine ⟨canon_snoc.2 ⟨h.can, hs, fun t ht => ?_⟩, fun t ht => ?_, fun r => ?_, ?_⟩
      · rcases List.mem_append.1 ht with ht | ht
        · have := h3 t ht; omega
        · rw [List.mem_singleton] at ht; subst ht; omega
      · rcases List.mem_append.1 ht with ht | ht
        · have := h.low t ht; omega
        · rw [List.mem_singleton] at ht; subst ht; exact Int.le_refl _
      · rw [inS_append _ [s], inS_append l, h.mem r]
      · have := h.len; simp at this ⊢; omega
theorem foldl_inv : ∀ (r : List Sp) {out l : List Sp} {m : Int}, JInv out l m → (∀ s ∈ r, vSp s ∧ m ≤ s.1) → r.Pairwise (fun s t => s.1 ≤ t.1) → ∃ m', JInv (r.foldl jstep out) (l ++ r) m'
  | [], out, l, m, h, _, _ => ⟨m, by simpa using h⟩
  | s :: r, out, l, m, h, hv, hp => by
    have h1 := hv s List.mem_cons_self
    have h2 := List.pairwise_cons.1 hp
    obtain ⟨m', h3⟩ := foldl_inv r (jstep_inv h h1.1 h1.2) (fun t ht => ⟨(hv t (List.mem_cons_of_mem _ ht)).1, h2.1 t ht⟩) h2.2
    exact ⟨m', by simpa using h3⟩
theorem joinF_all {l : List Sp} (hv : ∀ s ∈ l, vSp s) (hp : l.Pairwise (fun s t => s.1 ≤ t.1)) : Canon (joinF l) ∧ (∀ r, inS (joinF l) r = inS l r) ∧ (joinF l).length ≤ l.length := by
  obtain ⟨m, h⟩ := foldl_inv l (out := []) (l := []) (m := 0) ⟨Canon.nil, fun _ h => by (cases h), fun _ => rfl, Nat.le_refl _⟩ (fun s hs => ⟨hv s hs, (hv s hs).1⟩) hp
  exact ⟨h.can, h.mem, h.len⟩
/-- What joining makes of a list, in whatever order the spans come: by sorting. -/
def JoinOf (l out : List Sp) : Prop := ∃ l', l'.Perm l ∧ l'.Pairwise (fun s t => s.1 ≤ t.1) ∧ out = joinF l'
theorem JoinOf.all {l out : List Sp} (h : JoinOf l out) (hv : ∀ s ∈ l, vSp s) : Canon out ∧ (∀ r, inS out r = inS l r) ∧ out.length ≤ l.length := by
  obtain ⟨l', h1, h2, rfl⟩ := h
  have h3 := joinF_all (fun s hs => hv s (h1.mem_iff.1 hs)) h2
  exact ⟨h3.1, fun r => (h3.2.1 r).trans (inS_perm h1 r), by rw [← h1.length_eq]; exact h3.2.2⟩

/-! Complements. -/
def restL (p : Int) : List Sp → List Sp
  | [] => if p ≤ 1114111 then [(p, 1114111)] else []
  | s :: r => if p < s.1 then (p, s.1 - 1) :: restL (s.2 + 1) r else restL (s.2 + 1) r
theorem restL_cons (p : Int) (s : Sp) (r : List Sp) : restL p (s :: r) = if p < s.1 then (p, s.1 - 1) :: restL (s.2 + 1) r else restL (s.2 + 1) r := rfl
theorem restL_nil (p : Int) : restL p [] = if p ≤ 1114111 then [(p, 1114111)] else [] := rfl
theorem restL_len : ∀ (l : List Sp) (p : Int), (restL p l).length ≤ l.length + 1
  | [], p => by unfold restL; split <;> simp
  | s :: r, p => by
    have := restL_len r (s.2 + 1)
    unfold restL; split <;> simp <;> omega
theorem restL_all : ∀ (l : List Sp) (p : Int), Canon l → 0 ≤ p → (∀ s ∈ l, p ≤ s.1) →
    Canon (restL p l) ∧ (∀ t ∈ restL p l, p ≤ t.1) ∧ (∀ r, p ≤ r → r ≤ 1114111 → inS (restL p l) r = !inS l r)
  | [], p, _, h0, _ => by
    unfold restL
    split
    · rename_i h
      refine ⟨Canon.one ⟨h0, h, by omega⟩, fun t ht => by rw [List.mem_singleton] at ht; subst ht; exact Int.le_refl _, fun r h1 h2 => ?_⟩
      rw [inS_cons, inS_nil, decide_eq_true h1, decide_eq_true h2]; rfl
    · exact ⟨Canon.nil, fun t ht => (by cases ht), fun r h1 h2 => by omega⟩
  | s :: r, p, hc, h0, hp => by
    have hv := hc.head
    have hps := hp s List.mem_cons_self
    unfold vSp at hv
    obtain ⟨h1, h2, h3⟩ := restL_all r (s.2 + 1) hc.tail (by omega) (fun t ht => by have := hc.far t ht; omega)
    have hin : ∀ q, s.2 + 1 ≤ q → q ≤ 1114111 → inS (restL (s.2 + 1) r) q = !inS (s :: r) q := fun q q1 q2 => by
      rw [h3 q q1 q2, inS_cons, decide_eq_false (p := q ≤ s.2) (by omega), Bool.and_false, Bool.false_or]
    have hno : ∀ q, q ≤ s.2 → inS (restL (s.2 + 1) r) q = false := fun q hq => by
      cases e : inS (restL (s.2 + 1) r) q with
      | false => rfl
      | true => obtain ⟨t, ht, q1, _⟩ := inS_iff.1 e; have := h2 t ht; omega
    have hyes : ∀ q, s.1 ≤ q → q ≤ s.2 → inS (s :: r) q = true := fun q q1 q2 => by rw [inS_cons, decide_eq_true q1, decide_eq_true q2]; rfl
    unfold restL
    split
    · rename_i hlt
      refine ⟨Canon.cons ⟨h0, by simp only; omega, by simp only; omega⟩ (fun t ht => by have := h2 t ht; simp only; omega) h1, fun t ht => ?_, fun q q1 q2 => ?_⟩
      · rcases List.mem_cons.1 ht with rfl | ht
        · exact Int.le_refl _
        · have := h2 t ht; omega
      · rw [inS_cons]
        rcases ltLe q s.1 with h4 | h4
        · rw [decide_eq_true (p := p ≤ q) q1, decide_eq_true (p := q ≤ s.1 - 1) (by omega), canon_below hc h4]; rfl
        · rw [decide_eq_false (p := q ≤ s.1 - 1) (by omega), Bool.and_false, Bool.false_or]
          rcases ltLe s.2 q with h5 | h5
          · exact hin q (by omega) q2
          · rw [hno q h5, hyes q h4 h5]; rfl
    · rename_i hlt
      refine ⟨h1, fun t ht => by have := h2 t ht; omega, fun q q1 q2 => ?_⟩
      rcases ltLe s.2 q with h5 | h5
      · exact hin q (by omega) q2
      · rw [hno q h5, hyes q (by omega) h5]; rfl
theorem canon_out {l : List Sp} (h : Canon l) {r : Int} (hr : r < 0 ∨ 1114111 < r) : inS l r = false := by
  cases e : inS l r with
  | false => rfl
  | true => obtain ⟨t, ht, q1, q2⟩ := inS_iff.1 e; have := h.ok t ht; unfold vSp at this; omega
def notS (l : List Sp) : List Sp := restL 0 l
theorem notS_canon {l : List Sp} (h : Canon l) : Canon (notS l) := (restL_all l 0 h (Int.le_refl _) fun s hs => (h.ok s hs).1).1
theorem notS_mem {l : List Sp} (h : Canon l) {r : Int} (h0 : 0 ≤ r) (h1 : r ≤ 1114111) : inS (notS l) r = !inS l r := (restL_all l 0 h (Int.le_refl _) fun s hs => (h.ok s hs).1).2.2 r h0 h1
theorem notS_len (l : List Sp) : (notS l).length ≤ l.length + 1 := restL_len l 0
theorem canon_ext {a b : List Sp} (ha : Canon a) (hb : Canon b) (h : ∀ r, 0 ≤ r → r ≤ 1114111 → inS a r = inS b r) : a = b :=
  canon_unique ha hb fun r => by
    rcases ltLe r 0 with h1 | h1
    · rw [canon_out ha (.inl h1), canon_out hb (.inl h1)]
    · rcases ltLe 1114111 r with h2 | h2
      · rw [canon_out ha (.inr h2), canon_out hb (.inr h2)]
      · exact h r h1 h2

/-! Sizes. -/
def sizeL (l : List Sp) : Int := (l.map fun s => s.2 - s.1 + 1).sum
def cntN (f : Int → Bool) (n : Nat) : Nat := (List.range n).countP fun k => f ((k : Nat) : Int)
theorem cntN_succ (f : Int → Bool) (n : Nat) : cntN f (n + 1) = cntN f n + if f ((n : Nat) : Int) then 1 else 0 := by
  unfold cntN; rw [List.range_succ, List.countP_append]; simp [List.countP_cons]
theorem cntN_add {f g h k : Int → Bool} : ∀ (n : Nat), (∀ r : Int, 0 ≤ r → r < ((n : Nat) : Int) → (if f r then 1 else 0) + (if g r then 1 else 0) = (if h r then 1 else 0) + (if k r then (1 : Nat) else 0)) → cntN f n + cntN g n = cntN h n + cntN k n
  | 0, _ => rfl
  | n + 1, hh => by
    have h1 := cntN_add n fun r h0 h1 => hh r h0 (by omega)
    have h2 := hh ((n : Nat) : Int) (by omega) (by omega)
    rw [cntN_succ, cntN_succ, cntN_succ, cntN_succ]; omega
theorem cntN_span (lo hi : Int) (h0 : 0 ≤ lo) (h1 : lo ≤ hi) : ∀ (n : Nat), ((cntN (fun r => decide (lo ≤ r) && decide (r ≤ hi)) n : Nat) : Int) = max 0 (min ((n : Nat) : Int) (hi + 1) - lo)
  | 0 => by unfold cntN; simp; omega
  | n + 1 => by
    have ih := cntN_span lo hi h0 h1 n
    rw [cntN_succ]
    by_cases h2 : lo ≤ ((n : Nat) : Int)
    · by_cases h3 : ((n : Nat) : Int) ≤ hi
      · rw [decide_eq_true h2, decide_eq_true h3]; simp; omega
      · rw [decide_eq_false h3]; simp; omega
    · rw [decide_eq_false h2]; simp; omega
theorem cntN_none (n : Nat) : cntN (fun _ => false) n = 0 := by unfold cntN; simp
theorem sizeL_cnt : ∀ {l : List Sp}, Canon l → sizeL l = ((cntN (inS l) 1114112 : Nat) : Int)
  | [], _ => by
    have : inS [] = fun _ => false := by funext r; rfl
    rw [this, cntN_none]; rfl
  | s :: l, h => by
    have hv := h.head
    unfold vSp at hv
    have ih := sizeL_cnt h.tail
    have h1 := cntN_add (f := fun r => decide (s.1 ≤ r) && decide (r ≤ s.2)) (g := inS l) (h := inS (s :: l)) (k := fun _ => false) 1114112 fun r _ _ => by
      rw [inS_cons]
      rcases leLt r s.2 with h2 | h2
      · rw [canon_low h (by omega)]; simp
      · rw [decide_eq_false (p := r ≤ s.2) (by omega)]; simp
    rw [cntN_none] at h1
    have h2 := cntN_span s.1 s.2 hv.1 hv.2.1 1114112
    have h3 : sizeL (s :: l) = (s.2 - s.1 + 1) + sizeL l := by unfold sizeL; simp
    rw [h3, ih]
    omega
end Go.Proofs
