/- Plain: Kleene's and Boole's laws for what expressions match. -/
import Derived.Test.YtiepeobnpmoghaaW13
namespace Go.Proofs
open Go Go.Eng

def Wf (n : Nat) (R : Rl) : Prop := ∀ i j, R i j = true → i ≤ j ∧ j ≤ n
theorem wf_no (n : Nat) : Wf n noR := fun i j h => by simp [noR] at h
theorem wf_id (n : Nat) : Wf n (idR n) := fun i j h => by simp [idR] at h; omega
theorem wf_or {n : Nat} {A B : Rl} (a : Wf n A) (b : Wf n B) : Wf n (orR A B) := fun i j h => by
  simp only [orR, Bool.or_eq_true] at h; rcases h with h | h; exact a i j h; exact b i j h
theorem wf_and {n : Nat} {A B : Rl} (a : Wf n A) : Wf n (andR A B) := fun i j h => by
  simp only [andR, Bool.and_eq_true] at h; exact a i j h.1
theorem wf_then {n : Nat} {A B : Rl} (a : Wf n A) (b : Wf n B) : Wf n (thenR A B n) := fun i k h => by
  simp only [thenR, Bool.and_eq_true, List.any_eq_true] at h
  obtain ⟨_, j, _, h1, h2⟩ := h
  have := a i j h1; have := b j k h2; omega
theorem wf_star {n : Nat} {A : Rl} (a : Wf n A) : ∀ m, Wf n (starN n A m)
  | 0 => wf_id n
  | m + 1 => wf_or (wf_star a m) (wf_then (wf_star a m) a)
theorem wf_pow {n : Nat} {A : Rl} (a : Wf n A) : ∀ m, Wf n (powR n A m)
  | 0 => wf_id n
  | m + 1 => wf_then (wf_pow a m) a
theorem wf_rep {n : Nat} {A : Rl} (a : Wf n A) (mn : Int) : ∀ m, Wf n (repR n A mn m)
  | 0 => wf_no n
  | m + 1 => by
    simp only [repR]
    split
    · exact wf_or (wf_rep a mn m) (wf_pow a m)
    · exact wf_rep a mn m
theorem wf_not (n : Nat) (A : Rl) : Wf n (notR n A) := fun i j h => by simp [notR] at h; omega
theorem wf_look (n : Nat) (A : Rl) (ng : Bool) : Wf n (lookR n A ng) := fun i j h => by simp [lookR] at h; omega
theorem wf_set (text : List Int) (set : List (Int × Int)) : Wf text.length (setR text set) := fun i j h => by
  simp only [setR, Bool.and_eq_true, decide_eq_true_eq] at h
  obtain ⟨h1, rfl⟩ := h
  cases hx : text[i]? with
  | none => simp [hx] at h1
  | some c => have := lt_of_get hx; omega
theorem wf_head {n : Nat} {L : List Rl} (h : ∀ x ∈ L, Wf n x) : Wf n (L.headD noR) := by
  cases L with
  | nil => exact wf_no n
  | cons x r => exact h x (by simp)
theorem wf_foldThen {n : Nat} : ∀ (L : List Rl) (A : Rl), Wf n A → (∀ x ∈ L, Wf n x) → Wf n (L.foldl (fun a x => thenR a x n) A)
  | [], _, h, _ => h
  | x :: L, A, h, hl => wf_foldThen L _ (wf_then h (hl x (by simp))) fun y hy => hl y (by simp [hy])
theorem wf_foldOr {n : Nat} : ∀ (L : List Rl) (A : Rl), Wf n A → (∀ x ∈ L, Wf n x) → Wf n (L.foldl orR A)
  | [], _, h, _ => h
  | x :: L, A, h, hl => wf_foldOr L _ (wf_or h (hl x (by simp))) fun y hy => hl y (by simp [hy])
theorem wf_foldAnd {n : Nat} : ∀ (L : List Rl) (A : Rl), Wf n A → Wf n (L.foldl andR A)
  | [], _, h => h
  | x :: L, A, h => wf_foldAnd L _ (wf_and h)
theorem wf_relK (text : List Int) (k : Int) (set : List (Int × Int)) (L : List Rl) (mn mx : Int) (ng : Bool) (h : ∀ x ∈ L, Wf text.length x) : Wf text.length (relK text k set L mn mx ng) := by
  unfold relK
  repeat' split
  · exact wf_id _
  · exact wf_set _ _
  · exact wf_foldThen _ _ (wf_id _) h
  · exact wf_foldOr _ _ (wf_no _) h
  · exact wf_foldAnd _ _ (wf_head h)
  · exact wf_not _ _
  · exact wf_star (wf_head h) _
  · exact wf_rep (wf_head h) _ _
  · exact wf_head h
  · exact wf_look _ _ _
  · exact wf_no _
mutual
theorem wf_rel (text : List Int) : ∀ (t : Re), Wf text.length (relOf text t)
  | .mk k set args mn mx ng => by simp only [relOf]; exact wf_relK _ _ _ _ _ _ _ (wf_rels text args)
theorem wf_rels (text : List Int) : ∀ (ts : List Re), ∀ x ∈ relsOf text ts, Wf text.length x
  | [], _, h => by simp [relsOf] at h
  | t :: ts, x, h => by
    simp only [relsOf, List.mem_cons] at h
    rcases h with rfl | h
    · exact wf_rel text t
    · exact wf_rels text ts x h
end

theorem rl_ext {A B : Rl} (h : ∀ i j, A i j = true ↔ B i j = true) : A = B := by
  funext i j; exact Bool.eq_iff_iff.2 (h i j)
theorem then_iff {n : Nat} (hn : n ≤ 24) {A B : Rl} (a : Wf n A) (i k : Nat) : thenR A B n i k = true ↔ ∃ j, A i j = true ∧ B j k = true := by
  simp only [thenR, Bool.and_eq_true, List.any_eq_true, List.mem_range, decide_eq_true_eq]
  constructor
  · rintro ⟨_, j, _, h⟩; exact ⟨j, h⟩
  · rintro ⟨j, h1, h2⟩; have := a i j h1; exact ⟨by omega, j, by omega, h1, h2⟩
theorem or_iff (A B : Rl) (i j : Nat) : orR A B i j = true ↔ A i j = true ∨ B i j = true := by simp [orR]
theorem id_iff (n i j : Nat) : idR n i j = true ↔ i ≤ n ∧ j = i := by simp [idR]

theorem id_then {n : Nat} (hn : n ≤ 24) {A : Rl} (a : Wf n A) : thenR (idR n) A n = A := rl_ext fun i k => by
  rw [then_iff hn (wf_id n)]
  constructor
  · rintro ⟨j, h1, h2⟩; rw [id_iff] at h1; obtain ⟨_, rfl⟩ := h1; exact h2
  · intro h; have := a i k h; exact ⟨i, (id_iff n i i).2 ⟨by omega, rfl⟩, h⟩
theorem then_assoc {n : Nat} (hn : n ≤ 24) {A B C : Rl} (a : Wf n A) (b : Wf n B) : thenR A (thenR B C n) n = thenR (thenR A B n) C n := rl_ext fun i k => by
  rw [then_iff hn a, then_iff hn (wf_then a b)]
  constructor
  · rintro ⟨j, h1, h2⟩; rw [then_iff hn b] at h2; obtain ⟨m, h3, h4⟩ := h2; exact ⟨m, (then_iff hn a i m).2 ⟨j, h1, h3⟩, h4⟩
  · rintro ⟨j, h1, h2⟩; rw [then_iff hn a] at h1; obtain ⟨m, h3, h4⟩ := h1; exact ⟨m, h3, (then_iff hn b m k).2 ⟨j, h4, h2⟩⟩
theorem then_or {n : Nat} (hn : n ≤ 24) {A B C : Rl} (a : Wf n A) : thenR A (orR B C) n = orR (thenR A B n) (thenR A C n) := rl_ext fun i k => by
  rw [or_iff, then_iff hn a, then_iff hn a, then_iff hn a]
  constructor
  · rintro ⟨j, h1, h2⟩; rw [or_iff] at h2; rcases h2 with h | h; exact .inl ⟨j, h1, h⟩; exact .inr ⟨j, h1, h⟩
  · rintro (⟨j, h1, h2⟩ | ⟨j, h1, h2⟩); exact ⟨j, h1, (or_iff _ _ _ _).2 (.inl h2)⟩; exact ⟨j, h1, (or_iff _ _ _ _).2 (.inr h2)⟩
theorem or_then {n : Nat} (hn : n ≤ 24) {A B C : Rl} (a : Wf n A) (b : Wf n B) : thenR (orR A B) C n = orR (thenR A C n) (thenR B C n) := rl_ext fun i k => by
  rw [or_iff, then_iff hn a, then_iff hn b, then_iff hn (wf_or a b)]
  constructor
  · rintro ⟨j, h1, h2⟩; rw [or_iff] at h1; rcases h1 with h | h; exact .inl ⟨j, h, h2⟩; exact .inr ⟨j, h, h2⟩
  · rintro (⟨j, h1, h2⟩ | ⟨j, h1, h2⟩); exact ⟨j, (or_iff _ _ _ _).2 (.inl h1), h2⟩; exact ⟨j, (or_iff _ _ _ _).2 (.inr h1), h2⟩
theorem or_comm' (A B : Rl) : orR A B = orR B A := by funext i j; simp [orR, Bool.or_comm]
theorem or_self' (A : Rl) : orR A A = A := by funext i j; simp [orR]
theorem no_or (A : Rl) : orR noR A = A := by funext i j; simp [orR, noR]

/-- Repetition. -/
inductive St (n : Nat) (A : Rl) (i : Nat) : Nat → Prop where
  | refl : i ≤ n → St n A i i
  | step {j k : Nat} : St n A i j → A j k = true → St n A i k
theorem star_mono {n : Nat} {A : Rl} {m m' : Nat} (h : m ≤ m') {i j : Nat} (hs : starN n A m i j = true) : starN n A m' i j = true := by
  induction m' with
  | zero => obtain rfl : m = 0 := by omega
            exact hs
  | succ m' ih =>
    rcases Nat.lt_or_ge m (m' + 1) with h1 | h1
    · simp only [starN, or_iff]; exact .inl (ih (by omega))
    · obtain rfl : m = m' + 1 := by omega
      exact hs
theorem st_of_star {n : Nat} (hn : n ≤ 24) {A : Rl} (a : Wf n A) : ∀ {m i j : Nat}, starN n A m i j = true → St n A i j
  | 0, i, j, h => by simp only [starN, id_iff] at h; obtain ⟨h, rfl⟩ := h; exact .refl h
  | m + 1, i, j, h => by
    simp only [starN, or_iff] at h
    rcases h with h | h
    · exact st_of_star hn a h
    · rw [then_iff hn (wf_star a m)] at h
      obtain ⟨k, h1, h2⟩ := h
      exact .step (st_of_star hn a h1) h2
theorem star_of_st {n : Nat} (hn : n ≤ 24) {A : Rl} (a : Wf n A) {i j : Nat} (h : St n A i j) : starN n A (j - i) i j = true := by
  induction h with
  | refl h => simp only [Nat.sub_self, starN, id_iff]; exact ⟨h, trivial⟩
  | @step j k h1 h2 ih =>
    have h3 := a j k h2
    have h4 := wf_star a _ _ _ ih
    rcases Nat.lt_or_ge j k with h | h
    · refine star_mono (m := j - i + 1) (by omega) ?_
      simp only [starN, or_iff]
      exact .inr ((then_iff hn (wf_star a _) i k).2 ⟨j, ih, h2⟩)
    · obtain rfl : j = k := by omega
      exact ih
theorem star_iff {n : Nat} (hn : n ≤ 24) {A : Rl} (a : Wf n A) (i j : Nat) : starN n A (n + 1) i j = true ↔ St n A i j :=
  ⟨st_of_star hn a, fun h => by
    have h1 := star_of_st hn a h
    have := wf_star a _ _ _ h1
    exact star_mono (by omega) h1⟩
theorem St.trans {n : Nat} {A : Rl} {i j k : Nat} (h : St n A i j) (h' : St n A j k) : St n A i k := by
  induction h' with
  | refl _ => exact h
  | step _ h2 ih => exact .step ih h2
theorem St.one {n : Nat} {A : Rl} (a : Wf n A) {i j : Nat} (h : A i j = true) : St n A i j := .step (.refl (by have := a i j h; omega)) h
theorem St.le {n : Nat} {A : Rl} (a : Wf n A) {i j : Nat} (h : St n A i j) : i ≤ n ∧ j ≤ n := by
  induction h with
  | refl h => exact ⟨h, h⟩
  | step _ h2 ih => exact ⟨ih.1, (a _ _ h2).2⟩
theorem star_unfold {n : Nat} (hn : n ≤ 24) {A : Rl} (a : Wf n A) : starN n A (n + 1) = orR (idR n) (thenR A (starN n A (n + 1)) n) := rl_ext fun i k => by
  rw [or_iff, id_iff, then_iff hn a, star_iff hn a]
  constructor
  · intro h
    induction h with
    | refl h => exact .inl ⟨h, rfl⟩
    | @step j k h1 h2 ih =>
      rcases ih with ⟨h3, rfl⟩ | ⟨m, h3, h4⟩
      · exact .inr ⟨k, h2, (star_iff hn a k k).2 (.refl (a _ _ h2).2)⟩
      · exact .inr ⟨m, h3, (star_iff hn a m k).2 (.step ((star_iff hn a m j).1 h4) h2)⟩
  · rintro (⟨h, rfl⟩ | ⟨m, h1, h2⟩)
    · exact .refl h
    · exact (St.one a h1).trans ((star_iff hn a m k).1 h2)
theorem star_then {n : Nat} (hn : n ≤ 24) {A : Rl} (a : Wf n A) : thenR (starN n A (n + 1)) (starN n A (n + 1)) n = starN n A (n + 1) := rl_ext fun i k => by
  rw [then_iff hn (wf_star a _), star_iff hn a]
  constructor
  · rintro ⟨j, h1, h2⟩; exact ((star_iff hn a i j).1 h1).trans ((star_iff hn a j k).1 h2)
  · intro h; exact ⟨k, (star_iff hn a i k).2 h, (star_iff hn a k k).2 (.refl (h.le a).2)⟩
theorem star_star {n : Nat} (hn : n ≤ 24) {A : Rl} (a : Wf n A) : starN n (starN n A (n + 1)) (n + 1) = starN n A (n + 1) := rl_ext fun i k => by
  rw [star_iff hn (wf_star a _), star_iff hn a]
  constructor
  · intro h
    induction h with
    | refl h => exact .refl h
    | @step j k h1 h2 ih => exact ih.trans ((star_iff hn a j k).1 h2)
  · intro h; exact St.one (wf_star a _) ((star_iff hn a i k).2 h)

/-! What composed expressions match. -/
abbrev catT (s t : Re) : Re := .mk 3 [] [s, t] 0 0 false
abbrev altT (s t : Re) : Re := .mk 4 [] [s, t] 0 0 false
abbrev andT (s t : Re) : Re := .mk 7 [] [s, t] 0 0 false
abbrev starT (s : Re) : Re := .mk 5 [] [s] 0 0 false
abbrev notT (s : Re) : Re := .mk 8 [] [s] 0 0 false
abbrev lookT (s : Re) (ng : Bool) : Re := .mk 10 [] [s] 0 0 ng
abbrev emptyT : Re := .mk 1 [] [] 0 0 false
abbrev noneT : Re := .mk 0 [] [] 0 0 false
section
variable (text : List Int)
theorem rel_cat (hn : text.length ≤ 24) (s t : Re) : relOf text (catT s t) = thenR (relOf text s) (relOf text t) text.length := by
  simp only [relOf, relsOf, relK, List.foldl]
  simp [id_then hn (wf_rel text s)]
theorem rel_alt (s t : Re) : relOf text (altT s t) = orR (relOf text s) (relOf text t) := by
  simp only [relOf, relsOf, relK, List.foldl]
  simp [no_or]
theorem rel_and (s t : Re) : relOf text (andT s t) = andR (relOf text s) (relOf text t) := by
  simp only [relOf, relsOf, relK, List.foldl, List.headD]
  funext i j
  simp [andR]
theorem rel_star (s : Re) : relOf text (starT s) = starN text.length (relOf text s) (text.length + 1) := by
  simp [relOf, relsOf, relK]
theorem rel_not (s : Re) : relOf text (notT s) = notR text.length (relOf text s) := by
  simp [relOf, relsOf, relK]
theorem rel_look (s : Re) (ng : Bool) : relOf text (lookT s ng) = lookR text.length (relOf text s) ng := by
  simp [relOf, relsOf, relK]
theorem rel_empty : relOf text emptyT = idR text.length := by simp [relOf, relsOf, relK]
theorem rel_none : relOf text noneT = noR := by simp [relOf, relsOf, relK]
end
theorem ok_two {k : Int} (h : k = 3 ∨ k = 4 ∨ k = 7) {s t : Re} (a : okRe s) (b : okRe t) : okRe (.mk k [] [s, t] 0 0 false) := by simp only [okRe, okRes]; exact ⟨node_two h s t, a, b, trivial⟩
theorem ok_one {k : Int} (h : k = 5 ∨ k = 8) {s : Re} (a : okRe s) : okRe (.mk k [] [s] 0 0 false) := by simp only [okRe, okRes]; exact ⟨node_one h s, a, trivial⟩
theorem ok_look {s : Re} (ng : Bool) (a : okRe s) : okRe (lookT s ng) := by simp only [okRe, okRes]; exact ⟨node_look ng s, a, trivial⟩
theorem ok_leaf {k : Int} (h : k = 0 ∨ k = 1) : okRe (.mk k [] [] 0 0 false) := by simp only [okRe, okRes]; exact ⟨node_leaf h, trivial⟩
def Txt (text : List Int) : Prop := text.length ≤ 24 ∧ ∀ x ∈ text, runeB x = true
theorem check_zero {t : Re} {text : List Int} (ht : okRe t) (hs : t.size ≤ 40) (h : Txt text) : checkP t text = 0 := by
  have h1 : fitsE t 40 = 0 := (fitsE_zero (by decide) (by decide)).2 ⟨ht, by omega⟩
  unfold checkP
  rw [if_neg (by simp [h1]), if_neg (by have := h.1; omega), if_neg]
  simp only [List.any_eq_true, Bool.not_eq_true', not_exists, not_and]
  intro x hx
  simp [h.2 x hx]
/-- Two expressions of which the program says that they match the same parts of a text. -/
def Sm (s t : Re) (text : List Int) : Prop := checkP s text = 0 ∧ checkP t text = 0 ∧ pairsL (relOf text s) (text.length + 1) = pairsL (relOf text t) (text.length + 1)
theorem sm_mk {s t : Re} {text : List Int} (h : Txt text) (a : okRe s) (b : okRe t) (ha : s.size ≤ 40) (hb : t.size ≤ 40) (he : relOf text s = relOf text t) : Sm s t text :=
  ⟨check_zero a ha h, check_zero b hb h, by rw [he]⟩

theorem look_mask {n : Nat} (hn : n ≤ 24) (A : Rl) (ng : Bool) (i : Nat) (hi : i ≤ n) : decide (maskN 25 (lookR n A ng i) ≠ 0) = (decide (maskN 25 (A i) ≠ 0) != ng) := by
  rw [Bool.eq_iff_iff, decide_eq_true_eq]
  constructor
  · intro hne
    by_cases hx : (decide (maskN 25 (A i) ≠ 0) != ng) = true
    · exact hx
    · exfalso; apply hne
      rw [mask_eq_zero]
      intro j _
      simp only [lookR]
      rw [Bool.not_eq_true] at hx
      rw [hx, Bool.and_false]
  · intro hx h0
    rw [mask_eq_zero] at h0
    have := h0 i (by omega)
    simp only [lookR, hx] at this
    simp [hi] at this
theorem look_look {n : Nat} (hn : n ≤ 24) (A : Rl) : lookR n (lookR n A true) true = lookR n A false := by
  funext i j
  by_cases hi : i ≤ n
  · have := look_mask hn A true i hi
    simp only [lookR] at this ⊢
    rw [this]
    cases decide (maskN 25 (A i) ≠ 0) <;> rfl
  · simp [lookR, hi]
section
variable {text : List Int} (h : Txt text) {a b c : Re} (oa : okRe a) (ob : okRe b) (oc : okRe c)
include h oa
theorem kl1 (ob : okRe b) (oc : okRe c) (hs : a.size + b.size + c.size ≤ 18) : Sm (catT a (catT b c)) (catT (catT a b) c) text :=
  sm_mk h (ok_two (by simp) oa (ok_two (by simp) ob oc)) (ok_two (by simp) (ok_two (by simp) oa ob) oc) (by simp [Re.size, Re.sizes]; omega) (by simp [Re.size, Re.sizes]; omega)
    (by simp only [rel_cat text h.1]; exact then_assoc h.1 (wf_rel text a) (wf_rel text b))
theorem kl2 (ob : okRe b) (oc : okRe c) (hs : a.size + b.size + c.size ≤ 18) : Sm (catT a (altT b c)) (altT (catT a b) (catT a c)) text :=
  sm_mk h (ok_two (by simp) oa (ok_two (by simp) ob oc)) (ok_two (by simp) (ok_two (by simp) oa ob) (ok_two (by simp) oa oc)) (by simp [Re.size, Re.sizes]; omega) (by simp [Re.size, Re.sizes]; omega)
    (by simp only [rel_cat text h.1, rel_alt]; exact then_or h.1 (wf_rel text a))
theorem kl3 (ob : okRe b) (oc : okRe c) (hs : a.size + b.size + c.size ≤ 18) : Sm (catT (altT a b) c) (altT (catT a c) (catT b c)) text :=
  sm_mk h (ok_two (by simp) (ok_two (by simp) oa ob) oc) (ok_two (by simp) (ok_two (by simp) oa oc) (ok_two (by simp) ob oc)) (by simp [Re.size, Re.sizes]; omega) (by simp [Re.size, Re.sizes]; omega)
    (by simp only [rel_cat text h.1, rel_alt]; exact or_then h.1 (wf_rel text a) (wf_rel text b))
theorem kl4 (ob : okRe b) (hs : a.size + b.size ≤ 18) : Sm (altT a b) (altT b a) text :=
  sm_mk h (ok_two (by simp) oa ob) (ok_two (by simp) ob oa) (by simp [Re.size, Re.sizes]; omega) (by simp [Re.size, Re.sizes]; omega) (by simp only [rel_alt]; exact or_comm' _ _)
theorem kl5 (hs : a.size ≤ 18) : Sm (altT a a) a text :=
  sm_mk h (ok_two (by simp) oa oa) oa (by simp [Re.size, Re.sizes]; omega) (by omega) (by simp only [rel_alt]; exact or_self' _)
theorem kl6 (hs : a.size ≤ 18) : Sm (starT a) (altT emptyT (catT a (starT a))) text :=
  sm_mk h (ok_one (by simp) oa) (ok_two (by simp) (ok_leaf (by simp)) (ok_two (by simp) oa (ok_one (by simp) oa))) (by simp [Re.size, Re.sizes]; omega) (by simp [Re.size, Re.sizes]; omega)
    (by simp only [rel_cat text h.1, rel_alt, rel_star, rel_empty]; exact star_unfold h.1 (wf_rel text a))
theorem kl7 (hs : a.size ≤ 18) : Sm (catT (starT a) (starT a)) (starT a) text :=
  sm_mk h (ok_two (by simp) (ok_one (by simp) oa) (ok_one (by simp) oa)) (ok_one (by simp) oa) (by simp [Re.size, Re.sizes]; omega) (by simp [Re.size, Re.sizes]; omega)
    (by simp only [rel_cat text h.1, rel_star]; exact star_then h.1 (wf_rel text a))
theorem kl8 (hs : a.size ≤ 18) : Sm (starT (starT a)) (starT a) text :=
  sm_mk h (ok_one (by simp) (ok_one (by simp) oa)) (ok_one (by simp) oa) (by simp [Re.size, Re.sizes]; omega) (by simp [Re.size, Re.sizes]; omega)
    (by simp only [rel_star]; exact star_star h.1 (wf_rel text a))

theorem bo1 (ob : okRe b) (hs : a.size + b.size ≤ 18) : Sm (notT (andT a b)) (altT (notT a) (notT b)) text :=
  sm_mk h (ok_one (by simp) (ok_two (by simp) oa ob)) (ok_two (by simp) (ok_one (by simp) oa) (ok_one (by simp) ob)) (by simp [Re.size, Re.sizes]; omega) (by simp [Re.size, Re.sizes]; omega)
    (by
      simp only [rel_not, rel_and, rel_alt]
      funext i j
      simp only [notR, andR, orR]
      cases relOf text a i j <;> cases relOf text b i j <;> simp)
theorem bo2 (hs : a.size ≤ 18) : Sm (notT (notT a)) a text :=
  sm_mk h (ok_one (by simp) (ok_one (by simp) oa)) oa (by simp [Re.size, Re.sizes]; omega) (by omega)
    (by
      simp only [rel_not]
      funext i j
      have hw := wf_rel text a i j
      cases ha : relOf text a i j
      · simp only [notR, ha]; cases (decide (i ≤ text.length) && (decide (i ≤ j) && decide (j ≤ text.length))) <;> rfl
      · have := hw ha
        have h1 : i ≤ text.length := by omega
        simp [notR, ha, this, h1])
theorem bo3 (hs : a.size ≤ 18) : Sm (andT a (notT a)) noneT text :=
  sm_mk h (ok_two (by simp) oa (ok_one (by simp) oa)) (ok_leaf (by simp)) (by simp [Re.size, Re.sizes]; omega) (by simp [Re.size, Re.sizes])
    (by
      simp only [rel_not, rel_and, rel_none]
      funext i j
      simp only [notR, andR, noR]
      cases relOf text a i j <;> simp)
theorem bo4 (ob : okRe b) (hs : a.size + b.size ≤ 18) : Sm (andT a (altT a b)) a text :=
  sm_mk h (ok_two (by simp) oa (ok_two (by simp) oa ob)) oa (by simp [Re.size, Re.sizes]; omega) (by omega)
    (by
      simp only [rel_alt, rel_and]
      funext i j
      simp only [andR, orR]
      cases relOf text a i j <;> simp)
theorem bo5 (hs : a.size ≤ 18) : Sm (lookT (lookT a true) true) (lookT a false) text :=
  sm_mk h (ok_look _ (ok_look _ oa)) (ok_look _ oa) (by simp [Re.size, Re.sizes]; omega) (by simp [Re.size, Re.sizes]; omega) (by simp only [rel_look]; exact look_look h.1 _)
theorem bo6 (hs : a.size ≤ 18) : Sm (altT (lookT a false) (lookT a true)) emptyT text :=
  sm_mk h (ok_two (by simp) (ok_look _ oa) (ok_look _ oa)) (ok_leaf (by simp)) (by simp [Re.size, Re.sizes]; omega) (by simp [Re.size, Re.sizes])
    (by
      simp only [rel_alt, rel_look, rel_empty]
      funext i j
      simp only [orR, lookR, idR]
      cases decide (maskN 25 (relOf text a i) ≠ 0) <;> simp)
end
end Go.Proofs
