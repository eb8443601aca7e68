/- Plain: what the definition of matching says, case by case, of the relation of an expression. -/
import Derived.Test.YtiepeobnpmoghaaLk
namespace Go.Proofs
open Go Go.Eng

section
variable {n : Nat} (hn : n ≤ 24)
include hn
theorem fold_then {A B : Rl} (a : Wf n A) (b : Wf n B) : ∀ (L : List Rl), (∀ x ∈ L, Wf n x) → L.foldl (fun a x => thenR a x n) (thenR A B n) = thenR A (L.foldl (fun a x => thenR a x n) B) n
  := by
  intro L
  induction L generalizing B with
  | nil => intro _; rfl
  | cons x L ih =>
    intro h
    simp only [List.foldl_cons]
    rw [← then_assoc hn a b]
    exact ih (wf_then b (h x (by simp))) fun y hy => h y (by simp [hy])
theorem cat_cons {A : Rl} (a : Wf n A) (L : List Rl) (h : ∀ x ∈ L, Wf n x) : (A :: L).foldl (fun a x => thenR a x n) (idR n) = thenR A (L.foldl (fun a x => thenR a x n) (idR n)) n := by
  rw [List.foldl_cons, id_then hn a]
  have h1 := fold_then hn a (wf_id n) L h
  have h2 : thenR A (idR n) n = A := rl_ext fun i k => by
    rw [then_iff hn a]
    constructor
    · rintro ⟨j, h1, h2⟩
      rw [id_iff] at h2
      rw [h2.2]; exact h1
    · intro h; exact ⟨k, h, by rw [id_iff]; have := a i k h; omega⟩
  rw [h2] at h1
  exact h1
theorem then_range {A B : Rl} (a : Wf n A) (b : Wf n B) (i j : Nat) : thenR A B n i j = true ↔ ∃ k, i ≤ k ∧ k ≤ j ∧ A i k = true ∧ B k j = true := by
  rw [then_iff hn a]
  constructor
  · rintro ⟨k, h1, h2⟩; have := a i k h1; have := b k j h2; exact ⟨k, by omega, by omega, h1, h2⟩
  · rintro ⟨k, _, _, h1, h2⟩; exact ⟨k, h1, h2⟩
omit hn in
theorem st_first {A : Rl} (a : Wf n A) {i j : Nat} (h : St n A i j) : i = j ∨ ∃ k, i < k ∧ A i k = true ∧ St n A k j := by
  induction h with
  | refl => exact .inl rfl
  | @step j k hs hA ih =>
    have hw := a _ _ hA
    rcases ih with rfl | ⟨m, h1, h2, h3⟩
    · by_cases hk : i = k
      · exact .inl hk
      · exact .inr ⟨k, by omega, hA, .refl (by omega)⟩
    · exact .inr ⟨m, h1, h2, .step h3 hA⟩
theorem star_first {A : Rl} (a : Wf n A) {i j : Nat} (hi : i ≤ n) : starN n A (n + 1) i j = true ↔ i = j ∨ ∃ k, i + 1 ≤ k ∧ k ≤ j ∧ A i k = true ∧ starN n A (n + 1) k j = true := by
  rw [star_iff hn a]
  constructor
  · intro h
    rcases st_first a h with h | ⟨k, h1, h2, h3⟩
    · exact .inl h
    · have := wf_star a (n + 1) k j ((star_iff hn a _ _).2 h3)
      exact .inr ⟨k, by omega, this.1, h2, (star_iff hn a _ _).2 h3⟩
  · rintro (rfl | ⟨k, _, _, h2, h3⟩)
    · exact .refl hi
    · exact (St.one a h2).trans ((star_iff hn a _ _).1 h3)
theorem pow_left {A : Rl} (a : Wf n A) : ∀ p, powR n A (p + 1) = thenR A (powR n A p) n
  | 0 => by
    simp only [powR]
    rw [id_then hn a]
    exact rl_ext fun i k => by
      rw [then_iff hn a]
      constructor
      · intro h; exact ⟨k, h, by rw [id_iff]; have := a i k h; omega⟩
      · rintro ⟨j, h1, h2⟩; rw [id_iff] at h2; rw [h2.2]; exact h1
  | p + 1 => by
    have h := pow_left a p
    have h2 : thenR (powR n A (p + 1)) A n = thenR (thenR A (powR n A p) n) A n := by rw [h]
    have h3 : powR n A (p + 1 + 1) = thenR (powR n A (p + 1)) A n := rfl
    rw [h3, h2, ← then_assoc hn a (wf_pow a p)]
    rfl
omit hn in
theorem rep_iff (A : Rl) (mn : Int) (i j : Nat) : ∀ m, repR n A mn m i j = true ↔ ∃ p, p < m ∧ mn ≤ (p : Int) ∧ powR n A p i j = true
  | 0 => by simp [repR, noR]
  | m + 1 => by
    simp only [repR]
    by_cases h : mn ≤ (m : Int)
    · rw [if_pos h, or_iff, rep_iff A mn i j m]
      constructor
      · rintro (⟨p, h1, h2, h3⟩ | h1)
        · exact ⟨p, by omega, h2, h3⟩
        · exact ⟨m, by omega, h, h1⟩
      · rintro ⟨p, h1, h2, h3⟩
        by_cases hp : p = m
        · subst hp; exact .inr h3
        · exact .inl ⟨p, by omega, h2, h3⟩
    · rw [if_neg h, rep_iff A mn i j m]
      constructor
      · rintro ⟨p, h1, h2, h3⟩; exact ⟨p, by omega, h2, h3⟩
      · rintro ⟨p, h1, h2, h3⟩
        exact ⟨p, by omega, h2, h3⟩
/-- From mn to mx times: one time, and then the others. -/
theorem rep_first {A : Rl} (a : Wf n A) {mn mx : Int} (h0 : 0 ≤ mn) (h1 : mn ≤ mx) {i j : Nat} (hi : i ≤ n) :
    repR n A mn (mx + 1).toNat i j = true ↔ (mn = 0 ∧ i = j) ∨ (mx ≠ 0 ∧ ∃ k, i ≤ k ∧ k ≤ j ∧ A i k = true ∧ repR n A (max 0 (mn - 1)) (mx - 1 + 1).toNat k j = true) := by
  rw [rep_iff]
  constructor
  · rintro ⟨p, hp, hm, hpow⟩
    cases p with
    | zero =>
      simp only [powR] at hpow
      rw [id_iff] at hpow
      by_cases hmn : mn = 0
      · exact .inl ⟨hmn, hpow.2.symm⟩
      · omega
    | succ p =>
      rw [pow_left hn a, then_range hn a (wf_pow a p)] at hpow
      obtain ⟨k, h2, h3, h4, h5⟩ := hpow
      refine .inr ⟨by omega, k, h2, h3, h4, ?_⟩
      rw [rep_iff]
      exact ⟨p, by omega, by omega, h5⟩
  · rintro (⟨rfl, rfl⟩ | ⟨hx, k, h2, h3, h4, h5⟩)
    · exact ⟨0, by omega, by simp, by simp only [powR]; rw [id_iff]; exact ⟨hi, rfl⟩⟩
    · rw [rep_iff] at h5
      obtain ⟨p, hp, hm, hpow⟩ := h5
      refine ⟨p + 1, by omega, by omega, ?_⟩
      rw [pow_left hn a, then_range hn a (wf_pow a p)]
      exact ⟨k, h2, h3, h4, hpow⟩
end
theorem foldOr_any (i j : Nat) : ∀ (L : List Rl) (A : Rl), L.foldl orR A i j = (A i j || L.any fun R => R i j)
  | [], A => by simp
  | x :: L, A => by rw [List.foldl_cons, foldOr_any i j L]; simp [orR, Bool.or_assoc]
theorem foldAnd_all (i j : Nat) : ∀ (L : List Rl) (A : Rl), L.foldl andR A i j = (A i j && L.all fun R => R i j)
  | [], A => by simp
  | x :: L, A => by rw [List.foldl_cons, foldAnd_all i j L]; simp [andR, Bool.and_assoc]
theorem not_in {n : Nat} {A : Rl} {i j : Nat} (h1 : i ≤ j) (h2 : j ≤ n) : notR n A i j = !A i j := by
  have : i ≤ n := by omega
  simp [notR, h1, h2, this]
theorem look_in {n : Nat} (hn : n ≤ 24) {A : Rl} (a : Wf n A) {ng : Bool} {i j : Nat} (hi : i ≤ n) : lookR n A ng i j = (decide (i = j) && (((List.range (n + 1)).any fun k => decide (i ≤ k) && A i k) != ng)) := by
  have h1 : decide (maskN 25 (A i) ≠ 0) = (List.range (n + 1)).any fun k => decide (i ≤ k) && A i k := by
    rw [Bool.eq_iff_iff, decide_eq_true_eq, List.any_eq_true]
    constructor
    · intro h
      apply Classical.byContradiction
      intro h2
      apply h
      rw [mask_eq_zero]
      intro k hk
      cases hA : A i k with
      | false => rfl
      | true => have := a i k hA; exact absurd ⟨k, by simp; omega, by simp [hA]; omega⟩ h2
    · rintro ⟨k, h1, h2⟩ h
      rw [mask_eq_zero] at h
      simp at h1 h2
      have := h k (by omega)
      rw [h2.2] at this; cases this
  unfold lookR
  rw [h1]
  have h2 : (decide (i ≤ n) && decide (j = i)) = decide (i = j) := by rw [Bool.eq_iff_iff]; simp; omega
  rw [h2]
end Go.Proofs
