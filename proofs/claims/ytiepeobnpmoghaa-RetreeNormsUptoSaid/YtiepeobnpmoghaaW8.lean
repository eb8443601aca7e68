/- Contracts: one relation after another; the union of two. -/
import Derived.Test.YtiepeobnpmoghaaW7
namespace Go.Proofs
open Go Go.Eng
set_option maxRecDepth 100000

def outR (A B : Nat → Nat → Bool) (n i p : Nat) : Nat → Nat → Bool := fun i' k =>
  if i' < i then thenR A B n i' k else if i' = i then (List.range p).any fun j => A i j && B j k else false

theorem any_range_skip {f : Nat → Bool} {p q : Nat} (h : ∀ j, p ≤ j → j < q → f j = false) (hpq : p ≤ q) : (List.range q).any f = (List.range p).any f := by
  rw [Bool.eq_iff_iff]
  simp only [List.any_eq_true, List.mem_range]
  constructor
  · rintro ⟨j, hj, hf⟩
    rcases Nat.lt_or_ge j p with h' | h'
    · exact ⟨j, h', hf⟩
    · rw [h j h' hj] at hf; cases hf
  · rintro ⟨j, hj, hf⟩; exact ⟨j, by omega, hf⟩
theorem any_range_succ {f : Nat → Bool} {p : Nat} : (List.range (p + 1)).any f = ((List.range p).any f || f p) := by
  rw [List.range_succ]; simp

/-- What the lowest bit of what is left says. -/
theorem left_low {A : Nat → Bool} {p x k m : Nat} (hx : x = maskN 25 fun j => A j && decide (p ≤ j)) (hl : x = 2 ^ (k + 1) * m + 2 ^ k) :
    k < 25 ∧ A k = true ∧ p ≤ k ∧ (∀ j, p ≤ j → j < k → A j = false) ∧ x &&& (x - 1) = maskN 25 fun j => A j && decide (k + 1 ≤ j) := by
  have hb : ∀ j, x.testBit j = (decide (j < 25) && (A j && decide (p ≤ j))) := fun j => by rw [hx, maskN_bit]
  have hk := low_bit hl k
  rw [hb] at hk
  simp at hk
  have hlow : ∀ j, p ≤ j → j < k → A j = false := fun j h1 h2 => by
    have := low_bit hl j
    rw [hb, if_pos (by omega)] at this
    have hne : j ≠ k := by omega
    simpa [show j < 25 by omega, h1, hne] using this
  refine ⟨hk.1, hk.2.1, hk.2.2, hlow, mask_ext ?_ fun j hj => ?_⟩
  · exact Nat.lt_of_le_of_lt Nat.and_le_left (hx ▸ maskN_lt 25 _)
  · rw [low_clear hl, hb, Bool.eq_iff_iff]
    simp only [hj, decide_true, Bool.true_and, Bool.and_eq_true, decide_eq_true_eq]
    constructor
    · rintro ⟨⟨h1, h2⟩, h3⟩
      refine ⟨h1, ?_⟩
      rcases Nat.lt_or_ge j k with h | h
      · rw [hlow j h2 h] at h1; cases h1
      · omega
    · rintro ⟨h1, h2⟩; exact ⟨⟨h1, by omega⟩, by omega⟩
theorem outR_step {A B : Nat → Nat → Bool} {n i p k : Nat} (hlow : ∀ j, p ≤ j → j < k → A i j = false) (hpk : p ≤ k) (hA : A i k = true) (c : Nat) :
    (outR A B n i p i c || B k c) = outR A B n i (k + 1) i c := by
  simp only [outR, Nat.lt_irrefl, if_false, if_true]
  rw [any_range_succ, any_range_skip (p := p) (q := k) (fun j h1 h2 => by simp [hlow j h1 h2]) hpk, hA]
  simp
theorem outR_end {A B : Nat → Nat → Bool} {n i p : Nat} (hi : i ≤ n) (hp : p ≤ 25) (hz : maskN 25 (fun j => A i j && decide (p ≤ j)) = 0) : rowArr (outR A B n i p) = rowArr (outR A B n (i + 1) 0) := by
  apply rowArr_congr
  intro i' _ k _
  rw [mask_eq_zero] at hz
  simp only [outR]
  by_cases h1 : i' < i
  · rw [if_pos h1, if_pos (by omega)]
  · rw [if_neg h1]
    by_cases h2 : i' = i
    · subst h2
      rw [if_pos rfl, if_pos (by omega)]
      simp only [thenR, hi, decide_true, Bool.true_and]
      exact (any_range_skip (fun j h3 h4 => by have := hz j h4; simp [h3] at this; simp [this]) hp).symm
    · rw [if_neg h2, if_neg (by omega)]
      split <;> simp

theorem rowArr_one (R : Nat → Nat → Bool) : ∀ u ∈ (rowArr R).toList, u.oneCell' = true := by
  intro u hu
  simp only [rowArr, List.mem_map, List.mem_range] at hu
  obtain ⟨i, _, rfl⟩ := hu
  rfl
theorem or_start {A B : Nat → Nat → Bool} {w : World} {b t : Nat} (h : Blk w b (rowArr A).toList.toArray t) : Blk w b (rowArr fun i j => if i < 0 then orR A B i j else A i j) t := by
  have h0 : rowArr (fun i j => if i < 0 then orR A B i j else A i j) = rowArr A := rowArr_congr fun i _ j _ => by simp
  rw [h0]; simpa using h
end Go.Proofs
