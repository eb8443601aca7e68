/- Plain: words of 25 bits as sets of positions. -/
import Derived.Test.YtncmfkibflogkaaDat
namespace Go.Eng
open Go

/-- The word whose bits below n are f's. -/
def maskN : Nat → (Nat → Bool) → Nat
  | 0, _ => 0
  | n + 1, f => maskN n f + (if f n then 2 ^ n else 0)
theorem maskN_lt (n : Nat) (f : Nat → Bool) : maskN n f < 2 ^ n := by
  induction n with
  | zero => simp [maskN]
  | succ n ih => simp only [maskN, Nat.pow_succ]; split <;> omega
theorem maskN_bit (n : Nat) (f : Nat → Bool) (j : Nat) : (maskN n f).testBit j = (decide (j < n) && f j) := by
  induction n with
  | zero => simp [maskN]
  | succ n ih =>
    simp only [maskN]
    have hlt := maskN_lt n f
    have e : maskN n f + (if f n then 2 ^ n else 0) = 2 ^ n * (if f n then 1 else 0) + maskN n f := by split <;> omega
    rw [e, Nat.testBit_two_pow_mul_add _ hlt]
    split
    · rename_i h; rw [ih]; simp [h]; omega
    · rename_i h
      by_cases hj : j = n
      · subst hj; simp; cases f j <;> simp
      · have h1 : ¬ j < n + 1 := by omega
        simp only [h1, decide_false, Bool.false_and]
        have : j - n ≠ 0 := by omega
        cases f n
        · simp
        · simp only [if_true]
          rw [show (1 : Nat) = 2 ^ 0 from rfl, Nat.testBit_two_pow]
          simp; omega
theorem mask_ext {x : Nat} {n : Nat} {f : Nat → Bool} (hx : x < 2 ^ n) (h : ∀ j, j < n → x.testBit j = f j) : x = maskN n f := by
  apply Nat.eq_of_testBit_eq
  intro j
  rw [maskN_bit]
  by_cases hj : j < n
  · simp [hj, h j hj]
  · simp only [hj, decide_false, Bool.false_and]
    exact Nat.testBit_lt_two_pow (Nat.lt_of_lt_of_le hx (Nat.pow_le_pow_right (by omega) (by omega)))
theorem mask_congr {n : Nat} {f g : Nat → Bool} (h : ∀ j, j < n → f j = g j) : maskN n f = maskN n g :=
  mask_ext (maskN_lt n f) fun j hj => by rw [maskN_bit]; simp [hj, h j hj]
theorem mask_inj {n : Nat} {f g : Nat → Bool} (h : maskN n f = maskN n g) : ∀ j, j < n → f j = g j := fun j hj => by
  have := congrArg (fun x => x.testBit j) h
  simpa [maskN_bit, hj] using this
theorem mask_or (n : Nat) (f g : Nat → Bool) : maskN n f ||| maskN n g = maskN n fun j => f j || g j :=
  mask_ext (Nat.or_lt_two_pow (maskN_lt n f) (maskN_lt n g)) fun j hj => by simp [maskN_bit, hj]
theorem mask_and (n : Nat) (f g : Nat → Bool) : maskN n f &&& maskN n g = maskN n fun j => f j && g j :=
  mask_ext (Nat.and_lt_two_pow _ (maskN_lt n g)) fun j hj => by simp [maskN_bit, hj]
theorem mask_one {n i : Nat} (h : i < n) : 2 ^ i = maskN n fun j => decide (j = i) :=
  mask_ext (Nat.pow_lt_pow_right (by omega) h) fun j hj => by
    rw [Nat.testBit_two_pow]; rw [Bool.eq_iff_iff]; simp; omega
theorem mask_zero (n : Nat) : 0 = maskN n fun _ => false := mask_ext (Nat.two_pow_pos n) fun j _ => by simp
theorem mask_eq_zero {n : Nat} {f : Nat → Bool} : maskN n f = 0 ↔ ∀ j, j < n → f j = false := by
  rw [mask_zero n]
  exact ⟨fun h j hj => mask_inj h j hj, fun h => mask_congr h⟩

/-- A number that is not zero, by its lowest bit. -/
theorem low_form : ∀ (x : Nat), 0 < x → ∃ k m, x = 2 ^ (k + 1) * m + 2 ^ k := by
  intro x
  induction x using Nat.strongRecOn with
  | _ x ih =>
    intro hx
    rcases Nat.mod_two_eq_zero_or_one x with h | h
    · obtain ⟨k, m, hk⟩ := ih (x / 2) (by omega) (by omega)
      refine ⟨k + 1, m, ?_⟩
      have : x = 2 * (x / 2) := by omega
      rw [this, hk, Nat.pow_succ 2 (k + 1), Nat.pow_succ 2 k]
      simp only [Nat.mul_add, ← Nat.mul_assoc]
      simp only [Nat.mul_comm 2, Nat.mul_assoc]
    · exact ⟨0, x / 2, by omega⟩
theorem low_bit {x k m : Nat} (h : x = 2 ^ (k + 1) * m + 2 ^ k) (j : Nat) : x.testBit j = if j < k + 1 then decide (j = k) else m.testBit (j - (k + 1)) := by
  rw [h, Nat.testBit_two_pow_mul_add m (Nat.pow_lt_pow_right (by omega) (by omega))]
  split
  · rw [Nat.testBit_two_pow]; rw [Bool.eq_iff_iff]; simp; omega
  · rfl
theorem low_clear {x k m : Nat} (h : x = 2 ^ (k + 1) * m + 2 ^ k) (j : Nat) : (x &&& (x - 1)).testBit j = (x.testBit j && decide (j ≠ k)) := by
  have hp := Nat.two_pow_pos k
  have h1 : x - 1 = 2 ^ (k + 1) * m + (2 ^ k - 1) := by omega
  have hlt : 2 ^ k - 1 < 2 ^ (k + 1) := by rw [Nat.pow_succ]; omega
  rw [Nat.testBit_and, low_bit h, h1, Nat.testBit_two_pow_mul_add m hlt]
  split
  · rw [Nat.testBit_two_pow_sub_one, Bool.eq_iff_iff]; simp; omega
  · rw [Bool.eq_iff_iff]; simp; omega
theorem low_neg {x k m : Nat} (h : x = 2 ^ (k + 1) * m + 2 ^ k) (hx : x < 2 ^ 32) : x &&& (2 ^ 32 - x) = 2 ^ k := by
  have hk : k < 32 := by
    rcases Nat.lt_or_ge k 32 with h' | h'
    · exact h'
    · have := Nat.pow_le_pow_right (n := 2) (by omega) h'; omega
  have hp := Nat.two_pow_pos k
  have e32 : 2 ^ 32 = 2 ^ (k + 1) * 2 ^ (31 - k) := by rw [← Nat.pow_add]; congr 1; omega
  have hm : m < 2 ^ (31 - k) := by
    rcases Nat.lt_or_ge m (2 ^ (31 - k)) with h' | h'
    · exact h'
    · have := Nat.mul_le_mul_left (2 ^ (k + 1)) h'; omega
  have h1 : 2 ^ 32 - x = 2 ^ (k + 1) * (2 ^ (31 - k) - (m + 1)) + 2 ^ k := by
    have hps : 2 ^ (k + 1) = 2 ^ k + 2 ^ k := by rw [Nat.pow_succ]; omega
    rw [Nat.mul_sub, ← e32, Nat.mul_add, Nat.mul_one]
    have := Nat.mul_le_mul_left (2 ^ (k + 1)) (show m + 1 ≤ 2 ^ (31 - k) by omega)
    rw [← e32, Nat.mul_add, Nat.mul_one] at this
    omega
  apply Nat.eq_of_testBit_eq
  intro j
  rw [Nat.testBit_and, low_bit h, low_bit h1, Nat.testBit_two_pow]
  split
  · rw [Bool.eq_iff_iff]; simp; omega
  · rw [Nat.testBit_two_pow_sub_succ hm]
    cases m.testBit (j - (k + 1)) <;> simp <;> omega
end Go.Eng
