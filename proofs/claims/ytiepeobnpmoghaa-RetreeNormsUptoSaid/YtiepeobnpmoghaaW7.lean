/- Contracts: bits; relations as rows of words. -/
import Derived.Test.YtiepeobnpmoghaaTab
import Derived.Test.YtiepeobnpmoghaaRel
namespace Go.Proofs
open Go Go.Eng
set_option maxRecDepth 100000

theorem ofInt32 (m : Nat) (h : m < 4294967296) : (BitVec.ofInt 32 (m : Int)).toNat = m := by
  rw [BitVec.toNat_ofInt]; omega
theorem bits_and {P : Program} {w : World} (m n : Nat) (hm : m < 4294967296) (hn : n < 4294967296) : (Op.intBits .and .u32 (m : Int) (n : Int)).run P w = .ok (.int .u32 ((m &&& n : Nat) : Int)) w := by
  have h1 : m &&& n < 4294967296 := Nat.lt_of_le_of_lt Nat.and_le_left hm
  show Result.ok (Value.int .u32 (IntKind.u32.wrap ((BitVec.ofInt 32 (m : Int) &&& BitVec.ofInt 32 (n : Int) : BitVec 32).toNat : Int))) w = _
  rw [BitVec.toNat_and, ofInt32 m hm, ofInt32 n hn, wU32 (by omega)]
theorem bits_or {P : Program} {w : World} (m n : Nat) (hm : m < 4294967296) (hn : n < 4294967296) : (Op.intBits .or .u32 (m : Int) (n : Int)).run P w = .ok (.int .u32 ((m ||| n : Nat) : Int)) w := by
  have h1 : m ||| n < 4294967296 := Nat.or_lt_two_pow (n := 32) hm hn
  show Result.ok (Value.int .u32 (IntKind.u32.wrap ((BitVec.ofInt 32 (m : Int) ||| BitVec.ofInt 32 (n : Int) : BitVec 32).toNat : Int))) w = _
  rw [BitVec.toNat_or, ofInt32 m hm, ofInt32 n hn, wU32 (by omega)]
theorem bits_andNot {P : Program} {w : World} (m n : Nat) (hm : m < 4294967296) (hn : n < 4294967296) : (Op.intBits .andNot .u32 (m : Int) (n : Int)).run P w = .ok (.int .u32 ((m &&& (4294967295 - n) : Nat) : Int)) w := by
  have h1 : m &&& (4294967295 - n) < 4294967296 := Nat.lt_of_le_of_lt Nat.and_le_left hm
  show Result.ok (Value.int .u32 (IntKind.u32.wrap ((BitVec.ofInt 32 (m : Int) &&& ~~~ BitVec.ofInt 32 (n : Int) : BitVec 32).toNat : Int))) w = _
  rw [BitVec.toNat_and, BitVec.toNat_not, ofInt32 m hm, ofInt32 n hn]
  simp only [Nat.reducePow, Nat.reduceSub]
  rw [wU32 (by omega)]

def tab32 : List Nat := [0, 1, 28, 2, 29, 14, 24, 3, 30, 22, 20, 15, 25, 17, 4, 8, 31, 27, 13, 23, 21, 19, 16, 7, 26, 12, 18, 6, 11, 5, 10, 9]
def tzIdx (k : Nat) : Nat := ((2 ^ k * 125613361) % 4294967296) / 134217728
theorem tz_tab : ∀ k, k < 32 → tab32[tzIdx k]? = some k ∧ tzIdx k < 32 := by decide

theorem low_lt {x k m : Nat} (h : x = 2 ^ (k + 1) * m + 2 ^ k) (hx : x < 4294967296) : k < 32 := by
  rcases Nat.lt_or_ge k 32 with h' | h'
  · exact h'
  · have := Nat.pow_le_pow_right (n := 2) (by omega) h'; omega

/-! Relations. -/
def rowArr (R : Nat → Nat → Bool) : Array Value := ((List.range 25).map fun i => Value.int .u32 ((maskN 25 (R i) : Nat) : Int)).toArray
theorem rowArr_size (R : Nat → Nat → Bool) : (rowArr R).size = 25 := by simp [rowArr]
theorem rowArr_get (R : Nat → Nat → Bool) {i : Nat} (h : i < 25) : (rowArr R)[i]? = some (.int .u32 ((maskN 25 (R i) : Nat) : Int)) := by simp [rowArr, h]
theorem rowArr_set {R R' : Nat → Nat → Bool} {i : Nat} {v : Int} (hi : i < 25) (hv : v = ((maskN 25 (R' i) : Nat) : Int)) (ho : ∀ i', i' < 25 → i' ≠ i → ∀ j, j < 25 → R' i' j = R i' j) :
    (rowArr R).setIfInBounds i (.int .u32 v) = rowArr R' := by
  apply Array.ext'
  apply List.ext_getElem?
  intro j
  simp only [rowArr, Array.toList_setIfInBounds, List.getElem?_set, List.length_map, List.length_range, List.getElem?_map]
  by_cases hj : i = j
  · subst hj; simp [hi, hv]
  · simp only [hj, if_false]
    by_cases h25 : j < 25
    · simp [h25, mask_congr (ho j h25 (Ne.symm hj))]
    · simp [h25]
theorem rowArr_congr {R R' : Nat → Nat → Bool} (h : ∀ i, i < 25 → ∀ j, j < 25 → R i j = R' i j) : rowArr R = rowArr R' := by
  simp only [rowArr]
  congr 1
  apply List.map_congr_left
  intro i hi
  simp at hi
  rw [mask_congr (h i hi)]
theorem mask_lt32 (f : Nat → Bool) : maskN 25 f < 4294967296 := Nat.lt_of_lt_of_le (maskN_lt 25 f) (by decide)

theorem shl1 {k : Nat} (h : k ≤ 25) : IntKind.u32.wrap (1 * 2 ^ (min ((k : Int)).toNat IntKind.u32.bits)) = ((2 ^ k : Nat) : Int) := by
  have h1 : (2 : Nat) ^ k ≤ 2 ^ 25 := Nat.pow_le_pow_right (by omega) h
  have h2 : min ((k : Int)).toNat IntKind.u32.bits = k := by simp [IntKind.bits]; omega
  rw [h2, Int.one_mul, show ((2 : Int) ^ k) = ((2 ^ k : Nat) : Int) from by simp]
  simp only [Nat.reducePow] at h1
  generalize (2 : Nat) ^ k = p at h1 ⊢
  exact wU32 (by omega)

end Go.Proofs
