/- Contract: the relation of an expression. -/
import Derived.Test.YtiepeobnpmoghaaW4
import Derived.Test.YtiepeobnpmoghaaW6
import Derived.Test.YtiepeobnpmoghaaW8
namespace Go.Proofs
open Go Go.Eng
set_option maxRecDepth 100000

mutual
def okRe : Re → Prop
  | .mk k set args mn mx ng => nodeE (.mk k set args mn mx ng) = 0 ∧ okRes args
def okRes : List Re → Prop
  | [] => True
  | t :: ts => okRe t ∧ okRes ts
end
theorem okRes_get {ts : List Re} (h : okRes ts) {i : Nat} {x : Re} (hx : ts[i]? = some x) : okRe x := by
  induction ts generalizing i with
  | nil => simp at hx
  | cons t ts ih =>
    simp only [okRes] at h
    cases i with
    | zero => simp at hx; subst hx; exact h.1
    | succ i => exact ih h.2 (by simpa using hx)
theorem okRe_node {t : Re} (h : okRe t) : nodeE t = 0 := by cases t; simp only [okRe] at h; exact h.1
theorem okRe_args {t : Re} (h : okRe t) : okRes t.args := by cases t; simp only [okRe] at h; exact h.2
theorem okRe_form {t : Re} (h : okRe t) : 0 ≤ t.kind ∧ t.kind ≤ 10 ∧ formB t = true := by
  have := okRe_node h
  unfold nodeE at this
  split at this
  · omega
  · rename_i hk
    split at this
    · omega
    · rename_i hf; exact ⟨by omega, by omega, by simpa using hf⟩
theorem okRe_one {t : Re} (h : okRe t) (hk : t.kind = 5 ∨ t.kind = 6 ∨ t.kind = 8 ∨ t.kind = 9 ∨ t.kind = 10) : t.args.length = 1 := by
  obtain ⟨_, _, hf⟩ := okRe_form h
  simp only [formB, Bool.and_eq_true] at hf
  have := hf.1.1.1.1
  unfold okB at this
  rw [if_neg (by omega), if_pos hk] at this
  simp at this; omega
theorem okRe_two {t : Re} (h : okRe t) (hk : t.kind = 3 ∨ t.kind = 4 ∨ t.kind = 7) : 2 ≤ t.args.length := by
  obtain ⟨_, _, hf⟩ := okRe_form h
  simp only [formB, Bool.and_eq_true] at hf
  have := hf.1.1.1.1
  unfold okB at this
  rw [if_pos hk] at this
  simp at this; omega
theorem okRe_rep {t : Re} (h : okRe t) (hk : t.kind = 6) : 0 ≤ t.mn ∧ t.mn ≤ t.mx ∧ t.mx ≤ 8 := by
  have := okRe_node h
  obtain ⟨h1, h2, hf⟩ := okRe_form h
  unfold nodeE at this
  rw [if_neg (by omega), if_neg (by simp [hf]), if_neg (by omega), if_pos hk] at this
  split at this <;> omega

theorem own_elem {w : World} {base e size n : Nat} {v : Value} {xs : List Value} (h : w.ownsRow base e size v n xs) {g : Nat} (hg : v.ownBlock = some g) {c : Array Value} {t : TypeId} (hB : Blk w g c t) : t = e := by
  rcases h.2 with ⟨rfl, _⟩ | ⟨g', cap, cur, rfl, _, hgg, _⟩
  · simp [Value.ownBlock] at hg
  · simp [Value.ownBlock] at hg
    subst hg
    unfold Blk at hB
    rw [hgg] at hB
    simp only [Option.some.injEq, Obj.cells.injEq] at hB
    exact hB.2.1.symm
theorem fold_take {α β : Type} {f : β → α → β} {a : β} {L : List α} {i : Nat} {x : α} (h : L[i]? = some x) : (L.take (i + 1)).foldl f a = f ((L.take i).foldl f a) x := by
  rw [List.take_add_one, h]; simp
theorem len_lt_size (t : Re) : t.args.length < t.size := by
  rw [Re.size_eq]
  have : ∀ ts : List Re, ts.length ≤ Re.sizes ts := by
    intro ts
    induction ts with
    | nil => simp
    | cons x r ih => have := x.size_pos; simp [Re.sizes]; omega
  have := this t.args
  omega
theorem head_get {α : Type} {L : List α} {x d : α} (h : L[0]? = some x) : L.headD d = x := by cases L <;> simp_all
theorem sub1_u32 {p : Nat} (h0 : 0 < p) (h : p ≤ 4294967296) : IntKind.u32.wrap ((p : Int) - 1) = ((p - 1 : Nat) : Int) := by
  rw [wU32 (by omega)]; omega
theorem pow_le25 {k : Nat} (h : k ≤ 25) : 0 < 2 ^ k ∧ 2 ^ k ≤ 33554432 := ⟨Nat.two_pow_pos k, (Nat.pow_le_pow_right (by omega) h : 2 ^ k ≤ 2 ^ 25)⟩
theorem look_cast (m : Nat) (ng : Bool) : (decide (((m : Nat) : Int) ≠ 0) != ng) = (decide (m ≠ 0) != ng) := by
  have : decide (((m : Nat) : Int) ≠ 0) = decide (m ≠ 0) := by rw [Bool.eq_iff_iff]; simp
  rw [this]
theorem not_mask {n i : Nat} (hi : i ≤ n) (hn : n ≤ 24) (f : Nat → Bool) :
    ((2 ^ (n + 1) - 1) &&& (4294967295 - (2 ^ i - 1))) &&& (4294967295 - maskN 25 f) = maskN 25 fun j => (decide (i ≤ j) && decide (j ≤ n)) && !f j := by
  have hp : 2 ^ (n + 1) ≤ 2 ^ 25 := Nat.pow_le_pow_right (by omega) (by omega)
  have hpi : 2 ^ i ≤ 2 ^ 24 := Nat.pow_le_pow_right (by omega) (by omega)
  have hpos := Nat.two_pow_pos i
  have hposn := Nat.two_pow_pos (n + 1)
  have hm := maskN_lt 25 f
  refine mask_ext ?_ fun j hj => ?_
  · refine Nat.lt_of_le_of_lt Nat.and_le_left (Nat.lt_of_le_of_lt Nat.and_le_left ?_)
    simp only [Nat.reducePow] at hp ⊢; omega
  · have e1 : 4294967295 - (2 ^ i - 1) = 2 ^ 32 - ((2 ^ i - 1) + 1) := by simp only [Nat.reducePow]; omega
    have e2 : 4294967295 - maskN 25 f = 2 ^ 32 - (maskN 25 f + 1) := by simp only [Nat.reducePow] at hm ⊢; omega
    have b2 : (2 ^ 32 - ((2 ^ i - 1) + 1)).testBit j = (decide (j < 32) && !(2 ^ i - 1).testBit j) := Nat.testBit_two_pow_sub_succ (by simp only [Nat.reducePow] at hpi ⊢; omega) j
    have b3 : (2 ^ 32 - (maskN 25 f + 1)).testBit j = (decide (j < 32) && !(maskN 25 f).testBit j) := Nat.testBit_two_pow_sub_succ (by simp only [Nat.reducePow] at hm ⊢; omega) j
    rw [e1, e2, Nat.testBit_and, Nat.testBit_and, b2, b3, Nat.testBit_two_pow_sub_one, Nat.testBit_two_pow_sub_one, maskN_bit]
    rw [Bool.eq_iff_iff]
    simp [hj, show j < 32 by omega]
    intro _
    omega

end Go.Proofs
