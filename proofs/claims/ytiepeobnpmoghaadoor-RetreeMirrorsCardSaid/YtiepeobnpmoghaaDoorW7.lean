/- Contracts: bits; relations as rows of words. -/
import Derived.Test.YtiepeobnpmoghaaDoorTab
import Derived.Test.YtiepeobnpmoghaaDoorRel
namespace Go.Proofs
open Go Go.Eng
set_option maxRecDepth 100000

theorem ofInt32 (m : Nat) (h : m < 4294967296) : (BitVec.ofInt 32 (m : Int)).toNat = m := by
  rw [BitVec.toNat_ofInt]; omega
theorem bits_and {P : Program} {w : World} (m n : Nat) (hm : m < 4294967296) (hn : n < 4294967296) : (Op.intBits .and .u32 (m : Int) (n : Int)).run P w = .ok (.int .u32 ((m &&& n : Nat) : Int)) w := by
  have h1 : m &&& n < 4294967296 := Nat.lt_of_le_of_lt Nat.and_le_left hm
  show Result.ok (Value.int .u32 (IntKind.u32.wrap ((BitVec.ofInt 32 (m : Int) &&& BitVec.ofInt 32 (n : Int) : BitVec 32).toNat : Int))) w = _
  rw [BitVec.toNat_and, ofInt32 m hm, ofInt32 n hn, wU32 (by omega)]
theorem bits_or {P : Program} {w : World} (m n : Nat) (hm : m < 4294967296) (hn : n < 4294967296) : (Op.intBits .or .u32 (m : Int) (n : Int)).run P w = .ok (.int .u32 ((m ||| n : Nat) : Int)) w := by
  have h1 : m ||| n < 4294967296 := Nat.or_lt_two_pow (n := 32) hm hn
  show Result.ok (Value.int .u32 (IntKind.u32.wrap ((BitVec.ofInt 32 (m : Int) ||| BitVec.ofInt 32 (n : Int) : BitVec 32).toNat : Int))) w = _
  rw [BitVec.toNat_or, ofInt32 m hm, ofInt32 n hn, wU32 (by omega)]
theorem bits_andNot {P : Program} {w : World} (m n : Nat) (hm : m < 4294967296) (hn : n < 4294967296) : (Op.intBits .andNot .u32 (m : Int) (n : Int)).run P w = .ok (.int .u32 ((m &&& (4294967295 - n) : Nat) : Int)) w := by
  have h1 : m &&& (4294967295 - n) < 4294967296 := Nat.lt_of_le_of_lt Nat.and_le_left hm
  show Result.ok (Value.int .u32 (IntKind.u32.wrap ((BitVec.ofInt 32 (m : Int) &&& ~~~ BitVec.ofInt 32 (n : Int) : BitVec 32).toNat : Int))) w = _
  rw [BitVec.toNat_and, BitVec.toNat_not, ofInt32 m hm, ofInt32 n hn]
  simp only [Nat.reducePow, Nat.reduceSub]
  rw [wU32 (by omega)]

def tab32 : List Nat := [0, 1, 28, 2, 29, 14, 24, 3, 30, 22, 20, 15, 25, 17, 4, 8, 31, 27, 13, 23, 21, 19, 16, 7, 26, 12, 18, 6, 11, 5, 10, 9]
def TabOk (w : World) : Prop := ∀ (i v : Nat), tab32[i]? = some v → w.cell? ⟨0, i, none⟩ = some (.int .u8 (v : Int))
theorem TabOk.ext {w w' : World} (h : TabOk w) (e : Ext w w') : TabOk w' := fun i v hv => e.cell (h i v hv)
def tzIdx (k : Nat) : Nat := ((2 ^ k * 125613361) % 4294967296) / 134217728
theorem tz_tab : ∀ k, k < 32 → tab32[tzIdx k]? = some k ∧ tzIdx k < 32 := by decide

theorem low_lt {x k m : Nat} (h : x = 2 ^ (k + 1) * m + 2 ^ k) (hx : x < 4294967296) : k < 32 := by
  rcases Nat.lt_or_ge k 32 with h' | h'
  · exact h'
  · have := Nat.pow_le_pow_right (n := 2) (by omega) h'; omega

theorem tz_c (w0 : World) (x k m : Nat) (hx : x = 2 ^ (k + 1) * m + 2 ^ k) (hl : x < 4294967296) (hT : TabOk w0) :
    Ret Tryd.prog 41 #[.int .u32 (x : Int)] w0 fun v w => v = .int .i64 (k : Int) ∧ w = w0 := by
  have hk := low_lt hx hl
  have hp := Nat.two_pow_pos k
  have h0 : 0 < x := by omega
  have hn := low_neg hx hl
  simp only [Nat.reducePow] at hn
  obtain ⟨ht, hi⟩ := tz_tab k hk
  have hpl : 2 ^ k < 4294967296 := Nat.pow_lt_pow_right (n := 32) (by omega) hk
  refine Ret_of Tryd.func41 rfl Tryd.ntmps41 (Nat.le_of_ble_eq_true rfl) ?_
  have E : Chg none1 w0 w0 := Chg.refl _ _
  refine Wp_seq_region ?_
  refine WpL_val rfl rfl (by decide) (r_assign (v := (.int .i64 0)) rfl) ?_
  refine WpL_nil ?_
  refine Wp_seq ?_
  refine Wp_seq_region ?_
  refine WpL_val rfl rfl (by decide) (r_move (v := (.int .u32 (x : Int))) rfl) ?_
  refine WpL_val rfl rfl (by decide) (r_eql (k := .u32) (a := (x : Int)) (b := 0) rfl rfl) ?_
  refine WpL_nil ?_
  have hc1 : (decide (((x : Int) : Int) = 0)) = false := by simp; omega
  refine Wp_cond_false (congrArg Value.bool hc1) ?_
  refine Wp_skip ?_
  refine thn_normal ?_
  refine Wp_seq_region ?_
  refine WpL_val rfl rfl (by decide) (r_move (v := (.int .u32 (x : Int))) rfl) ?_
  refine WpL_val rfl rfl (by decide) (r_move (v := (.int .u32 (x : Int))) rfl) ?_
  refine WpL_val rfl rfl (by decide) (r_neg (k := .u32) (n := (x : Int)) (c := ((4294967296 - x : Nat) : Int)) rfl (by simp only [IntKind.wrap, IntKind.bits, IntKind.signed, Int.reducePow, Bool.false_and, Bool.false_eq_true, if_false]; omega)) ?_
  refine WpL_val rfl rfl (by decide) (r_bits (k := .u32) (a := (x : Int)) (b := ((4294967296 - x : Nat) : Int)) (v := .int .u32 ((2 ^ k : Nat) : Int)) rfl rfl (by simp) ((bits_and x (4294967296 - x) hl (by omega)).trans (by rw [hn]))) ?_
  refine WpL_val rfl rfl (by decide) (r_mul (k := .u32) (a := ((2 ^ k : Nat) : Int)) (b := 125613361) (c := (((2 ^ k * 125613361) % 4294967296 : Nat) : Int)) rfl rfl (by simp only [IntKind.wrap, IntKind.bits, IntKind.signed, Int.reducePow, Bool.false_and, Bool.false_eq_true, if_false]; omega)) ?_
  refine WpL_val rfl rfl (by decide) (r_shr (k := .u32) (a := (((2 ^ k * 125613361) % 4294967296 : Nat) : Int)) (b := 27) (c := ((tzIdx k : Nat) : Int)) (k' := .u64) rfl rfl (by omega) (by unfold tzIdx; simp only [IntKind.bits]; rw [Int.fdiv_eq_ediv_of_nonneg _ (by decide), show (2 : Int) ^ min (Int.toNat 27) 32 = 134217728 from by decide]; omega)) ?_
  refine WpL_val rfl rfl (by decide) (r_indexArr (b := 0) (o := 0) (i := tzIdx k) (o' := tzIdx k) rfl rfl rfl Tryd.underlying95 siz5 (by omega) (by omega)) ?_
  refine WpL_val rfl rfl (by decide) (r_load (v := (.int .u8 ((k : Nat) : Int))) rfl flat5 (hT _ _ ht)) ?_
  refine WpL_val rfl rfl (by decide) (r_convInt (k := .u8) (k' := .i64) (n := ((k : Nat) : Int)) (c := ((k : Nat) : Int)) ⟨_, Tryd.underlying5⟩ Tryd.underlying3 rfl (wI64 (by omega))) ?_
  refine WpL_val rfl rfl (by decide) (r_assign (v := (.int .i64 ((k : Nat) : Int))) rfl) ?_
  refine WpL_nil ?_
  refine Wp_ret ?_
  refine fin_tmp Tryd.results41 (v := (.int .i64 ((k : Nat) : Int))) rfl ?_
  exact ⟨rfl, rfl⟩

/-! Relations. -/
def rowArr (R : Nat → Nat → Bool) : Array Value := ((List.range 25).map fun i => Value.int .u32 ((maskN 25 (R i) : Nat) : Int)).toArray
theorem rowArr_size (R : Nat → Nat → Bool) : (rowArr R).size = 25 := by simp [rowArr]
theorem rowArr_get (R : Nat → Nat → Bool) {i : Nat} (h : i < 25) : (rowArr R)[i]? = some (.int .u32 ((maskN 25 (R i) : Nat) : Int)) := by simp [rowArr, h]
theorem rowArr_set {R R' : Nat → Nat → Bool} {i : Nat} {v : Int} (hi : i < 25) (hv : v = ((maskN 25 (R' i) : Nat) : Int)) (ho : ∀ i', i' < 25 → i' ≠ i → ∀ j, j < 25 → R' i' j = R i' j) :
    (rowArr R).setIfInBounds i (.int .u32 v) = rowArr R' := by
  apply Array.ext'
  apply List.ext_getElem?
  intro j
  simp only [rowArr, Array.toList_setIfInBounds, List.getElem?_set, List.length_map, List.length_range, List.getElem?_map]
  by_cases hj : i = j
  · subst hj; simp [hi, hv]
  · simp only [hj, if_false]
    by_cases h25 : j < 25
    · simp [h25, mask_congr (ho j h25 (Ne.symm hj))]
    · simp [h25]
theorem rowArr_congr {R R' : Nat → Nat → Bool} (h : ∀ i, i < 25 → ∀ j, j < 25 → R i j = R' i j) : rowArr R = rowArr R' := by
  simp only [rowArr]
  congr 1
  apply List.map_congr_left
  intro i hi
  simp at hi
  rw [mask_congr (h i hi)]
abbrev TR : Nat := 91
theorem mask_lt32 (f : Nat → Bool) : maskN 25 f < 4294967296 := Nat.lt_of_lt_of_le (maskN_lt 25 f) (by decide)

theorem shl1 {k : Nat} (h : k ≤ 25) : IntKind.u32.wrap (1 * 2 ^ (min ((k : Int)).toNat IntKind.u32.bits)) = ((2 ^ k : Nat) : Int) := by
  have h1 : (2 : Nat) ^ k ≤ 2 ^ 25 := Nat.pow_le_pow_right (by omega) h
  have h2 : min ((k : Int)).toNat IntKind.u32.bits = k := by simp [IntKind.bits]; omega
  rw [h2, Int.one_mul, show ((2 : Int) ^ k) = ((2 ^ k : Nat) : Int) from by simp]
  simp only [Nat.reducePow] at h1
  generalize (2 : Nat) ^ k = p at h1 ⊢
  exact wU32 (by omega)

theorem rsame_c (w0 : World) (n : Nat) (hn : n ≤ 24) :
    Ret Tryd.prog 65 #[.int .i64 (n : Int)] w0 fun v w => ∃ b, v = .pointer (some ⟨b, 0, none⟩) ∧ w0.heap.size ≤ b ∧ Blk w b (rowArr (idR n)) TR ∧ Ext w0 w := by
  refine Ret_of Tryd.func65 rfl Tryd.ntmps65 (Nat.le_of_ble_eq_true rfl) ?_
  have E : Chg none1 w0 w0 := Chg.refl _ _
  refine Wp_seq_region ?_
  refine WpL_val rfl rfl (by decide) (r_assign (v := (.pointer none)) rfl) ?_
  refine WpL_nil ?_
  refine Wp_seq_region ?_
  refine WpL_val rfl rfl (by decide) (r_build (ps := []) (v := (.agg #[(.int .u32 0), (.int .u32 0), (.int .u32 0), (.int .u32 0), (.int .u32 0), (.int .u32 0), (.int .u32 0), (.int .u32 0), (.int .u32 0), (.int .u32 0), (.int .u32 0), (.int .u32 0), (.int .u32 0), (.int .u32 0), (.int .u32 0), (.int .u32 0), (.int .u32 0), (.int .u32 0), (.int .u32 0), (.int .u32 0), (.int .u32 0), (.int .u32 0), (.int .u32 0), (.int .u32 0), (.int .u32 0)])) rfl (by kernel_rfl)) ?_
  refine s_box (v := (.agg #[(.int .u32 0), (.int .u32 0), (.int .u32 0), (.int .u32 0), (.int .u32 0), (.int .u32 0), (.int .u32 0), (.int .u32 0), (.int .u32 0), (.int .u32 0), (.int .u32 0), (.int .u32 0), (.int .u32 0), (.int .u32 0), (.int .u32 0), (.int .u32 0), (.int .u32 0), (.int .u32 0), (.int .u32 0), (.int .u32 0), (.int .u32 0), (.int .u32 0), (.int .u32 0), (.int .u32 0), (.int .u32 0)])) (c := #[(.int .u32 0), (.int .u32 0), (.int .u32 0), (.int .u32 0), (.int .u32 0), (.int .u32 0), (.int .u32 0), (.int .u32 0), (.int .u32 0), (.int .u32 0), (.int .u32 0), (.int .u32 0), (.int .u32 0), (.int .u32 0), (.int .u32 0), (.int .u32 0), (.int .u32 0), (.int .u32 0), (.int .u32 0), (.int .u32 0), (.int .u32 0), (.int .u32 0), (.int .u32 0), (.int .u32 0), (.int .u32 0)]) (by decide) rfl rfl ?_
  intro b1 w1 N1
  have F1 := N1.ge E
  replace E := E.ext N1.ext
  have B1 := N1.blk
  refine WpL_val rfl rfl (by decide) (r_assign (v := (.pointer (some ⟨b1, 0, none⟩))) rfl) ?_
  refine WpL_nil ?_
  refine Wp_seq ?_
  refine Wp_seq_region ?_
  refine WpL_val rfl rfl (by decide) (r_move (v := (.int .i64 ((n : Nat) : Int))) rfl) ?_
  refine WpL_val rfl rfl (by decide) (r_add (k := .i64) (a := ((n : Nat) : Int)) (b := 1) (c := ((n : Nat) : Int) + 1) rfl rfl (wI64 (by omega))) ?_
  refine WpL_val rfl rfl (by decide) (r_move (v := (.int .i64 0)) rfl) ?_
  refine WpL_nil ?_
  refine Wp_block ?_
  replace B1 : Blk w1 b1 (rowArr fun _ _ => false) TR := B1
  refine Wp_loop (fun nn_ σ W2 => ∃ (k : Nat), (∃ jj_, σ = upds jj_ [(3, (.pointer (some ⟨b1, 0, none⟩))), (8, (.int .i64 (((n : Nat) : Int) + 1))), (9, (.int .i64 ((k : Nat) : Int)))]) ∧ Chg none1 w0 W2 ∧ Blk W2 b1 (rowArr fun i j => decide (i < k) && decide (j = i)) 91 ∧ (k ≤ n + 1) ∧ nn_ = n + 1 - k) (n := n + 1 - 0) ?_ ?_
  · exact ⟨0, Fits.out ⟨rfl, rfl, rfl, trivial⟩, E, B1, Nat.zero_le _, rfl⟩
  · clear E B1
    rintro _ _ W2 ⟨k, ⟨j2, rfl⟩, E, B1, hk, rfl⟩
    refine Wp_seq_region ?_
    refine WpL_val rfl rfl (by decide) (r_lss (k := .i64) (a := ((k : Nat) : Int)) (b := ((n : Nat) : Int) + 1) rfl rfl) ?_
    refine WpL_nil ?_
    refine Wp_seq ?_
    refine Wp_cond (b := decide ((((k : Nat) : Int) : Int) < ((n : Nat) : Int) + 1)) rfl (fun hlt => ?_) (fun hlt => ?_)
    · have khlt := hlt
      replace hlt := of_decide_eq_true hlt
      refine Wp_skip ?_
      refine thn_normal ?_
      refine Wp_seq ?_
      refine Wp_block ?_
      refine Wp_seq_region ?_
      refine WpL_val rfl rfl (by decide) (r_move (v := (.int .i64 ((k : Nat) : Int))) rfl) ?_
      refine WpL_val rfl rfl (by decide) (r_assign (v := (.int .i64 ((k : Nat) : Int))) rfl) ?_
      refine WpL_nil ?_
      refine Wp_draw 6 mixed (by kernel_rfl) ?_
      intro w4 X4 _
      replace B1 := X4.keep B1
      replace E := E.ext X4
      refine WpT_val rfl rfl (by decide) (r_move (v := (.pointer (some ⟨b1, 0, none⟩))) rfl) ?_
      refine WpT_val rfl rfl (by decide) (r_move (v := (.int .i64 ((k : Nat) : Int))) rfl) ?_
      refine WpT_val rfl rfl (by decide) (r_move (v := (.int .i64 ((k : Nat) : Int))) rfl) ?_
      refine WpT_val rfl rfl (by decide) (r_shl (k := .u32) (a := 1) (b := ((k : Nat) : Int)) (c := ((2 ^ k : Nat) : Int)) (k' := .i64) rfl rfl (by omega) (shl1 (by omega))) ?_
      refine WpT_val rfl rfl (by decide) (r_nilCheck (a := ⟨b1, 0, none⟩) rfl) ?_
      refine WpT_val rfl rfl (by decide) (r_indexArr (b := b1) (o := 0) (i := k) (o' := k) rfl rfl rfl Tryd.underlying91 siz70 (by omega) (by omega)) ?_
      refine WpT_zero ?_
      refine s_store (b := b1) (o := k) (c' := rowArr fun i j => decide (i < k + 1) && decide (j = i)) (v := (.int .u32 ((2 ^ k : Nat) : Int))) rfl rfl rfl siz70 B1 (by rw [rowArr_size]; omega) (rowArr_set (by omega) (by rw [mask_one (n := 25) (i := k) (by omega)]; simp) (fun i' _ hne j _ => by rw [Bool.eq_iff_iff]; simp; omega)) ?_
      intro w5 S5
      replace E := S5.step E (by first | exact Or.inl (by omega) | exact Or.inr rfl | exact Or.inr (by assumption) | exact Or.inr (by simp) | exact Or.inr (by omega) | exact Or.inr (by dsimp only; omega))
      replace B1 := S5.blk
      refine WpL_nil ?_
      refine inB_normal ?_
      refine thn_normal ?_
      refine Wp_region ?_
      refine WpL_val rfl rfl (by decide) (r_add (k := .i64) (a := ((k : Nat) : Int)) (b := 1) (c := ((k : Nat) : Int) + 1) rfl rfl (wI64 (by omega))) ?_
      refine WpL_val rfl rfl (by decide) (r_move (v := (.int .i64 (((k : Nat) : Int) + 1))) rfl) ?_
      refine WpL_nil ?_
      refine thn_normal ?_
      exact ⟨n + 1 - (k + 1), by omega, k + 1, Fits.out ⟨rfl, rfl, rfl, trivial⟩, E, B1, (by omega), rfl⟩
    · have khlt := hlt
      replace hlt := of_decide_eq_false hlt
      obtain rfl : k = n + 1 := by omega
      have hR : rowArr (fun i j => decide (i < n + 1) && decide (j = i)) = rowArr (idR n) := rowArr_congr fun i _ j _ => by unfold idR; rw [Bool.eq_iff_iff]; simp; omega
      refine Wp_exit ?_
      refine thn_exit ?_
      refine thn_exit ?_
      refine inB_here ?_
      refine thn_normal ?_
      refine Wp_seq_region ?_
      refine WpL_val rfl rfl (by decide) (r_move (v := (.pointer (some ⟨b1, 0, none⟩))) rfl) ?_
      refine WpL_val rfl rfl (by decide) (r_assign (v := (.pointer (some ⟨b1, 0, none⟩))) rfl) ?_
      refine WpL_nil ?_
      refine Wp_ret ?_
      refine fin_tmp Tryd.results65 (v := (.pointer (some ⟨b1, 0, none⟩))) rfl ?_
      exact ⟨b1, rfl, by omega, by rw [← hR]; exact B1, E⟩
end Go.Proofs
