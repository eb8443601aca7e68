/- Contracts and plain lemmas, part 2. -/
import Derived.Tactics
import Derived.Deep.Quiet
import Derived.Laws.AppendOwn
import Derived.KernelRfl
import Derived.Laws.Entries
import Derived.Laws.Build
import Derived.Below
import Derived.RowKit3
import Derived.StillTail
import Derived.Sort.Grow
import Derived.Deep.Draws
import Derived.Test.YtnnkdgabkoggaaaGreatDoorChecked
import Derived.Laws.StructEq
import Derived.MapKept
import Derived.Laws.BytesArg
import Derived.Defers
import Derived.Recover
import Derived.Shelf.SlSortCmp.WholeK
import Derived.Shelf.Sort.Plain
import Derived.Shelf.Slices.CompactI
import Derived.Test.YtnnkdgabkoggaaaGreatDoorProg
import Derived.Shelf.Small.Bits
import Derived.DeepKeys3
import Derived.Test.YtnnkdgabkoggaaaGreatDoorAg1
set_option maxHeartbeats 16000000
set_option maxRecDepth 100000
namespace Go.Proofs
open Go Go.Eng
theorem ofInt32 (m : Nat) (h : m < 4294967296) : (BitVec.ofInt 32 (m : Int)).toNat = m := by
 rw [BitVec.toNat_ofInt]; omega
theorem bits_and {P : Program} {w : World} (m n : Nat) (hm : m < 4294967296) (hn : n < 4294967296) : (Op.intBits .and .u32 (m : Int) (n : Int)).run P w = .ok (.int .u32 ((m &&& n : Nat) : Int)) w := by
 have h1 : m &&& n < 4294967296 := Nat.lt_of_le_of_lt Nat.and_le_left hm
 show Result.ok (Value.int .u32 (IntKind.u32.wrap ((BitVec.ofInt 32 (m : Int) &&& BitVec.ofInt 32 (n : Int) : BitVec 32).toNat : Int))) w = _
 rw [BitVec.toNat_and,ofInt32 m hm,ofInt32 n hn,wU32 (by omega)]
theorem bits_or {P : Program} {w : World} (m n : Nat) (hm : m < 4294967296) (hn : n < 4294967296) : (Op.intBits .or .u32 (m : Int) (n : Int)).run P w = .ok (.int .u32 ((m ||| n : Nat) : Int)) w := by
 have h1 : m ||| n < 4294967296 := Nat.or_lt_two_pow (n := 32) hm hn
 show Result.ok (Value.int .u32 (IntKind.u32.wrap ((BitVec.ofInt 32 (m : Int) ||| BitVec.ofInt 32 (n : Int) : BitVec 32).toNat : Int))) w = _
 rw [BitVec.toNat_or,ofInt32 m hm,ofInt32 n hn,wU32 (by omega)]
theorem bits_andNot {P : Program} {w : World} (m n : Nat) (hm : m < 4294967296) (hn : n < 4294967296) : (Op.intBits .andNot .u32 (m : Int) (n : Int)).run P w = .ok (.int .u32 ((m &&& (4294967295 - n) : Nat) : Int)) w := by
 have h1 : m &&& (4294967295 - n) < 4294967296 := Nat.lt_of_le_of_lt Nat.and_le_left hm
 show Result.ok (Value.int .u32 (IntKind.u32.wrap ((BitVec.ofInt 32 (m : Int) &&& ~~~ BitVec.ofInt 32 (n : Int) : BitVec 32).toNat : Int))) w = _
 rw [BitVec.toNat_and,BitVec.toNat_not,ofInt32 m hm,ofInt32 n hn]
 simp only [Nat.reducePow,Nat.reduceSub]
 rw [wU32 (by omega)]
def tab32 : List Nat := [0,1,28,2,29,14,24,3,30,22,20,15,25,17,4,8,31,27,13,23,21,19,16,7,26,12,18,6,11,5,10,9]
def TabOk (w : World) : Prop := ∀ (i v : Nat),tab32[i]? = some v → w.cell? ⟨0,i,none⟩ = some (.int .u8 (v : Int))
theorem TabOk.ext {w w' : World} (h : TabOk w) (e : Ext w w') : TabOk w' := fun i v hv => e.cell (h i v hv)
def tzIdx (k : Nat) : Nat := ((2 ^ k * 125613361) % 4294967296) / 134217728
theorem tz_tab : ∀ k,k < 32 → tab32[tzIdx k]? = some k ∧ tzIdx k < 32 := by decide
theorem low_lt {x k m : Nat} (h : x = 2 ^ (k + 1) * m + 2 ^ k) (hx : x < 4294967296) : k < 32 := by
 rcases Nat.lt_or_ge k 32 with h' | h'
 ·exact h'
 ·have := Nat.pow_le_pow_right (n := 2) (by omega) h'; omega
theorem tz_c (w0 : World) (x k m : Nat) (hx : x = 2 ^ (k + 1) * m + 2 ^ k) (hl : x < 4294967296) (hT : TabOk w0) :
  Ret Tryz.prog 47 #[.int .u32 (x : Int)] w0 fun v w => v = .int .i64 (k : Int) ∧ w = w0 := by
 have hk := low_lt hx hl
 have hp := Nat.two_pow_pos k
 have h0 : 0 < x := by omega
 have hn := low_neg hx hl
 simp only [Nat.reducePow] at hn
 obtain ⟨ht,hi⟩ := tz_tab k hk
 have hpl : 2 ^ k < 4294967296 := Nat.pow_lt_pow_right (n := 32) (by omega) hk
 refine Ret_of Tryz.func47 rfl Tryz.ntmps47 (Nat.le_of_ble_eq_true rfl) ?_
 have E : Chg none1 w0 w0 := Chg.refl _ _
 refine Wp_seq_region ?_
 refine qA (I6 0) rfl ?_
 refine WpL_nil (Wp_seq (Wp_seq_region ?_))
 refine qM (.int .u32 (x : Int)) rfl ?_
 refine qV (r_eql (k := .u32) (a := (x : Int)) (b := 0) rfl rfl) ?_
 refine WpL_nil ?_
 have hc1 : (decide (((x : Int) : Int) = 0)) = false := by simp; omega
 refine Wp_cond_false (congrArg Value.bool hc1) ?_
 refine Wp_skip (thn_normal (Wp_seq_region ?_))
 refine qM (.int .u32 (x : Int)) rfl ?_
 refine qM (.int .u32 (x : Int)) rfl ?_
 refine qV (r_neg (k := .u32) (n := (x : Int)) (c := ((4294967296 - x : Nat) : Int)) rfl (by simp only [IntKind.wrap,IntKind.bits,IntKind.signed,Int.reducePow,Bool.false_and,Bool.false_eq_true,if_false]; omega)) ?_
 refine qV (r_bits (k := .u32) (a := (x : Int)) (b := ((4294967296 - x : Nat) : Int)) (v := .int .u32 ((2 ^ k : Nat) : Int)) rfl rfl (by simp) ((bits_and x (4294967296 - x) hl (by omega)).trans (by rw [hn]))) ?_
 refine qV (r_mul (k := .u32) (a := ((2 ^ k : Nat) : Int)) (b := 125613361) (c := (((2 ^ k * 125613361) % 4294967296 : Nat) : Int)) rfl rfl (by simp only [IntKind.wrap,IntKind.bits,IntKind.signed,Int.reducePow,Bool.false_and,Bool.false_eq_true,if_false]; omega)) ?_
 refine qV (r_shr (k := .u32) (a := (((2 ^ k * 125613361) % 4294967296 : Nat) : Int)) (b := 27) (c := ((tzIdx k : Nat) : Int)) (k' := .u64) rfl rfl (by omega) (by unfold tzIdx; simp only [IntKind.bits]; rw [Int.fdiv_eq_ediv_of_nonneg _ (by decide),show (2 : Int) ^ min (Int.toNat 27) 32 = 134217728 from by decide]; omega)) ?_
 refine qV (r_indexArr (b := 0) (o := 0) (i := tzIdx k) (o' := tzIdx k) rfl rfl rfl Tryz.underlying129 siz5 (by omega) (by omega)) ?_
 refine qV (r_load (v := (.int .u8 (k : Int))) rfl flat5 (hT _ _ ht)) ?_
 refine qV (r_convInt (k := .u8) (k' := .i64) (n := (k : Int)) (c := (k : Int)) ⟨_,Tryz.underlying5⟩ Tryz.underlying3 rfl (wI64 (by omega))) ?_
 refine qA (I6 (k : Int)) rfl ?_
 refine WpL_nil (Wp_ret ?_)
 refine fin_tmp Tryz.results47 (v := (.int .i64 ((k : Nat) : Int))) rfl ?_
 exact ⟨rfl,rfl⟩
def rowArr (R : Nat → Nat → Bool) : Array Value := ((List.range 25).map fun i => Value.int .u32 ((maskN 25 (R i) : Nat) : Int)).toArray
theorem rowArr_size (R : Nat → Nat → Bool) : (rowArr R).size = 25 := by simp [rowArr]
theorem rowArr_get (R : Nat → Nat → Bool) {i : Nat} (h : i < 25) : (rowArr R)[i]? = some (.int .u32 ((maskN 25 (R i) : Nat) : Int)) := by simp [rowArr,h]
theorem rowArr_set {R R' : Nat → Nat → Bool} {i : Nat} {v : Int} (hi : i < 25) (hv : v = ((maskN 25 (R' i) : Nat) : Int)) (ho : ∀ i',i' < 25 → i' ≠ i → ∀ j,j < 25 → R' i' j = R i' j) :
  (rowArr R).setIfInBounds i (.int .u32 v) = rowArr R' := by
 apply Array.ext'
 apply List.ext_getElem?
 intro j
 simp only [rowArr,Array.toList_setIfInBounds,List.getElem?_set,List.length_map,List.length_range,List.getElem?_map]
 by_cases hj : i = j
 ·subst hj; simp [hi,hv]
 ·simp only [hj,if_false]
  by_cases h25 : j < 25
  ·simp [h25,mask_congr (ho j h25 (Ne.symm hj))]
  ·simp [h25]
theorem rowArr_congr {R R' : Nat → Nat → Bool} (h : ∀ i,i < 25 → ∀ j,j < 25 → R i j = R' i j) : rowArr R = rowArr R' := by
 simp only [rowArr]
 congr 1
 apply List.map_congr_left
 intro i hi
 simp at hi
 rw [mask_congr (h i hi)]
abbrev TR : Nat := 106
theorem mask_lt32 (f : Nat → Bool) : maskN 25 f < 4294967296 := Nat.lt_of_lt_of_le (maskN_lt 25 f) (by decide)
theorem shl1 {k : Nat} (h : k ≤ 25) : IntKind.u32.wrap (1 * 2 ^ (min ((k : Int)).toNat IntKind.u32.bits)) = ((2 ^ k : Nat) : Int) := by
 have h1 : (2 : Nat) ^ k ≤ 2 ^ 25 := Nat.pow_le_pow_right (by omega) h
 have h2 : min ((k : Int)).toNat IntKind.u32.bits = k := by simp [IntKind.bits]; omega
 rw [h2,Int.one_mul,show ((2 : Int) ^ k) = ((2 ^ k : Nat) : Int) from by simp]
 simp only [Nat.reducePow] at h1
 generalize (2 : Nat) ^ k = p at h1 ⊢
 exact wU32 (by omega)
theorem rsame_c (w0 : World) (n : Nat) (hn : n ≤ 24) :
  Ret Tryz.prog 53 #[.int .i64 (n : Int)] w0 fun v w => ∃ b,v = .pointer (some ⟨b,0,none⟩) ∧ w0.heap.size ≤ b ∧ Blk w b (rowArr (idR n)) TR ∧ Ext w0 w := by
 refine Ret_of Tryz.func53 rfl Tryz.ntmps53 (Nat.le_of_ble_eq_true rfl) ?_
 have E : Chg none1 w0 w0 := Chg.refl _ _
 refine Wp_seq_region ?_
 refine qA (.pointer none) rfl ?_
 refine WpL_nil (Wp_seq_region ?_)
 refine qV (r_build (ps := []) (v := (.agg #[(.int .u32 0),(.int .u32 0),(.int .u32 0),(.int .u32 0),(.int .u32 0),(.int .u32 0),(.int .u32 0),(.int .u32 0),(.int .u32 0),(.int .u32 0),(.int .u32 0),(.int .u32 0),(.int .u32 0),(.int .u32 0),(.int .u32 0),(.int .u32 0),(.int .u32 0),(.int .u32 0),(.int .u32 0),(.int .u32 0),(.int .u32 0),(.int .u32 0),(.int .u32 0),(.int .u32 0),(.int .u32 0)])) rfl (by kernel_rfl)) ?_
 refine s_box (v := (.agg #[(.int .u32 0),(.int .u32 0),(.int .u32 0),(.int .u32 0),(.int .u32 0),(.int .u32 0),(.int .u32 0),(.int .u32 0),(.int .u32 0),(.int .u32 0),(.int .u32 0),(.int .u32 0),(.int .u32 0),(.int .u32 0),(.int .u32 0),(.int .u32 0),(.int .u32 0),(.int .u32 0),(.int .u32 0),(.int .u32 0),(.int .u32 0),(.int .u32 0),(.int .u32 0),(.int .u32 0),(.int .u32 0)])) (c := #[(.int .u32 0),(.int .u32 0),(.int .u32 0),(.int .u32 0),(.int .u32 0),(.int .u32 0),(.int .u32 0),(.int .u32 0),(.int .u32 0),(.int .u32 0),(.int .u32 0),(.int .u32 0),(.int .u32 0),(.int .u32 0),(.int .u32 0),(.int .u32 0),(.int .u32 0),(.int .u32 0),(.int .u32 0),(.int .u32 0),(.int .u32 0),(.int .u32 0),(.int .u32 0),(.int .u32 0),(.int .u32 0)]) (by decide) rfl rfl ?_
 intro b1 w1 N1
 have F1 := N1.ge E
 replace E := E.ext N1.ext
 have B1 := N1.blk
 refine qA (P6 b1 0) rfl ?_
 refine WpL_nil (Wp_seq (Wp_seq_region ?_))
 refine qM (I6 (n : Int)) rfl ?_
 refine qV (r_add (k := .i64) (a := (n : Int)) (b := 1) (c := (n : Int) + 1) rfl rfl (wI64 (by omega))) ?_
 refine qM (I6 0) rfl ?_
 refine WpL_nil (Wp_block ?_)
 replace B1 : Blk w1 b1 (rowArr fun _ _ => false) TR := B1
 refine Wp_loop (fun nn_ σ W2 => ∃ (k : Nat),(∃ jj_,σ = upds jj_ [(3,(P6 b1 0)),(8,(I6 ((n : Int) + 1))),(9,(I6 (k : Int)))]) ∧ Chg none1 w0 W2 ∧ Blk W2 b1 (rowArr fun i j => decide (i < k) && decide (j = i)) 106 ∧ (k ≤ n + 1) ∧ nn_ = n + 1 - k) (n := n + 1 - 0) ?_ ?_
 ·exact ⟨0,Fits.out ⟨rfl,rfl,rfl,trivial⟩,E,B1,Nat.zero_le _,rfl⟩
 ·clear E B1
  rintro _ _ W2 ⟨k,⟨j2,rfl⟩,E,B1,hk,rfl⟩
  refine Wp_seq_region ?_
  refine qV (r_lss (k := .i64) (a := (k : Int)) (b := (n : Int) + 1) rfl rfl) ?_
  refine WpL_nil (Wp_seq ?_)
  refine Wp_cond (b := decide (((k : Int) : Int) < (n : Int) + 1)) rfl (fun hlt => ?_) (fun hlt => ?_)
  ·have khlt := hlt
   replace hlt := of_decide_eq_true hlt
   refine Wp_skip (thn_normal (Wp_seq (Wp_block (Wp_seq_region ?_))))
   refine qM (I6 (k : Int)) rfl ?_
   refine qA (I6 (k : Int)) rfl ?_
   refine WpL_nil ?_
   refine Wp_draw 6 mixed (by kernel_rfl) ?_
   intro w4 X4 _
   replace B1 := X4.keep B1
   replace E := E.ext X4
   refine qT (r_move (v := (P6 b1 0)) rfl) ?_
   refine qT (r_move (v := (I6 (k : Int))) rfl) ?_
   refine qT (r_move (v := (I6 (k : Int))) rfl) ?_
   refine qT (r_shl (k := .u32) (a := 1) (b := (k : Int)) (c := ((2 ^ k : Nat) : Int)) (k' := .i64) rfl rfl (by omega) (shl1 (by omega))) ?_
   refine qT (r_nilCheck (a := ⟨b1,0,none⟩) rfl) ?_
   refine qT (r_indexArr (b := b1) (o := 0) (i := k) (o' := k) rfl rfl rfl Tryz.underlying106 siz55 (by omega) (by omega)) ?_
   refine WpT_zero ?_
   refine s_store (b := b1) (o := k) (c' := rowArr fun i j => decide (i < k + 1) && decide (j = i)) (v := (.int .u32 ((2 ^ k : Nat) : Int))) rfl rfl rfl siz55 B1 (by rw [rowArr_size]; omega) (rowArr_set (by omega) (by rw [mask_one (n := 25) (i := k) (by omega)]; simp) (fun i' _ hne j _ => by rw [Bool.eq_iff_iff]; simp; omega)) ?_
   intro w5 S5
   replace E := S5.step E (by first | exact Or.inl (by omega) | exact Or.inr rfl | exact Or.inr (by assumption) | exact Or.inr (by simp) | exact Or.inr (by omega) | exact Or.inr (by dsimp only; omega))
   replace B1 := S5.blk
   refine WpL_nil (inB_normal (thn_normal (Wp_region ?_)))
   refine qV (r_add (k := .i64) (a := (k : Int)) (b := 1) (c := (k : Int) + 1) rfl rfl (wI64 (by omega))) ?_
   refine qM (I6 ((k : Int) + 1)) rfl ?_
   refine WpL_nil (thn_normal ?_)
   exact ⟨n + 1 - (k + 1),by omega,k + 1,Fits.out ⟨rfl,rfl,rfl,trivial⟩,E,B1,(by omega),rfl⟩
  ·have khlt := hlt
   replace hlt := of_decide_eq_false hlt
   obtain rfl : k = n + 1 := by omega
   have hR : rowArr (fun i j => decide (i < n + 1) && decide (j = i)) = rowArr (idR n) := rowArr_congr fun i _ j _ => by unfold idR; rw [Bool.eq_iff_iff]; simp; omega
   refine Wp_exit (thn_exit (thn_exit (inB_here (thn_normal (Wp_seq_region ?_)))))
   refine qM (P6 b1 0) rfl ?_
   refine qA (P6 b1 0) rfl ?_
   refine WpL_nil (Wp_ret ?_)
   refine fin_tmp Tryz.results53 (v := (.pointer (some ⟨b1,0,none⟩))) rfl ?_
   exact ⟨b1,rfl,by omega,by rw [← hR]; exact B1,E⟩
def outR (A B : Nat → Nat → Bool) (n i p : Nat) : Nat → Nat → Bool := fun i' k =>
 if i' < i then thenR A B n i' k else if i' = i then (List.range p).any fun j => A i j && B j k else false
theorem any_range_skip {f : Nat → Bool} {p q : Nat} (h : ∀ j,p ≤ j → j < q → f j = false) (hpq : p ≤ q) : (List.range q).any f = (List.range p).any f := by
 rw [Bool.eq_iff_iff]
 simp only [List.any_eq_true,List.mem_range]
 constructor
 ·rintro ⟨j,hj,hf⟩
  rcases Nat.lt_or_ge j p with h' | h'
  ·exact ⟨j,h',hf⟩
  ·rw [h j h' hj] at hf; cases hf
 ·rintro ⟨j,hj,hf⟩; exact ⟨j,by omega,hf⟩
theorem any_range_succ {f : Nat → Bool} {p : Nat} : (List.range (p + 1)).any f = ((List.range p).any f || f p) := by
 rw [List.range_succ]; simp
/-- What the lowest bit of what is left says. -/
theorem left_low {A : Nat → Bool} {p x k m : Nat} (hx : x = maskN 25 fun j => A j && decide (p ≤ j)) (hl : x = 2 ^ (k + 1) * m + 2 ^ k) :
  k < 25 ∧ A k = true ∧ p ≤ k ∧ (∀ j,p ≤ j → j < k → A j = false) ∧ x &&& (x - 1) = maskN 25 fun j => A j && decide (k + 1 ≤ j) := by
 have hb : ∀ j,x.testBit j = (decide (j < 25) && (A j && decide (p ≤ j))) := fun j => by rw [hx,maskN_bit]
 have hk := low_bit hl k
 rw [hb] at hk
 simp at hk
 have hlow : ∀ j,p ≤ j → j < k → A j = false := fun j h1 h2 => by
  have := low_bit hl j
  rw [hb,if_pos (by omega)] at this
  have hne : j ≠ k := by omega
  simpa [show j < 25 by omega,h1,hne] using this
 refine ⟨hk.1,hk.2.1,hk.2.2,hlow,mask_ext ?_ fun j hj => ?_⟩
 ·exact Nat.lt_of_le_of_lt Nat.and_le_left (hx ▸ maskN_lt 25 _)
 ·rw [low_clear hl,hb,Bool.eq_iff_iff]
  simp only [hj,decide_true,Bool.true_and,Bool.and_eq_true,decide_eq_true_eq]
  constructor
  ·rintro ⟨⟨h1,h2⟩,h3⟩
   refine ⟨h1,?_⟩
   rcases Nat.lt_or_ge j k with h | h
   ·rw [hlow j h2 h] at h1; cases h1
   ·omega
  ·rintro ⟨h1,h2⟩; exact ⟨⟨h1,by omega⟩,by omega⟩
theorem outR_step {A B : Nat → Nat → Bool} {n i p k : Nat} (hlow : ∀ j,p ≤ j → j < k → A i j = false) (hpk : p ≤ k) (hA : A i k = true) (c : Nat) :
  (outR A B n i p i c || B k c) = outR A B n i (k + 1) i c := by
 simp only [outR,Nat.lt_irrefl,if_false,if_true]
 rw [any_range_succ,any_range_skip (p := p) (q := k) (fun j h1 h2 => by simp [hlow j h1 h2]) hpk,hA]
 simp
theorem outR_end {A B : Nat → Nat → Bool} {n i p : Nat} (hi : i ≤ n) (hp : p ≤ 25) (hz : maskN 25 (fun j => A i j && decide (p ≤ j)) = 0) : rowArr (outR A B n i p) = rowArr (outR A B n (i + 1) 0) := by
 apply rowArr_congr
 intro i' _ k _
 rw [mask_eq_zero] at hz
 simp only [outR]
 by_cases h1 : i' < i
 ·rw [if_pos h1,if_pos (by omega)]
 ·rw [if_neg h1]
  by_cases h2 : i' = i
  ·subst h2
   rw [if_pos rfl,if_pos (by omega)]
   simp only [thenR,hi,decide_true,Bool.true_and]
   exact (any_range_skip (fun j h3 h4 => by have := hz j h4; simp [h3] at this; simp [this]) hp).symm
  ·rw [if_neg h2,if_neg (by omega)]
   split <;> simp
theorem then_c (w0 : World) (ba bb n : Nat) (A B : Nat → Nat → Bool) (hn : n ≤ 24) (hA : Blk w0 ba (rowArr A) TR) (hB : Blk w0 bb (rowArr B) TR) (hT : TabOk w0) :
  Ret Tryz.prog 54 #[.pointer (some ⟨ba,0,none⟩),.pointer (some ⟨bb,0,none⟩),.int .i64 (n : Int)] w0
   fun v w => ∃ b,v = .pointer (some ⟨b,0,none⟩) ∧ w0.heap.size ≤ b ∧ Blk w b (rowArr (thenR A B n)) TR ∧ Ext w0 w := by
 have la := hA.lt
 have lb := hB.lt
 refine Ret_of Tryz.func54 rfl Tryz.ntmps54 (Nat.le_of_ble_eq_true rfl) ?_
 have E : Chg none1 w0 w0 := Chg.refl _ _
 refine Wp_seq_region ?_
 refine qA (.pointer none) rfl ?_
 refine WpL_nil (Wp_seq_region ?_)
 refine qV (r_build (ps := []) (v := (.agg #[(.int .u32 0),(.int .u32 0),(.int .u32 0),(.int .u32 0),(.int .u32 0),(.int .u32 0),(.int .u32 0),(.int .u32 0),(.int .u32 0),(.int .u32 0),(.int .u32 0),(.int .u32 0),(.int .u32 0),(.int .u32 0),(.int .u32 0),(.int .u32 0),(.int .u32 0),(.int .u32 0),(.int .u32 0),(.int .u32 0),(.int .u32 0),(.int .u32 0),(.int .u32 0),(.int .u32 0),(.int .u32 0)])) rfl (by kernel_rfl)) ?_
 refine s_box (v := (.agg #[(.int .u32 0),(.int .u32 0),(.int .u32 0),(.int .u32 0),(.int .u32 0),(.int .u32 0),(.int .u32 0),(.int .u32 0),(.int .u32 0),(.int .u32 0),(.int .u32 0),(.int .u32 0),(.int .u32 0),(.int .u32 0),(.int .u32 0),(.int .u32 0),(.int .u32 0),(.int .u32 0),(.int .u32 0),(.int .u32 0),(.int .u32 0),(.int .u32 0),(.int .u32 0),(.int .u32 0),(.int .u32 0)])) (c := #[(.int .u32 0),(.int .u32 0),(.int .u32 0),(.int .u32 0),(.int .u32 0),(.int .u32 0),(.int .u32 0),(.int .u32 0),(.int .u32 0),(.int .u32 0),(.int .u32 0),(.int .u32 0),(.int .u32 0),(.int .u32 0),(.int .u32 0),(.int .u32 0),(.int .u32 0),(.int .u32 0),(.int .u32 0),(.int .u32 0),(.int .u32 0),(.int .u32 0),(.int .u32 0),(.int .u32 0),(.int .u32 0)]) (by decide) rfl rfl ?_
 intro b1 w1 N1
 have F1 := N1.ge E
 have O1_ba := N1.lt hA
 have O1_bb := N1.lt hB
 replace hA := N1.keep hA
 replace hB := N1.keep hB
 replace E := E.ext N1.ext
 have B1 := N1.blk
 refine qA (P6 b1 0) rfl ?_
 refine WpL_nil (Wp_seq (Wp_seq_region ?_))
 refine qM (I6 (n : Int)) rfl ?_
 refine qV (r_add (k := .i64) (a := (n : Int)) (b := 1) (c := (n : Int) + 1) rfl rfl (wI64 (by omega))) ?_
 refine qM (I6 0) rfl ?_
 refine WpL_nil (Wp_block ?_)
 replace B1 : Blk w1 b1 (rowArr (outR A B n 0 0)) TR := by have h0 : rowArr (outR A B n 0 0) = rowArr (fun _ _ => false) := rowArr_congr (fun i _ j _ => by simp [outR]); rw [h0]; exact B1
 refine Wp_loop (fun nn_ σ W2 => ∃ (i : Nat),(∃ jj_,σ = upds jj_ [(0,(P6 ba 0)),(1,(P6 bb 0)),(7,(P6 b1 0)),(13,(I6 ((n : Int) + 1))),(14,(I6 (i : Int)))]) ∧ Chg none1 w0 W2 ∧ Blk W2 ba (rowArr A) TR ∧ Blk W2 bb (rowArr B) TR ∧ Blk W2 b1 (rowArr (outR A B n i 0)) 106 ∧ (i ≤ n + 1) ∧ nn_ = n + 1 - i) (n := n + 1 - 0) ?_ ?_
 ·exact ⟨0,Fits.out ⟨rfl,rfl,rfl,rfl,rfl,trivial⟩,E,hA,hB,B1,Nat.zero_le _,rfl⟩
 ·clear E hA hB B1
  rintro _ _ W2 ⟨i,⟨j2,rfl⟩,E,hA,hB,B1,hi,rfl⟩
  refine Wp_seq_region ?_
  refine qV (r_lss (k := .i64) (a := (i : Int)) (b := (n : Int) + 1) rfl rfl) ?_
  refine WpL_nil (Wp_seq ?_)
  refine Wp_cond (b := decide (((i : Int) : Int) < (n : Int) + 1)) rfl (fun hlt => ?_) (fun hlt => ?_)
  ·have khlt := hlt
   replace hlt := of_decide_eq_true hlt
   refine Wp_skip (thn_normal (Wp_seq (Wp_block (Wp_seq_region ?_))))
   refine qM (I6 (i : Int)) rfl ?_
   refine qA (I6 (i : Int)) rfl ?_
   refine WpL_nil (Wp_seq_region ?_)
   refine qM (P6 ba 0) rfl ?_
   refine qM (I6 (i : Int)) rfl ?_
   refine qV (r_nilCheck (a := ⟨ba,0,none⟩) rfl) ?_
   refine qV (r_indexArr (b := ba) (o := 0) (i := i) (o' := i) rfl rfl rfl Tryz.underlying106 siz55 (by omega) (by omega)) ?_
   refine qV (r_load (v := (.int .u32 ((maskN 25 (fun j => A i j && decide (0 ≤ j)) : Nat) : Int))) rfl flat55 ((hA.cell (rowArr_get A (by omega))).trans (by rw [mask_congr (g := fun j => A i j && decide (0 ≤ j)) (fun j _ => by simp)]))) ?_
   refine qA (.int .u32 ((maskN 25 (fun j => A i j && decide (0 ≤ j)) : Nat) : Int)) rfl ?_
   refine WpL_nil (Wp_block ?_)
   refine Wp_loop (fun nn_ σ W4 => ∃ (p : Nat),(∃ jj_,σ = upds jj_ [(0,(P6 ba 0)),(1,(P6 bb 0)),(7,(P6 b1 0)),(8,(I6 (i : Int))),(13,(I6 ((n : Int) + 1))),(14,(I6 (i : Int))),(9,(.int .u32 ((maskN 25 (fun j => A i j && decide (p ≤ j)) : Nat) : Int)))]) ∧ Chg none1 w0 W4 ∧ Blk W4 ba (rowArr A) TR ∧ Blk W4 bb (rowArr B) TR ∧ Blk W4 b1 (rowArr (outR A B n i p)) 106 ∧ (p ≤ 25) ∧ nn_ = 25 - p) (n := 25 - 0) ?_ ?_
   ·exact ⟨0,Fits.out ⟨rfl,rfl,rfl,rfl,rfl,rfl,rfl,trivial⟩,E,hA,hB,B1,Nat.zero_le _,rfl⟩
   ·clear E hA hB B1
    rintro _ _ W4 ⟨p,⟨j4,rfl⟩,E,hA,hB,B1,hp,rfl⟩
    obtain ⟨x,hx⟩ : ∃ x,x = maskN 25 (fun j => A i j && decide (p ≤ j)) := ⟨_,rfl⟩
    have hxl : x < 4294967296 := hx ▸ mask_lt32 _
    rw [← hx]
    refine Wp_seq (Wp_seq_region ?_)
    refine qM (.int .u32 (x : Int)) rfl ?_
    refine qV (r_neq (k := .u32) (a := (x : Int)) (b := 0) rfl rfl) ?_
    refine WpL_nil ?_
    refine Wp_cond (b := decide (((x : Int) : Int) ≠ 0)) rfl (fun hne => ?_) (fun hne => ?_)
    ·have khne := hne
     replace hne := of_decide_eq_true hne
     obtain ⟨k,m,hl⟩ := low_form x (by omega)
     obtain ⟨hk25,hAk,hpk,hlow,hclear⟩ := left_low hx hl
     refine Wp_skip (thn_normal (Wp_seq (Wp_block ?_)))
     refine Wp_draw 14 mixed (by kernel_rfl) ?_
     intro w6 X6 _
     replace hA := X6.keep hA
     replace hB := X6.keep hB
     replace B1 := X6.keep B1
     replace E := E.ext X6
     refine qT (r_move (v := (P6 b1 0)) rfl) ?_
     refine qT (r_move (v := (I6 (i : Int))) rfl) ?_
     refine qT (r_nilCheck (a := ⟨b1,0,none⟩) rfl) ?_
     refine qT (r_indexArr (b := b1) (o := 0) (i := i) (o' := i) rfl rfl rfl Tryz.underlying106 siz55 (by omega) (by omega)) ?_
     refine qT (r_load (v := (.int .u32 ((maskN 25 (outR A B n i p i) : Nat) : Int))) rfl flat55 (B1.cell (rowArr_get _ (by omega)))) ?_
     refine qT (r_move (v := (P6 bb 0)) rfl) ?_
     refine qT (r_move (v := (.int .u32 (x : Int))) rfl) ?_
     refine WpT_enter (v := (I6 (k : Int))) rfl rfl (by decide) (r_callF (vs := [(.int .u32 (x : Int))]) Tryz.func47 kQ kQ rfl) (tz_c _ x k m hl hxl (hT.ext E)) ?_
     refine qT (r_nilCheck (a := ⟨bb,0,none⟩) rfl) ?_
     refine qT (r_indexArr (b := bb) (o := 0) (i := k) (o' := k) rfl rfl rfl Tryz.underlying106 siz55 (by omega) (by omega)) ?_
     refine qT (r_load (v := (.int .u32 ((maskN 25 (B k) : Nat) : Int))) rfl flat55 (hB.cell (rowArr_get _ (by omega)))) ?_
     refine qT (r_bits (k := .u32) (a := ((maskN 25 (outR A B n i p i) : Nat) : Int)) (b := ((maskN 25 (B k) : Nat) : Int)) (v := .int .u32 ((maskN 25 (outR A B n i (k + 1) i) : Nat) : Int)) rfl rfl (by simp) ((bits_or _ _ (mask_lt32 _) (mask_lt32 _)).trans (by rw [mask_or,mask_congr (fun c _ => outR_step hlow hpk hAk c)]))) ?_
     refine qT (r_nilCheck (a := ⟨b1,0,none⟩) rfl) ?_
     refine qT (r_indexArr (b := b1) (o := 0) (i := i) (o' := i) rfl rfl rfl Tryz.underlying106 siz55 (by omega) (by omega)) ?_
     refine WpT_zero ?_
     refine s_store (b := b1) (o := i) (c' := rowArr (outR A B n i (k + 1))) (v := (.int .u32 ((maskN 25 (outR A B n i (k + 1) i) : Nat) : Int))) rfl rfl rfl siz55 B1 (by rw [rowArr_size]; omega) (rowArr_set (by omega) rfl (fun i' _ hne j _ => by simp [outR,hne])) ?_
     intro w7 S7
     replace hA := S7.keep (by omega) hA
     replace hB := S7.keep (by omega) hB
     replace E := S7.step E (by first | exact Or.inl (by omega) | exact Or.inr rfl | exact Or.inr (by assumption) | exact Or.inr (by simp) | exact Or.inr (by omega) | exact Or.inr (by dsimp only; omega))
     replace B1 := S7.blk
     refine WpL_nil (inB_normal (thn_normal (Wp_region ?_)))
     refine qM (.int .u32 (x : Int)) rfl ?_
     refine qM (.int .u32 (x : Int)) rfl ?_
     refine qV (r_sub (k := .u32) (a := (x : Int)) (b := 1) (c := ((x - 1 : Nat) : Int)) rfl rfl (by rw [wU32 (by omega)]; omega)) ?_
     refine qV (r_bits (k := .u32) (a := (x : Int)) (b := ((x - 1 : Nat) : Int)) (v := .int .u32 ((maskN 25 (fun j => A i j && decide (k + 1 ≤ j)) : Nat) : Int)) rfl rfl (by simp) ((bits_and _ _ hxl (by omega)).trans (by rw [hclear]))) ?_
     refine qA (.int .u32 ((maskN 25 (fun j => A i j && decide (k + 1 ≤ j)) : Nat) : Int)) rfl ?_
     refine WpL_nil (thn_normal ?_)
     exact ⟨25 - (k + 1),by omega,k + 1,Fits.out ⟨rfl,rfl,rfl,rfl,rfl,rfl,rfl,trivial⟩,E,hA,hB,B1,(by omega),rfl⟩
    ·have khne := hne
     replace hne := of_decide_eq_false hne
     have hz : x = 0 := by omega
     rw [outR_end (by omega) hp (hx ▸ hz)] at B1
     refine Wp_exit (thn_exit (thn_exit (inB_here (inB_normal (thn_normal (Wp_region ?_))))))
     refine qV (r_add (k := .i64) (a := (i : Int)) (b := 1) (c := (i : Int) + 1) rfl rfl (wI64 (by omega))) ?_
     refine qM (I6 ((i : Int) + 1)) rfl ?_
     refine WpL_nil (thn_normal ?_)
     exact ⟨n + 1 - (i + 1),by omega,i + 1,Fits.out ⟨rfl,rfl,rfl,rfl,rfl,trivial⟩,E,hA,hB,B1,(by omega),rfl⟩
  ·have khlt := hlt
   replace hlt := of_decide_eq_false hlt
   obtain rfl : i = n + 1 := by omega
   have hR : rowArr (outR A B n (n + 1) 0) = rowArr (thenR A B n) := rowArr_congr fun i _ j _ => by unfold outR; split; rfl; simp [thenR]; omega
   refine Wp_exit (thn_exit (thn_exit (inB_here (thn_normal (Wp_seq_region ?_)))))
   refine qM (P6 b1 0) rfl ?_
   refine qA (P6 b1 0) rfl ?_
   refine WpL_nil (Wp_ret ?_)
   refine fin_tmp Tryz.results54 (v := (.pointer (some ⟨b1,0,none⟩))) rfl ?_
   exact ⟨b1,rfl,by omega,by rw [← hR]; exact B1,E⟩
theorem rowArr_one (R : Nat → Nat → Bool) : ∀ u ∈ (rowArr R).toList,u.oneCell' = true := by
 intro u hu
 simp only [rowArr,List.mem_map,List.mem_range] at hu
 obtain ⟨i,_,rfl⟩ := hu
 rfl
theorem or_start {A B : Nat → Nat → Bool} {w : World} {b t : Nat} (h : Blk w b (rowArr A).toList.toArray t) : Blk w b (rowArr fun i j => if i < 0 then orR A B i j else A i j) t := by
 have h0 : rowArr (fun i j => if i < 0 then orR A B i j else A i j) = rowArr A := rowArr_congr fun i _ j _ => by simp
 rw [h0]; simpa using h
theorem or_c (w0 : World) (ba bb : Nat) (A B : Nat → Nat → Bool) (hA : Blk w0 ba (rowArr A) TR) (hB : Blk w0 bb (rowArr B) TR) :
  Ret Tryz.prog 55 #[.pointer (some ⟨ba,0,none⟩),.pointer (some ⟨bb,0,none⟩)] w0
   fun v w => ∃ b,v = .pointer (some ⟨b,0,none⟩) ∧ w0.heap.size ≤ b ∧ Blk w b (rowArr (orR A B)) TR ∧ Ext w0 w := by
 have la := hA.lt
 have lb := hB.lt
 refine Ret_of Tryz.func55 rfl Tryz.ntmps55 (Nat.le_of_ble_eq_true rfl) ?_
 have E : Chg none1 w0 w0 := Chg.refl _ _
 refine Wp_seq_region ?_
 refine qA (.pointer none) rfl ?_
 refine WpL_nil (Wp_seq_region ?_)
 refine qM (P6 ba 0) rfl ?_
 refine qV (r_nilCheck (a := ⟨ba,0,none⟩) rfl) ?_
 refine qV (r_loadAgg (vs := (rowArr A).toList) rfl agg106 siz106 (by simp [rowArr]) (hA.cells (by simp only [List.drop_zero]; exact List.take_length))) ?_
 refine s_allocStore (v := (.agg ((rowArr A).toList.toArray))) (c := ((rowArr A).toList.toArray)) (n := 25) (by decide) zer106 rfl siz106 rfl rfl (by simpa using by simp [rowArr]) (by simpa using rowArr_one A) ?_
 intro b1 w1 N1
 have F1 := N1.ge E
 have O1_ba := N1.lt hA
 have O1_bb := N1.lt hB
 replace hA := N1.keep hA
 replace hB := N1.keep hB
 replace E := E.ext N1.ext
 have B1 := N1.blk
 refine WpL_nil (Wp_seq (Wp_seq_region ?_))
 refine qM (I6 0) rfl ?_
 refine WpL_nil (Wp_block ?_)
 replace B1 : Blk w1 b1 (rowArr fun i j => if i < 0 then orR A B i j else A i j) TR := or_start B1
 refine Wp_loop (fun nn_ σ W2 => ∃ (i : Nat),(∃ jj_,σ = upds jj_ [(1,(P6 bb 0)),(5,(P6 b1 0)),(10,(I6 (i : Int)))]) ∧ Chg none1 w0 W2 ∧ Blk W2 ba (rowArr A) TR ∧ Blk W2 bb (rowArr B) TR ∧ Blk W2 b1 (rowArr fun i' j => if i' < i then orR A B i' j else A i' j) 106 ∧ (i ≤ 25) ∧ nn_ = 25 - i) (n := 25 - 0) ?_ ?_
 ·exact ⟨0,Fits.out ⟨rfl,rfl,rfl,trivial⟩,E,hA,hB,B1,Nat.zero_le _,rfl⟩
 ·clear E hA hB B1
  rintro _ _ W2 ⟨i,⟨j2,rfl⟩,E,hA,hB,B1,hi,rfl⟩
  refine Wp_seq_region ?_
  refine qV (r_lss (k := .i64) (a := (i : Int)) (b := 25) rfl rfl) ?_
  refine WpL_nil (Wp_seq ?_)
  refine Wp_cond (b := decide (((i : Int) : Int) < 25)) rfl (fun hlt => ?_) (fun hlt => ?_)
  ·have khlt := hlt
   replace hlt := of_decide_eq_true hlt
   refine Wp_skip (thn_normal (Wp_seq (Wp_block (Wp_seq_region ?_))))
   refine qM (I6 (i : Int)) rfl ?_
   refine qA (I6 (i : Int)) rfl ?_
   refine WpL_nil ?_
   refine Wp_draw 10 mixed (by kernel_rfl) ?_
   intro w4 X4 _
   replace hA := X4.keep hA
   replace hB := X4.keep hB
   replace B1 := X4.keep B1
   replace E := E.ext X4
   refine qT (r_move (v := (I6 (i : Int))) rfl) ?_
   refine qT (r_indexArr (b := b1) (o := 0) (i := i) (o' := i) rfl rfl rfl Tryz.underlying106 siz55 (by omega) (by omega)) ?_
   refine qT (r_load (v := (.int .u32 ((maskN 25 (A i) : Nat) : Int))) rfl flat55 ((B1.cell (rowArr_get _ (by omega))).trans (by simp))) ?_
   refine qT (r_move (v := (P6 bb 0)) rfl) ?_
   refine qT (r_move (v := (I6 (i : Int))) rfl) ?_
   refine qT (r_nilCheck (a := ⟨bb,0,none⟩) rfl) ?_
   refine qT (r_indexArr (b := bb) (o := 0) (i := i) (o' := i) rfl rfl rfl Tryz.underlying106 siz55 (by omega) (by omega)) ?_
   refine qT (r_load (v := (.int .u32 ((maskN 25 (B i) : Nat) : Int))) rfl flat55 (hB.cell (rowArr_get _ (by omega)))) ?_
   refine qT (r_bits (k := .u32) (a := ((maskN 25 (A i) : Nat) : Int)) (b := ((maskN 25 (B i) : Nat) : Int)) (v := .int .u32 ((maskN 25 (orR A B i) : Nat) : Int)) rfl rfl (by simp) ((bits_or _ _ (mask_lt32 _) (mask_lt32 _)).trans (by rw [mask_or]; rfl))) ?_
   refine qT (r_indexArr (b := b1) (o := 0) (i := i) (o' := i) rfl rfl rfl Tryz.underlying106 siz55 (by omega) (by omega)) ?_
   refine WpT_zero ?_
   refine s_store (b := b1) (o := i) (c' := rowArr fun i' j => if i' < i + 1 then orR A B i' j else A i' j) (v := (.int .u32 ((maskN 25 (orR A B i) : Nat) : Int))) rfl rfl rfl siz55 B1 (by rw [rowArr_size]; omega) (rowArr_set (by omega) (by simp) (fun i' _ hne j _ => by by_cases h : i' < i; rw [if_pos h,if_pos (by omega)]; rw [if_neg h,if_neg (by omega)])) ?_
   intro w5 S5
   replace hA := S5.keep (by omega) hA
   replace hB := S5.keep (by omega) hB
   replace E := S5.step E (by first | exact Or.inl (by omega) | exact Or.inr rfl | exact Or.inr (by assumption) | exact Or.inr (by simp) | exact Or.inr (by omega) | exact Or.inr (by dsimp only; omega))
   replace B1 := S5.blk
   refine WpL_nil (inB_normal (thn_normal (Wp_region ?_)))
   refine qV (r_add (k := .i64) (a := (i : Int)) (b := 1) (c := (i : Int) + 1) rfl rfl (wI64 (by omega))) ?_
   refine qM (I6 ((i : Int) + 1)) rfl ?_
   refine WpL_nil (thn_normal ?_)
   exact ⟨25 - (i + 1),by omega,i + 1,Fits.out ⟨rfl,rfl,rfl,trivial⟩,E,hA,hB,B1,(by omega),rfl⟩
  ·have khlt := hlt
   replace hlt := of_decide_eq_false hlt
   obtain rfl : i = 25 := by omega
   have hR : rowArr (fun i' j => if i' < 25 then orR A B i' j else A i' j) = rowArr (orR A B) := rowArr_congr fun i h j _ => by rw [if_pos h]
   refine Wp_exit (thn_exit (thn_exit (inB_here (thn_normal (Wp_seq_region ?_)))))
   refine qA (P6 b1 0) rfl ?_
   refine WpL_nil (Wp_ret ?_)
   refine fin_tmp Tryz.results55 (v := (.pointer (some ⟨b1,0,none⟩))) rfl ?_
   exact ⟨b1,rfl,by omega,by rw [← hR]; exact B1,E⟩
mutual
def okRe : Re → Prop
  | .mk k set args mn mx ng => nodeE (.mk k set args mn mx ng) = 0 ∧ okRes args
def okRes : List Re → Prop
  | [] => True
  | t :: ts => okRe t ∧ okRes ts
end
theorem okRes_get {ts : List Re} (h : okRes ts) {i : Nat} {x : Re} (hx : ts[i]? = some x) : okRe x := by
  induction ts generalizing i with
  | nil => simp at hx
  | cons t ts ih =>
    simp only [okRes] at h
    cases i with
    | zero => simp at hx; subst hx; exact h.1
    | succ i => exact ih h.2 (by simpa using hx)
theorem okRe_node {t : Re} (h : okRe t) : nodeE t = 0 := by cases t; simp only [okRe] at h; exact h.1
theorem okRe_args {t : Re} (h : okRe t) : okRes t.args := by cases t; simp only [okRe] at h; exact h.2
theorem okRe_form {t : Re} (h : okRe t) : 0 ≤ t.kind ∧ t.kind ≤ 10 ∧ formB t = true := by
 have := okRe_node h
 unfold nodeE at this
 split at this
 ·omega
 ·rename_i hk
  split at this
  ·omega
  ·rename_i hf; exact ⟨by omega,by omega,by simpa using hf⟩
theorem okRe_one {t : Re} (h : okRe t) (hk : t.kind = 5 ∨ t.kind = 6 ∨ t.kind = 8 ∨ t.kind = 9 ∨ t.kind = 10) : t.args.length = 1 := by
 obtain ⟨_,_,hf⟩ := okRe_form h
 simp only [formB,Bool.and_eq_true] at hf
 have := hf.1.1.1.1
 unfold okB at this
 rw [if_neg (by omega),if_pos hk] at this
 simp at this; omega
theorem okRe_two {t : Re} (h : okRe t) (hk : t.kind = 3 ∨ t.kind = 4 ∨ t.kind = 7) : 2 ≤ t.args.length := by
 obtain ⟨_,_,hf⟩ := okRe_form h
 simp only [formB,Bool.and_eq_true] at hf
 have := hf.1.1.1.1
 unfold okB at this
 rw [if_pos hk] at this
 simp at this; omega
theorem okRe_rep {t : Re} (h : okRe t) (hk : t.kind = 6) : 0 ≤ t.mn ∧ t.mn ≤ t.mx ∧ t.mx ≤ 8 := by
 have := okRe_node h
 obtain ⟨h1,h2,hf⟩ := okRe_form h
 unfold nodeE at this
 rw [if_neg (by omega),if_neg (by simp [hf]),if_neg (by omega),if_pos hk] at this
 split at this <;> omega
/-- Pointers to relations. -/
def PtrsAt (lo : Nat) (w : World) (ptrs : List Value) (Rs : List Rl) : Prop :=
 ptrs.length = Rs.length ∧ ∀ (i : Nat) (R : Rl),Rs[i]? = some R → ∃ b,ptrs[i]? = some (.pointer (some ⟨b,0,none⟩)) ∧ Blk w b (rowArr R) TR ∧ lo ≤ b
theorem PtrsAt.ext {lo : Nat} {w w' : World} {ptrs : List Value} {Rs : List Rl} (h : PtrsAt lo w ptrs Rs) (e : Ext w w') : PtrsAt lo w' ptrs Rs :=
 ⟨h.1,fun i R hR => let ⟨b,h1,h2,h3⟩ := h.2 i R hR; ⟨b,h1,e.keep h2,h3⟩⟩
theorem PtrsAt.chg {lo : Nat} {M : Nat → Prop} {w w' : World} {ptrs : List Value} {Rs : List Rl} (h : PtrsAt lo w ptrs Rs) (e : Chg M w w') (hm : ∀ b R,Blk w b (rowArr R) TR → ¬ M b) : PtrsAt lo w' ptrs Rs :=
 ⟨h.1,fun i R hR => let ⟨b,h1,h2,h3⟩ := h.2 i R hR; ⟨b,h1,e.keep (hm b R h2) h2,h3⟩⟩
theorem PtrsAt.snoc {lo : Nat} {w : World} {ptrs : List Value} {Rs : List Rl} (h : PtrsAt lo w ptrs Rs) {b : Nat} {R : Rl} (hB : Blk w b (rowArr R) TR) (hlo : lo ≤ b) : PtrsAt lo w (ptrs ++ [.pointer (some ⟨b,0,none⟩)]) (Rs ++ [R]) := by
 refine ⟨by simp [h.1],fun i R' hi => ?_⟩
 rcases Nat.lt_or_ge i Rs.length with hlt | hge
 ·rw [List.getElem?_append_left hlt] at hi
  obtain ⟨b',h1,h2,h3⟩ := h.2 i R' hi
  exact ⟨b',by rw [List.getElem?_append_left (by rw [h.1]; exact hlt)]; exact h1,h2,h3⟩
 ·rw [List.getElem?_append_right hge] at hi
  have hi0 : i - Rs.length = 0 := by have := lt_of_get hi; simp at this; omega
  rw [hi0] at hi; simp at hi; subst hi
  exact ⟨b,by rw [List.getElem?_append_right (by rw [h.1]; exact hge),h.1,hi0]; rfl,hB,hlo⟩
theorem own_elem {w : World} {base e size n : Nat} {v : Value} {xs : List Value} (h : w.ownsRow base e size v n xs) {g : Nat} (hg : v.ownBlock = some g) {c : Array Value} {t : TypeId} (hB : Blk w g c t) : t = e := by
 rcases h.2 with ⟨rfl,_⟩ | ⟨g',cap,cur,rfl,_,hgg,_⟩
 ·simp [Value.ownBlock] at hg
 ·simp [Value.ownBlock] at hg
  subst hg
  unfold Blk at hB
  rw [hgg] at hB
  simp only [Option.some.injEq,Obj.cells.injEq] at hB
  exact hB.2.1.symm
abbrev TP : Nat := 56
theorem fold_take {α β : Type} {f : β → α → β} {a : β} {L : List α} {i : Nat} {x : α} (h : L[i]? = some x) : (L.take (i + 1)).foldl f a = f ((L.take i).foldl f a) x := by
 rw [List.take_add_one,h]; simp
theorem len_lt_size (t : Re) : t.args.length < t.size := by
  rw [Re.size_eq]
  have : ∀ ts : List Re,ts.length ≤ Re.sizes ts := by
    intro ts
    induction ts with
    | nil => simp
    | cons x r ih => have := x.size_pos; simp [Re.sizes]; omega
  have := this t.args
  omega
theorem head_get {α : Type} {L : List α} {x d : α} (h : L[0]? = some x) : L.headD d = x := by cases L <;> simp_all
theorem sub1_u32 {p : Nat} (h0 : 0 < p) (h : p ≤ 4294967296) : IntKind.u32.wrap ((p : Int) - 1) = ((p - 1 : Nat) : Int) := by
 rw [wU32 (by omega)]; omega
theorem pow_le25 {k : Nat} (h : k ≤ 25) : 0 < 2 ^ k ∧ 2 ^ k ≤ 33554432 := ⟨Nat.two_pow_pos k,(Nat.pow_le_pow_right (by omega) h : 2 ^ k ≤ 2 ^ 25)⟩
theorem look_cast (m : Nat) (ng : Bool) : (decide (((m : Nat) : Int) ≠ 0) != ng) = (decide (m ≠ 0) != ng) := by
 have : decide (((m : Nat) : Int) ≠ 0) = decide (m ≠ 0) := by rw [Bool.eq_iff_iff]; simp
 rw [this]
theorem not_mask {n i : Nat} (hi : i ≤ n) (hn : n ≤ 24) (f : Nat → Bool) :
  ((2 ^ (n + 1) - 1) &&& (4294967295 - (2 ^ i - 1))) &&& (4294967295 - maskN 25 f) = maskN 25 fun j => (decide (i ≤ j) && decide (j ≤ n)) && !f j := by
 have hp : 2 ^ (n + 1) ≤ 2 ^ 25 := Nat.pow_le_pow_right (by omega) (by omega)
 have hpi : 2 ^ i ≤ 2 ^ 24 := Nat.pow_le_pow_right (by omega) (by omega)
 have hpos := Nat.two_pow_pos i
 have hposn := Nat.two_pow_pos (n + 1)
 have hm := maskN_lt 25 f
 refine mask_ext ?_ fun j hj => ?_
 ·refine Nat.lt_of_le_of_lt Nat.and_le_left (Nat.lt_of_le_of_lt Nat.and_le_left ?_)
  simp only [Nat.reducePow] at hp ⊢; omega
 ·have e1 : 4294967295 - (2 ^ i - 1) = 2 ^ 32 - ((2 ^ i - 1) + 1) := by simp only [Nat.reducePow]; omega
  have e2 : 4294967295 - maskN 25 f = 2 ^ 32 - (maskN 25 f + 1) := by simp only [Nat.reducePow] at hm ⊢; omega
  have b2 : (2 ^ 32 - ((2 ^ i - 1) + 1)).testBit j = (decide (j < 32) && !(2 ^ i - 1).testBit j) := Nat.testBit_two_pow_sub_succ (by simp only [Nat.reducePow] at hpi ⊢; omega) j
  have b3 : (2 ^ 32 - (maskN 25 f + 1)).testBit j = (decide (j < 32) && !(maskN 25 f).testBit j) := Nat.testBit_two_pow_sub_succ (by simp only [Nat.reducePow] at hm ⊢; omega) j
  rw [e1,e2,Nat.testBit_and,Nat.testBit_and,b2,b3,Nat.testBit_two_pow_sub_one,Nat.testBit_two_pow_sub_one,maskN_bit]
  rw [Bool.eq_iff_iff]
  simp [hj,show j < 32 by omega]
  intro _
  omega
theorem of_c (text : List Int) (hn : text.length ≤ 24) : ∀ N,N ≤ 1000000 → ∀ t,t.size ≤ N → okRe t → ∀ (w0 : World) (vs : List Value) (vt : Value),ReAt w0 t vs → IntsAt w0 vt text → TabOk w0 →
    Ret Tryz.prog 22 #[.agg vs.toArray,vt] w0 fun v w => ∃ b,v = .pointer (some ⟨b,0,none⟩) ∧ w0.heap.size ≤ b ∧ Blk w b (rowArr (relOf text t)) TR ∧ Ext w0 w := by
  intro N
  induction N with
  | zero => intro _ t ht; have := t.size_pos; omega
  | succ N ih =>
  intro hNb t hN hok w0 vs vt ht htx hT
  have ht0 := ht
  obtain ⟨sa,sc,aa,ac,rfl,hset,hlen,hargs⟩ := ht.form
  obtain ⟨ta,tc,rfl⟩ := SlAt.form htx
  simp only [List.length_map] at htx ⊢
  have hR := relOf_eq text t
  have hal := len_lt_size t
  refine Ret_of Tryz.func22 rfl Tryz.ntmps22 (Nat.le_of_ble_eq_true rfl) ?_
  have E : Chg none1 w0 w0 := Chg.refl _ _
  refine Wp_seq_region ?_
  refine s_box (v := (.agg (R6 t sa sc aa ac))) (c := (R6 t sa sc aa ac)) (by decide) rfl rfl ?_
  intro b1 w1 N1
  have F1 := N1.ge E
  replace E := E.ext N1.ext
  have B1 := N1.blk
  refine qA (.pointer none) rfl ?_
  refine WpL_nil (Wp_seq_region ?_)
  refine qM (.slice ta text.length tc) rfl ?_
  refine qV (r_lenSlice (ad := ta) (n := text.length) (cap := tc) Tryz.underlying22 rfl) ?_
  refine qA (I6 (text.length : Int)) rfl ?_
  refine WpL_nil (Wp_seq_region ?_)
  refine qA (.slice none 0 0) rfl ?_
  refine WpL_nil (Wp_seq (Wp_seq_region ?_))
  refine qF b1 0 2 rfl Tryz.underlying27 rfl siz25 rfl ?_
  refine qV (r_load (v := (.slice aa t.args.length ac)) rfl flat25 (B1.cell rfl)) ?_
  refine qV (r_lenSlice (ad := aa) (n := t.args.length) (cap := ac) Tryz.underlying25 rfl) ?_
  refine qM (I6 0) rfl ?_
  refine WpL_nil (Wp_block ?_)
  obtain ⟨base,hbase⟩ : ∃ base,base = w1.heap.size := ⟨_,rfl⟩
  have hb1 : b1 < base := by have := B1.lt; omega
  have hb0 : w0.heap.size ≤ base := by have := N1.size; omega
  refine Wp_loop (fun nn_ σ W2 => ∃ (k : Nat) (la : Option Addr) (lc : Nat) (ptrs : List Value),(∃ jj_,σ = upds jj_ [(1,(.slice ta text.length tc)),(2,(P6 b1 0)),(5,(I6 (text.length : Int))),(26,(.slice aa t.args.length ac)),(27,(I6 (t.args.length : Int))),(28,(I6 (k : Int))),(6,(.slice la k lc))]) ∧ Chg none1 w0 W2 ∧ Blk W2 b1 (R6 t sa sc aa ac) 27 ∧ (k ≤ t.args.length) ∧ (W2.ownsRow base TP 1 (.slice la k lc) k ptrs) ∧ (PtrsAt w0.heap.size W2 ptrs ((t.args.take k).map (relOf text))) ∧ (base ≤ W2.heap.size) ∧ nn_ = t.args.length - k) (n := t.args.length - 0) ?_ ?_
  · exact ⟨0,none,0,[],Fits.out ⟨rfl,rfl,rfl,rfl,rfl,rfl,rfl,trivial⟩,E,B1,Nat.zero_le _,World.ownsRow_nil _ _ _ _,⟨rfl,fun i R h => by simp at h⟩,(by omega),rfl⟩
  · clear E B1
    rintro _ _ W2 ⟨k,la,lc,ptrs,⟨j2,rfl⟩,E,B1,hk,hown,hps,hbs,rfl⟩
    refine Wp_seq_region ?_
    refine qV (r_lss (k := .i64) (a := (k : Int)) (b := (t.args.length : Int)) rfl rfl) ?_
    refine WpL_nil (Wp_seq ?_)
    refine Wp_cond (b := decide (((k : Int) : Int) < (t.args.length : Int))) rfl (fun hlt => ?_) (fun hlt => ?_)
    · have khlt := hlt
      replace hlt := of_decide_eq_true hlt
      obtain ⟨x,hx⟩ := get_of_lt (l := t.args) (i := k) (by omega)
      obtain ⟨ab,ao,rfl,hres⟩ : ∃ b o,aa = some ⟨b,o,none⟩ ∧ ResAt w0 b o t.args := by
        rcases hargs with h | h
        · rw [h] at hx; simp at hx
        · exact h
      obtain ⟨us,hus,hxt⟩ := hres.get hx
      have hsz := Re.size_arg hx
      have hxo := okRes_get (okRe_args hok) hx
      refine Wp_skip (thn_normal (Wp_seq (Wp_block (Wp_seq_region ?_))))
      refine qV (r_indexSlice (b := ab) (o := ao) (len := t.args.length) (cap := ac) (i := k) (o' := ao + k * 6) rfl rfl rfl Tryz.underlying25 siz27 (by omega) (by omega)) ?_
      refine qV (r_loadAgg (vs := us) rfl agg27 siz27 hxt.len (hus.ext E)) ?_
      refine s_allocStore (v := (.agg us.toArray)) (c := us.toArray) (n := 6) (by decide) zer27 rfl siz27 rfl rfl (by simpa using hxt.len) (by simpa using ReAt.one hxt) ?_
      intro b4 w4 N4
      have F4 := N4.ge E
      have O4_b1 := N4.lt B1
      replace B1 := N4.keep B1
      replace hown := own_ext hown N4.ext
      replace hps := hps.ext N4.ext
      replace hbs := Nat.le_trans hbs N4.ext.size
      replace E := E.ext N4.ext
      have B4 := N4.blk
      refine WpL_nil (Wp_region ?_)
      refine qM (.slice la k lc) rfl ?_
      refine qV (r_loadAgg (vs := us) rfl agg27 siz27 hxt.len (B4.cells (by simp))) ?_
      refine qM (.slice ta text.length tc) rfl ?_
      refine WpL_enter rfl rfl (by decide) (r_callF (vs := [(.agg us.toArray),(.slice ta text.length tc)]) Tryz.func22 kQ kQ rfl) (ih (by omega) x (by omega) hxo _ us _ (ReAt.ext E x hxt) (htx.ext E) (hT.ext E)) ?_
      rintro _ w9 ⟨bq,rfl,hbq,Bq,X9⟩
      replace B1 := X9.keep B1
      replace B4 := X9.keep B4
      replace hown := own_ext hown X9
      replace hps := hps.ext X9
      replace hbs := Nat.le_trans hbs X9.size
      replace E := E.ext X9
      refine s_buildSlice (ps := [(0,(P6 bq 0))]) (c := #[(P6 bq 0)]) (by decide) rfl Tryz.underlying104 siz56 zer56 (by decide) (by decide) (by kernel_rfl) ?_
      intro b5 w5 N5
      have F5 := N5.ge E
      have O5_b1 := N5.lt B1
      have O5_b4 := N5.lt B4
      have O5_bq := N5.lt Bq
      replace B1 := N5.keep B1
      replace B4 := N5.keep B4
      replace Bq := N5.keep Bq
      replace hown := own_ext hown N5.ext
      replace hps := hps.ext N5.ext
      replace hbs := Nat.le_trans hbs N5.ext.size
      replace E := E.ext N5.ext
      have B5 := N5.blk
      refine s_append (base := base) (n := k) (m := 1) (xs := ptrs) (news := [(P6 bq 0)]) (size := 1) (bytes := 8) (v := (.slice la k lc)) (by decide) Tryz.underlying104 siz56 byt56 zer56 rfl (by decide) rfl hown rfl (rfl) (B5.cells rfl) (by simp [Value.oneCell']) (by unfold maxLen; omega) (by omega) (hbs) ?_
      intro v9 w10 Ov9 Cv9 Dv9
      replace B1 := Cv9.keep (fun h => by have := (hown.lt _ h).1; omega) B1
      replace E := E.step Cv9 (fun x hx h => absurd (hown.lt x h).1 (by omega))
      obtain ⟨la2,lc2,rfl⟩ := own_form Ov9
      have Bq2 := Cv9.keep (fun h => absurd (own_elem hown h Bq) (by decide)) Bq
      have hps2 := (hps.chg Cv9 (fun b R hB h => absurd (own_elem hown h hB) (by decide))).snoc Bq2 (by have := N4.size; have := N4.eq; omega)
      have hbs2 := Nat.le_trans hbs Cv9.size
      refine qA (.slice la2 (k + 1) lc2) rfl ?_
      refine WpL_nil (inB_normal (thn_normal (Wp_region ?_)))
      refine qV (r_add (k := .i64) (a := (k : Int)) (b := 1) (c := (k : Int) + 1) rfl rfl (wI64 (by omega))) ?_
      refine qM (I6 ((k : Int) + 1)) rfl ?_
      refine WpL_nil (thn_normal ?_)
      exact ⟨t.args.length - (k + 1),by omega,k + 1,la2,lc2,ptrs ++ [.pointer (some ⟨bq,0,none⟩)],Fits.out ⟨rfl,rfl,rfl,rfl,rfl,rfl,rfl,trivial⟩,E,B1,(by omega),Ov9,(by rw [List.take_add_one,hx]; simpa using hps2),hbs2,rfl⟩
    · have khlt := hlt
      replace hlt := of_decide_eq_false hlt
      obtain rfl : k = t.args.length := by omega
      rw [List.take_length] at hps
      have hz2 : w0.heap.size ≤ W2.heap.size := E.size
      have hcl : 0 < t.args.length → ∃ g,la = some ⟨g,0,none⟩ ∧ CellsAt W2 g 0 ptrs := fun h => let ⟨g,h1,_,h2⟩ := own_cells hown h; ⟨g,h1,h2⟩
      have E2 : Chg none1 W2 W2 := Chg.refl _ _
      refine Wp_exit (thn_exit (thn_exit (inB_here (thn_normal (Wp_seq_region ?_)))))
      refine qV (r_build (ps := []) (v := (.agg #[(.int .u32 0),(.int .u32 0),(.int .u32 0),(.int .u32 0),(.int .u32 0),(.int .u32 0),(.int .u32 0),(.int .u32 0),(.int .u32 0),(.int .u32 0),(.int .u32 0),(.int .u32 0),(.int .u32 0),(.int .u32 0),(.int .u32 0),(.int .u32 0),(.int .u32 0),(.int .u32 0),(.int .u32 0),(.int .u32 0),(.int .u32 0),(.int .u32 0),(.int .u32 0),(.int .u32 0),(.int .u32 0)])) rfl (by kernel_rfl)) ?_
      refine s_box (v := (.agg #[(.int .u32 0),(.int .u32 0),(.int .u32 0),(.int .u32 0),(.int .u32 0),(.int .u32 0),(.int .u32 0),(.int .u32 0),(.int .u32 0),(.int .u32 0),(.int .u32 0),(.int .u32 0),(.int .u32 0),(.int .u32 0),(.int .u32 0),(.int .u32 0),(.int .u32 0),(.int .u32 0),(.int .u32 0),(.int .u32 0),(.int .u32 0),(.int .u32 0),(.int .u32 0),(.int .u32 0),(.int .u32 0)])) (c := #[(.int .u32 0),(.int .u32 0),(.int .u32 0),(.int .u32 0),(.int .u32 0),(.int .u32 0),(.int .u32 0),(.int .u32 0),(.int .u32 0),(.int .u32 0),(.int .u32 0),(.int .u32 0),(.int .u32 0),(.int .u32 0),(.int .u32 0),(.int .u32 0),(.int .u32 0),(.int .u32 0),(.int .u32 0),(.int .u32 0),(.int .u32 0),(.int .u32 0),(.int .u32 0),(.int .u32 0),(.int .u32 0)]) (by decide) rfl rfl ?_
      intro b6 w6 N6
      have F6 := N6.ge E
      have F6_E2 := N6.ge E2
      have O6_b1 := N6.lt B1
      replace B1 := N6.keep B1
      replace E := E.ext N6.ext
      have B6 := N6.blk
      replace E2 := E2.ext N6.ext
      refine qA (P6 b6 0) rfl ?_
      refine WpL_nil (Wp_seq (Wp_seq_region ?_))
      refine qF b1 0 0 rfl Tryz.underlying27 rfl siz3 rfl ?_
      refine qV (r_load (v := (I6 t.kind)) rfl flat3 (B1.cell rfl)) ?_
      refine WpL_nil (Wp_block (Wp_seq_region ?_))
      refine qV (r_eql (k := .i64) (a := t.kind) (b := 1) rfl rfl) ?_
      refine qA (.bool (decide ((t.kind : Int) = 1))) rfl ?_
      refine WpL_nil ?_
      refine Wp_cond (b := decide ((t.kind : Int) = 1)) rfl (fun h1 => ?_) (fun h1 => ?_)
      · have kh1 := h1
        replace h1 := of_decide_eq_true h1
        have hK : relOf text t = idR text.length := by rw [hR]; simp [relK,h1]
        refine Wp_seq_region ?_
        refine qM (I6 (text.length : Int)) rfl ?_
        refine WpL_enter rfl rfl (by decide) (r_callF (vs := [(I6 (text.length : Int))]) Tryz.func53 kQ kQ rfl) (rsame_c _ text.length hn) ?_
        rintro _ w9 ⟨bq,rfl,hbq,Bq,X9⟩
        replace B1 := X9.keep B1
        replace B6 := X9.keep B6
        replace E := E.ext X9
        replace E2 := E2.ext X9
        refine qA (P6 bq 0) rfl ?_
        refine WpL_nil (Wp_ret (inB_ret (thn_ret ?_)))
        refine fin_tmp Tryz.results22 (v := (.pointer (some ⟨bq,0,none⟩))) rfl ?_
        exact ⟨bq,rfl,by have := N6.size; omega,by rw [hK]; exact Bq,E⟩
      · have kh1 := h1
        replace h1 := of_decide_eq_false h1
        replace B6 : Blk w6 b6 (rowArr noR) TR := B6
        refine Wp_seq_region ?_
        refine qV (r_eql (k := .i64) (a := t.kind) (b := 2) rfl rfl) ?_
        refine qA (.bool (decide ((t.kind : Int) = 2))) rfl ?_
        refine WpL_nil ?_
        refine Wp_cond (b := decide ((t.kind : Int) = 2)) rfl (fun h2 => ?_) (fun h2 => ?_)
        · have kh2 := h2
          replace h2 := of_decide_eq_true h2
          have hK : relOf text t = setR text t.set := by rw [hR]; simp [relK,h2]
          rw [show rowArr noR = rowArr (fun i' j => decide (i' < 0) && setR text t.set i' j) from rowArr_congr fun i _ j _ => by simp [noR]] at B6
          refine Wp_seq_region ?_
          refine qM (.slice ta text.length tc) rfl ?_
          refine qV (r_lenSlice (ad := ta) (n := text.length) (cap := tc) Tryz.underlying22 rfl) ?_
          refine qM (I6 0) rfl ?_
          refine WpL_nil (Wp_block ?_)
          refine Wp_loop (fun nn_ σ W9 => ∃ (i : Nat),(∃ jj_,σ = upds jj_ [(2,(P6 b1 0)),(9,(P6 b6 0)),(49,(.slice ta text.length tc)),(50,(I6 (text.length : Int))),(51,(I6 (i : Int)))]) ∧ Chg none1 w0 W9 ∧ Chg none1 W2 W9 ∧ Blk W9 b1 (R6 t sa sc aa ac) 27 ∧ Blk W9 b6 (rowArr fun i' j => decide (i' < i) && setR text t.set i' j) TR ∧ (i ≤ text.length) ∧ nn_ = text.length - i) (n := text.length - 0) ?_ ?_
          · exact ⟨0,Fits.out ⟨rfl,rfl,rfl,rfl,rfl,trivial⟩,E,E2,B1,B6,Nat.zero_le _,rfl⟩
          · clear E E2 B1 B6
            rintro _ _ W9 ⟨i,⟨j9,rfl⟩,E,E2,B1,B6,hi,rfl⟩
            refine Wp_seq_region ?_
            refine qV (r_lss (k := .i64) (a := (i : Int)) (b := (text.length : Int)) rfl rfl) ?_
            refine WpL_nil (Wp_seq ?_)
            refine Wp_cond (b := decide (((i : Int) : Int) < (text.length : Int))) rfl (fun hlt2 => ?_) (fun hlt2 => ?_)
            · have khlt2 := hlt2
              replace hlt2 := of_decide_eq_true hlt2
              obtain ⟨c,hc⟩ := get_of_lt (l := text) (i := i) (by omega)
              obtain ⟨tb,to,rfl,htc⟩ := ints_cells htx (by omega)
              refine Wp_skip (thn_normal (Wp_seq (Wp_block (Wp_seq_region ?_))))
              refine qM (I6 (i : Int)) rfl ?_
              refine qV (r_indexSlice (b := tb) (o := to) (len := text.length) (cap := tc) (i := i) (o' := to + i) rfl rfl rfl Tryz.underlying22 siz3 (by omega) (by omega)) ?_
              refine qV (r_load (v := (I6 c)) rfl flat3 (E.cell (fun f => f) (htc i c hc))) ?_
              refine qA (I6 (i : Int)) rfl ?_
              refine qA (I6 c) rfl ?_
              refine WpL_nil (Wp_seq_region ?_)
              refine qF b1 0 1 rfl Tryz.underlying27 rfl siz24 rfl ?_
              refine qV (r_load (v := (.slice sa t.set.length sc)) rfl flat24 (B1.cell rfl)) ?_
              refine qM (I6 c) rfl ?_
              refine WpL_enter rfl rfl (by decide) (r_callF (vs := [(.slice sa t.set.length sc),(I6 c)]) Tryz.func32 kQ kQ rfl) (in_c _ (.slice sa t.set.length sc) t.set c (hset.ext E)) ?_
              rintro _ w19 ⟨rfl,X19⟩
              replace B1 := X19.keep B1
              replace B6 := X19.keep B6
              replace E := E.ext X19
              replace E2 := E2.ext X19
              refine WpL_nil ?_
              refine Wp_cond (b := inS t.set c) rfl (fun hin => ?_) (fun hin => ?_)
              · have khin := hin
                refine Wp_draw 7 mixed (by kernel_rfl) ?_
                intro w12 X12 _
                replace B1 := X12.keep B1
                replace B6 := X12.keep B6
                replace E := E.ext X12
                replace E2 := E2.ext X12
                refine qT (r_move (v := (P6 b6 0)) rfl) ?_
                refine qT (r_move (v := (I6 (i : Int))) rfl) ?_
                refine qT (r_move (v := (I6 (i : Int))) rfl) ?_
                refine qT (r_add (k := .i64) (a := (i : Int)) (b := 1) (c := (i : Int) + 1) rfl rfl (wI64 (by omega))) ?_
                refine qT (r_shl (k := .u32) (a := 1) (b := (i : Int) + 1) (c := ((2 ^ (i + 1) : Nat) : Int)) (k' := .i64) rfl rfl (by omega) (shl1 (k := i + 1) (by omega))) ?_
                refine qT (r_nilCheck (a := ⟨b6,0,none⟩) rfl) ?_
                refine qT (r_indexArr (b := b6) (o := 0) (i := i) (o' := i) rfl rfl rfl Tryz.underlying106 siz55 (by omega) (by omega)) ?_
                refine WpT_zero ?_
                refine s_store (b := b6) (o := i) (c' := rowArr fun i' j => decide (i' < i + 1) && setR text t.set i' j) (v := (.int .u32 ((2 ^ (i + 1) : Nat) : Int))) rfl rfl rfl siz55 B6 (by rw [rowArr_size]; omega) (rowArr_set (by omega) (by rw [mask_one (n := 25) (i := i + 1) (by omega),mask_congr (g := fun j => decide (i < i + 1) && setR text t.set i j) (fun j _ => by simp [setR,hc,hin])]) (fun i' _ hne j _ => by rw [Bool.eq_iff_iff]; simp; omega)) ?_
                intro w13 S13
                replace B1 := S13.keep (by omega) B1
                replace E := S13.step E (by first | exact Or.inl (by omega) | exact Or.inr rfl | exact Or.inr (by assumption) | exact Or.inr (by simp) | exact Or.inr (by omega) | exact Or.inr (by dsimp only; omega))
                replace E2 := S13.step E2 (Or.inl (by omega))
                replace B6 := S13.blk
                refine WpL_nil (inB_normal (thn_normal (Wp_region ?_)))
                refine qV (r_add (k := .i64) (a := (i : Int)) (b := 1) (c := (i : Int) + 1) rfl rfl (wI64 (by omega))) ?_
                refine qM (I6 ((i : Int) + 1)) rfl ?_
                refine WpL_nil (thn_normal ?_)
                exact ⟨text.length - (i + 1),by omega,i + 1,Fits.out ⟨rfl,rfl,rfl,rfl,rfl,trivial⟩,E,E2,B1,B6,(by omega),rfl⟩
              · have khin := hin
                rw [show rowArr (fun i' j => decide (i' < i) && setR text t.set i' j) = rowArr (fun i' j => decide (i' < i + 1) && setR text t.set i' j) from rowArr_congr fun i' _ j _ => by rcases Nat.lt_trichotomy i' i with h | h | h; simp [h,show i' < i + 1 by omega]; subst h; simp [setR,hc,hin]; simp [show ¬ i' < i by omega,show ¬ i' < i + 1 by omega]] at B6
                refine Wp_skip (inB_normal (thn_normal (Wp_region ?_)))
                refine qV (r_add (k := .i64) (a := (i : Int)) (b := 1) (c := (i : Int) + 1) rfl rfl (wI64 (by omega))) ?_
                refine qM (I6 ((i : Int) + 1)) rfl ?_
                refine WpL_nil (thn_normal ?_)
                exact ⟨text.length - (i + 1),by omega,i + 1,Fits.out ⟨rfl,rfl,rfl,rfl,rfl,trivial⟩,E,E2,B1,B6,(by omega),rfl⟩
            · have khlt2 := hlt2
              replace hlt2 := of_decide_eq_false hlt2
              obtain rfl : i = text.length := by omega
              rw [show rowArr (fun i' j => decide (i' < text.length) && setR text t.set i' j) = rowArr (setR text t.set) from rowArr_congr fun i' _ j _ => by by_cases h : i' < text.length; simp [h]; simp [h,setR]] at B6
              refine Wp_exit (thn_exit (thn_exit (inB_here (inB_normal (thn_normal (Wp_seq_region ?_))))))
              refine qM (P6 b6 0) rfl ?_
              refine qA (P6 b6 0) rfl ?_
              refine WpL_nil (Wp_ret ?_)
              refine fin_tmp Tryz.results22 (v := (.pointer (some ⟨b6,0,none⟩))) rfl ?_
              exact ⟨b6,rfl,by omega,by rw [hK]; exact B6,E⟩
        · have kh2 := h2
          replace h2 := of_decide_eq_false h2
          refine Wp_seq_region ?_
          refine qV (r_eql (k := .i64) (a := t.kind) (b := 3) rfl rfl) ?_
          refine qA (.bool (decide ((t.kind : Int) = 3))) rfl ?_
          refine WpL_nil ?_
          refine Wp_cond (b := decide ((t.kind : Int) = 3)) rfl (fun h3 => ?_) (fun h3 => ?_)
          · have kh3 := h3
            replace h3 := of_decide_eq_true h3
            have hK : relOf text t = (t.args.map (relOf text)).foldl (fun a x => thenR a x text.length) (idR text.length) := by rw [hR]; simp [relK,h3]
            refine Wp_seq_region ?_
            refine qM (I6 (text.length : Int)) rfl ?_
            refine WpL_enter rfl rfl (by decide) (r_callF (vs := [(I6 (text.length : Int))]) Tryz.func53 kQ kQ rfl) (rsame_c _ text.length hn) ?_
            rintro _ w29 ⟨bo,rfl,hbo,Bo,X29⟩
            replace B1 := X29.keep B1
            replace B6 := X29.keep B6
            replace E := E.ext X29
            replace E2 := E2.ext X29
            have hbo0 : w0.heap.size ≤ bo := by have := N6.size; omega
            refine qA (P6 bo 0) rfl ?_
            refine WpL_nil (Wp_seq_region ?_)
            refine qM (.slice la t.args.length lc) rfl ?_
            refine qV (r_lenSlice (ad := la) (n := t.args.length) (cap := lc) Tryz.underlying104 rfl) ?_
            refine qM (I6 0) rfl ?_
            refine WpL_nil (Wp_block ?_)
            refine Wp_loop (fun nn_ σ W15 => ∃ (i : Nat) (ob : Nat),(∃ jj_,σ = upds jj_ [(5,(I6 (text.length : Int))),(72,(.slice la t.args.length lc)),(73,(I6 (t.args.length : Int))),(74,(I6 (i : Int))),(9,(P6 ob 0))]) ∧ Chg none1 w0 W15 ∧ Chg none1 W2 W15 ∧ Blk W15 b1 (R6 t sa sc aa ac) 27 ∧ Blk W15 b6 (rowArr noR) TR ∧ (i ≤ t.args.length) ∧ (w0.heap.size ≤ ob) ∧ (Blk W15 ob (rowArr (((t.args.map (relOf text)).take i).foldl (fun a x => thenR a x text.length) (idR text.length))) TR) ∧ nn_ = t.args.length - i) (n := t.args.length - 0) ?_ ?_
            · exact ⟨0,bo,Fits.out ⟨rfl,rfl,rfl,rfl,rfl,trivial⟩,E,E2,B1,B6,Nat.zero_le _,hbo0,Bo,rfl⟩
            · clear E E2 B1 B6
              rintro _ _ W15 ⟨i,ob,⟨j15,rfl⟩,E,E2,B1,B6,hi,hob,Bo,rfl⟩
              refine Wp_seq_region ?_
              refine qV (r_lss (k := .i64) (a := (i : Int)) (b := (t.args.length : Int)) rfl rfl) ?_
              refine WpL_nil (Wp_seq ?_)
              refine Wp_cond (b := decide (((i : Int) : Int) < (t.args.length : Int))) rfl (fun hlt3 => ?_) (fun hlt3 => ?_)
              · have khlt3 := hlt3
                replace hlt3 := of_decide_eq_true hlt3
                obtain ⟨R,hRi⟩ := get_of_lt (l := t.args.map (relOf text)) (i := i) (by simp; omega)
                obtain ⟨g,rfl,hg⟩ := hcl (by omega)
                obtain ⟨bx,hpx,Bx,_⟩ := hps.2 i R hRi
                refine Wp_skip (thn_normal (Wp_seq (Wp_block (Wp_seq_region ?_))))
                refine qV (r_indexSlice (b := g) (o := 0) (len := t.args.length) (cap := lc) (i := i) (o' := 0 + i) rfl rfl rfl Tryz.underlying104 siz56 (by omega) (by omega)) ?_
                refine qV (r_load (v := (P6 bx 0)) rfl flat56 (E2.cell (fun f => f) (hg i _ hpx))) ?_
                refine qA (P6 bx 0) rfl ?_
                refine WpL_nil (Wp_region ?_)
                refine qM (P6 ob 0) rfl ?_
                refine qM (P6 bx 0) rfl ?_
                refine qM (I6 (text.length : Int)) rfl ?_
                refine WpL_enter rfl rfl (by decide) (r_callF (vs := [(P6 ob 0),(P6 bx 0),(I6 (text.length : Int))]) Tryz.func54 kQ kQ rfl) (then_c _ ob bx text.length _ R hn Bo (E2.keep (fun f => f) Bx) (hT.ext E)) ?_
                rintro _ w39 ⟨ob2,rfl,hob2,Bo2,X39⟩
                replace B1 := X39.keep B1
                replace B6 := X39.keep B6
                replace E := E.ext X39
                replace E2 := E2.ext X39
                refine qA (P6 ob2 0) rfl ?_
                refine WpL_nil (inB_normal (thn_normal (Wp_region ?_)))
                refine qV (r_add (k := .i64) (a := (i : Int)) (b := 1) (c := (i : Int) + 1) rfl rfl (wI64 (by omega))) ?_
                refine qM (I6 ((i : Int) + 1)) rfl ?_
                refine WpL_nil (thn_normal ?_)
                exact ⟨t.args.length - (i + 1),by omega,i + 1,ob2,Fits.out ⟨rfl,rfl,rfl,rfl,rfl,trivial⟩,E,E2,B1,B6,(by omega),(by have := Bo.lt; omega),(by rw [fold_take hRi]; exact Bo2),rfl⟩
              · have khlt3 := hlt3
                replace hlt3 := of_decide_eq_false hlt3
                obtain rfl : i = t.args.length := by omega
                rw [List.take_of_length_le (by simp)] at Bo
                refine Wp_exit (thn_exit (thn_exit (inB_here (inB_normal (thn_normal (Wp_seq_region ?_))))))
                refine qM (P6 ob 0) rfl ?_
                refine qA (P6 ob 0) rfl ?_
                refine WpL_nil (Wp_ret ?_)
                refine fin_tmp Tryz.results22 (v := (.pointer (some ⟨ob,0,none⟩))) rfl ?_
                exact ⟨ob,rfl,hob,by rw [hK]; exact Bo,E⟩
          · have kh3 := h3
            replace h3 := of_decide_eq_false h3
            refine Wp_seq_region ?_
            refine qV (r_eql (k := .i64) (a := t.kind) (b := 4) rfl rfl) ?_
            refine qA (.bool (decide ((t.kind : Int) = 4))) rfl ?_
            refine WpL_nil ?_
            refine Wp_cond (b := decide ((t.kind : Int) = 4)) rfl (fun h4 => ?_) (fun h4 => ?_)
            · have kh4 := h4
              replace h4 := of_decide_eq_true h4
              have hK : relOf text t = (t.args.map (relOf text)).foldl orR noR := by rw [hR]; simp [relK,h4]
              refine Wp_seq_region ?_
              refine qM (.slice la t.args.length lc) rfl ?_
              refine qV (r_lenSlice (ad := la) (n := t.args.length) (cap := lc) Tryz.underlying104 rfl) ?_
              refine qM (I6 0) rfl ?_
              refine WpL_nil (Wp_block ?_)
              refine Wp_loop (fun nn_ σ W18 => ∃ (i : Nat) (ob : Nat),(∃ jj_,σ = upds jj_ [(85,(.slice la t.args.length lc)),(86,(I6 (t.args.length : Int))),(87,(I6 (i : Int))),(9,(P6 ob 0))]) ∧ Chg none1 w0 W18 ∧ Chg none1 W2 W18 ∧ Blk W18 b1 (R6 t sa sc aa ac) 27 ∧ Blk W18 b6 (rowArr noR) TR ∧ (i ≤ t.args.length) ∧ (w0.heap.size ≤ ob) ∧ (Blk W18 ob (rowArr (((t.args.map (relOf text)).take i).foldl orR noR)) TR) ∧ nn_ = t.args.length - i) (n := t.args.length - 0) ?_ ?_
              · exact ⟨0,b6,Fits.out ⟨rfl,rfl,rfl,rfl,trivial⟩,E,E2,B1,B6,Nat.zero_le _,(by omega),B6,rfl⟩
              · clear E E2 B1 B6
                rintro _ _ W18 ⟨i,ob,⟨j18,rfl⟩,E,E2,B1,B6,hi,hob,Bo,rfl⟩
                refine Wp_seq_region ?_
                refine qV (r_lss (k := .i64) (a := (i : Int)) (b := (t.args.length : Int)) rfl rfl) ?_
                refine WpL_nil (Wp_seq ?_)
                refine Wp_cond (b := decide (((i : Int) : Int) < (t.args.length : Int))) rfl (fun hlt4 => ?_) (fun hlt4 => ?_)
                · have khlt4 := hlt4
                  replace hlt4 := of_decide_eq_true hlt4
                  obtain ⟨R,hRi⟩ := get_of_lt (l := t.args.map (relOf text)) (i := i) (by simp; omega)
                  obtain ⟨g,rfl,hg⟩ := hcl (by omega)
                  obtain ⟨bx,hpx,Bx,_⟩ := hps.2 i R hRi
                  refine Wp_skip (thn_normal (Wp_seq (Wp_block (Wp_seq_region ?_))))
                  refine qV (r_indexSlice (b := g) (o := 0) (len := t.args.length) (cap := lc) (i := i) (o' := 0 + i) rfl rfl rfl Tryz.underlying104 siz56 (by omega) (by omega)) ?_
                  refine qV (r_load (v := (P6 bx 0)) rfl flat56 (E2.cell (fun f => f) (hg i _ hpx))) ?_
                  refine qA (P6 bx 0) rfl ?_
                  refine WpL_nil (Wp_region ?_)
                  refine qM (P6 ob 0) rfl ?_
                  refine qM (P6 bx 0) rfl ?_
                  refine WpL_enter rfl rfl (by decide) (r_callF (vs := [(P6 ob 0),(P6 bx 0)]) Tryz.func55 kQ kQ rfl) (or_c _ ob bx _ R Bo (E2.keep (fun f => f) Bx)) ?_
                  rintro _ w39 ⟨ob2,rfl,hob2,Bo2,X39⟩
                  replace B1 := X39.keep B1
                  replace B6 := X39.keep B6
                  replace E := E.ext X39
                  replace E2 := E2.ext X39
                  refine qA (P6 ob2 0) rfl ?_
                  refine WpL_nil (inB_normal (thn_normal (Wp_region ?_)))
                  refine qV (r_add (k := .i64) (a := (i : Int)) (b := 1) (c := (i : Int) + 1) rfl rfl (wI64 (by omega))) ?_
                  refine qM (I6 ((i : Int) + 1)) rfl ?_
                  refine WpL_nil (thn_normal ?_)
                  exact ⟨t.args.length - (i + 1),by omega,i + 1,ob2,Fits.out ⟨rfl,rfl,rfl,rfl,trivial⟩,E,E2,B1,B6,(by omega),(by have := Bo.lt; omega),(by rw [fold_take hRi]; exact Bo2),rfl⟩
                · have khlt4 := hlt4
                  replace hlt4 := of_decide_eq_false hlt4
                  obtain rfl : i = t.args.length := by omega
                  rw [List.take_of_length_le (by simp)] at Bo
                  refine Wp_exit (thn_exit (thn_exit (inB_here (inB_normal (thn_normal (Wp_seq_region ?_))))))
                  refine qM (P6 ob 0) rfl ?_
                  refine qA (P6 ob 0) rfl ?_
                  refine WpL_nil (Wp_ret ?_)
                  refine fin_tmp Tryz.results22 (v := (.pointer (some ⟨ob,0,none⟩))) rfl ?_
                  exact ⟨ob,rfl,hob,by rw [hK]; exact Bo,E⟩
            · have kh4 := h4
              replace h4 := of_decide_eq_false h4
              refine Wp_seq_region ?_
              refine qV (r_eql (k := .i64) (a := t.kind) (b := 7) rfl rfl) ?_
              refine qA (.bool (decide ((t.kind : Int) = 7))) rfl ?_
              refine WpL_nil ?_
              refine Wp_cond (b := decide ((t.kind : Int) = 7)) rfl (fun h7 => ?_) (fun h7 => ?_)
              · have kh7 := h7
                replace h7 := of_decide_eq_true h7
                have h2a := okRe_two hok (by omega)
                obtain ⟨g,rfl,hg⟩ := hcl (by omega)
                obtain ⟨R0,hR0⟩ := get_of_lt (l := t.args.map (relOf text)) (i := 0) (by simp; omega)
                obtain ⟨bz,hpz,Bz,hbz⟩ := hps.2 0 R0 hR0
                have hK : relOf text t = (t.args.map (relOf text)).foldl andR R0 := by rw [hR,← head_get (d := noR) hR0]; simp only [relK,h7]; rfl
                refine Wp_seq_region ?_
                refine qM (P6 b6 0) rfl ?_
                refine qM (.slice (some ⟨g,0,none⟩) t.args.length lc) rfl ?_
                refine qV (r_indexSlice (b := g) (o := 0) (len := t.args.length) (cap := lc) (i := 0) (o' := 0) rfl rfl rfl Tryz.underlying104 siz56 (by omega) (by omega)) ?_
                refine qV (r_load (v := (P6 bz 0)) rfl flat56 (E2.cell (fun f => f) (hg 0 _ hpz))) ?_
                refine qV (r_nilCheck (a := ⟨bz,0,none⟩) rfl) ?_
                refine qV (r_loadAgg (vs := (rowArr R0).toList) rfl agg106 siz106 (by simp [rowArr]) ((E2.keep (fun f => f) Bz).cells (by simp only [List.drop_zero]; exact List.take_length))) ?_
                refine qV (r_nilCheck (a := ⟨b6,0,none⟩) rfl) ?_
                refine s_storeAgg (b := b6) (o := 0) (n := 25) (c' := rowArr R0) (vs := ((rowArr R0).toList.toArray)) rfl rfl (by simpa using rowArr_one R0) siz106 (by simp [rowArr]) B6 (by rw [rowArr_size]; decide) (by simp [rowArr]) ?_
                intro w21 S21
                replace B1 := S21.keep (by omega) B1
                replace E := S21.step E (by first | exact Or.inl (by omega) | exact Or.inr rfl | exact Or.inr (by assumption) | exact Or.inr (by simp) | exact Or.inr (by omega) | exact Or.inr (by dsimp only; omega))
                replace E2 := S21.step E2 (Or.inl (by omega))
                replace B6 := S21.blk
                rw [show R0 = ((t.args.map (relOf text)).take 0).foldl andR R0 from rfl] at B6
                refine WpL_nil (Wp_seq_region ?_)
                refine qM (.slice (some ⟨g,0,none⟩) t.args.length lc) rfl ?_
                refine qV (r_lenSlice (ad := some ⟨g,0,none⟩) (n := t.args.length) (cap := lc) Tryz.underlying104 rfl) ?_
                refine qM (I6 0) rfl ?_
                refine WpL_nil (Wp_block ?_)
                refine Wp_loop (fun nn_ σ W22 => ∃ (i : Nat),(∃ jj_,σ = upds jj_ [(9,(P6 b6 0)),(104,(.slice (some ⟨g,0,none⟩) t.args.length lc)),(105,(I6 (t.args.length : Int))),(106,(I6 (i : Int)))]) ∧ Chg none1 w0 W22 ∧ Chg none1 W2 W22 ∧ Blk W22 b1 (R6 t sa sc aa ac) 27 ∧ Blk W22 b6 (rowArr (((t.args.map (relOf text)).take i).foldl andR R0)) TR ∧ (i ≤ t.args.length) ∧ nn_ = t.args.length - i) (n := t.args.length - 0) ?_ ?_
                · exact ⟨0,Fits.out ⟨rfl,rfl,rfl,rfl,trivial⟩,E,E2,B1,B6,Nat.zero_le _,rfl⟩
                · clear E E2 B1 B6
                  rintro _ _ W22 ⟨i,⟨j22,rfl⟩,E,E2,B1,B6,hi,rfl⟩
                  refine Wp_seq_region ?_
                  refine qV (r_lss (k := .i64) (a := (i : Int)) (b := (t.args.length : Int)) rfl rfl) ?_
                  refine WpL_nil (Wp_seq ?_)
                  refine Wp_cond (b := decide (((i : Int) : Int) < (t.args.length : Int))) rfl (fun hlt7 => ?_) (fun hlt7 => ?_)
                  · have khlt7 := hlt7
                    replace hlt7 := of_decide_eq_true hlt7
                    obtain ⟨R,hRi⟩ := get_of_lt (l := t.args.map (relOf text)) (i := i) (by simp; omega)
                    obtain ⟨bx,hpx,Bx,_⟩ := hps.2 i R hRi
                    have hft := fold_take (f := andR) (a := R0) hRi
                    generalize ((t.args.map (relOf text)).take i).foldl andR R0 = A at B6 hft
                    refine Wp_skip (thn_normal (Wp_seq (Wp_block (Wp_seq_region ?_))))
                    refine qV (r_indexSlice (b := g) (o := 0) (len := t.args.length) (cap := lc) (i := i) (o' := 0 + i) rfl rfl rfl Tryz.underlying104 siz56 (by omega) (by omega)) ?_
                    refine qV (r_load (v := (P6 bx 0)) rfl flat56 (E2.cell (fun f => f) (hg i _ hpx))) ?_
                    refine qA (P6 bx 0) rfl ?_
                    refine WpL_nil (Wp_seq_region ?_)
                    refine qM (I6 0) rfl ?_
                    refine WpL_nil (Wp_block ?_)
                    rw [show rowArr A = rowArr (fun i' j => if i' < 0 then andR A R i' j else A i' j) from rowArr_congr fun i' _ j _ => by simp] at B6
                    refine Wp_loop (fun nn_ σ W24 => ∃ (p : Nat),(∃ jj_,σ = upds jj_ [(9,(P6 b6 0)),(17,(P6 bx 0)),(104,(.slice (some ⟨g,0,none⟩) t.args.length lc)),(105,(I6 (t.args.length : Int))),(106,(I6 (i : Int))),(110,(I6 (p : Int)))]) ∧ Chg none1 w0 W24 ∧ Chg none1 W2 W24 ∧ Blk W24 b1 (R6 t sa sc aa ac) 27 ∧ Blk W24 b6 (rowArr fun i' j => if i' < p then andR A R i' j else A i' j) TR ∧ (p ≤ 25) ∧ nn_ = 25 - p) (n := 25 - 0) ?_ ?_
                    · exact ⟨0,Fits.out ⟨rfl,rfl,rfl,rfl,rfl,rfl,trivial⟩,E,E2,B1,B6,Nat.zero_le _,rfl⟩
                    · clear E E2 B1 B6
                      rintro _ _ W24 ⟨p,⟨j24,rfl⟩,E,E2,B1,B6,hp,rfl⟩
                      refine Wp_seq_region ?_
                      refine qV (r_lss (k := .i64) (a := (p : Int)) (b := 25) rfl rfl) ?_
                      refine WpL_nil (Wp_seq ?_)
                      refine Wp_cond (b := decide (((p : Int) : Int) < 25)) rfl (fun hltp => ?_) (fun hltp => ?_)
                      · have khltp := hltp
                        replace hltp := of_decide_eq_true hltp
                        refine Wp_skip (thn_normal (Wp_seq (Wp_block (Wp_seq_region ?_))))
                        refine qM (I6 (p : Int)) rfl ?_
                        refine qA (I6 (p : Int)) rfl ?_
                        refine WpL_nil ?_
                        refine Wp_draw 13 mixed (by kernel_rfl) ?_
                        intro w26 X26 _
                        replace B1 := X26.keep B1
                        replace B6 := X26.keep B6
                        replace E := E.ext X26
                        replace E2 := E2.ext X26
                        refine qT (r_move (v := (P6 b6 0)) rfl) ?_
                        refine qT (r_move (v := (I6 (p : Int))) rfl) ?_
                        refine qT (r_nilCheck (a := ⟨b6,0,none⟩) rfl) ?_
                        refine qT (r_indexArr (b := b6) (o := 0) (i := p) (o' := p) rfl rfl rfl Tryz.underlying106 siz55 (by omega) (by omega)) ?_
                        refine qT (r_load (v := (.int .u32 ((maskN 25 (A p) : Nat) : Int))) rfl flat55 ((B6.cell (rowArr_get _ (by omega))).trans (by simp))) ?_
                        refine qT (r_move (v := (P6 bx 0)) rfl) ?_
                        refine qT (r_move (v := (I6 (p : Int))) rfl) ?_
                        refine qT (r_nilCheck (a := ⟨bx,0,none⟩) rfl) ?_
                        refine qT (r_indexArr (b := bx) (o := 0) (i := p) (o' := p) rfl rfl rfl Tryz.underlying106 siz55 (by omega) (by omega)) ?_
                        refine qT (r_load (v := (.int .u32 ((maskN 25 (R p) : Nat) : Int))) rfl flat55 ((E2.keep (fun f => f) Bx).cell (rowArr_get _ (by omega)))) ?_
                        refine qT (r_bits (k := .u32) (a := ((maskN 25 (A p) : Nat) : Int)) (b := ((maskN 25 (R p) : Nat) : Int)) (v := .int .u32 ((maskN 25 (andR A R p) : Nat) : Int)) rfl rfl (by simp) ((bits_and _ _ (mask_lt32 _) (mask_lt32 _)).trans (by rw [mask_and]; rfl))) ?_
                        refine qT (r_nilCheck (a := ⟨b6,0,none⟩) rfl) ?_
                        refine qT (r_indexArr (b := b6) (o := 0) (i := p) (o' := p) rfl rfl rfl Tryz.underlying106 siz55 (by omega) (by omega)) ?_
                        refine WpT_zero ?_
                        refine s_store (b := b6) (o := p) (c' := rowArr fun i' j => if i' < p + 1 then andR A R i' j else A i' j) (v := (.int .u32 ((maskN 25 (andR A R p) : Nat) : Int))) rfl rfl rfl siz55 B6 (by rw [rowArr_size]; omega) (rowArr_set (by omega) (by simp) (fun i' _ hne j _ => by by_cases h : i' < p; rw [if_pos h,if_pos (by omega)]; rw [if_neg h,if_neg (by omega)])) ?_
                        intro w27 S27
                        replace B1 := S27.keep (by omega) B1
                        replace E := S27.step E (by first | exact Or.inl (by omega) | exact Or.inr rfl | exact Or.inr (by assumption) | exact Or.inr (by simp) | exact Or.inr (by omega) | exact Or.inr (by dsimp only; omega))
                        replace E2 := S27.step E2 (Or.inl (by omega))
                        replace B6 := S27.blk
                        refine WpL_nil (inB_normal (thn_normal (Wp_region ?_)))
                        refine qV (r_add (k := .i64) (a := (p : Int)) (b := 1) (c := (p : Int) + 1) rfl rfl (wI64 (by omega))) ?_
                        refine qM (I6 ((p : Int) + 1)) rfl ?_
                        refine WpL_nil (thn_normal ?_)
                        exact ⟨25 - (p + 1),by omega,p + 1,Fits.out ⟨rfl,rfl,rfl,rfl,rfl,rfl,trivial⟩,E,E2,B1,B6,(by omega),rfl⟩
                      · have khltp := hltp
                        replace hltp := of_decide_eq_false hltp
                        obtain rfl : p = 25 := by omega
                        rw [show rowArr (fun i' j => if i' < 25 then andR A R i' j else A i' j) = rowArr (andR A R) from rowArr_congr fun i h j _ => by rw [if_pos h],← hft] at B6
                        refine Wp_exit (thn_exit (thn_exit (inB_here (inB_normal (thn_normal (Wp_region ?_))))))
                        refine qV (r_add (k := .i64) (a := (i : Int)) (b := 1) (c := (i : Int) + 1) rfl rfl (wI64 (by omega))) ?_
                        refine qM (I6 ((i : Int) + 1)) rfl ?_
                        refine WpL_nil (thn_normal ?_)
                        exact ⟨t.args.length - (i + 1),by omega,i + 1,Fits.out ⟨rfl,rfl,rfl,rfl,trivial⟩,E,E2,B1,B6,(by omega),rfl⟩
                  · have khlt7 := hlt7
                    replace hlt7 := of_decide_eq_false hlt7
                    obtain rfl : i = t.args.length := by omega
                    rw [List.take_of_length_le (by simp)] at B6
                    refine Wp_exit (thn_exit (thn_exit (inB_here (inB_normal (thn_normal (Wp_seq_region ?_))))))
                    refine qM (P6 b6 0) rfl ?_
                    refine qA (P6 b6 0) rfl ?_
                    refine WpL_nil (Wp_ret ?_)
                    refine fin_tmp Tryz.results22 (v := (.pointer (some ⟨b6,0,none⟩))) rfl ?_
                    exact ⟨b6,rfl,by omega,by rw [hK]; exact B6,E⟩
              · have kh7 := h7
                replace h7 := of_decide_eq_false h7
                refine Wp_seq_region ?_
                refine qV (r_eql (k := .i64) (a := t.kind) (b := 8) rfl rfl) ?_
                refine qA (.bool (decide ((t.kind : Int) = 8))) rfl ?_
                refine WpL_nil ?_
                refine Wp_cond (b := decide ((t.kind : Int) = 8)) rfl (fun h8 => ?_) (fun h8 => ?_)
                · have kh8 := h8
                  replace h8 := of_decide_eq_true h8
                  have h1a := okRe_one hok (by omega)
                  obtain ⟨g,rfl,hg⟩ := hcl (by omega)
                  obtain ⟨R0,hR0⟩ := get_of_lt (l := t.args.map (relOf text)) (i := 0) (by simp; omega)
                  obtain ⟨bz,hpz,Bz,hbz⟩ := hps.2 0 R0 hR0
                  have hK : relOf text t = notR text.length R0 := by rw [hR,← head_get (d := noR) hR0]; simp only [relK,h8]; rfl
                  rw [show rowArr noR = rowArr (fun i' j => decide (i' < 0) && notR text.length R0 i' j) from rowArr_congr fun i _ j _ => by simp [noR]] at B6
                  refine Wp_seq_region ?_
                  refine qM (I6 (text.length : Int)) rfl ?_
                  refine qV (r_add (k := .i64) (a := (text.length : Int)) (b := 1) (c := (text.length : Int) + 1) rfl rfl (wI64 (by omega))) ?_
                  refine qM (I6 0) rfl ?_
                  refine WpL_nil (Wp_block ?_)
                  refine Wp_loop (fun nn_ σ W29 => ∃ (i : Nat),(∃ jj_,σ = upds jj_ [(5,(I6 (text.length : Int))),(6,(.slice (some ⟨g,0,none⟩) t.args.length lc)),(9,(P6 b6 0)),(131,(I6 ((text.length : Int) + 1))),(132,(I6 (i : Int)))]) ∧ Chg none1 w0 W29 ∧ Chg none1 W2 W29 ∧ Blk W29 b1 (R6 t sa sc aa ac) 27 ∧ Blk W29 b6 (rowArr fun i' j => decide (i' < i) && notR text.length R0 i' j) TR ∧ (i ≤ text.length + 1) ∧ nn_ = text.length + 1 - i) (n := text.length + 1 - 0) ?_ ?_
                  · exact ⟨0,Fits.out ⟨rfl,rfl,rfl,rfl,rfl,trivial⟩,E,E2,B1,B6,Nat.zero_le _,rfl⟩
                  · clear E E2 B1 B6
                    rintro _ _ W29 ⟨i,⟨j29,rfl⟩,E,E2,B1,B6,hi,rfl⟩
                    refine Wp_seq_region ?_
                    refine qV (r_lss (k := .i64) (a := (i : Int)) (b := (text.length : Int) + 1) rfl rfl) ?_
                    refine WpL_nil (Wp_seq ?_)
                    refine Wp_cond (b := decide (((i : Int) : Int) < (text.length : Int) + 1)) rfl (fun hlt8 => ?_) (fun hlt8 => ?_)
                    · have khlt8 := hlt8
                      replace hlt8 := of_decide_eq_true hlt8
                      have hq1 := pow_le25 (k := text.length + 1) (by omega)
                      have hq2 := pow_le25 (k := i) (by omega)
                      refine Wp_skip (thn_normal (Wp_seq (Wp_block (Wp_seq_region ?_))))
                      refine qM (I6 (i : Int)) rfl ?_
                      refine qA (I6 (i : Int)) rfl ?_
                      refine WpL_nil ?_
                      refine Wp_draw 20 mixed (by kernel_rfl) ?_
                      intro w31 X31 _
                      replace B1 := X31.keep B1
                      replace B6 := X31.keep B6
                      replace E := E.ext X31
                      replace E2 := E2.ext X31
                      refine qT (r_move (v := (P6 b6 0)) rfl) ?_
                      refine qT (r_move (v := (I6 (i : Int))) rfl) ?_
                      refine qT (r_move (v := (I6 (text.length : Int))) rfl) ?_
                      refine qT (r_add (k := .i64) (a := (text.length : Int)) (b := 1) (c := (text.length : Int) + 1) rfl rfl (wI64 (by omega))) ?_
                      refine qT (r_shl (k := .u32) (a := 1) (b := (text.length : Int) + 1) (c := ((2 ^ (text.length + 1) : Nat) : Int)) (k' := .i64) rfl rfl (by omega) (shl1 (k := text.length + 1) (by omega))) ?_
                      refine qT (r_sub (k := .u32) (a := ((2 ^ (text.length + 1) : Nat) : Int)) (b := 1) (c := ((2 ^ (text.length + 1) - 1 : Nat) : Int)) rfl rfl (sub1_u32 hq1.1 (by omega))) ?_
                      refine qT (r_move (v := (I6 (i : Int))) rfl) ?_
                      refine qT (r_shl (k := .u32) (a := 1) (b := (i : Int)) (c := ((2 ^ i : Nat) : Int)) (k' := .i64) rfl rfl (by omega) (shl1 (k := i) (by omega))) ?_
                      refine qT (r_sub (k := .u32) (a := ((2 ^ i : Nat) : Int)) (b := 1) (c := ((2 ^ i - 1 : Nat) : Int)) rfl rfl (sub1_u32 hq2.1 (by omega))) ?_
                      refine qT (r_bits (k := .u32) (a := ((2 ^ (text.length + 1) - 1 : Nat) : Int)) (b := ((2 ^ i - 1 : Nat) : Int)) (v := .int .u32 (((2 ^ (text.length + 1) - 1) &&& (4294967295 - (2 ^ i - 1)) : Nat) : Int)) rfl rfl (by simp) (bits_andNot _ _ (by omega) (by omega))) ?_
                      refine qT (r_move (v := (.slice (some ⟨g,0,none⟩) t.args.length lc)) rfl) ?_
                      refine qT (r_indexSlice (b := g) (o := 0) (len := t.args.length) (cap := lc) (i := 0) (o' := 0) rfl rfl rfl Tryz.underlying104 siz56 (by omega) (by omega)) ?_
                      refine qT (r_load (v := (P6 bz 0)) rfl flat56 (E2.cell (fun f => f) (hg 0 _ hpz))) ?_
                      refine qT (r_move (v := (I6 (i : Int))) rfl) ?_
                      refine qT (r_nilCheck (a := ⟨bz,0,none⟩) rfl) ?_
                      refine qT (r_indexArr (b := bz) (o := 0) (i := i) (o' := i) rfl rfl rfl Tryz.underlying106 siz55 (by omega) (by omega)) ?_
                      refine qT (r_load (v := (.int .u32 ((maskN 25 (R0 i) : Nat) : Int))) rfl flat55 ((E2.keep (fun f => f) Bz).cell (rowArr_get _ (by omega)))) ?_
                      refine qT (r_bits (k := .u32) (a := (((2 ^ (text.length + 1) - 1) &&& (4294967295 - (2 ^ i - 1)) : Nat) : Int)) (b := ((maskN 25 (R0 i) : Nat) : Int)) (v := .int .u32 ((maskN 25 (fun j => (decide (i ≤ j) && decide (j ≤ text.length)) && !R0 i j) : Nat) : Int)) rfl rfl (by simp) ((bits_andNot _ _ (Nat.lt_of_le_of_lt Nat.and_le_left (by omega)) (mask_lt32 _)).trans (by rw [not_mask (by omega) hn]))) ?_
                      refine qT (r_nilCheck (a := ⟨b6,0,none⟩) rfl) ?_
                      refine qT (r_indexArr (b := b6) (o := 0) (i := i) (o' := i) rfl rfl rfl Tryz.underlying106 siz55 (by omega) (by omega)) ?_
                      refine WpT_zero ?_
                      refine s_store (b := b6) (o := i) (c' := rowArr fun i' j => decide (i' < i + 1) && notR text.length R0 i' j) (v := (.int .u32 ((maskN 25 (fun j => (decide (i ≤ j) && decide (j ≤ text.length)) && !R0 i j) : Nat) : Int))) rfl rfl rfl siz55 B6 (by rw [rowArr_size]; omega) (rowArr_set (by omega) (by rw [mask_congr (g := fun j => decide (i < i + 1) && notR text.length R0 i j) (fun j _ => by simp [notR,show i ≤ text.length by omega])]) (fun i' _ hne j _ => by rw [Bool.eq_iff_iff]; simp; omega)) ?_
                      intro w32 S32
                      replace B1 := S32.keep (by omega) B1
                      replace E := S32.step E (by first | exact Or.inl (by omega) | exact Or.inr rfl | exact Or.inr (by assumption) | exact Or.inr (by simp) | exact Or.inr (by omega) | exact Or.inr (by dsimp only; omega))
                      replace E2 := S32.step E2 (Or.inl (by omega))
                      replace B6 := S32.blk
                      refine WpL_nil (inB_normal (thn_normal (Wp_region ?_)))
                      refine qV (r_add (k := .i64) (a := (i : Int)) (b := 1) (c := (i : Int) + 1) rfl rfl (wI64 (by omega))) ?_
                      refine qM (I6 ((i : Int) + 1)) rfl ?_
                      refine WpL_nil (thn_normal ?_)
                      exact ⟨text.length + 1 - (i + 1),by omega,i + 1,Fits.out ⟨rfl,rfl,rfl,rfl,rfl,trivial⟩,E,E2,B1,B6,(by omega),rfl⟩
                    · have khlt8 := hlt8
                      replace hlt8 := of_decide_eq_false hlt8
                      obtain rfl : i = text.length + 1 := by omega
                      rw [show rowArr (fun i' j => decide (i' < text.length + 1) && notR text.length R0 i' j) = rowArr (notR text.length R0) from rowArr_congr fun i' _ j _ => by by_cases h : i' < text.length + 1; simp [h]; simp [h,notR,show ¬ i' ≤ text.length by omega]] at B6
                      refine Wp_exit (thn_exit (thn_exit (inB_here (inB_normal (thn_normal (Wp_seq_region ?_))))))
                      refine qM (P6 b6 0) rfl ?_
                      refine qA (P6 b6 0) rfl ?_
                      refine WpL_nil (Wp_ret ?_)
                      refine fin_tmp Tryz.results22 (v := (.pointer (some ⟨b6,0,none⟩))) rfl ?_
                      exact ⟨b6,rfl,by omega,by rw [hK]; exact B6,E⟩
                · have kh8 := h8
                  replace h8 := of_decide_eq_false h8
                  refine Wp_seq_region ?_
                  refine qV (r_eql (k := .i64) (a := t.kind) (b := 5) rfl rfl) ?_
                  refine qA (.bool (decide ((t.kind : Int) = 5))) rfl ?_
                  refine WpL_nil ?_
                  refine Wp_cond (b := decide ((t.kind : Int) = 5)) rfl (fun h5 => ?_) (fun h5 => ?_)
                  · have kh5 := h5
                    replace h5 := of_decide_eq_true h5
                    have h1a := okRe_one hok (by omega)
                    obtain ⟨g,rfl,hg⟩ := hcl (by omega)
                    obtain ⟨R0,hR0⟩ := get_of_lt (l := t.args.map (relOf text)) (i := 0) (by simp; omega)
                    obtain ⟨bz,hpz,Bz,hbz⟩ := hps.2 0 R0 hR0
                    have hK : relOf text t = starN text.length R0 (text.length + 1) := by rw [hR,← head_get (d := noR) hR0]; simp only [relK,h5]; rfl
                    refine Wp_seq_region ?_
                    refine qM (I6 (text.length : Int)) rfl ?_
                    refine WpL_enter rfl rfl (by decide) (r_callF (vs := [(I6 (text.length : Int))]) Tryz.func53 kQ kQ rfl) (rsame_c _ text.length hn) ?_
                    rintro _ w29 ⟨bo,rfl,hbo,Bo,X29⟩
                    replace B1 := X29.keep B1
                    replace B6 := X29.keep B6
                    replace E := E.ext X29
                    replace E2 := E2.ext X29
                    have hbo0 : w0.heap.size ≤ bo := by have := N6.size; omega
                    refine qA (P6 bo 0) rfl ?_
                    refine WpL_nil (Wp_seq_region ?_)
                    refine qM (I6 (text.length : Int)) rfl ?_
                    refine qV (r_add (k := .i64) (a := (text.length : Int)) (b := 1) (c := (text.length : Int) + 1) rfl rfl (wI64 (by omega))) ?_
                    refine qM (I6 0) rfl ?_
                    refine WpL_nil (Wp_block ?_)
                    refine Wp_loop (fun nn_ σ W34 => ∃ (i : Nat) (ob : Nat),(∃ jj_,σ = upds jj_ [(5,(I6 (text.length : Int))),(6,(.slice (some ⟨g,0,none⟩) t.args.length lc)),(161,(I6 ((text.length : Int) + 1))),(162,(I6 (i : Int))),(9,(P6 ob 0))]) ∧ Chg none1 w0 W34 ∧ Chg none1 W2 W34 ∧ Blk W34 b1 (R6 t sa sc aa ac) 27 ∧ Blk W34 b6 (rowArr noR) TR ∧ (i ≤ text.length + 1) ∧ (w0.heap.size ≤ ob) ∧ (Blk W34 ob (rowArr (starN text.length R0 i)) TR) ∧ nn_ = text.length + 1 - i) (n := text.length + 1 - 0) ?_ ?_
                    · exact ⟨0,bo,Fits.out ⟨rfl,rfl,rfl,rfl,rfl,trivial⟩,E,E2,B1,B6,Nat.zero_le _,hbo0,Bo,rfl⟩
                    · clear E E2 B1 B6
                      rintro _ _ W34 ⟨i,ob,⟨j34,rfl⟩,E,E2,B1,B6,hi,hob,Bo,rfl⟩
                      refine Wp_seq_region ?_
                      refine qV (r_lss (k := .i64) (a := (i : Int)) (b := (text.length : Int) + 1) rfl rfl) ?_
                      refine WpL_nil (Wp_seq ?_)
                      refine Wp_cond (b := decide (((i : Int) : Int) < (text.length : Int) + 1)) rfl (fun hlt5 => ?_) (fun hlt5 => ?_)
                      · have khlt5 := hlt5
                        replace hlt5 := of_decide_eq_true hlt5
                        have hol := Bo.lt
                        refine Wp_skip (thn_normal (Wp_seq (Wp_block (Wp_region ?_))))
                        refine qM (P6 ob 0) rfl ?_
                        refine qM (P6 ob 0) rfl ?_
                        refine qM (.slice (some ⟨g,0,none⟩) t.args.length lc) rfl ?_
                        refine qV (r_indexSlice (b := g) (o := 0) (len := t.args.length) (cap := lc) (i := 0) (o' := 0) rfl rfl rfl Tryz.underlying104 siz56 (by omega) (by omega)) ?_
                        refine qV (r_load (v := (P6 bz 0)) rfl flat56 (E2.cell (fun f => f) (hg 0 _ hpz))) ?_
                        refine qM (I6 (text.length : Int)) rfl ?_
                        refine WpL_enter rfl rfl (by decide) (r_callF (vs := [(P6 ob 0),(P6 bz 0),(I6 (text.length : Int))]) Tryz.func54 kQ kQ rfl) (then_c _ ob bz text.length _ R0 hn Bo (E2.keep (fun f => f) Bz) (hT.ext E)) ?_
                        rintro _ w39 ⟨ob1,rfl,hob1,Bo1,X39⟩
                        replace B1 := X39.keep B1
                        replace B6 := X39.keep B6
                        replace Bo := X39.keep Bo
                        replace E := E.ext X39
                        replace E2 := E2.ext X39
                        refine WpL_enter rfl rfl (by decide) (r_callF (vs := [(P6 ob 0),(P6 ob1 0)]) Tryz.func55 kQ kQ rfl) (or_c _ ob ob1 _ _ Bo Bo1) ?_
                        rintro _ w49 ⟨ob2,rfl,hob2,Bo2,X49⟩
                        replace B1 := X49.keep B1
                        replace B6 := X49.keep B6
                        replace Bo := X49.keep Bo
                        replace E := E.ext X49
                        replace E2 := E2.ext X49
                        refine qA (P6 ob2 0) rfl ?_
                        refine WpL_nil (inB_normal (thn_normal (Wp_region ?_)))
                        refine qV (r_add (k := .i64) (a := (i : Int)) (b := 1) (c := (i : Int) + 1) rfl rfl (wI64 (by omega))) ?_
                        refine qM (I6 ((i : Int) + 1)) rfl ?_
                        refine WpL_nil (thn_normal ?_)
                        exact ⟨text.length + 1 - (i + 1),by omega,i + 1,ob2,Fits.out ⟨rfl,rfl,rfl,rfl,rfl,trivial⟩,E,E2,B1,B6,(by omega),(by have := X39.size; omega),Bo2,rfl⟩
                      · have khlt5 := hlt5
                        replace hlt5 := of_decide_eq_false hlt5
                        obtain rfl : i = text.length + 1 := by omega
                        refine Wp_exit (thn_exit (thn_exit (inB_here (inB_normal (thn_normal (Wp_seq_region ?_))))))
                        refine qM (P6 ob 0) rfl ?_
                        refine qA (P6 ob 0) rfl ?_
                        refine WpL_nil (Wp_ret ?_)
                        refine fin_tmp Tryz.results22 (v := (.pointer (some ⟨ob,0,none⟩))) rfl ?_
                        exact ⟨ob,rfl,hob,by rw [hK]; exact Bo,E⟩
                  · have kh5 := h5
                    replace h5 := of_decide_eq_false h5
                    refine Wp_seq_region ?_
                    refine qV (r_eql (k := .i64) (a := t.kind) (b := 6) rfl rfl) ?_
                    refine qA (.bool (decide ((t.kind : Int) = 6))) rfl ?_
                    refine WpL_nil ?_
                    refine Wp_cond (b := decide ((t.kind : Int) = 6)) rfl (fun h6 => ?_) (fun h6 => ?_)
                    · have kh6 := h6
                      replace h6 := of_decide_eq_true h6
                      have h1a := okRe_one hok (by omega)
                      have hrp := okRe_rep hok h6
                      obtain ⟨g,rfl,hg⟩ := hcl (by omega)
                      obtain ⟨R0,hR0⟩ := get_of_lt (l := t.args.map (relOf text)) (i := 0) (by simp; omega)
                      obtain ⟨bz,hpz,Bz,hbz⟩ := hps.2 0 R0 hR0
                      have hK : relOf text t = repR text.length R0 t.mn (t.mx + 1).toNat := by rw [hR,← head_get (d := noR) hR0]; simp only [relK,h6]; rfl
                      refine Wp_seq_region ?_
                      refine qM (I6 (text.length : Int)) rfl ?_
                      refine WpL_enter rfl rfl (by decide) (r_callF (vs := [(I6 (text.length : Int))]) Tryz.func53 kQ kQ rfl) (rsame_c _ text.length hn) ?_
                      rintro _ w29 ⟨bo,rfl,hbo,Bo,X29⟩
                      replace B1 := X29.keep B1
                      replace B6 := X29.keep B6
                      replace E := E.ext X29
                      replace E2 := E2.ext X29
                      have hbo0 : w0.heap.size ≤ bo := by have := N6.size; omega
                      refine qA (P6 bo 0) rfl ?_
                      refine WpL_nil (Wp_seq_region ?_)
                      refine qF b1 0 4 rfl Tryz.underlying27 rfl siz3 rfl ?_
                      refine qV (r_load (v := (I6 t.mx)) rfl flat3 (B1.cell rfl)) ?_
                      refine qV (r_add (k := .i64) (a := t.mx) (b := 1) (c := t.mx + 1) rfl rfl (wI64 (by omega))) ?_
                      refine qM (I6 0) rfl ?_
                      refine WpL_nil (Wp_block ?_)
                      refine Wp_loop (fun nn_ σ W37 => ∃ (i : Nat) (ob : Nat) (pb : Nat),(∃ jj_,σ = upds jj_ [(2,(P6 b1 0)),(5,(I6 (text.length : Int))),(6,(.slice (some ⟨g,0,none⟩) t.args.length lc)),(179,(I6 (t.mx + 1))),(180,(I6 (i : Int))),(9,(P6 ob 0)),(20,(P6 pb 0))]) ∧ Chg none1 w0 W37 ∧ Chg none1 W2 W37 ∧ Blk W37 b1 (R6 t sa sc aa ac) 27 ∧ Blk W37 b6 (rowArr noR) TR ∧ (i ≤ (t.mx + 1).toNat) ∧ (w0.heap.size ≤ ob) ∧ (Blk W37 ob (rowArr (repR text.length R0 t.mn i)) TR) ∧ (Blk W37 pb (rowArr (powR text.length R0 i)) TR) ∧ nn_ = (t.mx + 1).toNat - i) (n := (t.mx + 1).toNat - 0) ?_ ?_
                      · exact ⟨0,b6,bo,Fits.out ⟨rfl,rfl,rfl,rfl,rfl,rfl,rfl,trivial⟩,E,E2,B1,B6,Nat.zero_le _,(by omega),B6,Bo,rfl⟩
                      · clear E E2 B1 B6
                        rintro _ _ W37 ⟨i,ob,pb,⟨j37,rfl⟩,E,E2,B1,B6,hi,hob,Bo,Bp,rfl⟩
                        refine Wp_seq_region ?_
                        refine qV (r_lss (k := .i64) (a := (i : Int)) (b := t.mx + 1) rfl rfl) ?_
                        refine WpL_nil (Wp_seq ?_)
                        refine Wp_cond (b := decide (((i : Int) : Int) < t.mx + 1)) rfl (fun hlt6 => ?_) (fun hlt6 => ?_)
                        · have khlt6 := hlt6
                          replace hlt6 := of_decide_eq_true hlt6
                          have hol := Bo.lt
                          refine Wp_skip (thn_normal (Wp_seq (Wp_block (Wp_seq_region ?_))))
                          refine qM (I6 (i : Int)) rfl ?_
                          refine qA (I6 (i : Int)) rfl ?_
                          refine WpL_nil (Wp_seq (Wp_seq_region ?_))
                          refine qM (I6 (i : Int)) rfl ?_
                          refine qF b1 0 3 rfl Tryz.underlying27 rfl siz3 rfl ?_
                          refine qV (r_load (v := (I6 t.mn)) rfl flat3 (B1.cell rfl)) ?_
                          refine qV (r_geq (k := .i64) (a := (i : Int)) (b := t.mn) rfl rfl) ?_
                          refine WpL_nil ?_
                          refine Wp_cond (b := decide ((t.mn : Int) ≤ (i : Int))) rfl (fun hge => ?_) (fun hge => ?_)
                          · have khge := hge
                            replace hge := of_decide_eq_true hge
                            refine Wp_region ?_
                            refine qM (P6 ob 0) rfl ?_
                            refine qM (P6 pb 0) rfl ?_
                            refine WpL_enter rfl rfl (by decide) (r_callF (vs := [(P6 ob 0),(P6 pb 0)]) Tryz.func55 kQ kQ rfl) (or_c _ ob pb _ _ Bo Bp) ?_
                            rintro _ w39 ⟨ob2,rfl,hob2,Bo2,X39⟩
                            replace B1 := X39.keep B1
                            replace B6 := X39.keep B6
                            replace Bo := X39.keep Bo
                            replace Bp := X39.keep Bp
                            replace E := E.ext X39
                            replace E2 := E2.ext X39
                            refine qA (P6 ob2 0) rfl ?_
                            refine WpL_nil (thn_normal (Wp_region ?_))
                            refine qM (P6 pb 0) rfl ?_
                            refine qM (.slice (some ⟨g,0,none⟩) t.args.length lc) rfl ?_
                            refine qV (r_indexSlice (b := g) (o := 0) (len := t.args.length) (cap := lc) (i := 0) (o' := 0) rfl rfl rfl Tryz.underlying104 siz56 (by omega) (by omega)) ?_
                            refine qV (r_load (v := (P6 bz 0)) rfl flat56 (E2.cell (fun f => f) (hg 0 _ hpz))) ?_
                            refine qM (I6 (text.length : Int)) rfl ?_
                            refine WpL_enter rfl rfl (by decide) (r_callF (vs := [(P6 pb 0),(P6 bz 0),(I6 (text.length : Int))]) Tryz.func54 kQ kQ rfl) (then_c _ pb bz text.length _ R0 hn Bp (E2.keep (fun f => f) Bz) (hT.ext E)) ?_
                            rintro _ w49 ⟨pb2,rfl,hpb2,Bp2,X49⟩
                            replace B1 := X49.keep B1
                            replace B6 := X49.keep B6
                            replace Bo := X49.keep Bo
                            replace Bp := X49.keep Bp
                            replace Bo2 := X49.keep Bo2
                            replace E := E.ext X49
                            replace E2 := E2.ext X49
                            refine qA (P6 pb2 0) rfl ?_
                            refine WpL_nil (inB_normal (thn_normal (Wp_region ?_)))
                            refine qV (r_add (k := .i64) (a := (i : Int)) (b := 1) (c := (i : Int) + 1) rfl rfl (wI64 (by omega))) ?_
                            refine qM (I6 ((i : Int) + 1)) rfl ?_
                            refine WpL_nil (thn_normal ?_)
                            exact ⟨(t.mx + 1).toNat - (i + 1),by omega,i + 1,ob2,pb2,Fits.out ⟨rfl,rfl,rfl,rfl,rfl,rfl,rfl,trivial⟩,E,E2,B1,B6,(by omega),(by omega),(by rw [repR,if_pos hge]; exact Bo2),Bp2,rfl⟩
                          · have khge := hge
                            replace hge := of_decide_eq_false hge
                            refine Wp_skip (thn_normal (Wp_region ?_))
                            refine qM (P6 pb 0) rfl ?_
                            refine qM (.slice (some ⟨g,0,none⟩) t.args.length lc) rfl ?_
                            refine qV (r_indexSlice (b := g) (o := 0) (len := t.args.length) (cap := lc) (i := 0) (o' := 0) rfl rfl rfl Tryz.underlying104 siz56 (by omega) (by omega)) ?_
                            refine qV (r_load (v := (P6 bz 0)) rfl flat56 (E2.cell (fun f => f) (hg 0 _ hpz))) ?_
                            refine qM (I6 (text.length : Int)) rfl ?_
                            refine WpL_enter rfl rfl (by decide) (r_callF (vs := [(P6 pb 0),(P6 bz 0),(I6 (text.length : Int))]) Tryz.func54 kQ kQ rfl) (then_c _ pb bz text.length _ R0 hn Bp (E2.keep (fun f => f) Bz) (hT.ext E)) ?_
                            rintro _ w49 ⟨pb2,rfl,hpb2,Bp2,X49⟩
                            replace B1 := X49.keep B1
                            replace B6 := X49.keep B6
                            replace Bo := X49.keep Bo
                            replace Bp := X49.keep Bp
                            replace E := E.ext X49
                            replace E2 := E2.ext X49
                            refine qA (P6 pb2 0) rfl ?_
                            refine WpL_nil (inB_normal (thn_normal (Wp_region ?_)))
                            refine qV (r_add (k := .i64) (a := (i : Int)) (b := 1) (c := (i : Int) + 1) rfl rfl (wI64 (by omega))) ?_
                            refine qM (I6 ((i : Int) + 1)) rfl ?_
                            refine WpL_nil (thn_normal ?_)
                            exact ⟨(t.mx + 1).toNat - (i + 1),by omega,i + 1,ob,pb2,Fits.out ⟨rfl,rfl,rfl,rfl,rfl,rfl,rfl,trivial⟩,E,E2,B1,B6,(by omega),hob,(by rw [repR,if_neg hge]; exact Bo),Bp2,rfl⟩
                        · have khlt6 := hlt6
                          replace hlt6 := of_decide_eq_false hlt6
                          obtain rfl : i = (t.mx + 1).toNat := by omega
                          refine Wp_exit (thn_exit (thn_exit (inB_here (inB_normal (thn_normal (Wp_seq_region ?_))))))
                          refine qM (P6 ob 0) rfl ?_
                          refine qA (P6 ob 0) rfl ?_
                          refine WpL_nil (Wp_ret ?_)
                          refine fin_tmp Tryz.results22 (v := (.pointer (some ⟨ob,0,none⟩))) rfl ?_
                          exact ⟨ob,rfl,hob,by rw [hK]; exact Bo,E⟩
                    · have kh6 := h6
                      replace h6 := of_decide_eq_false h6
                      refine Wp_seq_region ?_
                      refine qV (r_eql (k := .i64) (a := t.kind) (b := 9) rfl rfl) ?_
                      refine qA (.bool (decide ((t.kind : Int) = 9))) rfl ?_
                      refine WpL_nil ?_
                      refine Wp_cond (b := decide ((t.kind : Int) = 9)) rfl (fun h9 => ?_) (fun h9 => ?_)
                      · have kh9 := h9
                        replace h9 := of_decide_eq_true h9
                        have h1a := okRe_one hok (by omega)
                        obtain ⟨g,rfl,hg⟩ := hcl (by omega)
                        obtain ⟨R0,hR0⟩ := get_of_lt (l := t.args.map (relOf text)) (i := 0) (by simp; omega)
                        obtain ⟨bz,hpz,Bz,hbz⟩ := hps.2 0 R0 hR0
                        have hK : relOf text t = R0 := by rw [hR,← head_get (d := noR) hR0]; simp only [relK,h9]; rfl
                        refine Wp_seq_region ?_
                        refine qM (.slice (some ⟨g,0,none⟩) t.args.length lc) rfl ?_
                        refine qV (r_indexSlice (b := g) (o := 0) (len := t.args.length) (cap := lc) (i := 0) (o' := 0) rfl rfl rfl Tryz.underlying104 siz56 (by omega) (by omega)) ?_
                        refine qV (r_load (v := (P6 bz 0)) rfl flat56 (E2.cell (fun f => f) (hg 0 _ hpz))) ?_
                        refine qA (P6 bz 0) rfl ?_
                        refine WpL_nil (Wp_ret (inB_ret (thn_ret ?_)))
                        refine fin_tmp Tryz.results22 (v := (.pointer (some ⟨bz,0,none⟩))) rfl ?_
                        exact ⟨bz,rfl,hbz,by rw [hK]; exact E2.keep (fun f => f) Bz,E⟩
                      · have kh9 := h9
                        replace h9 := of_decide_eq_false h9
                        refine Wp_seq_region ?_
                        refine qV (r_eql (k := .i64) (a := t.kind) (b := 10) rfl rfl) ?_
                        refine qA (.bool (decide ((t.kind : Int) = 10))) rfl ?_
                        refine WpL_nil ?_
                        refine Wp_cond (b := decide ((t.kind : Int) = 10)) rfl (fun h10 => ?_) (fun h10 => ?_)
                        · have kh10 := h10
                          replace h10 := of_decide_eq_true h10
                          have h1a := okRe_one hok (by omega)
                          obtain ⟨g,rfl,hg⟩ := hcl (by omega)
                          obtain ⟨R0,hR0⟩ := get_of_lt (l := t.args.map (relOf text)) (i := 0) (by simp; omega)
                          obtain ⟨bz,hpz,Bz,hbz⟩ := hps.2 0 R0 hR0
                          have hK : relOf text t = lookR text.length R0 t.neg := by rw [hR,← head_get (d := noR) hR0]; simp only [relK,h10]; rfl
                          rw [show rowArr noR = rowArr (fun i' j => decide (i' < 0) && lookR text.length R0 t.neg i' j) from rowArr_congr fun i _ j _ => by simp [noR]] at B6
                          refine Wp_seq_region ?_
                          refine qM (I6 (text.length : Int)) rfl ?_
                          refine qV (r_add (k := .i64) (a := (text.length : Int)) (b := 1) (c := (text.length : Int) + 1) rfl rfl (wI64 (by omega))) ?_
                          refine qM (I6 0) rfl ?_
                          refine WpL_nil (Wp_block ?_)
                          refine Wp_loop (fun nn_ σ W42 => ∃ (i : Nat),(∃ jj_,σ = upds jj_ [(2,(P6 b1 0)),(6,(.slice (some ⟨g,0,none⟩) t.args.length lc)),(9,(P6 b6 0)),(205,(I6 ((text.length : Int) + 1))),(206,(I6 (i : Int)))]) ∧ Chg none1 w0 W42 ∧ Chg none1 W2 W42 ∧ Blk W42 b1 (R6 t sa sc aa ac) 27 ∧ Blk W42 b6 (rowArr fun i' j => decide (i' < i) && lookR text.length R0 t.neg i' j) TR ∧ (i ≤ text.length + 1) ∧ nn_ = text.length + 1 - i) (n := text.length + 1 - 0) ?_ ?_
                          · exact ⟨0,Fits.out ⟨rfl,rfl,rfl,rfl,rfl,trivial⟩,E,E2,B1,B6,Nat.zero_le _,rfl⟩
                          · clear E E2 B1 B6
                            rintro _ _ W42 ⟨i,⟨j42,rfl⟩,E,E2,B1,B6,hi,rfl⟩
                            refine Wp_seq_region ?_
                            refine qV (r_lss (k := .i64) (a := (i : Int)) (b := (text.length : Int) + 1) rfl rfl) ?_
                            refine WpL_nil (Wp_seq ?_)
                            refine Wp_cond (b := decide (((i : Int) : Int) < (text.length : Int) + 1)) rfl (fun hlt10 => ?_) (fun hlt10 => ?_)
                            · have khlt10 := hlt10
                              replace hlt10 := of_decide_eq_true hlt10
                              refine Wp_skip (thn_normal (Wp_seq (Wp_block (Wp_seq_region ?_))))
                              refine qM (I6 (i : Int)) rfl ?_
                              refine qA (I6 (i : Int)) rfl ?_
                              refine WpL_nil ?_
                              refine Wp_seq_draw 10 mixed (by kernel_rfl) ?_
                              intro w44 X44 _
                              replace B1 := X44.keep B1
                              replace B6 := X44.keep B6
                              replace E := E.ext X44
                              replace E2 := E2.ext X44
                              refine qT (r_move (v := (.slice (some ⟨g,0,none⟩) t.args.length lc)) rfl) ?_
                              refine qT (r_indexSlice (b := g) (o := 0) (len := t.args.length) (cap := lc) (i := 0) (o' := 0) rfl rfl rfl Tryz.underlying104 siz56 (by omega) (by omega)) ?_
                              refine qT (r_load (v := (P6 bz 0)) rfl flat56 (E2.cell (fun f => f) (hg 0 _ hpz))) ?_
                              refine qT (r_move (v := (I6 (i : Int))) rfl) ?_
                              refine qT (r_nilCheck (a := ⟨bz,0,none⟩) rfl) ?_
                              refine qT (r_indexArr (b := bz) (o := 0) (i := i) (o' := i) rfl rfl rfl Tryz.underlying106 siz55 (by omega) (by omega)) ?_
                              refine qT (r_load (v := (.int .u32 ((maskN 25 (R0 i) : Nat) : Int))) rfl flat55 ((E2.keep (fun f => f) Bz).cell (rowArr_get _ (by omega)))) ?_
                              refine qT (r_neq (k := .u32) (a := ((maskN 25 (R0 i) : Nat) : Int)) (b := 0) rfl rfl) ?_
                              refine qT (r_fieldAddr (b := b1) (o := 0) (o' := 5) rfl Tryz.underlying27 rfl siz4 rfl) ?_
                              refine qT (r_load (v := (.bool t.neg)) rfl flat4 (B1.cell rfl)) ?_
                              refine WpT_zero ?_
                              refine qV (r_neqB (p := decide ((((maskN 25 (R0 i) : Nat) : Int) : Int) ≠ 0)) (q := t.neg) Tryz.underlying4 rfl rfl) ?_
                              refine WpL_nil ?_
                              refine Wp_cond (b := (decide ((((maskN 25 (R0 i) : Nat) : Int) : Int) ≠ 0)) != t.neg) rfl (fun hlk => ?_) (fun hlk => ?_)
                              · have khlk := hlk
                                have hlk' : (decide (maskN 25 (R0 i) ≠ 0) != t.neg) = true := by rw [← hlk,look_cast]
                                refine Wp_draw 6 mixed (by kernel_rfl) ?_
                                intro w46 X46 _
                                replace B1 := X46.keep B1
                                replace B6 := X46.keep B6
                                replace E := E.ext X46
                                replace E2 := E2.ext X46
                                refine qT (r_move (v := (P6 b6 0)) rfl) ?_
                                refine qT (r_move (v := (I6 (i : Int))) rfl) ?_
                                refine qT (r_move (v := (I6 (i : Int))) rfl) ?_
                                refine qT (r_shl (k := .u32) (a := 1) (b := (i : Int)) (c := ((2 ^ i : Nat) : Int)) (k' := .i64) rfl rfl (by omega) (shl1 (k := i) (by omega))) ?_
                                refine qT (r_nilCheck (a := ⟨b6,0,none⟩) rfl) ?_
                                refine qT (r_indexArr (b := b6) (o := 0) (i := i) (o' := i) rfl rfl rfl Tryz.underlying106 siz55 (by omega) (by omega)) ?_
                                refine WpT_zero ?_
                                refine s_store (b := b6) (o := i) (c' := rowArr fun i' j => decide (i' < i + 1) && lookR text.length R0 t.neg i' j) (v := (.int .u32 ((2 ^ i : Nat) : Int))) rfl rfl rfl siz55 B6 (by rw [rowArr_size]; omega) (rowArr_set (by omega) (by rw [mask_one (n := 25) (i := i) (by omega),mask_congr (g := fun j => decide (i < i + 1) && lookR text.length R0 t.neg i j) (fun j _ => by simp only [lookR,hlk',Bool.and_true]; simp [show i ≤ text.length by omega])]) (fun i' _ hne j _ => by rw [Bool.eq_iff_iff]; simp; omega)) ?_
                                intro w47 S47
                                replace B1 := S47.keep (by omega) B1
                                replace E := S47.step E (by first | exact Or.inl (by omega) | exact Or.inr rfl | exact Or.inr (by assumption) | exact Or.inr (by simp) | exact Or.inr (by omega) | exact Or.inr (by dsimp only; omega))
                                replace E2 := S47.step E2 (Or.inl (by omega))
                                replace B6 := S47.blk
                                refine WpL_nil (inB_normal (thn_normal (Wp_region ?_)))
                                refine qV (r_add (k := .i64) (a := (i : Int)) (b := 1) (c := (i : Int) + 1) rfl rfl (wI64 (by omega))) ?_
                                refine qM (I6 ((i : Int) + 1)) rfl ?_
                                refine WpL_nil (thn_normal ?_)
                                exact ⟨text.length + 1 - (i + 1),by omega,i + 1,Fits.out ⟨rfl,rfl,rfl,rfl,rfl,trivial⟩,E,E2,B1,B6,(by omega),rfl⟩
                              · have khlk := hlk
                                have hlk' : (decide (maskN 25 (R0 i) ≠ 0) != t.neg) = false := by rw [← hlk,look_cast]
                                rw [show rowArr (fun i' j => decide (i' < i) && lookR text.length R0 t.neg i' j) = rowArr (fun i' j => decide (i' < i + 1) && lookR text.length R0 t.neg i' j) from rowArr_congr fun i' _ j _ => by rcases Nat.lt_trichotomy i' i with h | h | h; simp [h,show i' < i + 1 by omega]; subst h; simp only [lookR,hlk',Bool.and_false]; simp [show ¬ i' < i by omega,show ¬ i' < i + 1 by omega]] at B6
                                refine Wp_skip (inB_normal (thn_normal (Wp_region ?_)))
                                refine qV (r_add (k := .i64) (a := (i : Int)) (b := 1) (c := (i : Int) + 1) rfl rfl (wI64 (by omega))) ?_
                                refine qM (I6 ((i : Int) + 1)) rfl ?_
                                refine WpL_nil (thn_normal ?_)
                                exact ⟨text.length + 1 - (i + 1),by omega,i + 1,Fits.out ⟨rfl,rfl,rfl,rfl,rfl,trivial⟩,E,E2,B1,B6,(by omega),rfl⟩
                            · have khlt10 := hlt10
                              replace hlt10 := of_decide_eq_false hlt10
                              obtain rfl : i = text.length + 1 := by omega
                              rw [show rowArr (fun i' j => decide (i' < text.length + 1) && lookR text.length R0 t.neg i' j) = rowArr (lookR text.length R0 t.neg) from rowArr_congr fun i' _ j _ => by by_cases h : i' < text.length + 1; simp [h]; simp [h,lookR,show ¬ i' ≤ text.length by omega]] at B6
                              refine Wp_exit (thn_exit (thn_exit (inB_here (inB_normal (thn_normal (Wp_seq_region ?_))))))
                              refine qM (P6 b6 0) rfl ?_
                              refine qA (P6 b6 0) rfl ?_
                              refine WpL_nil (Wp_ret ?_)
                              refine fin_tmp Tryz.results22 (v := (.pointer (some ⟨b6,0,none⟩))) rfl ?_
                              exact ⟨b6,rfl,by omega,by rw [hK]; exact B6,E⟩
                        · have kh10 := h10
                          replace h10 := of_decide_eq_false h10
                          have hK : relOf text t = noR := by rw [hR]; simp [relK,h1,h2,h3,h4,h5,h6,h7,h8,h9,h10]
                          refine Wp_skip (inB_normal (thn_normal (Wp_seq_region ?_)))
                          refine qM (P6 b6 0) rfl ?_
                          refine qA (P6 b6 0) rfl ?_
                          refine WpL_nil (Wp_ret ?_)
                          refine fin_tmp Tryz.results22 (v := (.pointer (some ⟨b6,0,none⟩))) rfl ?_
                          exact ⟨b6,rfl,by omega,by rw [hK]; exact B6,E⟩
theorem args_at {w0 : World} {aa : Option Addr} {ts : List Re} (h : ts = [] ∨ ∃ b o,aa = some ⟨b,o,none⟩ ∧ ResAt w0 b o ts) (h0 : 0 < ts.length) : ∃ b o,aa = some ⟨b,o,none⟩ ∧ ResAt w0 b o ts := by
 rcases h with h | h
 ·rw [h] at h0; simp at h0
 ·exact h
end Go.Proofs
namespace Go.Eng
open Go
abbrev Fct := Value → World → Prop
def Stable (F : Fct) : Prop := ∀ v w w',Ext w w' → F v w → F v w'
inductive Fact where
  | eq (v : Value)
  | re (t : Re)
  | res (ts : List Re)
  | gen (F : Fct) (h : Stable F)
def Fact.In : Fact → Fct
  | .eq u,v,_ => v = u
  | .re t,v,w => ∃ vs,v = .agg vs.toArray ∧ ReAt w t vs
  | .res ts,v,w => ∃ b,v = .slice (some ⟨b,0,none⟩) ts.length ts.length ∧ ResAt w b 0 ts
  | .gen F _,v,w => F v w
theorem Fact.ext {F : Fact} {v : Value} {w w' : World} (h : F.In v w) (e : Ext w w') : F.In v w' := by
  cases F with
  | eq u => exact h
  | re t => obtain ⟨vs,h1,h2⟩ := h; exact ⟨vs,h1,ReAt.ext e t h2⟩
  | res ts => obtain ⟨b,h1,h2⟩ := h; exact ⟨b,h1,ResAt.ext e ts h2⟩
  | gen F hF => exact hF _ _ _ e h
def Does (P : Program) (N : Nat) (o : Oper) (R : Fct) (σ : Env) (w : World) : Prop :=
 ∀ dz a,Ok dz N a → env a = σ → ∀ (Q : Exit → Act → World → Prop) (K : Act → World → Prop),(∀ v w',Ext w w' → R v w' → K (a.put o.dst v) w') → o.wp P a w K Q
def Holds (ds : List Nat) (Fs : List Fact) (j : Nat) (σ : Env) (w : World) : Prop := ∀ d F,ds[j]? = some d → Fs[j]? = some F → F.In (σ d) w
def Guarded (ds : List Nat) (o : Oper) (σ : Env) : Prop := ∀ j b,o.guard = some (j,b) → ∃ d,ds[j]? = some d ∧ σ d = .bool b
def Unmet (ds : List Nat) (o : Oper) (σ : Env) : Prop := ∃ j b d,o.guard = some (j,b) ∧ ds[j]? = some d ∧ (σ d = .bool (!b) ∨ σ d = undef)
theorem Unmet_mk {ds : List Nat} {o : Oper} {σ : Env} {j : Nat} {b : Bool} {d : Nat} (h : o.guard = some (j,b)) (hd : ds[j]? = some d) (hv : σ d = .bool (!b) ∨ σ d = undef) : Unmet ds o σ := ⟨j,b,d,h,hd,hv⟩
section
variable {P : Program} {N : Nat} {o : Oper} {R : Fct} {σ : Env} {w : World}
theorem Does_val {v : Value} {w' : World} (hr : (execOp (ev σ) o).run P w = .ok (.value v) w') (hx : Ext w w') (h : R v w') : Does P N o R σ w := by
 intro dz a ha he Q K hK
 unfold Oper.wp
 rw [eval_env,he,hr]
 simp only [Oper.upon]
 exact hK _ _ hx h
theorem Does_enter {f : FuncId} {args : Array Value} (hr : (execOp (ev σ) o).run P w = .ok (.enter f args) w) (hc : Ret P f args w fun v w' => R v w' ∧ Ext w w') : Does P N o R σ w := by
 intro dz a ha he Q K hK
 unfold Oper.wp
 rw [eval_env,he,hr]
 simp only [Oper.upon]
 refine Calls.mono hc ?_
 rintro e w' ⟨v,rfl,r,x⟩
 exact hK _ _ x r
theorem Guarded_none {ds : List Nat} (h : o.guard = none) : Guarded ds o σ := fun j b hj => by rw [h] at hj; cases hj
theorem Guarded_some {ds : List Nat} {j : Nat} {b : Bool} {d : Nat} (h : o.guard = some (j,b)) (hd : ds[j]? = some d) (hv : σ d = .bool b) : Guarded ds o σ := fun j' b' hj => by
 rw [h] at hj; cases hj; exact ⟨d,hd,hv⟩
end
def dagOne (N i : Nat) (o : Oper) (d : Nat) (ws : List Nat) : Bool :=
 (match o.dst with | some d' => Nat.beq d' d | none => false) && Nat.blt d N && (o.after.all fun e => !Region.binds .any e || Nat.blt e.on i) && ws.all fun j => o.after.any fun e => Region.binds .any e && Nat.beq e.on j
def dagB (N : Nat) : Nat → List Oper → List Nat → List (List Nat) → Bool
  | _,[],[],[] => true
  | i,o :: l,d :: ds,ws :: wss => dagOne N i o d ws && dagB N (i + 1) l ds wss
  | _,_,_,_ => false
def nodupB : List Nat → Bool
  | [] => true
  | d :: ds => !ds.contains d && nodupB ds
theorem nodupB_get : ∀ {ds : List Nat},nodupB ds = true → ∀ {i j d : Nat},ds[i]? = some d → ds[j]? = some d → i = j
  | [],_,i,_,_,h,_ => by simp at h
  | x :: ds,hn,i,j,d,hi,hj => by
    simp only [nodupB,Bool.and_eq_true,Bool.not_eq_true',List.contains_eq_mem,decide_eq_false_iff_not] at hn
    cases i with
    | zero =>
      cases j with
      | zero => rfl
      | succ j => simp at hi hj; subst hi; exact absurd (List.mem_of_getElem? hj) hn.1
    | succ i =>
      cases j with
      | zero => simp at hi hj; subst hj; exact absurd (List.mem_of_getElem? hi) hn.1
      | succ j => simp at hi hj; rw [nodupB_get hn.2 hi hj]
theorem dagB_get {N : Nat} : ∀ {i : Nat} {l : List Oper} {ds : List Nat} {wss : List (List Nat)},dagB N i l ds wss = true → ∀ {j : Nat} {o : Oper},l[j]? = some o → ∃ d ws,ds[j]? = some d ∧ wss[j]? = some ws ∧ dagOne N (i + j) o d ws = true
  | _,[],_,_,_,j,o,h => by simp at h
  | i,x :: l,[],_,hB,_,_,_ => by simp [dagB] at hB
  | i,x :: l,d :: ds,[],hB,_,_,_ => by simp [dagB] at hB
  | i,x :: l,d :: ds,ws :: wss,hB,j,o,h => by
    simp only [dagB,Bool.and_eq_true] at hB
    cases j with
    | zero => simp at h; subst h; exact ⟨d,ws,rfl,rfl,hB.1⟩
    | succ j =>
      simp at h
      obtain ⟨d',ws',h1,h2,h3⟩ := dagB_get hB.2 h
      exact ⟨d',ws',by simpa using h1,by simpa using h2,by rw [show i + (j + 1) = i + 1 + j from by omega]; exact h3⟩
theorem dagB_len {N : Nat} : ∀ {i : Nat} {l : List Oper} {ds : List Nat} {wss : List (List Nat)},dagB N i l ds wss = true → ds.length = l.length
  | _,[],[],[],_ => rfl
  | _,[],[],_ :: _,hB => by simp [dagB] at hB
  | _,[],_ :: _,_,hB => by simp [dagB] at hB
  | i,x :: l,[],_,hB => by simp [dagB] at hB
  | i,x :: l,d :: ds,[],hB => by simp [dagB] at hB
  | i,x :: l,d :: ds,ws :: wss,hB => by
    simp only [dagB,Bool.and_eq_true] at hB
    simp [dagB_len hB.2]
def DagStep (P : Program) (N : Nat) (ds : List Nat) (Fs : List Fact) (σ : Env) (w : World) (o : Oper) (ws : List Nat) (F : Fact) : Prop :=
 ∀ σ' w',Ext w w' → (∀ t,ds.contains t = false → σ' t = σ t) → (∀ j,ws.contains j = true → Holds ds Fs j σ' w') → (Guarded ds o σ' ∧ Does P N o F.In σ' w') ∨ (Unmet ds o σ' ∧ F.In undef w')
inductive DagSteps (P : Program) (N : Nat) (ds : List Nat) (Fs : List Fact) (σ : Env) (w : World) : List Oper → List (List Nat) → List Fact → Prop where
  | nil : DagSteps P N ds Fs σ w [] [] []
  | cons {o : Oper} {ws : List Nat} {F : Fact} {l : List Oper} {wss : List (List Nat)} {Gs : List Fact} : DagStep P N ds Fs σ w o ws F → DagSteps P N ds Fs σ w l wss Gs → DagSteps P N ds Fs σ w (o :: l) (ws :: wss) (F :: Gs)
theorem DagSteps.get {P : Program} {N : Nat} {ds : List Nat} {Fs : List Fact} {σ : Env} {w : World} : ∀ {l : List Oper} {wss : List (List Nat)} {Gs : List Fact},DagSteps P N ds Fs σ w l wss Gs → ∀ {j : Nat} {o : Oper},l[j]? = some o → ∃ ws F,wss[j]? = some ws ∧ Gs[j]? = some F ∧ DagStep P N ds Fs σ w o ws F
  | _,_,_,.nil,j,o,h => by simp at h
  | _,_,_,.cons h1 h2,0,o,h => by simp at h; subst h; exact ⟨_,_,rfl,rfl,h1⟩
  | _,_,_,.cons h1 h2,j + 1,o,h => by
    obtain ⟨ws,F,a,b,c⟩ := h2.get (j := j) (by simpa using h)
    exact ⟨ws,F,by simpa using a,by simpa using b,c⟩
theorem Wp_dag {P : Program} {N : Nat} {Q : Post} {σ : Env} {w : World} {id : Nat} {l : List Oper} (ds : List Nat) (wss : List (List Nat)) (Fs : List Fact) {Gs : List Fact} (hG : Fs = Gs) (hm : P.follows .mixedOrders = true) (hB : dagB N 0 l ds wss = true) (hn : nodupB ds = true)
    (steps : ∀ w1,Ext w w1 → DagSteps P N ds Fs σ w1 l wss Gs)
    (k : ∀ σ' w',Ext w w' → (∀ t,ds.contains t = false → σ' t = σ t) → (∀ j,Holds ds Fs j σ' w') → Q .normal σ' w') : Wp P N (.region id l.toArray true) Q σ w := by
  intro dz a ha he
  refine wp_region_any hm ?_
  obtain ⟨w1,hw1⟩ : ∃ w1 : World,w1 = { w with drawn := w.drawn + 1 } := ⟨_,rfl⟩
  have hE1 : Ext w w1 := by rw [hw1]; exact drew_ext w
  rw [← hw1]
  have hst := steps w1 hE1
  rw [← hG] at hst
  have hlen := dagB_len hB
  have key : ∀ (fuel : Nat) (listed : Array Bool) (a : Act) (w' : World),listed.size = l.length → listed.toList.count false ≤ fuel → Ok dz N a → Ext w1 w' → (∀ t,ds.contains t = false → env a t = σ t) → (∀ j,listed.getD j false = true → Holds ds Fs j (env a) w') →
      wpAny P .any l.toArray (lift dz N Q) fuel listed a w' := by
    intro fuel
    have all : ∀ (listed : Array Bool) (a : Act) (w' : World),listed.size = l.length → Ok dz N a → Ext w1 w' → (∀ t,ds.contains t = false → env a t = σ t) → (∀ j,listed.getD j false = true → Holds ds Fs j (env a) w') → listed.toList.count false = 0 → lift dz N Q .normal a w' := by
      intro listed a w' hs ha hx hu hh hc
      refine ⟨ha,k _ _ (hE1.trans hx) hu fun j => ?_⟩
      intro d F hd hF
      have hj : j < listed.size := by have := lt_of_get hd; omega
      refine hh j ?_ d F hd hF
      rw [List.count_eq_zero] at hc
      have : listed[j] ≠ false := fun h => hc (by rw [← h]; exact Array.getElem_mem_toList hj)
      simp only [Array.getD_eq_getD_getElem?,Array.getElem?_eq_getElem hj,Option.getD_some]
      simpa using this
    induction fuel with
    | zero =>
      intro listed a w' hs hc ha hx hu hh
      have hc0 : listed.toList.count false = 0 := by omega
      refine ⟨?_,all listed a w' hs ha hx hu hh hc0⟩
      rw [List.eq_nil_iff_forall_not_mem]
      intro i hi
      obtain ⟨h1,o,h2,_⟩ := mem_ready.1 hi
      have hj : i < listed.size := by have := (Array.getElem?_eq_some_iff.1 h2).1; simp at this; omega
      simp only [Array.getD_eq_getD_getElem?,Array.getElem?_eq_getElem hj,Option.getD_some] at h1
      rw [List.count_eq_zero] at hc0
      exact hc0 (by rw [← h1]; exact Array.getElem_mem_toList hj)
    | succ fuel ih =>
      intro listed a w' hs hc ha hx hu hh
      refine ⟨fun hr => all listed a w' hs ha hx hu hh ?_,fun i hi => ?_⟩
      · -- none is ready: all are listed
        have hall : ∀ i,i < listed.size → listed.getD i true = true := by
          intro i
          induction i using Nat.strongRecOn with
          | _ i ihi =>
            intro hi
            cases hv : listed.getD i true with
            | true => rfl
            | false =>
              exfalso
              obtain ⟨o,ho⟩ := get_of_lt (l := l) (i := i) (by omega)
              obtain ⟨d,ws,_,_,h3⟩ := dagB_get hB ho
              have : i ∈ Region.ready .any l.toArray listed := by
                refine mem_ready.2 ⟨hv,o,by simpa using ho,fun e he hb => ?_⟩
                simp only [dagOne,Bool.and_eq_true,Array.all_eq_true_iff_forall_mem,Bool.or_eq_true,Bool.not_eq_true',Nat.zero_add] at h3
                have := (h3.1.2 e he).resolve_left (by simp [hb])
                have hlt : e.on < i := by simpa [Nat.blt_eq] using this
                have h4 := ihi e.on hlt (by omega)
                have hj : e.on < listed.size := by omega
                simpa only [Array.getD_eq_getD_getElem?,Array.getElem?_eq_getElem hj,Option.getD_some] using h4
              rw [hr] at this
              cases this
        rw [List.count_eq_zero]
        intro hmem
        obtain ⟨i,hi,he⟩ := List.getElem_of_mem hmem
        have hj : i < listed.size := by simpa using hi
        have := hall i hj
        simp only [Array.getD_eq_getD_getElem?,Array.getElem?_eq_getElem hj,Option.getD_some] at this
        simp at he
        rw [this] at he
        cases he
      · obtain ⟨h1,o,h2,h3⟩ := mem_ready.1 hi
        have ho : l[i]? = some o := by simpa using h2
        have hil : i < l.length := lt_of_get ho
        obtain ⟨d,ws,hd,hws,h4⟩ := dagB_get hB ho
        obtain ⟨ws',F,hws',hF,hstep⟩ := hst.get ho
        rw [hws] at hws'
        cases hws'
        simp only [dagOne,Bool.and_eq_true,List.all_eq_true,Array.any_eq_true',Array.all_eq_true_iff_forall_mem,Bool.or_eq_true,Bool.not_eq_true',Nat.zero_add] at h4
        obtain ⟨⟨⟨hdst,hdN⟩,_⟩,hwait⟩ := h4
        have hdst : o.dst = some d := by
          split at hdst
          · rename_i d' h; rw [h,Nat.eq_of_beq_eq_true hdst]
          · cases hdst
        have hdN : d < N := by simpa [Nat.blt_eq] using hdN
        have hH : ∀ j,ws.contains j = true → Holds ds Fs j (env a) w' := by
          intro j hj
          have hj' : j ∈ ws := by simpa using hj
          obtain ⟨e,he,hb⟩ := hwait j hj'
          obtain ⟨hb1,hb2⟩ := hb
          have : e.on = j := Nat.eq_of_beq_eq_true hb2
          exact hh j (this ▸ h3 e he hb1)
        have cont : ∀ v w2,Ext w' w2 → F.In v w2 → wpAny P .any l.toArray (lift dz N Q) fuel (listed.setIfInBounds i true) (a.put o.dst v) w2 := by
          intro v w2 hx2 hv
          have henv : env (a.put o.dst v) = upd (env a) d v := by rw [hdst]; exact env_put ha hdN v
          refine ih _ _ _ (by simpa using hs) ?_ (ha.put _ _) (hx.trans hx2) ?_ ?_
          · have hi' : i < listed.toList.length := by simp; omega
            have hl : listed.toList[i] = false := by
              have hj : i < listed.size := by omega
              simp only [Array.getD_eq_getD_getElem?,Array.getElem?_eq_getElem hj,Option.getD_some] at h1
              simpa using h1
            rw [Array.toList_setIfInBounds,List.count_set hi',hl,if_pos (by rfl),if_neg (by decide)]
            omega
          · intro t ht
            rw [henv,← hu t ht]
            simp only [upd]
            cases hb : Nat.beq t d
            · rfl
            · exfalso
              have : t = d := Nat.eq_of_beq_eq_true hb
              subst this
              have := List.mem_of_getElem? hd
              simp [this] at ht
          · intro j hj d' F' hd' hF'
            rw [henv]
            by_cases hij : j = i
            · subst hij
              rw [hd] at hd'; cases hd'
              rw [hF] at hF'; cases hF'
              simp only [upd,Nat.beq_refl,cond_true]
              exact hv
            · have hne : Nat.beq d' d = false := by
                cases hb : Nat.beq d' d
                · rfl
                · exfalso
                  have : d' = d := Nat.eq_of_beq_eq_true hb
                  subst this
                  exact hij (nodupB_get hn hd' hd)
              simp only [upd,hne,cond_false]
              rw [getD_set_ne _ (Ne.symm hij)] at hj
              exact Fact.ext (hh j hj d' F' hd' hF') hx2
        rcases hstep (env a) w' hx hu hH with ⟨hg,hdo⟩ | ⟨⟨j,b,dj,hgd,hdj,hvj⟩,hund⟩
        · have hw : Region.wanted o (yielded l.toArray a.tmps) = true := by
            cases hgd : o.guard with
            | none => simp [Region.wanted,hgd]
            | some p =>
              obtain ⟨j,b⟩ := p
              obtain ⟨dj,hdj,hvj⟩ := hg j b hgd
              obtain ⟨oj,hoj⟩ := get_of_lt (l := l) (i := j) (by have := lt_of_get hdj; omega)
              obtain ⟨dj',_,hdj',_,h5⟩ := dagB_get hB hoj
              rw [hdj] at hdj'
              cases hdj'
              simp only [dagOne,Bool.and_eq_true] at h5
              obtain ⟨⟨⟨hdst2,hdN2⟩,_⟩,_⟩ := h5
              have hdst2 : oj.dst = some dj := by
                split at hdst2
                · rename_i d' h; rw [h,Nat.eq_of_beq_eq_true hdst2]
                · cases hdst2
              have hdN2 : dj < N := by simpa [Nat.blt_eq] using hdN2
              have h6 : a.tmps[dj]? = some (Value.bool b) := by
                have h2 : a.tmps.getD dj undef = .bool b := hvj
                have hlt : dj < a.tmps.size := by rw [ha.size]; exact hdN2
                rw [Array.getElem?_eq_getElem hlt]
                simpa [hlt] using h2
              simp [Region.wanted,hgd,yielded,hoj,hdst2,h6]
          unfold wpOp
          simp only [h2,hw,if_true]
          exact Or.inl (hdo _ a ha rfl _ _ cont)
        · have hw : Region.wanted o (yielded l.toArray a.tmps) = false := by
            obtain ⟨oj,hoj⟩ := get_of_lt (l := l) (i := j) (by have := lt_of_get hdj; omega)
            obtain ⟨dj',_,hdj',_,h5⟩ := dagB_get hB hoj
            rw [hdj] at hdj'
            cases hdj'
            simp only [dagOne,Bool.and_eq_true] at h5
            obtain ⟨⟨⟨hdst2,hdN2⟩,_⟩,_⟩ := h5
            have hdst2 : oj.dst = some dj := by
              split at hdst2
              · rename_i d' h; rw [h,Nat.eq_of_beq_eq_true hdst2]
              · cases hdst2
            have hdN2 : dj < N := by simpa [Nat.blt_eq] using hdN2
            have hlt : dj < a.tmps.size := by rw [ha.size]; exact hdN2
            have h6 : a.tmps[dj]? = some (env a dj) := by
              rw [Array.getElem?_eq_getElem hlt]
              simp [env,hlt]
            rcases hvj with hvj | hvj
            · rw [hvj] at h6
              cases b <;> simp [Region.wanted,hgd,yielded,hoj,hdst2,h6]
            · rw [hvj] at h6
              simp [Region.wanted,hgd,yielded,hoj,hdst2,h6,undef]
          unfold wpOp
          simp only [h2,hw,Bool.false_eq_true,if_false]
          exact cont undef w' (Ext.refl _) hund
  refine key _ _ _ _ (by simp) (by simp) ha (Ext.refl _) (fun t _ => by rw [he]) ?_
  intro j hj
  exfalso
  simp only [Array.getD_eq_getD_getElem?,Array.getElem?_replicate] at hj
  split at hj <;> simp at hj
theorem lst1 {x a : Value} (h : x = a) : [x] = [a] := by rw [h]
theorem lst2 {x y a b : Value} (h : x = a) (h' : y = b) : [x,y] = [a,b] := by rw [h,h']
theorem lst4 {x y z u a b c d : Value} (h : x = a) (h' : y = b) (h'' : z = c) (h3 : u = d) : [x,y,z,u] = [a,b,c,d] := by rw [h,h',h'',h3]
section
variable {P : Program} {N : Nat} {σ : Env} {w : World} {dst : Option Tmp} {ty : TypeId} {pos : String} {af : Array Edge} {g : Option (Nat × Bool)} {t : TypeId} {x y : Operand}
theorem run_buildSlice {e : TypeId} {len n : Nat} {z : Value} {parts : List (Nat × Operand)} {ps : List (Nat × Value)} {c : Array Value} (hp : (parts.map fun (i,x) => (i,ev σ x)) = ps) (hu : P.underlying t = some (.slice e)) (hs : Siz P e n) (hz : Zer P e z) (hl : ¬ (len * n > 2 ^ 24)) (h0 : len * n ≠ 0)
  (hc : Instr.fill (fun i => some (i * n,n)) ((Array.range (len * n)).map (z.cells[· % z.cells.size]!)) ps = some c) :
  (execOp (ev σ) ⟨dst,.buildSlice t len parts.toArray,ty,pos,af,g⟩).run P w = .ok (.value (.slice (some ⟨w.heap.size,0,none⟩) len len)) { w with heap := w.heap.push (.cells c e (0,0)) } := by
 subst hp
 simp only [execOp,Instr.buildSlice,List.map_toArray,Sem.run_bind,run_underlying hu,Result.andThen_ok,hs.run,hl,h0,if_false,Sem.run_pure,hz.run,hc]
 simp [newRow]
end
theorem Does_callV {P : Program} {N : Nat} {R : Fct} {σ : Env} {w : World} {dst : Option Tmp} {z : Operand} {args : List Operand} {tys : Array TypeId} {ty : TypeId} {pos : String} {af : Array Edge} {g : Option (Nat × Bool)} {fv : Value} {vs : List Value}
  (hz : ev σ z = fv) (ha : args.map (ev σ) = vs) (hc : CallV P fv vs.toArray w fun v w' => R v w' ∧ Ext w w') : Does P N ⟨dst,.call ⟨.value z,args.toArray,tys⟩,ty,pos,af,g⟩ R σ w := by
 obtain ⟨f,fn,first,cap,rfl,hf,hn,hb,hr⟩ := hc
 exact Does_enter (r_callV hz hf hn hb ha rfl) hr
inductive FactT (M : Nat → Prop) where
  | eq (v : Value)
  | gen (F : Fct) (h : ∀ v w w',Chg M w w' → F v w → F v w')
  | own (F : Fct) (h : ∀ v w w',Ext w w' → F v w → F v w')
  | till (F : Fct) (h : ∀ v w w',Ext w w' → F v w → F v w')
def FactT.In {M : Nat → Prop} : FactT M → Fct
  | .eq u,v,_ => v = u
  | .gen F _,v,w => F v w
  | .own F _,v,w => F v w
  | .till F _,v,w => F v w
/-- What a fact says, ahead of the operation that changes memory and behind it. -/
def FactT.At {M : Nat → Prop} (done : Bool) : FactT M → Fct
  | .till F _,v,w => done = false → F v w
  | F,v,w => F.In v w
theorem FactT.at_in {M : Nat → Prop} {F : FactT M} {v : Value} {w : World} (h : F.In v w) (done : Bool) : F.At done v w := by
 cases F <;> first | exact h | exact fun _ => h
theorem FactT.at_false {M : Nat → Prop} {F : FactT M} {v : Value} {w : World} (h : F.At false v w) : F.In v w := by
 cases F <;> first | exact h | exact h rfl
def FactT.isOwn {M : Nat → Prop} : FactT M → Bool
  | .own _ _ => true
  | _ => false
theorem FactT.chg {M : Nat → Prop} {F : FactT M} {v : Value} {w w' : World} {done : Bool} (h : F.At done v w) (e : Chg M w w') (ho : F.isOwn = false) : F.At true v w' := by
  cases F with
  | eq u => exact h
  | gen F hF => exact hF _ _ _ e h
  | own F hF => cases ho
  | till F hF => intro hd; cases hd
theorem FactT.ext {M : Nat → Prop} {F : FactT M} {v : Value} {w w' : World} {done : Bool} (h : F.At done v w) (e : Ext w w') : F.At done v w' := by
  cases F with
  | eq u => exact h
  | gen F hF => exact hF _ _ _ (Ext.chg e) h
  | own F hF => exact hF _ _ _ e h
  | till F hF => exact fun hd => hF _ _ _ e (h hd)
/-- Only the fact at one place is of the kind that holds behind that operation alone. -/
def ownB {M : Nat → Prop} (c : Nat) : Nat → List (FactT M) → Bool
  | _,[] => true
  | i,F :: l => (!F.isOwn || Nat.beq i c) && ownB c (i + 1) l
theorem ownB_get {M : Nat → Prop} {c : Nat} : ∀ {i : Nat} {l : List (FactT M)},ownB c i l = true → ∀ {j : Nat} {F : FactT M},l[j]? = some F → i + j ≠ c → F.isOwn = false
  | _,[],_,_,_,h,_ => by simp at h
  | i,G :: l,hB,0,F,h,hne => by
    simp at h; subst h
    simp only [ownB,Bool.and_eq_true,Bool.or_eq_true,Bool.not_eq_true'] at hB
    rcases hB.1 with h | h
    · exact h
    · exact absurd (Nat.eq_of_beq_eq_true h) hne
  | i,G :: l,hB,j + 1,F,h,hne => by
    simp only [ownB,Bool.and_eq_true] at hB
    simp at h
    exact ownB_get hB.2 h (by omega)
def DoesT (M : Nat → Prop) (P : Program) (N : Nat) (o : Oper) (R : Fct) (σ : Env) (w : World) : Prop :=
 ∀ dz a,Ok dz N a → env a = σ → ∀ (Q : Exit → Act → World → Prop) (K : Act → World → Prop),(∀ v w',Chg M w w' → R v w' → K (a.put o.dst v) w') → o.wp P a w K Q
def HoldsT {M : Nat → Prop} (ds : List Nat) (Fs : List (FactT M)) (done : Bool) (j : Nat) (σ : Env) (w : World) : Prop := ∀ d F,ds[j]? = some d → Fs[j]? = some F → F.At done (σ d) w
section
variable {M : Nat → Prop} {P : Program} {N : Nat} {o : Oper} {R : Fct} {σ : Env} {w : World}
theorem DoesT_val {v : Value} {w' : World} (hr : (execOp (ev σ) o).run P w = .ok (.value v) w') (hx : Chg M w w') (h : R v w') : DoesT M P N o R σ w := by
 intro dz a ha he Q K hK
 unfold Oper.wp
 rw [eval_env,he,hr]
 simp only [Oper.upon]
 exact hK _ _ hx h
theorem DoesT_enter {f : FuncId} {args : Array Value} (hr : (execOp (ev σ) o).run P w = .ok (.enter f args) w) (hc : Ret P f args w fun v w' => R v w' ∧ Chg M w w') : DoesT M P N o R σ w := by
 intro dz a ha he Q K hK
 unfold Oper.wp
 rw [eval_env,he,hr]
 simp only [Oper.upon]
 refine Calls.mono hc ?_
 rintro e w' ⟨v,rfl,r,x⟩
 exact hK _ _ x r
end
def dagOneT (N i : Nat) (o : Oper) (d : Nat) (ws : List Nat) : Bool :=
 (match o.dst with | some d' => Nat.beq d' d && Nat.blt d N | none => Nat.ble N d) && (o.after.all fun e => !Region.binds .any e || Nat.blt e.on i) && (ws.all fun j => o.after.any fun e => Region.binds .any e && Nat.beq e.on j) && o.guard.isNone
def dagBT (N : Nat) : Nat → List Oper → List Nat → List (List Nat) → Bool
  | _,[],[],[] => true
  | i,o :: l,d :: ds,ws :: wss => dagOneT N i o d ws && dagBT N (i + 1) l ds wss
  | _,_,_,_ => false
theorem dagBT_get {N : Nat} : ∀ {i : Nat} {l : List Oper} {ds : List Nat} {wss : List (List Nat)},dagBT N i l ds wss = true → ∀ {j : Nat} {o : Oper},l[j]? = some o → ∃ d ws,ds[j]? = some d ∧ wss[j]? = some ws ∧ dagOneT N (i + j) o d ws = true
  | _,[],_,_,_,j,o,h => by simp at h
  | i,x :: l,[],_,hB,_,_,_ => by simp [dagBT] at hB
  | i,x :: l,d :: ds,[],hB,_,_,_ => by simp [dagBT] at hB
  | i,x :: l,d :: ds,ws :: wss,hB,j,o,h => by
    simp only [dagBT,Bool.and_eq_true] at hB
    cases j with
    | zero => simp at h; subst h; exact ⟨d,ws,rfl,rfl,hB.1⟩
    | succ j =>
      simp at h
      obtain ⟨d',ws',h1,h2,h3⟩ := dagBT_get hB.2 h
      exact ⟨d',ws',by simpa using h1,by simpa using h2,by rw [show i + (j + 1) = i + 1 + j from by omega]; exact h3⟩
theorem dagBT_len {N : Nat} : ∀ {i : Nat} {l : List Oper} {ds : List Nat} {wss : List (List Nat)},dagBT N i l ds wss = true → ds.length = l.length
  | _,[],[],[],_ => rfl
  | _,[],[],_ :: _,hB => by simp [dagBT] at hB
  | _,[],_ :: _,_,hB => by simp [dagBT] at hB
  | i,x :: l,[],_,hB => by simp [dagBT] at hB
  | i,x :: l,d :: ds,[],hB => by simp [dagBT] at hB
  | i,x :: l,d :: ds,ws :: wss,hB => by
    simp only [dagBT,Bool.and_eq_true] at hB
    simp [dagBT_len hB.2]
/-- The operations that are sure to come ahead of the one that changes memory, and that one. -/
def calmB (c : Nat) (wss : List (List Nat)) (i : Nat) : Bool := Nat.beq i c || (wss.getD c []).contains i
def valOf (o : Oper) (v : Value) : Value := match o.dst with
  | some _ => v
  | none => undef
def DagStepT {M : Nat → Prop} (P : Program) (N : Nat) (ds : List Nat) (Fs : List (FactT M)) (σ : Env) (w : World) (own calm : Bool) (o : Oper) (ws : List Nat) (F : FactT M) : Prop :=
 ∀ σ' w',Chg (bif calm then none1 else M) w w' → (∀ t,ds.contains t = false → σ' t = σ t) → (∀ j,ws.contains j = true → HoldsT ds Fs (!calm) j σ' w') → DoesT (bif own then M else none1) P N o (fun v w => F.In (Go.Eng.valOf o v) w) σ' w'
inductive DagStepsT {M : Nat → Prop} (P : Program) (N : Nat) (ds : List Nat) (Fs : List (FactT M)) (σ : Env) (w : World) (c : Nat) (all : List (List Nat)) : Nat → List Oper → List (List Nat) → List (FactT M) → Prop where
  | nil {i : Nat} : DagStepsT P N ds Fs σ w c all i [] [] []
  | cons {i : Nat} {o : Oper} {ws : List Nat} {F : FactT M} {l : List Oper} {wss : List (List Nat)} {Gs : List (FactT M)} : DagStepT P N ds Fs σ w (Nat.beq i c) (calmB c all i) o ws F → DagStepsT P N ds Fs σ w c all (i + 1) l wss Gs → DagStepsT P N ds Fs σ w c all i (o :: l) (ws :: wss) (F :: Gs)
theorem DagStepsT.get {M : Nat → Prop} {P : Program} {N : Nat} {ds : List Nat} {Fs : List (FactT M)} {σ : Env} {w : World} {c : Nat} {all : List (List Nat)} : ∀ {i : Nat} {l : List Oper} {wss : List (List Nat)} {Gs : List (FactT M)},DagStepsT P N ds Fs σ w c all i l wss Gs → ∀ {j : Nat} {o : Oper},l[j]? = some o → ∃ ws F,wss[j]? = some ws ∧ Gs[j]? = some F ∧ DagStepT P N ds Fs σ w (Nat.beq (i + j) c) (calmB c all (i + j)) o ws F
  | _,_,_,_,.nil,j,o,h => by simp at h
  | _,_,_,_,.cons h1 h2,0,o,h => by simp at h; subst h; exact ⟨_,_,rfl,rfl,h1⟩
  | i,_,_,_,.cons h1 h2,j + 1,o,h => by
    obtain ⟨ws,F,a,b,c⟩ := h2.get (j := j) (by simpa using h)
    exact ⟨ws,F,by simpa using a,by simpa using b,by rw [show i + (j + 1) = i + 1 + j from by omega]; exact c⟩
def headDone (n m : Nat) : Array Bool := (List.replicate n true ++ List.replicate (m - n) false).toArray
theorem count_take_set {l : List Bool} {n i : Nat} (hi : i < n) (hl : n ≤ l.length) (hf : l[i]? = some false) : ((l.set i true).take n).count false + 1 = (l.take n).count false := by
 have hi' : i < (l.take n).length := by simp; omega
 rw [List.take_set,List.count_set hi']
 have : (l.take n)[i] = false := by
  have h2 : (l.take n)[i]? = some false := by rw [List.getElem?_take_of_lt hi]; exact hf
  rw [List.getElem?_eq_getElem hi'] at h2; simpa using h2
 rw [this,if_pos (by rfl),if_neg (by decide)]
 have : 0 < (l.take n).count false := by
  rw [List.count_pos_iff]
  rw [← this]; exact List.getElem_mem hi'
 omega
theorem head_all {l : List Bool} {n : Nat} (hl : n ≤ l.length) (h0 : (l.take n).count false = 0) (ht : ∀ t,n ≤ t → t < l.length → l[t]? = some false) : l = List.replicate n true ++ List.replicate (l.length - n) false := by
  apply List.ext_getElem?
  intro i
  rcases Nat.lt_or_ge i n with h | h
  · rw [List.getElem?_append_left (by simpa using h),List.getElem?_replicate,if_pos h]
    have hi : i < l.length := by omega
    rw [List.getElem?_eq_getElem hi]
    cases hv : l[i] with
    | true => rfl
    | false =>
      exfalso
      rw [List.count_eq_zero] at h0
      apply h0
      have : (l.take n)[i]? = some false := by rw [List.getElem?_take_of_lt h,List.getElem?_eq_getElem hi,hv]
      exact List.mem_of_getElem? this
  · rw [List.getElem?_append_right (by simpa using h),List.getElem?_replicate,List.length_replicate]
    rcases Nat.lt_or_ge i l.length with h2 | h2
    · rw [if_pos (by omega),ht i h h2]
    · rw [if_neg (by omega),List.getElem?_eq_none h2]
theorem Wp_dagT {P : Program} {N : Nat} {Q : Post} {σ : Env} {w : World} {id : Nat} {l : List Oper} (M : Nat → Prop) (n c : Nat) (ds : List Nat) (wss : List (List Nat)) (Fs : List (FactT M)) {Gs : List (FactT M)} (hG : Fs = Gs) (hO : ownB c 0 Gs = true) (hm : P.follows .mixedOrders = true) (hB : dagBT N 0 (l.take n) ds wss = true) (hn : nodupB ds = true)
    (hT : (decide (n < l.length) && Region.sinkB .any l.toArray n && Region.chainB .any l.toArray n && Region.seqB .any l.toArray (l.length - n) n (headDone n l.length)) = true)
    (steps : ∀ w1,Ext w w1 → DagStepsT P N ds Fs σ w1 c wss 0 (l.take n) wss Gs)
    (k : ∀ σ' w1 w',Ext w w1 → Chg M w1 w' → (∀ t,ds.contains t = false → σ' t = σ t) → (∀ j,HoldsT ds Fs true j σ' w') → WpL P N l.toArray (Q .normal) Q (l.drop n) σ' w') : Wp P N (.region id l.toArray true) Q σ w := by
  intro dz a ha he
  have eQ : lift dz N (thn (Q .normal) Q) = lift dz N Q := by funext e a w; cases e <;> rfl
  refine wp_region_any hm ?_
  obtain ⟨w1,hw1⟩ : ∃ w1 : World,w1 = { w with drawn := w.drawn + 1 } := ⟨_,rfl⟩
  have hE1 : Ext w w1 := by rw [hw1]; exact drew_ext w
  rw [← hw1]
  have hst := steps w1 hE1
  rw [← hG] at hst
  simp only [Bool.and_eq_true,decide_eq_true_eq] at hT
  obtain ⟨⟨⟨hnl,hs⟩,hc⟩,hseq⟩ := hT
  have toM : ∀ {q : Bool} {u u' : World},Chg (bif q then M else none1) u u' → Chg M u u' := fun {q u u'} h => by cases q with | true => exact h | false => exact Ext.chg h
  have hlen : ds.length = n := by rw [dagBT_len hB]; simp; omega
  have key : ∀ (m : Nat) (listed : Array Bool) (a : Act) (w' : World),(listed.toList.take n).count false = m → HeadInv .any l.toArray n listed → Ok dz N a → Chg (bif listed.getD c false then M else none1) w1 w' → (∀ t,ds.contains t = false → env a t = σ t) → (∀ j,listed.getD j false = true → HoldsT ds Fs (listed.getD c false) j (env a) w') →
      wpAny P .any l.toArray (lift dz N Q) (m + (l.length - n)) listed a w' := by
    intro m
    induction m with
    | zero =>
      intro listed a w' hc0 inv ha hx hu hh
      have hsz : listed.size = l.length := by simpa using inv.size
      have hl : listed = headDone n l.length := by
        apply Array.ext'
        rw [headDone]
        have := head_all (l := listed.toList) (n := n) (by simp; omega) hc0 (by
          intro t h1 h2
          have h2' : t < listed.size := by simpa using h2
          have := inv.tail t h1 (by simpa [hsz] using h2')
          simp only [Array.getD_eq_getD_getElem?,Array.getElem?_eq_getElem h2',Option.getD_some] at this
          simp [h2',this])
        rw [this]; simp [hsz]
      rw [Nat.zero_add]
      have h1 := k (env a) w1 w' hE1 (toM hx) hu (fun j d F hd hF => by
        have hj : j < n := by have := lt_of_get hd; omega
        have h2 := hh j (by
          rw [hl,headDone]
          simp [Array.getD_eq_getD_getElem?,List.getElem?_append_left,hj]) d F hd hF
        cases F with
        | till F hF => intro hd; cases hd
        | eq u => exact h2
        | gen F hF => exact h2
        | own F hF => exact h2) dz a ha rfl
      rw [eQ] at h1
      have := wpAny_of_seq (P := P) (md := .any) (ops := l.toArray) (Q' := lift dz N Q) (l.drop n) n listed a w' (fun j => by simp [List.getElem?_drop]) (by rw [List.length_drop,hl]; exact hseq) h1
      rwa [List.length_drop] at this
    | succ m ih =>
      intro listed a w' hcm inv ha hx hu hh
      have hsz : listed.size = l.length := by simpa using inv.size
      obtain ⟨i0,hi0n,hi0⟩ : ∃ i,i < n ∧ listed.getD i true = false := by
        have : 0 < (listed.toList.take n).count false := by omega
        rw [List.count_pos_iff] at this
        obtain ⟨i,hi,he⟩ := List.getElem_of_mem this
        have hin : i < n := by simp at hi; omega
        refine ⟨i,hin,?_⟩
        have hil : i < listed.size := by simp at hi; omega
        simp only [Array.getD_eq_getD_getElem?,Array.getElem?_eq_getElem hil,Option.getD_some]
        simpa using he
      rw [show m + 1 + (l.length - n) = (m + (l.length - n)) + 1 by omega]
      refine ⟨fun hr => ?_,fun i hi => ?_⟩
      · exfalso
        have hall : ∀ i,i < n → listed.getD i true = true := by
          intro i
          induction i using Nat.strongRecOn with
          | _ i ihi =>
            intro hi
            cases hv : listed.getD i true with
            | true => rfl
            | false =>
              exfalso
              obtain ⟨o,ho⟩ := get_of_lt (l := l) (i := i) (by omega)
              have ho' : (l.take n)[i]? = some o := by rw [List.getElem?_take_of_lt hi]; exact ho
              obtain ⟨d,ws,_,_,h3⟩ := dagBT_get hB ho'
              have : i ∈ Region.ready .any l.toArray listed := by
                refine mem_ready.2 ⟨hv,o,by simpa using ho,fun e he hb => ?_⟩
                simp only [dagOneT,Bool.and_eq_true,Array.all_eq_true_iff_forall_mem,Bool.or_eq_true,Bool.not_eq_true',Nat.zero_add] at h3
                have := (h3.1.1.2 e he).resolve_left (by simp [hb])
                have hlt : e.on < i := by simpa [Nat.blt_eq] using this
                have h4 := ihi e.on hlt (by omega)
                have hj : e.on < listed.size := by omega
                simpa only [Array.getD_eq_getD_getElem?,Array.getElem?_eq_getElem hj,Option.getD_some] using h4
              rw [hr] at this
              cases this
        rw [hall i0 hi0n] at hi0
        cases hi0
      · have hin : i < n := by
          rcases Nat.lt_or_ge i n with h | h
          · exact h
          · exact absurd hi (tail_waits hs hc (by simpa using hnl) inv _ i0 rfl hi0n hi0 i h)
        obtain ⟨h1,o,h2,h3⟩ := mem_ready.1 hi
        have hil : i < listed.size := by omega
        have ho : l[i]? = some o := by simpa using h2
        have ho' : (l.take n)[i]? = some o := by rw [List.getElem?_take_of_lt hin]; exact ho
        obtain ⟨d,ws,hd,hws,h4⟩ := dagBT_get hB ho'
        obtain ⟨ws',F,hws',hF,hstep⟩ := hst.get ho'
        rw [hws] at hws'
        cases hws'
        simp only [Nat.zero_add] at hstep
        simp only [dagOneT,Bool.and_eq_true,List.all_eq_true,Array.any_eq_true',Array.all_eq_true_iff_forall_mem,Bool.or_eq_true,Bool.not_eq_true',Nat.zero_add] at h4
        obtain ⟨⟨⟨hdst,_⟩,hwait⟩,hgd⟩ := h4
        have hgd : o.guard = none := by simpa using hgd
        -- what is sure to come ahead of the change
        have hcalm : calmB c wss i = true → listed.getD c false = false := by
          intro hcb
          simp only [calmB,Bool.or_eq_true] at hcb
          rcases hcb with hcb | hcb
          · have : i = c := Nat.eq_of_beq_eq_true hcb
            subst this; exact getD_both h1
          · cases hlc : listed.getD c false with
            | false => rfl
            | true =>
              exfalso
              have hcn : c < n := by
                rcases Nat.lt_or_ge c n with h | h
                · exact h
                · rcases Nat.lt_or_ge c l.length with h' | h'
                  · have := getD_both (inv.tail c h (by simpa using h')); rw [this] at hlc; cases hlc
                  · simp [Array.getElem?_eq_none (show listed.size ≤ c by omega)] at hlc
              obtain ⟨oc,hoc⟩ := get_of_lt (l := l) (i := c) (by omega)
              have hoc' : (l.take n)[c]? = some oc := by rw [List.getElem?_take_of_lt hcn]; exact hoc
              obtain ⟨dc,wsc,_,hwsc,h5⟩ := dagBT_get hB hoc'
              have hgc : wss.getD c [] = wsc := by simp [hwsc]
              rw [hgc] at hcb
              simp only [dagOneT,Bool.and_eq_true,List.all_eq_true,Array.any_eq_true',Nat.zero_add] at h5
              obtain ⟨e,he,hb1,hb2⟩ := h5.1.2 i (by simpa using hcb)
              have hei : e.on = i := Nat.eq_of_beq_eq_true hb2
              have := inv.closed c oc (by simpa using hoc) hlc e he hb1
              rw [hei,getD_both h1] at this
              cases this
        have hH : ∀ j,ws.contains j = true → HoldsT ds Fs (!calmB c wss i) j (env a) w' := by
          intro j hj d' F' hd' hF'
          have hj' : j ∈ ws := by simpa using hj
          obtain ⟨e,he,hb⟩ := hwait j hj'
          obtain ⟨hb1,hb2⟩ := hb
          have : e.on = j := Nat.eq_of_beq_eq_true hb2
          have h5 := hh j (this ▸ h3 e he hb1) d' F' hd' hF'
          cases hcb : calmB c wss i with
          | true => rw [hcalm hcb] at h5; exact h5
          | false =>
            cases F' with
            | till F hF => intro hd; cases hd
            | eq u => exact h5
            | gen F hF => exact h5
            | own F hF => exact h5
        have hstep2 : (∀ w2,Chg (bif Nat.beq i c then M else none1) w' w2 → Chg (bif (listed.setIfInBounds i true).getD c false then M else none1) w1 w2) := by
          intro w2 hx2
          by_cases hic : i = c
          · subst hic
            rw [Nat.beq_refl] at hx2
            have hg : (listed.setIfInBounds i true).getD i false = true := by simp [Array.getD_eq_getD_getElem?,hil]
            rw [hg]
            exact (toM hx).trans hx2
          · have hb : Nat.beq i c = false := by cases hb : Nat.beq i c; rfl; exact absurd (Nat.eq_of_beq_eq_true hb) hic
            rw [hb] at hx2
            rw [getD_set_ne _ hic]
            exact hx.ext hx2
        have cont : ∀ v w2,Chg (bif Nat.beq i c then M else none1) w' w2 → F.In (Go.Eng.valOf o v) w2 → wpAny P .any l.toArray (lift dz N Q) (m + (l.length - n)) (listed.setIfInBounds i true) (a.put o.dst v) w2 := by
          intro v w2 hx2 hv
          have henv : (∀ t,t ≠ d → env (a.put o.dst v) t = env a t) ∧ env (a.put o.dst v) d = Go.Eng.valOf o v := by
            cases hod : o.dst with
            | none =>
              rw [hod] at hdst
              have hNd : N ≤ d := Nat.le_of_ble_eq_true hdst
              refine ⟨fun t _ => rfl,?_⟩
              simp only [Go.Eng.valOf,hod]
              show a.tmps.getD d undef = undef
              have : a.tmps.size ≤ d := by rw [ha.size]; exact hNd
              simp [Array.getElem?_eq_none this]
            | some d' =>
              rw [hod] at hdst
              simp only [Bool.and_eq_true] at hdst
              have hd1 : d' = d := Nat.eq_of_beq_eq_true hdst.1
              have hd2 : d < N := by simpa [Nat.blt_eq] using hdst.2
              subst hd1
              rw [env_put ha hd2 v]
              refine ⟨fun t ht => ?_,?_⟩
              · have : Nat.beq t d' = false := by cases hb : Nat.beq t d'; rfl; exact absurd (Nat.eq_of_beq_eq_true hb) ht
                simp [upd,this]
              · simp [upd,Go.Eng.valOf,hod]
          refine ih _ _ _ ?_ (inv.set hi hin) (ha.put _ _) (hstep2 w2 hx2) ?_ ?_
          · have hl : listed.toList[i]? = some false := by
              simp only [Array.getD_eq_getD_getElem?,Array.getElem?_eq_getElem hil,Option.getD_some] at h1
              simp [hil,h1]
            have := count_take_set (l := listed.toList) hin (by simp; omega) hl
            rw [Array.toList_setIfInBounds]
            omega
          · intro t ht
            rw [henv.1 t (fun h => by
              subst h
              have := List.mem_of_getElem? hd
              simp [this] at ht),hu t ht]
          · intro j hj d' F' hd' hF'
            by_cases hij : j = i
            · subst hij
              rw [hd] at hd'; cases hd'
              rw [hF] at hF'; cases hF'
              rw [henv.2]
              exact FactT.at_in hv _
            · have hne : d' ≠ d := by
                intro h
                subst h
                exact hij (nodupB_get hn hd' hd)
              rw [henv.1 d' hne]
              rw [getD_set_ne _ (Ne.symm hij)] at hj
              have h6 := hh j hj d' F' hd' hF'
              by_cases hic : i = c
              · have hg : (listed.setIfInBounds i true).getD c false = true := by rw [← hic]; simp [Array.getD_eq_getD_getElem?,hil]
                rw [hg]
                exact FactT.chg h6 (toM hx2) (ownB_get hO (by rw [← hG]; exact hF') (by omega))
              · have hb : Nat.beq i c = false := by
                  cases hb : Nat.beq i c
                  · rfl
                  · exact absurd (Nat.eq_of_beq_eq_true hb) hic
                rw [hb] at hx2
                rw [getD_set_ne _ hic]
                exact FactT.ext h6 hx2
        have hx0 : Chg (bif calmB c wss i then none1 else M) w1 w' := by
          cases hcb : calmB c wss i with
          | true => rw [hcalm hcb] at hx; exact hx
          | false => exact toM hx
        have hdo := hstep (env a) w' hx0 hu hH
        have hw : Region.wanted o (yielded l.toArray a.tmps) = true := by simp [Region.wanted,hgd]
        unfold wpOp
        simp only [h2,hw,if_true]
        exact Or.inl (hdo _ a ha rfl _ _ cont)
  have inv0 : HeadInv .any l.toArray n (Array.replicate l.toArray.size false) :=
    ⟨by simp,fun j oj _ hl => (by rw [getD_replicate_false] at hl; cases hl),fun t _ ht => getD_in (by simpa using ht) (getD_replicate_false _ _)⟩
  have h1 := key n (Array.replicate l.toArray.size false) a w1 (by simp; omega) inv0 ha (by rw [getD_replicate_false]; exact Chg.refl _ _) (fun t _ => by rw [he]) (fun j hj => by rw [getD_replicate_false] at hj; cases hj)
  have e3 : n + (l.length - n) = l.toArray.size := by simp; omega
  rw [e3] at h1
  exact h1
end Go.Eng
namespace Go.Proofs
open Go Go.Eng
section
variable {P : Program} {σ : Env} {w : World} {dst : Option Tmp} {ty : TypeId} {pos : String} {af : Array Edge} {g : Option (Nat × Bool)} {t t' e : TypeId} {x y : Operand}
theorem r_eqlNil {a : Option Addr} {n c n' c' : Nat} (hu : P.underlying t = some (.slice e)) (hx : ev σ x = .slice a n c) (hy : ev σ y = .slice none n' c') :
  (execOp (ev σ) ⟨dst,.binOp .eql t x y t',ty,pos,af,g⟩).run P w = .ok (.value (.bool a.isNone)) w := by
 have h : (Op.equalIn 10000 t (.slice a n c) (.slice none n' c')).run P w = .ok a.isNone w := by
  rw [Op.equalIn]
  cases a <;> simp [run_underlying hu]
 cases a <;> simp_all [execOp,eqGuard,binOp,Op.equal,Op.maxDepth]
theorem r_append0 {s : Operand} {a a' : Option Addr} {n c c' size : Nat} (hu : P.underlying t = some (.slice e)) (hs : Siz P e size) (hx : ev σ s = .slice a n c) (hn : n ≤ c) (hy : ev σ x = .slice a' 0 c') :
  (execOp (ev σ) ⟨dst,.call ⟨.builtin .append,#[s,x],#[t,t]⟩,ty,pos,af,g⟩).run P w = .ok (.value (.slice a n c)) w := by
 have hz : size * 0 = 0 := Nat.mul_zero _
 cases a <;> cases a' <;> simp [execOp,resolve,invoke,builtin,Builtin.append_,hx,hy,run_underlying hu,hs.run,Builtin.lenOf,Builtin.firstCells,loadCells,loadCellsFrom,storeCells,hn]
theorem s_build0 {N : Nat} {Q : Post} {K : Env → World → Prop} {ops : Array Oper} {rest : List Oper} {d size : Nat} (hN : d < N) (hu : P.underlying t = some (.slice e)) (hs : Siz P e size)
  (k : ∀ b w',New w w' b #[] e → WpL P N ops K Q rest (upd σ d (.slice (some ⟨b,0,none⟩) 0 0)) w') : WpL P N ops K Q (⟨some d,.buildSlice t 0 #[],ty,pos,af,none⟩ :: rest) σ w := by
 refine WpL_val (v := .slice (some ⟨w.heap.size,0,none⟩) 0 0) (w' := { w with heap := w.heap.push (.cells #[] e (0,0)) }) rfl rfl hN ?_ (k _ _ (New.mk' w #[] e))
 have h0 : Array.range 0 = #[] := rfl
 simp [execOp,Instr.buildSlice,run_underlying hu,hs.run,Instr.fill,newRow,h0]
end
theorem own_empty {w : World} {b e base size : Nat} (h : Blk w b #[] e) (hb : base ≤ b) : w.ownsRow base e size (.slice (some ⟨b,0,none⟩) 0 0) 0 [] :=
 ⟨by simp,.inr ⟨b,0,#[],rfl,hb,h,Nat.le_refl _,by simp [maxLen],by simp,by simp⟩⟩
theorem idxi_c (w0 : World) (v : Value) (x : Int) (l : List Int) (hs : IntsAt w0 v l) :
  Ret Tryz.prog 80 #[v,.int .i64 x] w0 fun r w => r = .int .i64 (idx (fun y => decide (x = y)) l) ∧ Ext w0 w := by
 obtain ⟨a,c,rfl⟩ := SlAt.form hs
 have hlen : l.length ≤ 9223372036854775807 := by simpa using SlAt.le hs
 simp only [List.length_map] at hs ⊢
 refine Ret_of Tryz.func80 rfl Tryz.ntmps80 (Nat.le_of_ble_eq_true rfl) ?_
 have E : Chg none1 w0 w0 := Chg.refl _ _
 refine Wp_seq_region ?_
 refine qA (I6 0) rfl ?_
 refine WpL_nil (Wp_seq (Wp_seq_region ?_))
 refine qM (.slice a l.length c) rfl ?_
 refine qV (r_lenSlice (ad := a) (n := l.length) (cap := c) Tryz.underlying22 rfl) ?_
 refine qM (I6 0) rfl ?_
 refine WpL_nil (Wp_block ?_)
 refine Wp_loop (fun nn_ σ W1 => ∃ (k : Nat),(∃ jj_,σ = upds jj_ [(0,(.slice a l.length c)),(1,(I6 x)),(7,(I6 (l.length : Int))),(8,(I6 (k : Int)))]) ∧ Chg none1 w0 W1 ∧ (k ≤ l.length) ∧ (∀ (i : Nat) (y : Int),i < k → l[i]? = some y → decide (x = y) = false) ∧ nn_ = l.length - k) (n := l.length - 0) ?_ ?_
 ·exact ⟨0,Fits.out ⟨rfl,rfl,rfl,rfl,trivial⟩,E,Nat.zero_le _,(fun i y h => absurd h (Nat.not_lt_zero _)),rfl⟩
 ·clear E
  rintro _ _ W1 ⟨k,⟨j1,rfl⟩,E,hk,hno,rfl⟩
  refine Wp_seq_region ?_
  refine qV (r_lss (k := .i64) (a := (k : Int)) (b := (l.length : Int)) rfl rfl) ?_
  refine WpL_nil (Wp_seq ?_)
  refine Wp_cond (b := decide (((k : Int) : Int) < (l.length : Int))) rfl (fun hlt => ?_) (fun hlt => ?_)
  ·have khlt := hlt
   replace hlt := of_decide_eq_true hlt
   obtain ⟨y,hy⟩ := get_of_lt (l := l) (i := k) (by omega)
   obtain ⟨b,o,rfl,hcells⟩ := ints_cells hs (by omega)
   refine Wp_skip (thn_normal (Wp_seq (Wp_block (Wp_seq_region ?_))))
   refine qM (I6 (k : Int)) rfl ?_
   refine qA (I6 (k : Int)) rfl ?_
   refine WpL_nil (Wp_seq_region ?_)
   refine qM (I6 x) rfl ?_
   refine qM (.slice (some ⟨b,o,none⟩) l.length c) rfl ?_
   refine qM (I6 (k : Int)) rfl ?_
   refine qV (r_indexSlice (b := b) (o := o) (len := l.length) (cap := c) (i := k) (o' := o + k) rfl rfl rfl Tryz.underlying22 siz3 (by omega) (by omega)) ?_
   refine qV (r_load (v := (I6 y)) rfl flat3 (E.cell (fun f => f) (hcells k y hy))) ?_
   refine qV (r_eql (k := .i64) (a := x) (b := y) rfl rfl) ?_
   refine WpL_nil ?_
   refine Wp_cond (b := decide ((x : Int) = y)) rfl (fun hp => ?_) (fun hp => ?_)
   ·have khp := hp
    replace hp := of_decide_eq_true hp
    refine Wp_seq_region ?_
    refine qM (I6 (k : Int)) rfl ?_
    refine qA (I6 (k : Int)) rfl ?_
    refine WpL_nil (Wp_ret (inB_ret (thn_ret (thn_ret (inB_ret (thn_ret ?_))))))
    refine fin_tmp Tryz.results80 (v := (.int .i64 ((k : Nat) : Int))) rfl ?_
    exact ⟨int_eq (idx_hit hy (by simpa using hp) hno).symm,E⟩
   ·have khp := hp
    replace hp := of_decide_eq_false hp
    refine Wp_skip (inB_normal (thn_normal (Wp_region ?_)))
    refine qV (r_add (k := .i64) (a := (k : Int)) (b := 1) (c := (k : Int) + 1) rfl rfl (wI64 (by omega))) ?_
    refine qM (I6 ((k : Int) + 1)) rfl ?_
    refine WpL_nil (thn_normal ?_)
    exact ⟨l.length - (k + 1),by omega,k + 1,Fits.out ⟨rfl,rfl,rfl,rfl,trivial⟩,E,(by omega),below_next hy (by simpa using hp) hno,rfl⟩
  ·have khlt := hlt
   replace hlt := of_decide_eq_false hlt
   have hkk : k = l.length := by omega
   refine Wp_exit (thn_exit (thn_exit (inB_here (thn_normal (Wp_seq_region ?_)))))
   refine qA (I6 (-1)) rfl ?_
   refine WpL_nil (Wp_ret ?_)
   refine fin_tmp Tryz.results80 (v := (.int .i64 (-1))) rfl ?_
   exact ⟨int_eq (idx_miss fun i y hy => hno i y (by have := lt_of_get hy; omega) hy).symm,E⟩
theorem hasi_c (w0 : World) (v : Value) (x : Int) (l : List Int) (hs : IntsAt w0 v l) :
  Ret Tryz.prog 52 #[v,.int .i64 x] w0 fun r w => r = .bool (l.contains x) ∧ Ext w0 w := by
 refine Ret_of Tryz.func52 rfl Tryz.ntmps52 (Nat.le_of_ble_eq_true rfl) ?_
 have E : Chg none1 w0 w0 := Chg.refl _ _
 refine Wp_seq_region ?_
 refine qA (.bool false) rfl ?_
 refine WpL_nil (Wp_seq_region ?_)
 refine qM v rfl ?_
 refine qM (I6 x) rfl ?_
 refine WpL_enter rfl rfl (by decide) (r_callF (vs := [v,(I6 x)]) Tryz.func80 kQ kQ rfl) (idxi_c _ v x l hs) ?_
 rintro _ w9 ⟨rfl,X9⟩
 replace E := E.ext X9
 refine qV (r_geq (k := .i64) (a := idx (fun y => decide (x = y)) l) (b := 0) rfl rfl) ?_
 refine qA (.bool (decide ((0 : Int) ≤ idx (fun y => decide (x = y)) l))) rfl ?_
 refine WpL_nil (Wp_ret ?_)
 refine fin_tmp Tryz.results52 (v := (.bool (decide ((0 : Int) ≤ idx (fun y => decide (x = y)) l)))) rfl ?_
 exact ⟨bool_eq ((idx_any _ l).trans (by rw [List.contains_eq_any_beq]; congr 1)),E⟩
theorem clonei_c (w0 : World) (v : Value) (l : List Int) (h : IntsAt w0 v l) (hl : l.length ≤ 2000000) :
  Ret Tryz.prog 27 #[v] w0 fun r w => ∃ a c,r = .slice a l.length c ∧ l.length ≤ c ∧ (l = [] ∨ ∃ b rest,a = some ⟨b,0,none⟩ ∧ w0.heap.size ≤ b ∧ Blk w b (l.map (Value.int .i64) ++ rest).toArray 3) ∧ Ext w0 w := by
 obtain ⟨a,c,rfl⟩ := SlAt.form h
 simp only [List.length_map] at h ⊢
 obtain ⟨base,hbase⟩ : ∃ base,base = w0.heap.size := ⟨_,rfl⟩
 refine Ret_of Tryz.func27 rfl Tryz.ntmps27 (Nat.le_of_ble_eq_true rfl) ?_
 have E : Chg none1 w0 w0 := Chg.refl _ _
 refine Wp_seq_region ?_
 refine qA (.slice none 0 0) rfl ?_
 refine WpL_nil (Wp_seq (Wp_seq_region ?_))
 refine qM (.slice a l.length c) rfl ?_
 refine WpL_val (v := (.bool a.isNone)) rfl rfl (by decide) (r_eqlNil Tryz.underlying22 rfl rfl) ?_
 refine WpL_nil ?_
 refine Wp_cond (b := a.isNone) rfl (fun hn => ?_) (fun hn => ?_)
 ·have khn := hn
  have hl0 : l.length = 0 := by rcases Nat.eq_zero_or_pos l.length with h0 | h0; exact h0; obtain ⟨b,o,rfl,_⟩ := ints_cells h h0; simp at hn
  have hl1 : l = [] := List.eq_nil_of_length_eq_zero hl0
  refine Wp_seq_region ?_
  refine qA (.slice none 0 0) rfl ?_
  refine WpL_nil (Wp_ret (thn_ret ?_))
  refine fin_tmp Tryz.results27 (v := (.slice none 0 0)) rfl ?_
  exact ⟨none,0,by rw [hl0],by omega,.inl hl1,E⟩
 ·have khn := hn
  rcases Bool.eq_false_or_eq_true (decide (l.length = 0)) with hz | hz
  ·have khz := hz
   replace khz := of_decide_eq_true khz
   refine Wp_skip (thn_normal (Wp_seq_region ?_))
   refine s_build0 (by decide) Tryz.underlying22 siz3 ?_
   intro bq wq Nq
   have Fq := Nq.ge E
   replace E := E.ext Nq.ext
   have Bq := Nq.blk
   refine qM (.slice a l.length c) rfl ?_
   refine qV (r_append0 Tryz.underlying22 siz3 (a' := a) (c' := c) rfl (Nat.le_refl _) (by show Value.slice a l.length c = _; rw [khz])) ?_
   refine qA (.slice (some ⟨bq,0,none⟩) 0 0) rfl ?_
   refine WpL_nil (Wp_ret ?_)
   refine fin_tmp Tryz.results27 (v := (.slice (some ⟨bq,0,none⟩) 0 0)) rfl ?_
   have hl1 : l = [] := List.eq_nil_of_length_eq_zero khz
   exact ⟨some ⟨bq,0,none⟩,0,by rw [khz],by omega,.inl hl1,E⟩
  ·have khz := hz
   replace khz := of_decide_eq_false khz
   obtain ⟨b,o,rfl,hcl⟩ := ints_cells h (by omega)
   refine Wp_skip (thn_normal (Wp_seq_region ?_))
   refine s_build0 (by decide) Tryz.underlying22 siz3 ?_
   intro bq wq Nq
   have Fq := Nq.ge E
   replace E := E.ext Nq.ext
   have Bq := Nq.blk
   refine qM (.slice (some ⟨b,o,none⟩) l.length c) rfl ?_
   have hown := own_empty (base := base) (size := 1) Bq (by omega)
   have hbs : base ≤ wq.heap.size := by have := Nq.ext.size; omega
   refine s_append (base := base) (n := 0) (m := l.length) (xs := []) (news := l.map (Value.int .i64)) (size := 1) (bytes := 8) (v := (.slice (some ⟨bq,0,none⟩) 0 0)) (by decide) Tryz.underlying22 siz3 byt3 zer3 rfl (by decide) rfl hown rfl (by simp) (fun i u hu => by rw [List.getElem?_map,Option.map_eq_some_iff] at hu; obtain ⟨x,hx,rfl⟩ := hu; exact Nq.ext.cell (hcl i x hx)) (by simp [Value.oneCell']) (by unfold maxLen; omega) (by omega) (hbs) ?_
   intro v9 w29 Ov9 Cv9 Dv9
   replace E := E.step Cv9 (fun x hx h => absurd (hown.lt x h).1 (by omega))
   obtain ⟨la,lc,rfl⟩ := own_form Ov9
   refine qA (.slice la (0 + l.length) lc) rfl ?_
   refine WpL_nil (Wp_ret ?_)
   refine fin_tmp Tryz.results27 (v := (.slice la (0 + l.length) lc)) rfl ?_
   simp only [Nat.zero_add,List.nil_append] at Ov9
   simp only [Nat.zero_add]
   rcases Ov9.2 with ⟨_,h2⟩ | ⟨g,cap,cur,h1,h2,h3,h4,h5,h6,h7⟩
   ·omega
   ·simp only [Value.slice.injEq] at h1
    obtain ⟨rfl,_,rfl⟩ := h1
    refine ⟨some ⟨g,0,none⟩,lc,rfl,h4,.inr ⟨g,cur.toList.drop (l.length * 1),rfl,by omega,?_⟩,E⟩
    have : (l.map (Value.int .i64) ++ cur.toList.drop (l.length * 1)).toArray = cur := by rw [← h7,List.take_append_drop]
    rw [this]; exact h3
theorem below_tmod (x n : Int) (hn : 0 < n) : (if x.tmod n < 0 then x.tmod n + n else x.tmod n) = x % n := by
 have h := Int.tmod_eq_emod (a := x) (b := n)
 have h1 := Int.emod_nonneg x (Int.ne_of_gt hn)
 have h2 := Int.emod_lt_of_pos x hn
 have h3 : n.natAbs = n := by omega
 split at h <;> split <;> omega
theorem below_c (x n : Int) (hn : 0 < n) (hm : n ≤ 2000) (w0 : World) :
  Ret Tryz.prog 18 #[.int .i64 x,.int .i64 n] w0 fun v w => v = .int .i64 (x % n) ∧ w = w0 := by
 have hb := below_tmod x n hn
 have h1 := Int.emod_nonneg x (Int.ne_of_gt hn)
 have h2 := Int.emod_lt_of_pos x hn
 refine Ret_of Tryz.func18 rfl Tryz.ntmps18 (Nat.le_of_ble_eq_true rfl) ?_
 have E : Chg none1 w0 w0 := Chg.refl _ _
 refine Wp_seq_region ?_
 refine qA (I6 0) rfl ?_
 refine WpL_nil (Wp_seq_region ?_)
 refine qM (I6 x) rfl ?_
 refine qM (I6 n) rfl ?_
 refine qV (r_rem (k := .i64) (a := x) (b := n) (c := x.tmod n) rfl rfl (by omega) rfl) ?_
 refine qA (I6 (x.tmod n)) rfl ?_
 refine WpL_nil (Wp_seq (Wp_seq_region ?_))
 refine qM (I6 (x.tmod n)) rfl ?_
 refine qV (r_lss (k := .i64) (a := x.tmod n) (b := 0) rfl rfl) ?_
 refine WpL_nil ?_
 refine Wp_cond (b := decide ((x.tmod n : Int) < 0)) rfl (fun h => ?_) (fun h => ?_)
 ·have kh := h
  replace h := of_decide_eq_true h
  rw [if_pos h] at hb
  refine Wp_region ?_
  refine qM (I6 (x.tmod n)) rfl ?_
  refine qM (I6 n) rfl ?_
  refine qV (r_add (k := .i64) (a := x.tmod n) (b := n) (c := (x.tmod n) + n) rfl rfl (wI64 (by omega))) ?_
  refine qA (I6 ((x.tmod n) + n)) rfl ?_
  refine WpL_nil (thn_normal (Wp_seq_region ?_))
  refine qM (I6 ((x.tmod n) + n)) rfl ?_
  refine qA (I6 ((x.tmod n) + n)) rfl ?_
  refine WpL_nil (Wp_ret ?_)
  refine fin_tmp Tryz.results18 (v := (.int .i64 ((x.tmod n) + n))) rfl ?_
  exact ⟨by rw [hb],rfl⟩
 ·have kh := h
  replace h := of_decide_eq_false h
  rw [if_neg h] at hb
  refine Wp_skip (thn_normal (Wp_seq_region ?_))
  refine qM (I6 (x.tmod n)) rfl ?_
  refine qA (I6 (x.tmod n)) rfl ?_
  refine WpL_nil (Wp_ret ?_)
  refine fin_tmp Tryz.results18 (v := (.int .i64 (x.tmod n))) rfl ?_
  exact ⟨by rw [hb],rfl⟩
def fitF (most : Int) : Int × Int → Re → Bool × (Int × Int) := fun s t =>
 let n := IntKind.i64.wrap (s.1 + 1)
 let e := if most < n then 2 else nodeE t
 (decide (e = 0),(n,e))
def fitsE (t : Re) (most : Int) : Int := (walkF (fitF most) t (0,0)).2.2
theorem fits1_c (wb w0 : World) (t : Re) (vs : List Value) (ht : ReAt wb t vs) (hE : Ext wb w0) (b1' b2' b3' : Nat) (s : Int × Int) (most : Int) (h0 : wb.heap.size ≤ b2') (h12 : b2' < b1') (h13 : b1' < b3')
  (hB1 : Blk w0 b1' #[.int .i64 s.1] 3) (hB2 : Blk w0 b2' #[.int .i64 most] 3) (hB3 : Blk w0 b3' #[.int .i64 s.2] 30) :
  Ret Tryz.prog 78 #[.agg vs.toArray,.pointer (some ⟨b1',0,none⟩),.pointer (some ⟨b2',0,none⟩),.pointer (some ⟨b3',0,none⟩)] w0
   fun v w => v = .bool (fitF most s t).1 ∧ Chg (fun x => x = b1' ∨ x = b3') w0 w ∧ Blk w b1' #[.int .i64 (fitF most s t).2.1] 3 ∧ Blk w b2' #[.int .i64 most] 3 ∧ Blk w b3' #[.int .i64 (fitF most s t).2.2] 30 := by
 have ht0 := ht
 obtain ⟨sa,sc,aa,ac,rfl,hset,hlen,hargs⟩ := ht.form
 refine Ret_of Tryz.func78 rfl Tryz.ntmps78 (Nat.le_of_ble_eq_true rfl) ?_
 have E : Chg (fun x => x = b1' ∨ x = b3') w0 w0 := Chg.refl _ _
 refine Wp_seq_region ?_
 refine s_box (v := (.agg (R6 t sa sc aa ac))) (c := (R6 t sa sc aa ac)) (by decide) rfl rfl ?_
 intro b1 w1 N1
 have F1 := N1.ge E
 have O1_b1' := N1.lt hB1
 have O1_b2' := N1.lt hB2
 have O1_b3' := N1.lt hB3
 replace hB1 := N1.keep hB1
 replace hB2 := N1.keep hB2
 replace hB3 := N1.keep hB3
 replace E := E.ext N1.ext
 have B1 := N1.blk
 refine qA (.bool false) rfl ?_
 refine WpL_nil (Wp_seq (Wp_seq_region ?_))
 refine qV (r_load (v := (I6 s.1)) rfl flat3 (hB1.cell rfl)) ?_
 refine qV (r_add (k := .i64) (a := s.1) (b := 1) (c := IntKind.i64.wrap (s.1 + 1)) rfl rfl (rfl)) ?_
 refine s_store (b := b1') (o := 0) (c' := #[(I6 (IntKind.i64.wrap (s.1 + 1)))]) (v := (I6 (IntKind.i64.wrap (s.1 + 1)))) rfl rfl rfl siz3 hB1 (by simp) rfl ?_
 intro w2 S2
 replace hB2 := S2.keep (by omega) hB2
 replace hB3 := S2.keep (by omega) hB3
 replace B1 := S2.keep (by omega) B1
 replace E := S2.step E (by first | exact Or.inl (by omega) | exact Or.inr rfl | exact Or.inr (by assumption) | exact Or.inr (by simp) | exact Or.inr (by omega) | exact Or.inr (by dsimp only; omega))
 replace hB1 := S2.blk
 refine WpL_nil (Wp_seq_region ?_)
 refine qV (r_load (v := (I6 (IntKind.i64.wrap (s.1 + 1)))) rfl flat3 (hB1.cell rfl)) ?_
 refine qV (r_load (v := (I6 most)) rfl flat3 (hB2.cell rfl)) ?_
 refine qV (r_gtr (k := .i64) (a := IntKind.i64.wrap (s.1 + 1)) (b := most) rfl rfl) ?_
 refine WpL_nil ?_
 refine Wp_cond (b := decide ((most : Int) < IntKind.i64.wrap (s.1 + 1))) rfl (fun h => ?_) (fun h => ?_)
 ·have kh := h
  replace h := of_decide_eq_true h
  refine Wp_region ?_
  refine s_store (b := b3') (o := 0) (c' := #[(I6 2)]) (v := (I6 2)) rfl rfl rfl siz30 hB3 (by simp) rfl ?_
  intro w4 S4
  replace hB1 := S4.keep (by omega) hB1
  replace hB2 := S4.keep (by omega) hB2
  replace B1 := S4.keep (by omega) B1
  replace E := S4.step E (by first | exact Or.inl (by omega) | exact Or.inr rfl | exact Or.inr (by assumption) | exact Or.inr (by simp) | exact Or.inr (by omega) | exact Or.inr (by dsimp only; omega))
  replace hB3 := S4.blk
  refine WpL_nil (thn_normal (Wp_seq_region ?_))
  refine qV (r_load (v := (I6 2)) rfl flat30 (hB3.cell rfl)) ?_
  refine qV (r_eql (k := .i64) (a := 2) (b := 0) rfl rfl) ?_
  refine qA (.bool false) rfl ?_
  refine WpL_nil (Wp_ret ?_)
  refine fin_tmp Tryz.results78 (v := (.bool false)) rfl ?_
  exact ⟨by simp [fitF,h],E,by simpa [fitF] using hB1,hB2,by simpa [fitF,h] using hB3⟩
 ·have kh := h
  replace h := of_decide_eq_false h
  refine Wp_region ?_
  refine qV (r_loadAgg (vs := [(I6 t.kind),(.slice sa t.set.length sc),(.slice aa t.args.length ac),(I6 t.mn),(I6 t.mx),(.bool t.neg)]) rfl agg27 siz27 rfl (B1.cells rfl)) ?_
  refine WpL_enter rfl rfl (by decide) (r_callF (vs := [(.agg (R6 t sa sc aa ac))]) Tryz.func79 kQ kQ rfl) (node_c wb _ t _ ht0 (Chg.step hE E fun x hx hm => by rcases hm with hm | hm <;> omega)) ?_
  rintro _ w9 ⟨rfl,X9⟩
  replace hB1 := X9.keep hB1
  replace hB2 := X9.keep hB2
  replace hB3 := X9.keep hB3
  replace B1 := X9.keep B1
  replace E := E.ext X9
  refine s_store (b := b3') (o := 0) (c' := #[(I6 (nodeE t))]) (v := (I6 (nodeE t))) rfl rfl rfl siz30 hB3 (by simp) rfl ?_
  intro w5 S5
  replace hB1 := S5.keep (by omega) hB1
  replace hB2 := S5.keep (by omega) hB2
  replace B1 := S5.keep (by omega) B1
  replace E := S5.step E (by first | exact Or.inl (by omega) | exact Or.inr rfl | exact Or.inr (by assumption) | exact Or.inr (by simp) | exact Or.inr (by omega) | exact Or.inr (by dsimp only; omega))
  replace hB3 := S5.blk
  refine WpL_nil (thn_normal (Wp_seq_region ?_))
  refine qV (r_load (v := (I6 (nodeE t))) rfl flat30 (hB3.cell rfl)) ?_
  refine qV (r_eql (k := .i64) (a := nodeE t) (b := 0) rfl rfl) ?_
  refine qA (.bool (decide ((nodeE t : Int) = 0))) rfl ?_
  refine WpL_nil (Wp_ret ?_)
  refine fin_tmp Tryz.results78 (v := (.bool (decide ((nodeE t : Int) = 0)))) rfl ?_
  exact ⟨by simp [fitF,h],E,by simpa [fitF] using hB1,hB2,by simpa [fitF,h] using hB3⟩
theorem fits_c (w0 : World) (t : Re) (vs : List Value) (ht : ReAt w0 t vs) (most : Int) :
  Ret Tryz.prog 49 #[.agg vs.toArray,.int .i64 most] w0 fun v w => v = .int .i64 (fitsE t most) ∧ Ext w0 w := by
 have ht0 := ht
 obtain ⟨sa,sc,aa,ac,rfl,hset,hlen,hargs⟩ := ht.form
 refine Ret_of Tryz.func49 rfl Tryz.ntmps49 (Nat.le_of_ble_eq_true rfl) ?_
 have E : Chg none1 w0 w0 := Chg.refl _ _
 refine Wp_seq_region ?_
 refine s_box (v := (.agg (R6 t sa sc aa ac))) (c := (R6 t sa sc aa ac)) (by decide) rfl rfl ?_
 intro b1 w1 N1
 have F1 := N1.ge E
 replace E := E.ext N1.ext
 have B1 := N1.blk
 refine s_box (v := (I6 most)) (c := #[(I6 most)]) (by decide) rfl rfl ?_
 intro b2 w2 N2
 have F2 := N2.ge E
 have O2_b1 := N2.lt B1
 replace B1 := N2.keep B1
 replace E := E.ext N2.ext
 have B2 := N2.blk
 refine qA (I6 0) rfl ?_
 refine WpL_nil (Wp_seq_region ?_)
 refine s_alloc (c := #[(I6 0)]) (by decide) zer3 rfl ?_
 intro b3 w3 N3
 have F3 := N3.ge E
 have O3_b1 := N3.lt B1
 have O3_b2 := N3.lt B2
 replace B1 := N3.keep B1
 replace B2 := N3.keep B2
 replace E := E.ext N3.ext
 have B3 := N3.blk
 refine s_alloc (c := #[(I6 0)]) (by decide) zer30 rfl ?_
 intro b4 w4 N4
 have F4 := N4.ge E
 have O4_b1 := N4.lt B1
 have O4_b2 := N4.lt B2
 have O4_b3 := N4.lt B3
 replace B1 := N4.keep B1
 replace B2 := N4.keep B2
 replace B3 := N4.keep B3
 replace E := E.ext N4.ext
 have B4 := N4.blk
 refine s_store (b := b3) (o := 0) (c' := #[(I6 0)]) (v := (I6 0)) rfl rfl rfl siz3 B3 (by simp) rfl ?_
 intro w5 S5
 replace B1 := S5.keep (by omega) B1
 replace B2 := S5.keep (by omega) B2
 replace B4 := S5.keep (by omega) B4
 replace E := S5.step E (by first | exact Or.inl (by omega) | exact Or.inr rfl | exact Or.inr (by assumption) | exact Or.inr (by simp) | exact Or.inr (by omega) | exact Or.inr (by dsimp only; omega))
 replace B3 := S5.blk
 refine s_store (b := b4) (o := 0) (c' := #[(I6 0)]) (v := (I6 0)) rfl rfl rfl siz30 B4 (by simp) rfl ?_
 intro w6 S6
 replace B1 := S6.keep (by omega) B1
 replace B2 := S6.keep (by omega) B2
 replace B3 := S6.keep (by omega) B3
 replace E := S6.step E (by first | exact Or.inl (by omega) | exact Or.inr rfl | exact Or.inr (by assumption) | exact Or.inr (by simp) | exact Or.inr (by omega) | exact Or.inr (by dsimp only; omega))
 replace B4 := S6.blk
 refine WpL_nil (Wp_seq_region ?_)
 refine qV (r_loadAgg (vs := [(I6 t.kind),(.slice sa t.set.length sc),(.slice aa t.args.length ac),(I6 t.mn),(I6 t.mx),(.bool t.neg)]) rfl agg27 siz27 rfl (B1.cells rfl)) ?_
 refine qV (r_makeFunc (vs := []) (us := [(P6 b3 0),(P6 b2 0),(P6 b4 0)]) rfl rfl) ?_
 have hf : ∀ (s : Int × Int) (w : World) (t : Re) (vs : List Value),b4 + 1 ≤ w.heap.size → Ext w0 w → (Blk w b3 #[.int .i64 s.1] 3 ∧ Blk w b2 #[.int .i64 most] 3 ∧ Blk w b4 #[.int .i64 s.2] 30) → ReAt w0 t vs → CallV Tryz.prog (.func (.func 78) #[] #[.pointer (some ⟨b3,0,none⟩),.pointer (some ⟨b2,0,none⟩),.pointer (some ⟨b4,0,none⟩)]) #[.agg vs.toArray] w fun v w' => v = .bool (fitF most s t).1 ∧ Chg (fun x => x = b3 ∨ x = b4) w w' ∧ (Blk w' b3 #[.int .i64 (fitF most s t).2.1] 3 ∧ Blk w' b2 #[.int .i64 most] 3 ∧ Blk w' b4 #[.int .i64 (fitF most s t).2.2] 30) := fun s w t vs _ hE hI ht => CallV.mk (first := #[]) (cap := #[.pointer (some ⟨b3,0,none⟩),.pointer (some ⟨b2,0,none⟩),.pointer (some ⟨b4,0,none⟩)]) (args := #[.agg vs.toArray]) Tryz.func78 kQ kQ rfl (fits1_c w0 w t vs ht hE b3 b2 b4 s most (by omega) (by omega) (by omega) hI.1 hI.2.1 hI.2.2)
 refine WpL_enter rfl rfl (by decide) (r_callF (vs := [(.agg (R6 t sa sc aa ac)),(.func (.func 78) #[] #[(P6 b3 0),(P6 b2 0),(P6 b4 0)])]) Tryz.func50 kQ kQ rfl) (walk_c (fitF most) (fun s w => Blk w b3 #[.int .i64 s.1] 3 ∧ Blk w b2 #[.int .i64 most] 3 ∧ Blk w b4 #[.int .i64 s.2] 30) (fun x => x = b3 ∨ x = b4) (b4 + 1) _ w0 (fun b hb => by omega) (fun s w w' hI e => ⟨e.keep hI.1,e.keep hI.2.1,e.keep hI.2.2⟩) hf t.size t (Nat.le_refl _) (0,0) _ _ (by have := B4.lt; omega) E ⟨B3,B2,B4⟩ ht0) ?_
 rintro _ w9 ⟨rfl,C9,B3',B2',B4'⟩
 replace B1 := C9.keep (by omega) B1
 replace E := E.step C9 (by intro x hx hm; omega)
 refine WpL_nil (Wp_seq_region ?_)
 refine qV (r_load (v := (I6 ((walkF (fitF most) t (0,0)).2.2))) rfl flat30 (B4'.cell rfl)) ?_
 refine qA (I6 ((walkF (fitF most) t (0,0)).2.2)) rfl ?_
 refine WpL_nil (Wp_ret ?_)
 refine fin_tmp Tryz.results49 (v := (.int .i64 ((walkF (fitF most) t (0,0)).2.2))) rfl ?_
 exact ⟨rfl,E⟩
theorem check_c (w0 : World) (t : Re) (vs : List Value) (ht : ReAt w0 t vs) :
  Ret Tryz.prog 19 #[.agg vs.toArray] w0 fun v w => v = .int .i64 (fitsE t 40) ∧ Ext w0 w := by
 have ht0 := ht
 obtain ⟨sa,sc,aa,ac,rfl,hset,hlen,hargs⟩ := ht.form
 refine Ret_of Tryz.func19 rfl Tryz.ntmps19 (Nat.le_of_ble_eq_true rfl) ?_
 have E : Chg none1 w0 w0 := Chg.refl _ _
 refine Wp_seq_region ?_
 refine s_box (v := (.agg (R6 t sa sc aa ac))) (c := (R6 t sa sc aa ac)) (by decide) rfl rfl ?_
 intro b1 w1 N1
 have F1 := N1.ge E
 replace E := E.ext N1.ext
 have B1 := N1.blk
 refine qA (I6 0) rfl ?_
 refine WpL_nil (Wp_seq_region ?_)
 refine qV (r_loadAgg (vs := [(I6 t.kind),(.slice sa t.set.length sc),(.slice aa t.args.length ac),(I6 t.mn),(I6 t.mx),(.bool t.neg)]) rfl agg27 siz27 rfl (B1.cells rfl)) ?_
 refine WpL_enter rfl rfl (by decide) (r_callF (vs := [(.agg (R6 t sa sc aa ac)),(I6 40)]) Tryz.func49 kQ kQ rfl) (fits_c _ t _ (ReAt.ext E t ht0) 40) ?_
 rintro _ w9 ⟨rfl,X9⟩
 replace B1 := X9.keep B1
 replace E := E.ext X9
 refine qA (I6 (fitsE t 40)) rfl ?_
 refine WpL_nil (Wp_ret ?_)
 refine fin_tmp Tryz.results19 (v := (.int .i64 (fitsE t 40))) rfl ?_
 exact ⟨rfl,E⟩
theorem fitF_eq {most : Int} {n e : Int} (t : Re) (h0 : 0 ≤ n) (h1 : n ≤ 1000000) : fitF most (n,e) t = (decide ((if most < n + 1 then 2 else nodeE t) = 0),(n + 1,if most < n + 1 then 2 else nodeE t)) := by
 simp only [fitF]; rw [wI64 (by omega)]
mutual
theorem fits_yes {most : Int} (hm : most ≤ 1000000) : ∀ (t : Re) (n e : Int),0 ≤ n → n + t.size ≤ most → okRe t → walkF (fitF most) t (n,e) = (true,(n + t.size,0))
  | .mk k set args mn mx ng,n,e,h0,h1,hok => by
    simp only [Re.size] at h1 ⊢
    rw [walkF_eq,fitF_eq _ h0 (by omega)]
    have hn := okRe_node hok
    have hlt : ¬ most < n + 1 := by omega
    simp only [if_neg hlt,hn,decide_true,if_true,Re.args]
    have ha := okRe_args hok
    simp only [Re.args] at ha
    rw [fits_yess hm args (n + 1) 0 (by omega) (by omega) ha rfl]
    simp; omega
theorem fits_yess {most : Int} (hm : most ≤ 1000000) : ∀ (ts : List Re) (n e : Int),0 ≤ n → n + Re.sizes ts ≤ most → okRes ts → e = 0 → walkFs (fitF most) ts (n,e) = (true,(n + Re.sizes ts,0))
  | [],n,e,_,_,_,he => by simp [walkFs,Re.sizes,he]
  | t :: ts,n,e,h0,h1,hok,he => by
    simp only [Re.sizes] at h1 ⊢
    simp only [okRes] at hok
    rw [walkFs_cons,fits_yes hm t n e h0 (by omega) hok.1]
    simp only [if_true]
    rw [fits_yess hm ts _ _ (by omega) (by omega) hok.2 rfl]
    simp; omega
end
mutual
theorem fits_no {most : Int} (hm : most ≤ 1000000) : ∀ (t : Re) (n e : Int),0 ≤ n → n ≤ most → (walkF (fitF most) t (n,e)).1 = true → okRe t ∧ n + t.size ≤ most ∧ (walkF (fitF most) t (n,e)).2 = (n + t.size,0)
  | .mk k set args mn mx ng,n,e,h0,h1,h => by
    rw [walkF_eq,fitF_eq _ h0 (by omega)] at h ⊢
    by_cases hc : (if most < n + 1 then 2 else nodeE (.mk k set args mn mx ng)) = 0
    · have hlt : ¬ most < n + 1 := by intro h'; rw [if_pos h'] at hc; omega
      rw [if_neg hlt] at hc
      simp only [if_neg hlt,hc,decide_true,if_true,Re.args] at h ⊢
      obtain ⟨a,b,c⟩ := fits_nos hm args (n + 1) 0 (by omega) (by omega) h rfl
      refine ⟨by simp only [okRe]; exact ⟨hc,a⟩,by simp only [Re.size]; omega,by rw [c]; simp only [Re.size]; simp; omega⟩
    · simp [hc] at h
theorem fits_nos {most : Int} (hm : most ≤ 1000000) : ∀ (ts : List Re) (n e : Int),0 ≤ n → n ≤ most → (walkFs (fitF most) ts (n,e)).1 = true → e = 0 → okRes ts ∧ n + Re.sizes ts ≤ most ∧ (walkFs (fitF most) ts (n,e)).2 = (n + Re.sizes ts,0)
  | [],n,e,_,h1,_,he => by simp [walkFs,Re.sizes,okRes,he]; omega
  | t :: ts,n,e,h0,h1,h,he => by
    rw [walkFs_cons] at h ⊢
    by_cases hc : (walkF (fitF most) t (n,e)).1 = true
    · rw [if_pos hc] at h ⊢
      obtain ⟨a,b,c⟩ := fits_no hm t n e h0 h1 hc
      rw [c] at h ⊢
      obtain ⟨a',b',c'⟩ := fits_nos hm ts _ _ (by omega) b h rfl
      exact ⟨by simp only [okRes]; exact ⟨a,a'⟩,by simp only [Re.sizes]; omega,by rw [c']; simp only [Re.sizes]; simp; omega⟩
    · rw [if_neg hc] at h; simp at h
end
mutual
theorem fits_last {most : Int} : ∀ (t : Re) (s : Int × Int),(walkF (fitF most) t s).1 = decide ((walkF (fitF most) t s).2.2 = 0)
  | .mk k set args mn mx ng,s => by
    rw [walkF_eq]
    by_cases hc : (fitF most s (.mk k set args mn mx ng)).1 = true
    · rw [if_pos hc]
      exact fits_lasts args _ (by simpa [fitF] using hc)
    · rw [if_neg hc]
      have h2 : (fitF most s (.mk k set args mn mx ng)).1 = false := by simpa using hc
      simp only [fitF] at h2 ⊢
      exact h2.symm
theorem fits_lasts {most : Int} : ∀ (ts : List Re) (s : Int × Int),s.2 = 0 → (walkFs (fitF most) ts s).1 = decide ((walkFs (fitF most) ts s).2.2 = 0)
  | [],s,h => by simp [walkFs,h]
  | t :: ts,s,h => by
    rw [walkFs_cons]
    have := fits_last (most := most) t s
    by_cases hc : (walkF (fitF most) t s).1 = true
    · rw [if_pos hc]
      rw [hc] at this
      exact fits_lasts ts _ (by simpa using this.symm)
    · rw [if_neg hc]
      have h2 : (walkF (fitF most) t s).1 = false := by simpa using hc
      rw [h2] at this
      exact this
end
theorem fitsE_zero {t : Re} {most : Int} (h0 : 0 ≤ most) (hm : most ≤ 1000000) : fitsE t most = 0 ↔ okRe t ∧ (t.size : Int) ≤ most := by
 unfold fitsE
 constructor
 ·intro h
  have h1 := fits_last (most := most) t (0,0)
  rw [h] at h1
  obtain ⟨a,b,_⟩ := fits_no hm t 0 0 (Int.le_refl 0) h0 (by simpa using h1)
  exact ⟨a,by omega⟩
 ·rintro ⟨a,b⟩
  rw [fits_yes hm t 0 0 (Int.le_refl 0) (by omega) a]
def checkP (t : Re) (text : List Int) : Int := if fitsE t 40 ≠ 0 then fitsE t 40 else if 24 < text.length then 2 else if (text.any fun r => !runeB r) = true then 1 else 0
theorem pcheck_c (w0 : World) (t : Re) (vs : List Value) (vt : Value) (text : List Int) (ht : ReAt w0 t vs) (htx : IntsAt w0 vt text) :
  Ret Tryz.prog 21 #[.agg vs.toArray,vt] w0 fun v w => v = .int .i64 (checkP t text) ∧ Ext w0 w := by
 have ht0 := ht
 obtain ⟨sa,sc,aa,ac,rfl,hset,hlen,hargs⟩ := ht.form
 obtain ⟨ta,tc,rfl⟩ := SlAt.form htx
 simp only [List.length_map] at htx ⊢
 refine Ret_of Tryz.func21 rfl Tryz.ntmps21 (Nat.le_of_ble_eq_true rfl) ?_
 have E : Chg none1 w0 w0 := Chg.refl _ _
 refine Wp_seq_region ?_
 refine s_box (v := (.agg (R6 t sa sc aa ac))) (c := (R6 t sa sc aa ac)) (by decide) rfl rfl ?_
 intro b1 w1 N1
 have F1 := N1.ge E
 replace E := E.ext N1.ext
 have B1 := N1.blk
 refine qA (I6 0) rfl ?_
 refine WpL_nil (Wp_seq (Wp_seq_region ?_))
 refine qV (r_loadAgg (vs := [(I6 t.kind),(.slice sa t.set.length sc),(.slice aa t.args.length ac),(I6 t.mn),(I6 t.mx),(.bool t.neg)]) rfl agg27 siz27 rfl (B1.cells rfl)) ?_
 refine WpL_enter rfl rfl (by decide) (r_callF (vs := [(.agg (R6 t sa sc aa ac))]) Tryz.func19 kQ kQ rfl) (check_c _ t _ (ReAt.ext E t ht0)) ?_
 rintro _ w9 ⟨rfl,X9⟩
 replace B1 := X9.keep B1
 replace E := E.ext X9
 refine qA (I6 (fitsE t 40)) rfl ?_
 refine WpL_nil (Wp_seq_region ?_)
 refine qM (I6 (fitsE t 40)) rfl ?_
 refine qV (r_neq (k := .i64) (a := fitsE t 40) (b := 0) rfl rfl) ?_
 refine WpL_nil ?_
 refine Wp_cond (b := decide ((fitsE t 40 : Int) ≠ 0)) rfl (fun h1 => ?_) (fun h1 => ?_)
 ·have kh1 := h1
  replace h1 := of_decide_eq_true h1
  refine Wp_seq_region ?_
  refine qM (I6 (fitsE t 40)) rfl ?_
  refine qA (I6 (fitsE t 40)) rfl ?_
  refine WpL_nil (Wp_ret (thn_ret ?_))
  refine fin_tmp Tryz.results21 (v := (.int .i64 (fitsE t 40))) rfl ?_
  exact ⟨int_eq (by unfold checkP; rw [if_pos h1]),E⟩
 ·have kh1 := h1
  replace h1 := of_decide_eq_false h1
  refine Wp_skip (thn_normal (Wp_seq (Wp_seq_region ?_)))
  refine qM (.slice ta text.length tc) rfl ?_
  refine qV (r_lenSlice (ad := ta) (n := text.length) (cap := tc) Tryz.underlying22 rfl) ?_
  refine qV (r_gtr (k := .i64) (a := (text.length : Int)) (b := 24) rfl rfl) ?_
  refine WpL_nil ?_
  refine Wp_cond (b := decide ((24 : Int) < (text.length : Int))) rfl (fun h2 => ?_) (fun h2 => ?_)
  ·have kh2 := h2
   replace h2 := of_decide_eq_true h2
   refine Wp_seq_region ?_
   refine qA (I6 2) rfl ?_
   refine WpL_nil (Wp_ret (thn_ret ?_))
   refine fin_tmp Tryz.results21 (v := (.int .i64 2)) rfl ?_
   exact ⟨int_eq (by unfold checkP; rw [if_neg h1,if_pos (by omega)]),E⟩
  ·have kh2 := h2
   replace h2 := of_decide_eq_false h2
   refine Wp_skip (thn_normal (Wp_seq (Wp_seq_region ?_)))
   refine qM (.slice ta text.length tc) rfl ?_
   refine WpL_enter rfl rfl (by decide) (r_callF (vs := [(.slice ta text.length tc)]) Tryz.func30 kQ kQ rfl) (runes_c _ _ text (htx.ext E)) ?_
   rintro _ w19 ⟨rfl,X19⟩
   replace B1 := X19.keep B1
   replace E := E.ext X19
   refine qV (r_not (b := !(text.any fun r => !runeB r)) rfl) ?_
   refine WpL_nil ?_
   refine Wp_cond (b := !(!(text.any fun r => !runeB r))) rfl (fun h3 => ?_) (fun h3 => ?_)
   ·have kh3 := h3
    replace h3 := by simpa using h3
    replace h3 := by simpa using h3
    refine Wp_seq_region ?_
    refine qA (I6 1) rfl ?_
    refine WpL_nil (Wp_ret (thn_ret ?_))
    refine fin_tmp Tryz.results21 (v := (.int .i64 1)) rfl ?_
    exact ⟨int_eq (by unfold checkP; rw [if_neg h1,if_neg (by omega),if_pos (by simpa using h3)]),E⟩
   ·have kh3 := h3
    replace h3 := by simpa using h3
    replace h3 := by simpa using h3
    refine Wp_skip (thn_normal (Wp_seq_region ?_))
    refine qA (I6 0) rfl ?_
    refine WpL_nil (Wp_ret ?_)
    refine fin_tmp Tryz.results21 (v := (.int .i64 0)) rfl ?_
    exact ⟨int_eq (by unfold checkP; rw [if_neg h1,if_neg (by omega),if_neg (by simpa using h3)]),E⟩
def pairV (p : Nat × Nat) : List Value := [.int .i64 (p.1 : Int),.int .i64 (p.2 : Int)]
def PairsAt (w : World) (v : Value) (l : List (Nat × Nat)) : Prop := SlAt w 2 v (l.map pairV)
def rowL (R : Rl) (i p : Nat) : List (Nat × Nat) := ((List.range p).filter (R i)).map fun j => (i,j)
def pairsL (R : Rl) (n : Nat) : List (Nat × Nat) := (List.range n).flatMap fun i => rowL R i 25
theorem pairsL_succ (R : Rl) (n : Nat) : pairsL R (n + 1) = pairsL R n ++ rowL R n 25 := by simp [pairsL,List.range_succ]
theorem rowL_skip {R : Rl} {i p q : Nat} (h : ∀ j,p ≤ j → j < q → R i j = false) (hpq : p ≤ q) : rowL R i q = rowL R i p := by
  unfold rowL
  congr 1
  obtain ⟨d,rfl⟩ := Nat.exists_eq_add_of_le hpq
  clear hpq
  induction d with
  | zero => rfl
  | succ d ih =>
    rw [← Nat.add_assoc,List.range_succ,List.filter_append,ih fun j h1 h2 => h j h1 (by omega)]
    simp [h (p + d) (by omega) (by omega)]
theorem rowL_succ {R : Rl} {i p : Nat} (h : R i p = true) : rowL R i (p + 1) = rowL R i p ++ [(i,p)] := by
 unfold rowL
 rw [List.range_succ,List.filter_append]
 simp [h]
theorem pairs_len (R : Rl) (n : Nat) : (pairsL R n).length ≤ n * 25 := by
  induction n with
  | zero => simp [pairsL]
  | succ n ih =>
    rw [pairsL_succ,List.length_append]
    have : (rowL R n 25).length ≤ 25 := by
      unfold rowL; simp only [List.length_map]
      exact Nat.le_trans (List.length_filter_le _ _) (by simp)
    omega
theorem row_len (R : Rl) (i p : Nat) : (rowL R i p).length ≤ p := by
 unfold rowL; simp only [List.length_map]
 exact Nat.le_trans (List.length_filter_le _ _) (by simp)
def accL (R : Rl) (i p : Nat) : List (Nat × Nat) := pairsL R i ++ rowL R i p
theorem acc_len (R : Rl) (i p : Nat) : (accL R i p).length ≤ i * 25 + p := by
 have h1 := pairs_len R i
 have h2 := row_len R i p
 unfold accL; rw [List.length_append]; omega
theorem acc_step {R : Rl} {i p k : Nat} (hlow : ∀ j,p ≤ j → j < k → R i j = false) (hpk : p ≤ k) (hk : R i k = true) : accL R i (k + 1) = accL R i p ++ [(i,k)] := by
 unfold accL
 rw [rowL_succ hk,rowL_skip hlow hpk,List.append_assoc]
theorem acc_end {R : Rl} {i p : Nat} (hp : p ≤ 25) (hz : maskN 25 (fun j => R i j && decide (p ≤ j)) = 0) : accL R i p = accL R (i + 1) 0 := by
 rw [mask_eq_zero] at hz
 unfold accL
 rw [pairsL_succ,← rowL_skip (R := R) (i := i) (p := p) (q := 25) (fun j h1 h2 => by have := hz j h2; simpa [h1] using this) hp]
 simp [rowL]
theorem pairs_c (w0 : World) (t : Re) (vs : List Value) (vt : Value) (text : List Int) (ht : ReAt w0 t vs) (htx : IntsAt w0 vt text) (hT : TabOk w0) :
  Ret Tryz.prog 16 #[.agg vs.toArray,vt] w0 fun v w => ∃ a c,v = .tuple #[.slice a (if checkP t text = 0 then pairsL (relOf text t) (text.length + 1) else []).length c,.int .i64 (checkP t text)] ∧
   PairsAt w (.slice a (if checkP t text = 0 then pairsL (relOf text t) (text.length + 1) else []).length c) (if checkP t text = 0 then pairsL (relOf text t) (text.length + 1) else []) ∧ Ext w0 w := by
 have ht0 := ht
 obtain ⟨sa,sc,aa,ac,rfl,hset,hlen,hargs⟩ := ht.form
 obtain ⟨ta,tc,rfl⟩ := SlAt.form htx
 simp only [List.length_map] at htx ⊢
 refine Ret_of Tryz.func16 rfl Tryz.ntmps16 (Nat.le_of_ble_eq_true rfl) ?_
 have E : Chg none1 w0 w0 := Chg.refl _ _
 refine Wp_seq_region ?_
 refine s_box (v := (.agg (R6 t sa sc aa ac))) (c := (R6 t sa sc aa ac)) (by decide) rfl rfl ?_
 intro b1 w1 N1
 have F1 := N1.ge E
 replace E := E.ext N1.ext
 have B1 := N1.blk
 refine qA (.slice none 0 0) rfl ?_
 refine qA (I6 0) rfl ?_
 refine WpL_nil (Wp_seq (Wp_seq_region ?_))
 refine qV (r_loadAgg (vs := [(I6 t.kind),(.slice sa t.set.length sc),(.slice aa t.args.length ac),(I6 t.mn),(I6 t.mx),(.bool t.neg)]) rfl agg27 siz27 rfl (B1.cells rfl)) ?_
 refine qM (.slice ta text.length tc) rfl ?_
 refine WpL_enter rfl rfl (by decide) (r_callF (vs := [(.agg (R6 t sa sc aa ac)),(.slice ta text.length tc)]) Tryz.func21 kQ kQ rfl) (pcheck_c _ t _ _ text (ReAt.ext E t ht0) (htx.ext E)) ?_
 rintro _ w9 ⟨rfl,X9⟩
 replace B1 := X9.keep B1
 replace E := E.ext X9
 refine qA (I6 (checkP t text)) rfl ?_
 refine WpL_nil (Wp_seq_region ?_)
 refine qM (I6 (checkP t text)) rfl ?_
 refine qV (r_neq (k := .i64) (a := checkP t text) (b := 0) rfl rfl) ?_
 refine WpL_nil ?_
 refine Wp_cond (b := decide ((checkP t text : Int) ≠ 0)) rfl (fun h0 => ?_) (fun h0 => ?_)
 ·have kh0 := h0
  replace h0 := of_decide_eq_true h0
  refine Wp_seq_region ?_
  refine qM (I6 (checkP t text)) rfl ?_
  refine qA (.slice none 0 0) rfl ?_
  refine qA (I6 (checkP t text)) rfl ?_
  refine WpL_nil (Wp_ret (thn_ret ?_))
  refine fin_tmp2 Tryz.results16 (v := (.slice none 0 0)) (v' := (.int .i64 (checkP t text))) rfl rfl ?_
  exact ⟨none,0,by rw [if_neg h0]; rfl,by rw [if_neg h0]; exact SlAt.nil _ _ _ _,E⟩
 ·have kh0 := h0
  replace h0 := of_decide_eq_false h0
  have h0' : checkP t text = 0 := by omega
  have hok : okRe t ∧ (t.size : Int) ≤ 40 ∧ text.length ≤ 24 := by
   have h00 := h0'
   unfold checkP at h00
   by_cases h1 : fitsE t 40 = 0
   ·rw [if_neg (by omega)] at h00
    obtain ⟨a,b⟩ := (fitsE_zero (by decide) (by decide)).1 h1
    refine ⟨a,b,?_⟩
    split at h00 <;> omega
   ·rw [if_pos h1] at h00; omega
  obtain ⟨hok,hsz,hn⟩ := hok
  refine Wp_skip (thn_normal (Wp_seq_region ?_))
  refine qV (r_loadAgg (vs := [(I6 t.kind),(.slice sa t.set.length sc),(.slice aa t.args.length ac),(I6 t.mn),(I6 t.mx),(.bool t.neg)]) rfl agg27 siz27 rfl (B1.cells rfl)) ?_
  refine qM (.slice ta text.length tc) rfl ?_
  refine WpL_enter rfl rfl (by decide) (r_callF (vs := [(.agg (R6 t sa sc aa ac)),(.slice ta text.length tc)]) Tryz.func22 kQ kQ rfl) (of_c text hn 40 (by decide) t (by omega) hok _ _ _ (ReAt.ext E t ht0) (htx.ext E) (hT.ext E)) ?_
  rintro _ w19 ⟨bm,rfl,hbm,Bm,X19⟩
  replace B1 := X19.keep B1
  replace E := E.ext X19
  rw [h0',if_pos rfl]
  obtain ⟨base,hbase⟩ : ∃ base,base = w19.heap.size := ⟨_,rfl⟩
  have hb1 : b1 < base := by have := B1.lt; omega
  have hbm1 : bm < base := by have := Bm.lt; omega
  have hb0 : w0.heap.size ≤ base := by have := E.size; omega
  refine qA (P6 bm 0) rfl ?_
  refine WpL_nil (Wp_seq_region ?_)
  refine qA (.slice none 0 0) rfl ?_
  refine WpL_nil (Wp_seq (Wp_seq_region ?_))
  refine qM (.slice ta text.length tc) rfl ?_
  refine qV (r_lenSlice (ad := ta) (n := text.length) (cap := tc) Tryz.underlying22 rfl) ?_
  refine qV (r_add (k := .i64) (a := (text.length : Int)) (b := 1) (c := (text.length : Int) + 1) rfl rfl (wI64 (by omega))) ?_
  refine qM (I6 0) rfl ?_
  refine WpL_nil (Wp_block ?_)
  refine Wp_loop (fun nn_ σ W3 => ∃ (i : Nat) (la : Option Addr) (lc : Nat),(∃ jj_,σ = upds jj_ [(7,(P6 bm 0)),(22,(I6 ((text.length : Int) + 1))),(23,(I6 (i : Int))),(8,(.slice la ((accL (relOf text t) i 0).length) lc))]) ∧ Chg none1 w0 W3 ∧ Blk W3 b1 (R6 t sa sc aa ac) 27 ∧ Blk W3 bm (rowArr (relOf text t)) TR ∧ (i ≤ text.length + 1) ∧ (W3.ownsRow base 47 2 (.slice la (accL (relOf text t) i 0).length lc) (accL (relOf text t) i 0).length ((accL (relOf text t) i 0).map pairV).flatten) ∧ (base ≤ W3.heap.size) ∧ nn_ = text.length + 1 - i) (n := text.length + 1 - 0) ?_ ?_
  ·exact ⟨0,none,0,Fits.out ⟨rfl,rfl,rfl,rfl,trivial⟩,E,B1,Bm,Nat.zero_le _,World.ownsRow_nil _ _ _ _,(by omega),rfl⟩
  ·clear E B1 Bm
   rintro _ _ W3 ⟨i,la,lc,⟨j3,rfl⟩,E,B1,Bm,hi,hown,hbs,rfl⟩
   refine Wp_seq_region ?_
   refine qV (r_lss (k := .i64) (a := (i : Int)) (b := (text.length : Int) + 1) rfl rfl) ?_
   refine WpL_nil (Wp_seq ?_)
   refine Wp_cond (b := decide (((i : Int) : Int) < (text.length : Int) + 1)) rfl (fun hlt => ?_) (fun hlt => ?_)
   ·have khlt := hlt
    replace hlt := of_decide_eq_true hlt
    refine Wp_skip (thn_normal (Wp_seq (Wp_block (Wp_seq_region ?_))))
    refine qM (I6 (i : Int)) rfl ?_
    refine qA (I6 (i : Int)) rfl ?_
    refine WpL_nil (Wp_seq_region ?_)
    refine qM (P6 bm 0) rfl ?_
    refine qM (I6 (i : Int)) rfl ?_
    refine qV (r_nilCheck (a := ⟨bm,0,none⟩) rfl) ?_
    refine qV (r_indexArr (b := bm) (o := 0) (i := i) (o' := i) rfl rfl rfl Tryz.underlying106 siz55 (by omega) (by omega)) ?_
    refine qV (r_load (v := (.int .u32 ((maskN 25 (fun j => relOf text t i j && decide (0 ≤ j)) : Nat) : Int))) rfl flat55 ((Bm.cell (rowArr_get _ (by omega))).trans (by rw [mask_congr (g := fun j => relOf text t i j && decide (0 ≤ j)) (fun j _ => by simp)]))) ?_
    refine qA (.int .u32 ((maskN 25 (fun j => relOf text t i j && decide (0 ≤ j)) : Nat) : Int)) rfl ?_
    refine WpL_nil (Wp_block ?_)
    refine Wp_loop (fun nn_ σ W5 => ∃ (p : Nat) (la : Option Addr) (lc : Nat),(∃ jj_,σ = upds jj_ [(7,(P6 bm 0)),(9,(I6 (i : Int))),(22,(I6 ((text.length : Int) + 1))),(23,(I6 (i : Int))),(10,(.int .u32 ((maskN 25 (fun j => relOf text t i j && decide (p ≤ j)) : Nat) : Int))),(8,(.slice la ((accL (relOf text t) i p).length) lc))]) ∧ Chg none1 w0 W5 ∧ Blk W5 b1 (R6 t sa sc aa ac) 27 ∧ Blk W5 bm (rowArr (relOf text t)) TR ∧ (p ≤ 25) ∧ (W5.ownsRow base 47 2 (.slice la (accL (relOf text t) i p).length lc) (accL (relOf text t) i p).length ((accL (relOf text t) i p).map pairV).flatten) ∧ (base ≤ W5.heap.size) ∧ nn_ = 25 - p) (n := 25 - 0) ?_ ?_
    ·exact ⟨0,la,lc,Fits.out ⟨rfl,rfl,rfl,rfl,rfl,rfl,trivial⟩,E,B1,Bm,Nat.zero_le _,hown,hbs,rfl⟩
    ·clear E B1 Bm
     rintro _ _ W5 ⟨p,la,lc,⟨j5,rfl⟩,E,B1,Bm,hp,hown,hbs,rfl⟩
     obtain ⟨x,hx⟩ : ∃ x,x = maskN 25 (fun j => relOf text t i j && decide (p ≤ j)) := ⟨_,rfl⟩
     have hxl : x < 4294967296 := hx ▸ mask_lt32 _
     have hal := acc_len (relOf text t) i p
     rw [← hx]
     refine Wp_seq (Wp_seq_region ?_)
     refine qM (.int .u32 (x : Int)) rfl ?_
     refine qV (r_neq (k := .u32) (a := (x : Int)) (b := 0) rfl rfl) ?_
     refine WpL_nil ?_
     refine Wp_cond (b := decide (((x : Int) : Int) ≠ 0)) rfl (fun hne => ?_) (fun hne => ?_)
     ·have khne := hne
      replace hne := of_decide_eq_true hne
      obtain ⟨k,m,hl⟩ := low_form x (by omega)
      obtain ⟨hk25,hAk,hpk,hlow,hclear⟩ := left_low hx hl
      refine Wp_skip (thn_normal (Wp_seq (Wp_block (Wp_region ?_))))
      refine qM (.slice la ((accL (relOf text t) i p).length) lc) rfl ?_
      refine qM (I6 (i : Int)) rfl ?_
      refine qM (.int .u32 (x : Int)) rfl ?_
      refine WpL_enter rfl rfl (by decide) (r_callF (vs := [(.int .u32 (x : Int))]) Tryz.func47 kQ kQ rfl) (tz_c _ x k m hl hxl (hT.ext E)) ?_
      rintro _ _ ⟨rfl,rfl⟩
      refine qV (r_build (ps := [(0,(I6 (i : Int))),(1,(I6 (k : Int)))]) (v := (.agg #[(I6 (i : Int)),(I6 (k : Int))])) rfl (by kernel_rfl)) ?_
      refine s_buildSlice (ps := [(0,(.agg #[(I6 (i : Int)),(I6 (k : Int))]))]) (c := #[(I6 (i : Int)),(I6 (k : Int))]) (by decide) rfl Tryz.underlying34 siz47 zer47 (by decide) (by decide) (by kernel_rfl) ?_
      intro b7 w7 N7
      have F7 := N7.ge E
      have O7_b1 := N7.lt B1
      have O7_bm := N7.lt Bm
      replace B1 := N7.keep B1
      replace Bm := N7.keep Bm
      replace hown := own_ext hown N7.ext
      replace hbs := Nat.le_trans hbs N7.ext.size
      replace E := E.ext N7.ext
      have B7 := N7.blk
      refine s_append (base := base) (n := (accL (relOf text t) i p).length) (m := 1) (xs := ((accL (relOf text t) i p).map pairV).flatten) (news := [(I6 (i : Int)),(I6 (k : Int))]) (size := 2) (bytes := 16) (v := (.slice la ((accL (relOf text t) i p).length) lc)) (by decide) Tryz.underlying34 siz47 byt47 zer47 rfl (by decide) rfl hown rfl (rfl) (B7.cells rfl) (by simp [Value.oneCell']) (by unfold maxLen; omega) (by omega) (hbs) ?_
      intro v9 w29 Ov9 Cv9 Dv9
      replace B1 := Cv9.keep (fun h => by have := (hown.lt _ h).1; omega) B1
      replace Bm := Cv9.keep (fun h => by have := (hown.lt _ h).1; omega) Bm
      replace E := E.step Cv9 (fun x hx h => absurd (hown.lt x h).1 (by omega))
      obtain ⟨la2,lc2,rfl⟩ := own_form Ov9
      have hst := acc_step hlow hpk hAk
      have hlen2 : (accL (relOf text t) i p).length + 1 = (accL (relOf text t) i (k + 1)).length := by rw [hst]; simp
      rw [hlen2] at Ov9 ⊢
      refine qA (.slice la2 ((accL (relOf text t) i (k + 1)).length) lc2) rfl ?_
      refine WpL_nil (inB_normal (thn_normal (Wp_region ?_)))
      refine qM (.int .u32 (x : Int)) rfl ?_
      refine qM (.int .u32 (x : Int)) rfl ?_
      refine qV (r_sub (k := .u32) (a := (x : Int)) (b := 1) (c := ((x - 1 : Nat) : Int)) rfl rfl (by rw [wU32 (by omega)]; omega)) ?_
      refine qV (r_bits (k := .u32) (a := (x : Int)) (b := ((x - 1 : Nat) : Int)) (v := .int .u32 ((maskN 25 (fun j => relOf text t i j && decide (k + 1 ≤ j)) : Nat) : Int)) rfl rfl (by simp) ((bits_and _ _ hxl (by omega)).trans (by rw [hclear]))) ?_
      refine qA (.int .u32 ((maskN 25 (fun j => relOf text t i j && decide (k + 1 ≤ j)) : Nat) : Int)) rfl ?_
      refine WpL_nil (thn_normal ?_)
      exact ⟨25 - (k + 1),by omega,k + 1,la2,lc2,Fits.out ⟨rfl,rfl,rfl,rfl,rfl,rfl,trivial⟩,E,B1,Bm,(by omega),(by rw [hst] at Ov9 ⊢; simpa [pairV] using Ov9),Nat.le_trans hbs Cv9.size,rfl⟩
     ·have khne := hne
      replace hne := of_decide_eq_false hne
      have hz : x = 0 := by omega
      have he := acc_end hp (hx ▸ hz)
      rw [he] at hown ⊢
      refine Wp_exit (thn_exit (thn_exit (inB_here (inB_normal (thn_normal (Wp_region ?_))))))
      refine qV (r_add (k := .i64) (a := (i : Int)) (b := 1) (c := (i : Int) + 1) rfl rfl (wI64 (by omega))) ?_
      refine qM (I6 ((i : Int) + 1)) rfl ?_
      refine WpL_nil (thn_normal ?_)
      exact ⟨text.length + 1 - (i + 1),by omega,i + 1,la,lc,Fits.out ⟨rfl,rfl,rfl,rfl,trivial⟩,E,B1,Bm,(by omega),hown,hbs,rfl⟩
   ·have khlt := hlt
    replace hlt := of_decide_eq_false hlt
    obtain rfl : i = text.length + 1 := by omega
    have hfin : accL (relOf text t) (text.length + 1) 0 = pairsL (relOf text t) (text.length + 1) := by simp [accL,rowL]
    rw [hfin] at hown ⊢
    refine Wp_exit (thn_exit (thn_exit (inB_here (thn_normal (Wp_seq_region ?_)))))
    refine qM (.slice la ((pairsL (relOf text t) (text.length + 1)).length) lc) rfl ?_
    refine qA (.slice la ((pairsL (relOf text t) (text.length + 1)).length) lc) rfl ?_
    refine qA (I6 0) rfl ?_
    refine WpL_nil (Wp_ret ?_)
    refine fin_tmp2 Tryz.results16 (v := (.slice la ((pairsL (relOf text t) (text.length + 1)).length) lc)) (v' := (.int .i64 0)) rfl rfl ?_
    exact ⟨la,lc,rfl,own_slat hown (by intro r hr; simp only [List.mem_map] at hr; obtain ⟨p,_,rfl⟩ := hr; rfl) (by simp) (by decide),E⟩
theorem part_int {P : Program} {w : World} {e : TypeId} {cs : Array Value} {o : Nat} {v : Value} (hf : flatB P e = true) (hv : cs[o]? = some v) : (part e cs o).run P w = .ok v w := by
 simp [part,flatB.run hf,hv]
theorem spans_flat {w : World} {b o : Nat} {l : List (Int × Int)} (h : ∀ i s,l[i]? = some s → CellsAt w b (o + i * 2) [.int .i64 s.1,.int .i64 s.2]) : CellsAt w b o (l.map spanV).flatten := by
  induction l generalizing o with
  | nil => intro i v hv; simp at hv
  | cons s l ih =>
    have h0 := h 0 s rfl
    have h1 := ih (o := o + 2) (fun i u hu => by have := h (i + 1) u (by simpa using hu); rwa [show o + (i + 1) * 2 = o + 2 + i * 2 from by omega] at this)
    intro i v hv
    simp only [List.map_cons,List.flatten_cons] at hv
    have hl : (spanV s).length = 2 := rfl
    rcases Nat.lt_or_ge i 2 with hi | hi
    · rw [List.getElem?_append_left (by omega)] at hv
      have := h0 i v hv
      simpa using this
    · rw [List.getElem?_append_right (by omega)] at hv
      have := h1 (i - 2) v (by rw [hl] at hv; exact hv)
      rwa [show o + 2 + (i - 2) = o + i from by omega] at this
theorem spans_six (l : List (Int × Int)) : (l.map spanV).flatten.length = l.length * 2 := by
  induction l with
  | nil => rfl
  | cons s l ih => simp only [List.map_cons,List.flatten_cons,List.length_append,ih,List.length_cons]; have : (spanV s).length = 2 := rfl; omega
theorem spans_one (l : List (Int × Int)) : ∀ u ∈ (l.map spanV).flatten,u.oneCell' = true := by
 intro u hu
 simp only [List.mem_flatten,List.mem_map] at hu
 obtain ⟨r,⟨s,_,rfl⟩,hu⟩ := hu
 simp [spanV] at hu
 rcases hu with rfl | rfl <;> rfl
def cmpI (x y : Int) : Int := if x < y then -1 else if y < x then 1 else 0
theorem nan_c (w0 : World) (x : Int) : Ret Tryz.prog 103 #[.int .i64 x] w0 fun v w => v = .bool false ∧ Ext w0 w := by
 refine Ret_of Tryz.func103 rfl Tryz.ntmps103 (Nat.le_of_ble_eq_true rfl) ?_
 have E : Chg none1 w0 w0 := Chg.refl _ _
 refine Wp_seq_region ?_
 refine qA (.bool false) rfl ?_
 refine WpL_nil (Wp_seq_region ?_)
 refine qM (I6 x) rfl ?_
 refine qM (I6 x) rfl ?_
 refine qV (r_neq (k := .i64) (a := x) (b := x) rfl rfl) ?_
 refine qA (.bool (decide ((x : Int) ≠ x))) rfl ?_
 refine WpL_nil (Wp_ret ?_)
 refine fin_tmp Tryz.results103 (v := (.bool (decide ((x : Int) ≠ x)))) rfl ?_
 exact ⟨bool_eq (by simp),E⟩
theorem compare_c (w0 : World) (x y : Int) : Ret Tryz.prog 75 #[.int .i64 x,.int .i64 y] w0 fun v w => v = .int .i64 (cmpI x y) ∧ Ext w0 w := by
 refine Ret_of Tryz.func75 rfl Tryz.ntmps75 (Nat.le_of_ble_eq_true rfl) ?_
 have E : Chg none1 w0 w0 := Chg.refl _ _
 refine Wp_seq_region ?_
 refine qA (I6 0) rfl ?_
 refine WpL_nil (Wp_seq_region ?_)
 refine qM (I6 x) rfl ?_
 refine WpL_enter rfl rfl (by decide) (r_callF (vs := [(I6 x)]) Tryz.func103 kQ kQ rfl) (nan_c _ x) ?_
 rintro _ w9 ⟨rfl,X9⟩
 replace E := E.ext X9
 refine qA (.bool false) rfl ?_
 refine WpL_nil (Wp_seq_region ?_)
 refine qM (I6 y) rfl ?_
 refine WpL_enter rfl rfl (by decide) (r_callF (vs := [(I6 y)]) Tryz.func103 kQ kQ rfl) (nan_c _ y) ?_
 rintro _ w19 ⟨rfl,X19⟩
 replace E := E.ext X19
 refine qA (.bool false) rfl ?_
 refine WpL_nil (Wp_seq (Wp_seq_region ?_))
 refine qM (.bool false) rfl ?_
 refine WpL_nil ?_
 refine Wp_cond_false rfl ?_
 refine Wp_skip (thn_normal (Wp_seq (Wp_seq_region ?_)))
 refine qM (.bool false) rfl ?_
 refine WpL_nil ?_
 refine Wp_cond_false rfl ?_
 refine Wp_skip (thn_normal (Wp_seq (Wp_seq_region ?_)))
 refine qM (I6 x) rfl ?_
 refine qM (I6 y) rfl ?_
 refine qV (r_lss (k := .i64) (a := x) (b := y) rfl rfl) ?_
 refine WpL_nil ?_
 refine Wp_cond (b := decide ((x : Int) < y)) rfl (fun h1 => ?_) (fun h1 => ?_)
 ·have kh1 := h1
  replace h1 := of_decide_eq_true h1
  refine Wp_seq_region ?_
  refine qA (I6 (-1)) rfl ?_
  refine WpL_nil (Wp_ret (thn_ret ?_))
  refine fin_tmp Tryz.results75 (v := (.int .i64 (-1))) rfl ?_
  exact ⟨int_eq (by unfold cmpI; rw [if_pos h1]),E⟩
 ·have kh1 := h1
  replace h1 := of_decide_eq_false h1
  refine Wp_skip (thn_normal (Wp_seq (Wp_seq_region ?_)))
  refine qM (I6 x) rfl ?_
  refine qM (I6 y) rfl ?_
  refine qV (r_gtr (k := .i64) (a := x) (b := y) rfl rfl) ?_
  refine WpL_nil ?_
  refine Wp_cond (b := decide ((y : Int) < x)) rfl (fun h2 => ?_) (fun h2 => ?_)
  ·have kh2 := h2
   replace h2 := of_decide_eq_true h2
   refine Wp_seq_region ?_
   refine qA (I6 1) rfl ?_
   refine WpL_nil (Wp_ret (thn_ret ?_))
   refine fin_tmp Tryz.results75 (v := (.int .i64 1)) rfl ?_
   exact ⟨int_eq (by unfold cmpI; rw [if_neg h1,if_pos h2]),E⟩
  ·have kh2 := h2
   replace h2 := of_decide_eq_false h2
   refine Wp_skip (thn_normal (Wp_seq_region ?_))
   refine qA (I6 0) rfl ?_
   refine WpL_nil (Wp_ret ?_)
   refine fin_tmp Tryz.results75 (v := (.int .i64 0)) rfl ?_
   exact ⟨int_eq (by unfold cmpI; rw [if_neg h1,if_neg h2]),E⟩
theorem equalIn_pair {P : Program} {w : World} {t e : TypeId} (d : Nat) (a b c f : Int) (ht : P.underlying t = some (.array 2 e)) (he : P.underlying e = some (.int .i64)) (hs : Siz P e 1) (hf : flatB P e = true) :
  (Op.equalIn (d + 2) t (.agg #[.int .i64 a,.int .i64 b]) (.agg #[.int .i64 c,.int .i64 f])).run P w = .ok (decide (a = c) && decide (b = f)) w := by
 have h1 : ∀ x y : Int,(Op.equalIn (d + 1) e (.int .i64 x) (.int .i64 y)).run P w = .ok (x == y) w := fun x y => run_equalIn_int w d e .i64 .i64 x y he
 have p0 : ∀ x y : Int,(part e #[.int .i64 x,.int .i64 y] 0).run P w = .ok (.int .i64 x) w := fun x y => part_int hf rfl
 have p1 : ∀ x y : Int,(part e #[.int .i64 x,.int .i64 y] 1).run P w = .ok (.int .i64 y) w := fun x y => part_int hf rfl
 rw [Op.equalIn]
 simp only [Sem.run_bind,run_underlying ht,Result.andThen_ok,hs.run]
 by_cases hac : a = c
 ·by_cases hbf : b = f
  ·simp [Std.Legacy.Range.forIn_eq_forIn_range',List.range',p0,p1,h1,hac,hbf]
  ·simp [Std.Legacy.Range.forIn_eq_forIn_range',List.range',p0,p1,h1,hac,hbf]
 ·simp [Std.Legacy.Range.forIn_eq_forIn_range',List.range',p0,h1,hac]
theorem r_eqlPair {P : Program} {σ : Env} {w : World} {dst : Option Tmp} {ty : TypeId} {pos : String} {af : Array Edge} {g : Option (Nat × Bool)} {t t' e : TypeId} {x y : Operand} {a b c f : Int}
  (ht : P.underlying t = some (.array 2 e)) (he : P.underlying e = some (.int .i64)) (hs : Siz P e 1) (hf : flatB P e = true) (hm : P.eqGuardType P.depth t = false)
  (hx : ev σ x = .agg #[.int .i64 a,.int .i64 b]) (hy : ev σ y = .agg #[.int .i64 c,.int .i64 f]) :
  (execOp (ev σ) ⟨dst,.binOp .eql t x y t',ty,pos,af,g⟩).run P w = .ok (.value (.bool (decide (a = c) && decide (b = f)))) w := by
 have h := equalIn_pair (P := P) (w := w) 9998 a b c f ht he hs hf
 simp only [execOp,hx,hy,Sem.run_bind,run_eqGuard_agg w .eql t x y _ _ hm,Result.andThen_ok,run_eql_struct,h]
 rfl
theorem pairs_cells {w : World} {a : Option Addr} {n c : Nat} {l : List (Nat × Nat)} (h : PairsAt w (.slice a n c) l) (hn : 0 < n) :
  ∃ b o,a = some ⟨b,o,none⟩ ∧ ∀ (i : Nat) (p : Nat × Nat),l[i]? = some p → CellsAt w b (o + i * 2) [.int .i64 ((p.1 : Nat) : Int),.int .i64 ((p.2 : Nat) : Int)] := by
 obtain ⟨b,o,ha,h⟩ := SlAt.at h hn
 exact ⟨b,o,ha,fun i s hs => h i (pairV s) (by simp [hs])⟩
theorem eqgPair : Tryz.prog.eqGuardType Tryz.prog.depth 47 = false := by kernel_rfl
end Go.Proofs
namespace Go.Eng
open Go
def SlIn (S : Nat → Prop) (w : World) (k : Nat) (v : Value) (rows : List (List Value)) : Prop :=
 ∃ a cap,v = .slice a rows.length cap ∧ rows.length ≤ 9223372036854775807 ∧ rows.length ≤ cap ∧ (rows = [] ∨ ∃ b o,S b ∧ a = some ⟨b,o,none⟩ ∧ ∀ i r,rows[i]? = some r → CellsAt w b (o + i * k) r)
theorem SlIn.at {S : Nat → Prop} {w : World} {k : Nat} {v : Value} {rows : List (List Value)} (h : SlIn S w k v rows) : SlAt w k v rows := by
 obtain ⟨a,cap,h1,h2,h3,h4⟩ := h
 refine ⟨a,cap,h1,h2,h3,?_⟩
 rcases h4 with h | ⟨b,o,_,h5,h6⟩
 ·exact .inl h
 ·exact .inr ⟨b,o,h5,h6⟩
theorem SlIn.chg {S M : Nat → Prop} {w w' : World} {k : Nat} {v : Value} {rows : List (List Value)} (h : SlIn S w k v rows) (c : Chg M w w') (hm : ∀ b,S b → ¬ M b) : SlIn S w' k v rows := by
 obtain ⟨a,cap,h1,h2,h3,h4⟩ := h
 refine ⟨a,cap,h1,h2,h3,?_⟩
 rcases h4 with h | ⟨b,o,hb,h5,h6⟩
 ·exact .inl h
 ·exact .inr ⟨b,o,hb,h5,fun i r hr => (h6 i r hr).chg c (hm b hb)⟩
theorem SlIn.mono {S S' : Nat → Prop} {w : World} {k : Nat} {v : Value} {rows : List (List Value)} (h : SlIn S w k v rows) (hs : ∀ b,S b → S' b) : SlIn S' w k v rows := by
 obtain ⟨a,cap,h1,h2,h3,h4⟩ := h
 refine ⟨a,cap,h1,h2,h3,?_⟩
 rcases h4 with h | ⟨b,o,hb,h5⟩
 ·exact .inl h
 ·exact .inr ⟨b,o,hs b hb,h5⟩
theorem SlIn.nil (S : Nat → Prop) (w : World) (k : Nat) (a : Option Addr) (cap : Nat) : SlIn S w k (.slice a 0 cap) [] := ⟨a,cap,rfl,by simp,by simp,.inl rfl⟩
theorem SlIn.mk {S : Nat → Prop} {w : World} {k : Nat} {b o n c : Nat} {rows : List (List Value)} (h : SlAt w k (.slice (some ⟨b,o,none⟩) n c) rows) (hs : S b) : SlIn S w k (.slice (some ⟨b,o,none⟩) n c) rows := by
 obtain ⟨a,cap,h1,h2,h3,h4⟩ := h
 refine ⟨a,cap,h1,h2,h3,?_⟩
 rcases h4 with h | ⟨b',o',h5,h6⟩
 ·exact .inl h
 ·simp only [Value.slice.injEq] at h1
  have : b' = b := by rw [← h1.1] at h5; simp at h5; exact h5.1.symm
  exact .inr ⟨b',o',this ▸ hs,h5,h6⟩
mutual
def ReIn (S : Nat → Prop) (w : World) : Re → List Value → Prop
  | .mk k set args mn mx ng,vs => ∃ sa sc aa ac,vs = [.int .i64 k,.slice sa set.length sc,.slice aa args.length ac,.int .i64 mn,.int .i64 mx,.bool ng] ∧ SlIn S w 2 (.slice sa set.length sc) (set.map spanV) ∧ (args.length ≤ ac ∧ ac ≤ 9223372036854775807) ∧
      (args = [] ∨ ∃ b o,S b ∧ aa = some ⟨b,o,none⟩ ∧ ResIn S w b o args)
def ResIn (S : Nat → Prop) (w : World) (b : Nat) : Nat → List Re → Prop
  | _,[] => True
  | o,t :: ts => (∃ vs,CellsAt w b o vs ∧ ReIn S w t vs) ∧ ResIn S w b (o + 6) ts
end
mutual
theorem ReIn.at {S : Nat → Prop} {w : World} : ∀ (t : Re) {vs : List Value},ReIn S w t vs → ReAt w t vs
  | .mk k set args mn mx ng,vs,h => by
    simp only [ReIn] at h
    simp only [ReAt]
    obtain ⟨sa,sc,aa,ac,hv,hs,hl,ha⟩ := h
    refine ⟨sa,sc,aa,ac,hv,hs.at,hl,?_⟩
    rcases ha with h | ⟨b,o,_,h1,h2⟩
    · exact .inl h
    · exact .inr ⟨b,o,h1,ResIn.at args h2⟩
theorem ResIn.at {S : Nat → Prop} {w : World} {b : Nat} : ∀ (ts : List Re) {o : Nat},ResIn S w b o ts → ResAt w b o ts
  | [],_,_ => by simp only [ResAt]
  | t :: ts,o,h => by
    simp only [ResIn] at h
    simp only [ResAt]
    obtain ⟨⟨vs,h1,h2⟩,h3⟩ := h
    exact ⟨⟨vs,h1,ReIn.at t h2⟩,ResIn.at ts h3⟩
end
mutual
theorem ReIn.chg {S M : Nat → Prop} {w w' : World} (c : Chg M w w') (hm : ∀ b,S b → ¬ M b) : ∀ (t : Re) {vs : List Value},ReIn S w t vs → ReIn S w' t vs
  | .mk k set args mn mx ng,vs,h => by
    simp only [ReIn] at h ⊢
    obtain ⟨sa,sc,aa,ac,hv,hs,hl,ha⟩ := h
    refine ⟨sa,sc,aa,ac,hv,hs.chg c hm,hl,?_⟩
    rcases ha with h | ⟨b,o,hb,h1,h2⟩
    · exact .inl h
    · exact .inr ⟨b,o,hb,h1,ResIn.chg c hm args hb h2⟩
theorem ResIn.chg {S M : Nat → Prop} {w w' : World} (c : Chg M w w') (hm : ∀ b,S b → ¬ M b) {b : Nat} : ∀ (ts : List Re) {o : Nat},S b → ResIn S w b o ts → ResIn S w' b o ts
  | [],_,_,_ => by simp only [ResIn]
  | t :: ts,o,hb,h => by
    simp only [ResIn] at h ⊢
    obtain ⟨⟨vs,h1,h2⟩,h3⟩ := h
    exact ⟨⟨vs,h1.chg c (hm b hb),ReIn.chg c hm t h2⟩,ResIn.chg c hm ts hb h3⟩
end
mutual
theorem ReIn.mono {S S' : Nat → Prop} {w : World} (hs : ∀ b,S b → S' b) : ∀ (t : Re) {vs : List Value},ReIn S w t vs → ReIn S' w t vs
  | .mk k set args mn mx ng,vs,h => by
    simp only [ReIn] at h ⊢
    obtain ⟨sa,sc,aa,ac,hv,h0,hl,ha⟩ := h
    refine ⟨sa,sc,aa,ac,hv,h0.mono hs,hl,?_⟩
    rcases ha with h | ⟨b,o,hb,h1,h2⟩
    · exact .inl h
    · exact .inr ⟨b,o,hs b hb,h1,ResIn.mono hs args h2⟩
theorem ResIn.mono {S S' : Nat → Prop} {w : World} (hs : ∀ b,S b → S' b) {b : Nat} : ∀ (ts : List Re) {o : Nat},ResIn S w b o ts → ResIn S' w b o ts
  | [],_,_ => by simp only [ResIn]
  | t :: ts,o,h => by
    simp only [ResIn] at h ⊢
    obtain ⟨⟨vs,h1,h2⟩,h3⟩ := h
    exact ⟨⟨vs,h1,ReIn.mono hs t h2⟩,ResIn.mono hs ts h3⟩
end
theorem ReIn.ext {S : Nat → Prop} {w w' : World} (e : Ext w w') (t : Re) {vs : List Value} (h : ReIn S w t vs) : ReIn S w' t vs := ReIn.chg e (fun _ _ f => f) t h
theorem ReIn.form {S : Nat → Prop} {w : World} {t : Re} {vs : List Value} (h : ReIn S w t vs) : ∃ sa sc aa ac,vs = [.int .i64 t.kind,.slice sa t.set.length sc,.slice aa t.args.length ac,.int .i64 t.mn,.int .i64 t.mx,.bool t.neg] ∧ SlIn S w 2 (.slice sa t.set.length sc) (t.set.map spanV) ∧ (t.args.length ≤ ac ∧ ac ≤ 9223372036854775807) ∧
  (t.args = [] ∨ ∃ b o,S b ∧ aa = some ⟨b,o,none⟩ ∧ ResIn S w b o t.args) := by
 cases t; simp only [ReIn] at h; exact h
theorem ReIn.of {S : Nat → Prop} {w : World} {k : Int} {set : List (Int × Int)} {args : List Re} {mn mx : Int} {ng : Bool} {sa aa : Option Addr} {sc ac : Nat} (hs : SlIn S w 2 (.slice sa set.length sc) (set.map spanV)) (hl : (args.length ≤ ac ∧ ac ≤ 9223372036854775807)) (ha : args = [] ∨ ∃ b o,S b ∧ aa = some ⟨b,o,none⟩ ∧ ResIn S w b o args) :
  ReIn S w (.mk k set args mn mx ng) [.int .i64 k,.slice sa set.length sc,.slice aa args.length ac,.int .i64 mn,.int .i64 mx,.bool ng] := by
 simp only [ReIn]; exact ⟨sa,sc,aa,ac,rfl,hs,hl,ha⟩
theorem ResIn.one {S : Nat → Prop} {w : World} {b o : Nat} {t : Re} {vs : List Value} (hc : CellsAt w b o vs) (h : ReIn S w t vs) : ResIn S w b o [t] := by
 simp only [ResIn]; exact ⟨⟨vs,hc,h⟩,trivial⟩
theorem ResIn.two {S : Nat → Prop} {w : World} {b o : Nat} {t u : Re} {vs us : List Value} (hc : CellsAt w b o vs) (h : ReIn S w t vs) (hc' : CellsAt w b (o + 6) us) (h' : ReIn S w u us) : ResIn S w b o [t,u] := by
 simp only [ResIn]; exact ⟨⟨vs,hc,h⟩,⟨us,hc',h'⟩,trivial⟩
end Go.Eng
namespace Go.Proofs
open Go Go.Eng
abbrev TS : Nat := 51
def StrAt (wb w : World) (bs : Nat) (l : List Int) : Prop := ∃ a c,Blk w bs #[.slice a l.length c] TS ∧ IntsAt wb (.slice a l.length c) l
theorem StrAt.ext {wb w w' : World} {bs : Nat} {l : List Int} (h : StrAt wb w bs l) (e : Ext w w') : StrAt wb w' bs l := let ⟨a,c,h1,h2⟩ := h; ⟨a,c,e.keep h1,h2⟩
theorem StrAt.lt {wb w : World} {bs : Nat} {l : List Int} (h : StrAt wb w bs l) : bs < w.heap.size := let ⟨_,_,h1,_⟩ := h; h1.lt
theorem next_c (wb w0 : World) (bs : Nat) (l : List Int) (n : Int) (hn : 0 < n) (hm : n ≤ 2000) (hE : Ext wb w0) (hb : wb.heap.size ≤ bs) (hS : StrAt wb w0 bs l) :
  Ret Tryz.prog 48 #[.pointer (some ⟨bs,0,none⟩),.int .i64 n] w0 fun v w => ∃ x l',v = .int .i64 x ∧ 0 ≤ x ∧ x < n ∧ StrAt wb w bs l' ∧ Chg (fun x => x = bs) w0 w := by
 obtain ⟨a,c,hB,hl⟩ := hS
 have hcap := SlAt.cap hl
 have hlen : l.length ≤ 9223372036854775807 := by simpa using SlAt.le hl
 refine Ret_of Tryz.func48 rfl Tryz.ntmps48 (Nat.le_of_ble_eq_true rfl) ?_
 have E : Chg (fun x => x = bs) w0 w0 := Chg.refl _ _
 refine Wp_seq_region ?_
 refine qA (I6 0) rfl ?_
 refine WpL_nil (Wp_seq (Wp_seq_region ?_))
 refine qM (P6 bs 0) rfl ?_
 refine qV (r_nilCheck (a := ⟨bs,0,none⟩) rfl) ?_
 refine qF bs 0 0 rfl Tryz.underlying51 rfl siz22 rfl ?_
 refine qV (r_load (v := (.slice a l.length c)) rfl flat22 (hB.cell rfl)) ?_
 refine qV (r_lenSlice (ad := a) (n := l.length) (cap := c) Tryz.underlying22 rfl) ?_
 refine qV (r_eql (k := .i64) (a := (l.length : Int)) (b := 0) rfl rfl) ?_
 refine WpL_nil ?_
 refine Wp_cond (b := decide (((l.length : Int) : Int) = 0)) rfl (fun h0 => ?_) (fun h0 => ?_)
 ·have kh0 := h0
  replace h0 := of_decide_eq_true h0
  refine Wp_seq_region ?_
  refine qA (I6 0) rfl ?_
  refine WpL_nil (Wp_ret (thn_ret ?_))
  refine fin_tmp Tryz.results48 (v := (.int .i64 0)) rfl ?_
  exact ⟨0,l,rfl,Int.le_refl _,hn,⟨a,c,hB,hl⟩,E⟩
 ·have kh0 := h0
  replace h0 := of_decide_eq_false h0
  obtain ⟨x,hx⟩ := get_of_lt (l := l) (i := 0) (by omega)
  obtain ⟨b,o,rfl,hcl⟩ := ints_cells hl (by omega)
  refine Wp_skip (thn_normal (Wp_seq_region ?_))
  refine qM (P6 bs 0) rfl ?_
  refine qV (r_nilCheck (a := ⟨bs,0,none⟩) rfl) ?_
  refine qF bs 0 0 rfl Tryz.underlying51 rfl siz22 rfl ?_
  refine qV (r_load (v := (.slice (some ⟨b,o,none⟩) l.length c)) rfl flat22 (hB.cell rfl)) ?_
  refine qV (r_indexSlice (b := b) (o := o) (len := l.length) (cap := c) (i := 0) (o' := o + 0) rfl rfl rfl Tryz.underlying22 siz3 (by omega) (by omega)) ?_
  refine qV (r_load (v := (I6 x)) rfl flat3 ((hE.cell (hcl 0 x hx)))) ?_
  refine qA (I6 x) rfl ?_
  refine WpL_nil (Wp_seq_region ?_)
  refine qM (P6 bs 0) rfl ?_
  refine qM (P6 bs 0) rfl ?_
  refine qV (r_nilCheck (a := ⟨bs,0,none⟩) rfl) ?_
  refine qF bs 0 0 rfl Tryz.underlying51 rfl siz22 rfl ?_
  refine qV (r_load (v := (.slice (some ⟨b,o,none⟩) l.length c)) rfl flat22 (hB.cell rfl)) ?_
  obtain ⟨sl,hsl⟩ : ∃ a' : Option Addr,(if c = 1 then (some ⟨b,o,none⟩) else Option.map (fun q : Addr => q.add (1 * 1)) (some ⟨b,o,none⟩)) = a' := ⟨_,rfl⟩
  refine qV (r_sliceLo (a := (some ⟨b,o,none⟩)) (len := l.length) (cap := c) (lo := 1) (l := 1) (n' := (l.length - 1)) (c' := (c - 1)) Tryz.underlying22 siz3 rfl rfl (by omega) (by omega) hsl (by omega) (by omega)) ?_
  refine qV (r_nilCheck (a := ⟨bs,0,none⟩) rfl) ?_
  refine qF bs 0 0 rfl Tryz.underlying51 rfl siz22 rfl ?_
  refine s_store (b := bs) (o := 0) (c' := #[(.slice sl (l.length - 1) (c - 1))]) (v := (.slice sl (l.length - 1) (c - 1))) rfl rfl rfl siz22 hB (by simp) rfl ?_
  intro w2 S2
  replace E := S2.step E (by first | exact Or.inl (by omega) | exact Or.inr rfl | exact Or.inr (by assumption) | exact Or.inr (by simp) | exact Or.inr (by omega) | exact Or.inr (by dsimp only; omega))
  replace hB := S2.blk
  refine WpL_nil (Wp_seq_region ?_)
  refine qM (I6 x) rfl ?_
  refine qM (I6 n) rfl ?_
  refine WpL_enter rfl rfl (by decide) (r_callF (vs := [(I6 x),(I6 n)]) Tryz.func18 kQ kQ rfl) (below_c x n hn hm _) ?_
  rintro _ _ ⟨rfl,rfl⟩
  have hcut := SlAt.cut (lo := 1) (hi := l.length) hl (by omega) (Nat.le_refl _) hsl rfl rfl
  have hdl : ((l.map intV).drop 1).take (l.length - 1) = (l.drop 1).map intV := by rw [List.take_of_length_le (by simp),List.map_drop]
  rw [hdl] at hcut
  have hll : (l.drop 1).length = l.length - 1 := by simp
  refine qA (I6 (x % n)) rfl ?_
  refine WpL_nil (Wp_ret ?_)
  refine fin_tmp Tryz.results48 (v := (.int .i64 (x % n))) rfl ?_
  exact ⟨x % n,l.drop 1,rfl,Int.emod_nonneg x (by omega),Int.emod_lt_of_pos x hn,⟨sl,c - 1,by rw [hll]; exact hB,by rw [hll]; exact hcut⟩,E⟩
theorem span_c (w0 : World) (lo hi : Int) : Ret Tryz.prog 46 #[.int .i64 lo,.int .i64 hi] w0 fun v w => ∃ b,v = .slice (some ⟨b,0,none⟩) 1 1 ∧ SpansAt w v [(lo,hi)] ∧ w0.heap.size ≤ b ∧ Ext w0 w := by
 refine Ret_of Tryz.func46 rfl Tryz.ntmps46 (Nat.le_of_ble_eq_true rfl) ?_
 have E : Chg none1 w0 w0 := Chg.refl _ _
 refine Wp_seq_region ?_
 refine qA (.slice none 0 0) rfl ?_
 refine WpL_nil (Wp_seq_region ?_)
 refine qM (I6 lo) rfl ?_
 refine qM (I6 hi) rfl ?_
 refine qV (r_build (ps := [(0,(I6 lo)),(1,(I6 hi))]) (v := (.agg #[(I6 lo),(I6 hi)])) rfl (by kernel_rfl)) ?_
 refine s_buildSlice (ps := [(0,(.agg #[(I6 lo),(I6 hi)]))]) (c := #[(I6 lo),(I6 hi)]) (by decide) rfl Tryz.underlying24 siz72 zer72 (by decide) (by decide) (by kernel_rfl) ?_
 intro b1 w1 N1
 have F1 := N1.ge E
 replace E := E.ext N1.ext
 have B1 := N1.blk
 refine qA (.slice (some ⟨b1,0,none⟩) 1 1) rfl ?_
 refine WpL_nil (Wp_ret ?_)
 refine fin_tmp Tryz.results46 (v := (.slice (some ⟨b1,0,none⟩) 1 1)) rfl ?_
 exact ⟨b1,rfl,spans_of_blk [(lo,hi)] B1 (by simp) (by simp),by omega,E⟩
def oneT (r : Int) : Re := .mk 2 [(r,r)] [] 0 0 false
theorem one_c (w0 : World) (r : Int) : Ret Tryz.prog 15 #[.int .i64 r] w0 fun v w => ∃ b,v = .agg #[.int .i64 2,.slice (some ⟨b,0,none⟩) 1 1,.slice none 0 0,.int .i64 0,.int .i64 0,.bool false] ∧ SpansAt w (.slice (some ⟨b,0,none⟩) 1 1) [(r,r)] ∧ Ext w0 w := by
 refine Ret_of Tryz.func15 rfl Tryz.ntmps15 (Nat.le_of_ble_eq_true rfl) ?_
 have E : Chg none1 w0 w0 := Chg.refl _ _
 refine Wp_seq_region ?_
 refine s_alloc (c := #[(I6 0),(.slice none 0 0),(.slice none 0 0),(I6 0),(I6 0),(.bool false)]) (by decide) zer27 rfl ?_
 intro b1 w1 N1
 have F1 := N1.ge E
 replace E := E.ext N1.ext
 have B1 := N1.blk
 refine WpL_nil (Wp_seq_region ?_)
 refine qM (I6 r) rfl ?_
 refine qM (I6 r) rfl ?_
 refine WpL_enter rfl rfl (by decide) (r_callF (vs := [(I6 r),(I6 r)]) Tryz.func46 kQ kQ rfl) (span_c _ r r) ?_
 rintro _ w9 ⟨b,rfl,hsp,hb,X9⟩
 replace B1 := X9.keep B1
 replace E := E.ext X9
 have hbne : b ≠ b1 := by have := N1.size; have := N1.eq; omega
 refine qV (r_build (ps := [(0,(I6 2)),(1,(.slice (some ⟨b,0,none⟩) 1 1))]) (v := (.agg #[(I6 2),(.slice (some ⟨b,0,none⟩) 1 1),(.slice none 0 0),(I6 0),(I6 0),(.bool false)])) rfl (by kernel_rfl)) ?_
 refine s_storeAgg (b := b1) (o := 0) (c' := #[(I6 2),(.slice (some ⟨b,0,none⟩) 1 1),(.slice none 0 0),(I6 0),(I6 0),(.bool false)]) rfl rfl (by simp [Value.oneCell']) siz27 rfl B1 (by first | (simp; done) | exact Nat.le_of_ble_eq_true rfl) rfl ?_
 intro w2 S2
 replace E := S2.step E (by first | exact Or.inl (by omega) | exact Or.inr rfl | exact Or.inr (by assumption) | exact Or.inr (by simp) | exact Or.inr (by omega) | exact Or.inr (by dsimp only; omega))
 replace B1 := S2.blk
 refine WpL_nil (Wp_ret ?_)
 refine fin_agg Tryz.results15 (vs := [(.int .i64 2),(.slice (some ⟨b,0,none⟩) 1 1),(.slice none 0 0),(.int .i64 0),(.int .i64 0),(.bool false)]) (b := b1) rfl agg27 siz27 rfl (B1.cells rfl) ?_
 exact ⟨b,rfl,(SlIn.mk hsp (S := fun x => x = b) rfl).chg S2.chg (fun x h => by omega) |>.at,E⟩
theorem begun_check : checkP (oneT 97) [98,97] = 0 := by decide
theorem begun_pairs : pairsL (relOf [98,97] (oneT 97)) (([98,97] : List Int).length + 1) = [(1,2)] := by decide +kernel
theorem one_at {w : World} {b : Nat} {r : Int} (h : SpansAt w (.slice (some ⟨b,0,none⟩) 1 1) [(r,r)]) : ReAt w (oneT r) [.int .i64 2,.slice (some ⟨b,0,none⟩) 1 1,.slice none 0 0,.int .i64 0,.int .i64 0,.bool false] :=
 ReAt.of (set := [(r,r)]) (args := []) h (by simp) (.inl rfl)
theorem begun_c (w0 : World) (hT : TabOk w0) : Ret Tryz.prog 5 #[] w0 fun v w => v = .bool true ∧ Ext w0 w := by
 refine Ret_of Tryz.func5 rfl Tryz.ntmps5 (Nat.le_of_ble_eq_true rfl) ?_
 have E : Chg none1 w0 w0 := Chg.refl _ _
 refine Wp_seq_region ?_
 refine qA (.bool false) rfl ?_
 refine WpL_nil (Wp_seq_region ?_)
 refine WpL_enter rfl rfl (by decide) (r_callF (vs := [(I6 97)]) Tryz.func15 kQ kQ rfl) (one_c _ 97) ?_
 rintro _ w9 ⟨b,rfl,hsp,X9⟩
 replace E := E.ext X9
 refine s_buildSlice (ps := [(0,(I6 98)),(1,(I6 97))]) (c := #[(I6 98),(I6 97)]) (by decide) rfl Tryz.underlying22 siz3 zer3 (by decide) (by decide) (by kernel_rfl) ?_
 intro b1 w1 N1
 have F1 := N1.ge E
 replace E := E.ext N1.ext
 have B1 := N1.blk
 refine WpL_enter rfl rfl (by decide) (r_callF (vs := [(.agg #[(I6 2),(.slice (some ⟨b,0,none⟩) 1 1),(.slice none 0 0),(I6 0),(I6 0),(.bool false)]),(.slice (some ⟨b1,0,none⟩) 2 2)]) Tryz.func16 kQ kQ rfl) ((pairs_c _ (oneT 97) _ _ [98,97] (one_at (hsp.ext N1.ext)) (ints_of_blk [98,97] B1 (by simp) (by simp)) (hT.ext E)).mono (R' := fun v w => ∃ a c,v = .tuple #[.slice a 1 c,.int .i64 0] ∧ PairsAt w (.slice a 1 c) [(1,2)] ∧ Ext w1 w) (by rintro v w ⟨a,c,h1,h2,h3⟩; rw [begun_check,if_pos rfl,begun_pairs] at h1 h2; exact ⟨a,c,h1,h2,h3⟩)) ?_
 rintro _ w19 ⟨la,lc,rfl,hps,X19⟩
 replace B1 := X19.keep B1
 replace E := E.ext X19
 obtain ⟨bp,po,rfl,hcl⟩ := pairs_cells hps (by decide)
 refine qM (.tuple #[(.slice (some ⟨bp,po,none⟩) 1 lc),(I6 0)]) rfl ?_
 refine qV (r_extract (vs := #[(.slice (some ⟨bp,po,none⟩) 1 lc),(I6 0)]) (v := (.slice (some ⟨bp,po,none⟩) 1 lc)) rfl rfl) ?_
 refine qV (r_extract (vs := #[(.slice (some ⟨bp,po,none⟩) 1 lc),(I6 0)]) (v := (I6 0)) rfl rfl) ?_
 refine qA (.slice (some ⟨bp,po,none⟩) 1 lc) rfl ?_
 refine qA (I6 0) rfl ?_
 refine WpL_nil (Wp_seq_region ?_)
 refine qM (I6 0) rfl ?_
 refine qV (r_eql (k := .i64) (a := 0) (b := 0) rfl rfl) ?_
 refine qM (.bool true) rfl ?_
 refine WpL_guard_yes (oj := _) rfl rfl (by decide) rfl ?_
 refine qM (.slice (some ⟨bp,po,none⟩) 1 lc) rfl ?_
 refine WpL_guard_yes (oj := _) rfl rfl (by decide) rfl ?_
 refine qV (r_lenSlice (ad := some ⟨bp,po,none⟩) (n := 1) (cap := lc) Tryz.underlying34 rfl) ?_
 refine WpL_guard_yes (oj := _) rfl rfl (by decide) rfl ?_
 refine qV (r_eql (k := .i64) (a := 1) (b := 1) rfl rfl) ?_
 refine qV (r_pick (b := true) (v := (.bool true)) rfl rfl) ?_
 refine qM (.bool true) rfl ?_
 refine WpL_guard_yes (oj := _) rfl rfl (by decide) rfl ?_
 refine qM (.slice (some ⟨bp,po,none⟩) 1 lc) rfl ?_
 refine WpL_guard_yes (oj := _) rfl rfl (by decide) rfl ?_
 refine qV (r_indexSlice (b := bp) (o := po) (len := 1) (cap := lc) (i := 0) (o' := po + 0 * 2) rfl rfl rfl Tryz.underlying34 siz47 (by omega) (by omega)) ?_
 refine WpL_guard_yes (oj := _) rfl rfl (by decide) rfl ?_
 refine qV (r_loadAgg (vs := [(I6 1),(I6 2)]) rfl agg47 siz47 rfl (hcl 0 (1,2) rfl)) ?_
 refine WpL_guard_yes (oj := _) rfl rfl (by decide) rfl ?_
 refine qV (r_build (ps := [(0,(I6 1)),(1,(I6 2))]) (v := (.agg #[(I6 1),(I6 2)])) rfl (by kernel_rfl)) ?_
 refine WpL_guard_yes (oj := _) rfl rfl (by decide) rfl ?_
 refine WpL_val (v := (.bool true)) rfl rfl (by decide) ((r_eqlPair (a := 1) (b := 2) (c := 1) (f := 2) Tryz.underlying47 Tryz.underlying3 siz3 flat3 eqgPair rfl rfl).trans rfl) ?_
 refine qV (r_pick (b := true) (v := (.bool true)) rfl rfl) ?_
 refine qA (.bool true) rfl ?_
 refine WpL_nil (Wp_ret ?_)
 refine fin_tmp Tryz.results5 (v := (.bool true)) rfl ?_
 exact ⟨rfl,E⟩
end Go.Proofs
