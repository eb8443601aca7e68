/- Contracts: one relation after another; the union of two. -/
import Derived.Test.YtiepeobnpmoghaaDoorW7
namespace Go.Proofs
open Go Go.Eng
set_option maxRecDepth 100000

def outR (A B : Nat → Nat → Bool) (n i p : Nat) : Nat → Nat → Bool := fun i' k =>
  if i' < i then thenR A B n i' k else if i' = i then (List.range p).any fun j => A i j && B j k else false

theorem any_range_skip {f : Nat → Bool} {p q : Nat} (h : ∀ j, p ≤ j → j < q → f j = false) (hpq : p ≤ q) : (List.range q).any f = (List.range p).any f := by
  rw [Bool.eq_iff_iff]
  simp only [List.any_eq_true, List.mem_range]
  constructor
  · rintro ⟨j, hj, hf⟩
    rcases Nat.lt_or_ge j p with h' | h'
    · exact ⟨j, h', hf⟩
    · rw [h j h' hj] at hf; cases hf
  · rintro ⟨j, hj, hf⟩; exact ⟨j, by omega, hf⟩
theorem any_range_succ {f : Nat → Bool} {p : Nat} : (List.range (p + 1)).any f = ((List.range p).any f || f p) := by
  rw [List.range_succ]; simp

/-- What the lowest bit of what is left says. -/
theorem left_low {A : Nat → Bool} {p x k m : Nat} (hx : x = maskN 25 fun j => A j && decide (p ≤ j)) (hl : x = 2 ^ (k + 1) * m + 2 ^ k) :
    k < 25 ∧ A k = true ∧ p ≤ k ∧ (∀ j, p ≤ j → j < k → A j = false) ∧ x &&& (x - 1) = maskN 25 fun j => A j && decide (k + 1 ≤ j) := by
  have hb : ∀ j, x.testBit j = (decide (j < 25) && (A j && decide (p ≤ j))) := fun j => by rw [hx, maskN_bit]
  have hk := low_bit hl k
  rw [hb] at hk
  simp at hk
  have hlow : ∀ j, p ≤ j → j < k → A j = false := fun j h1 h2 => by
    have := low_bit hl j
    rw [hb, if_pos (by omega)] at this
    have hne : j ≠ k := by omega
    simpa [show j < 25 by omega, h1, hne] using this
  refine ⟨hk.1, hk.2.1, hk.2.2, hlow, mask_ext ?_ fun j hj => ?_⟩
  · exact Nat.lt_of_le_of_lt Nat.and_le_left (hx ▸ maskN_lt 25 _)
  · rw [low_clear hl, hb, Bool.eq_iff_iff]
    simp only [hj, decide_true, Bool.true_and, Bool.and_eq_true, decide_eq_true_eq]
    constructor
    · rintro ⟨⟨h1, h2⟩, h3⟩
      refine ⟨h1, ?_⟩
      rcases Nat.lt_or_ge j k with h | h
      · rw [hlow j h2 h] at h1; cases h1
      · omega
    · rintro ⟨h1, h2⟩; exact ⟨⟨h1, by omega⟩, by omega⟩
theorem outR_step {A B : Nat → Nat → Bool} {n i p k : Nat} (hlow : ∀ j, p ≤ j → j < k → A i j = false) (hpk : p ≤ k) (hA : A i k = true) (c : Nat) :
    (outR A B n i p i c || B k c) = outR A B n i (k + 1) i c := by
  simp only [outR, Nat.lt_irrefl, if_false, if_true]
  rw [any_range_succ, any_range_skip (p := p) (q := k) (fun j h1 h2 => by simp [hlow j h1 h2]) hpk, hA]
  simp
theorem outR_end {A B : Nat → Nat → Bool} {n i p : Nat} (hi : i ≤ n) (hp : p ≤ 25) (hz : maskN 25 (fun j => A i j && decide (p ≤ j)) = 0) : rowArr (outR A B n i p) = rowArr (outR A B n (i + 1) 0) := by
  apply rowArr_congr
  intro i' _ k _
  rw [mask_eq_zero] at hz
  simp only [outR]
  by_cases h1 : i' < i
  · rw [if_pos h1, if_pos (by omega)]
  · rw [if_neg h1]
    by_cases h2 : i' = i
    · subst h2
      rw [if_pos rfl, if_pos (by omega)]
      simp only [thenR, hi, decide_true, Bool.true_and]
      exact (any_range_skip (fun j h3 h4 => by have := hz j h4; simp [h3] at this; simp [this]) hp).symm
    · rw [if_neg h2, if_neg (by omega)]
      split <;> simp

set_option maxHeartbeats 400000 in
theorem then_c (w0 : World) (ba bb n : Nat) (A B : Nat → Nat → Bool) (hn : n ≤ 24) (hA : Blk w0 ba (rowArr A) TR) (hB : Blk w0 bb (rowArr B) TR) (hT : TabOk w0) :
    Ret Tryd.prog 67 #[.pointer (some ⟨ba, 0, none⟩), .pointer (some ⟨bb, 0, none⟩), .int .i64 (n : Int)] w0
      fun v w => ∃ b, v = .pointer (some ⟨b, 0, none⟩) ∧ w0.heap.size ≤ b ∧ Blk w b (rowArr (thenR A B n)) TR ∧ Ext w0 w := by
  have la := hA.lt
  have lb := hB.lt
  refine Ret_of Tryd.func67 rfl Tryd.ntmps67 (Nat.le_of_ble_eq_true rfl) ?_
  have E : Chg none1 w0 w0 := Chg.refl _ _
  refine Wp_seq_region ?_
  refine WpL_val rfl rfl (by decide) (r_assign (v := (.pointer none)) rfl) ?_
  refine WpL_nil ?_
  refine Wp_seq_region ?_
  refine WpL_val rfl rfl (by decide) (r_build (ps := []) (v := (.agg #[(.int .u32 0), (.int .u32 0), (.int .u32 0), (.int .u32 0), (.int .u32 0), (.int .u32 0), (.int .u32 0), (.int .u32 0), (.int .u32 0), (.int .u32 0), (.int .u32 0), (.int .u32 0), (.int .u32 0), (.int .u32 0), (.int .u32 0), (.int .u32 0), (.int .u32 0), (.int .u32 0), (.int .u32 0), (.int .u32 0), (.int .u32 0), (.int .u32 0), (.int .u32 0), (.int .u32 0), (.int .u32 0)])) rfl (by kernel_rfl)) ?_
  refine s_box (v := (.agg #[(.int .u32 0), (.int .u32 0), (.int .u32 0), (.int .u32 0), (.int .u32 0), (.int .u32 0), (.int .u32 0), (.int .u32 0), (.int .u32 0), (.int .u32 0), (.int .u32 0), (.int .u32 0), (.int .u32 0), (.int .u32 0), (.int .u32 0), (.int .u32 0), (.int .u32 0), (.int .u32 0), (.int .u32 0), (.int .u32 0), (.int .u32 0), (.int .u32 0), (.int .u32 0), (.int .u32 0), (.int .u32 0)])) (c := #[(.int .u32 0), (.int .u32 0), (.int .u32 0), (.int .u32 0), (.int .u32 0), (.int .u32 0), (.int .u32 0), (.int .u32 0), (.int .u32 0), (.int .u32 0), (.int .u32 0), (.int .u32 0), (.int .u32 0), (.int .u32 0), (.int .u32 0), (.int .u32 0), (.int .u32 0), (.int .u32 0), (.int .u32 0), (.int .u32 0), (.int .u32 0), (.int .u32 0), (.int .u32 0), (.int .u32 0), (.int .u32 0)]) (by decide) rfl rfl ?_
  intro b1 w1 N1
  have F1 := N1.ge E
  have O1_ba := N1.lt hA
  have O1_bb := N1.lt hB
  replace hA := N1.keep hA
  replace hB := N1.keep hB
  replace E := E.ext N1.ext
  have B1 := N1.blk
  refine WpL_val rfl rfl (by decide) (r_assign (v := (.pointer (some ⟨b1, 0, none⟩))) rfl) ?_
  refine WpL_nil ?_
  refine Wp_seq ?_
  refine Wp_seq_region ?_
  refine WpL_val rfl rfl (by decide) (r_move (v := (.int .i64 ((n : Nat) : Int))) rfl) ?_
  refine WpL_val rfl rfl (by decide) (r_add (k := .i64) (a := ((n : Nat) : Int)) (b := 1) (c := ((n : Nat) : Int) + 1) rfl rfl (wI64 (by omega))) ?_
  refine WpL_val rfl rfl (by decide) (r_move (v := (.int .i64 0)) rfl) ?_
  refine WpL_nil ?_
  refine Wp_block ?_
  replace B1 : Blk w1 b1 (rowArr (outR A B n 0 0)) TR := by have h0 : rowArr (outR A B n 0 0) = rowArr (fun _ _ => false) := rowArr_congr (fun i _ j _ => by simp [outR]); rw [h0]; exact B1
  refine Wp_loop (fun nn_ σ W2 => ∃ (i : Nat), (∃ jj_, σ = upds jj_ [(0, (.pointer (some ⟨ba, 0, none⟩))), (1, (.pointer (some ⟨bb, 0, none⟩))), (7, (.pointer (some ⟨b1, 0, none⟩))), (13, (.int .i64 (((n : Nat) : Int) + 1))), (14, (.int .i64 ((i : Nat) : Int)))]) ∧ Chg none1 w0 W2 ∧ Blk W2 ba (rowArr A) TR ∧ Blk W2 bb (rowArr B) TR ∧ Blk W2 b1 (rowArr (outR A B n i 0)) 91 ∧ (i ≤ n + 1) ∧ nn_ = n + 1 - i) (n := n + 1 - 0) ?_ ?_
  · exact ⟨0, Fits.out ⟨rfl, rfl, rfl, rfl, rfl, trivial⟩, E, hA, hB, B1, Nat.zero_le _, rfl⟩
  · clear E hA hB B1
    rintro _ _ W2 ⟨i, ⟨j2, rfl⟩, E, hA, hB, B1, hi, rfl⟩
    refine Wp_seq_region ?_
    refine WpL_val rfl rfl (by decide) (r_lss (k := .i64) (a := ((i : Nat) : Int)) (b := ((n : Nat) : Int) + 1) rfl rfl) ?_
    refine WpL_nil ?_
    refine Wp_seq ?_
    refine Wp_cond (b := decide ((((i : Nat) : Int) : Int) < ((n : Nat) : Int) + 1)) rfl (fun hlt => ?_) (fun hlt => ?_)
    · have khlt := hlt
      replace hlt := of_decide_eq_true hlt
      refine Wp_skip ?_
      refine thn_normal ?_
      refine Wp_seq ?_
      refine Wp_block ?_
      refine Wp_seq_region ?_
      refine WpL_val rfl rfl (by decide) (r_move (v := (.int .i64 ((i : Nat) : Int))) rfl) ?_
      refine WpL_val rfl rfl (by decide) (r_assign (v := (.int .i64 ((i : Nat) : Int))) rfl) ?_
      refine WpL_nil ?_
      refine Wp_seq_region ?_
      refine WpL_val rfl rfl (by decide) (r_move (v := (.pointer (some ⟨ba, 0, none⟩))) rfl) ?_
      refine WpL_val rfl rfl (by decide) (r_move (v := (.int .i64 ((i : Nat) : Int))) rfl) ?_
      refine WpL_val rfl rfl (by decide) (r_nilCheck (a := ⟨ba, 0, none⟩) rfl) ?_
      refine WpL_val rfl rfl (by decide) (r_indexArr (b := ba) (o := 0) (i := i) (o' := i) rfl rfl rfl Tryd.underlying91 siz70 (by omega) (by omega)) ?_
      refine WpL_val rfl rfl (by decide) (r_load (v := (.int .u32 ((maskN 25 (fun j => A i j && decide (0 ≤ j)) : Nat) : Int))) rfl flat70 ((hA.cell (rowArr_get A (by omega))).trans (by rw [mask_congr (g := fun j => A i j && decide (0 ≤ j)) (fun j _ => by simp)]))) ?_
      refine WpL_val rfl rfl (by decide) (r_assign (v := (.int .u32 ((maskN 25 (fun j => A i j && decide (0 ≤ j)) : Nat) : Int))) rfl) ?_
      refine WpL_nil ?_
      refine Wp_block ?_
      refine Wp_loop (fun nn_ σ W4 => ∃ (p : Nat), (∃ jj_, σ = upds jj_ [(0, (.pointer (some ⟨ba, 0, none⟩))), (1, (.pointer (some ⟨bb, 0, none⟩))), (7, (.pointer (some ⟨b1, 0, none⟩))), (8, (.int .i64 ((i : Nat) : Int))), (13, (.int .i64 (((n : Nat) : Int) + 1))), (14, (.int .i64 ((i : Nat) : Int))), (9, (.int .u32 ((maskN 25 (fun j => A i j && decide (p ≤ j)) : Nat) : Int)))]) ∧ Chg none1 w0 W4 ∧ Blk W4 ba (rowArr A) TR ∧ Blk W4 bb (rowArr B) TR ∧ Blk W4 b1 (rowArr (outR A B n i p)) 91 ∧ (p ≤ 25) ∧ nn_ = 25 - p) (n := 25 - 0) ?_ ?_
      · exact ⟨0, Fits.out ⟨rfl, rfl, rfl, rfl, rfl, rfl, rfl, trivial⟩, E, hA, hB, B1, Nat.zero_le _, rfl⟩
      · clear E hA hB B1
        rintro _ _ W4 ⟨p, ⟨j4, rfl⟩, E, hA, hB, B1, hp, rfl⟩
        obtain ⟨x, hx⟩ : ∃ x, x = maskN 25 (fun j => A i j && decide (p ≤ j)) := ⟨_, rfl⟩
        have hxl : x < 4294967296 := hx ▸ mask_lt32 _
        rw [← hx]
        refine Wp_seq ?_
        refine Wp_seq_region ?_
        refine WpL_val rfl rfl (by decide) (r_move (v := (.int .u32 ((x : Nat) : Int))) rfl) ?_
        refine WpL_val rfl rfl (by decide) (r_neq (k := .u32) (a := ((x : Nat) : Int)) (b := 0) rfl rfl) ?_
        refine WpL_nil ?_
        refine Wp_cond (b := decide ((((x : Nat) : Int) : Int) ≠ 0)) rfl (fun hne => ?_) (fun hne => ?_)
        · have khne := hne
          replace hne := of_decide_eq_true hne
          obtain ⟨k, m, hl⟩ := low_form x (by omega)
          obtain ⟨hk25, hAk, hpk, hlow, hclear⟩ := left_low hx hl
          refine Wp_skip ?_
          refine thn_normal ?_
          refine Wp_seq ?_
          refine Wp_block ?_
          refine Wp_draw 14 mixed (by kernel_rfl) ?_
          intro w6 X6 _
          replace hA := X6.keep hA
          replace hB := X6.keep hB
          replace B1 := X6.keep B1
          replace E := E.ext X6
          refine WpT_val rfl rfl (by decide) (r_move (v := (.pointer (some ⟨b1, 0, none⟩))) rfl) ?_
          refine WpT_val rfl rfl (by decide) (r_move (v := (.int .i64 ((i : Nat) : Int))) rfl) ?_
          refine WpT_val rfl rfl (by decide) (r_nilCheck (a := ⟨b1, 0, none⟩) rfl) ?_
          refine WpT_val rfl rfl (by decide) (r_indexArr (b := b1) (o := 0) (i := i) (o' := i) rfl rfl rfl Tryd.underlying91 siz70 (by omega) (by omega)) ?_
          refine WpT_val rfl rfl (by decide) (r_load (v := (.int .u32 ((maskN 25 (outR A B n i p i) : Nat) : Int))) rfl flat70 (B1.cell (rowArr_get _ (by omega)))) ?_
          refine WpT_val rfl rfl (by decide) (r_move (v := (.pointer (some ⟨bb, 0, none⟩))) rfl) ?_
          refine WpT_val rfl rfl (by decide) (r_move (v := (.int .u32 ((x : Nat) : Int))) rfl) ?_
          refine WpT_enter (v := (.int .i64 ((k : Nat) : Int))) rfl rfl (by decide) (r_callF (vs := [(.int .u32 ((x : Nat) : Int))]) Tryd.func41 nm41 bd41 rfl) (tz_c _ x k m hl hxl (hT.ext E)) ?_
          refine WpT_val rfl rfl (by decide) (r_nilCheck (a := ⟨bb, 0, none⟩) rfl) ?_
          refine WpT_val rfl rfl (by decide) (r_indexArr (b := bb) (o := 0) (i := k) (o' := k) rfl rfl rfl Tryd.underlying91 siz70 (by omega) (by omega)) ?_
          refine WpT_val rfl rfl (by decide) (r_load (v := (.int .u32 ((maskN 25 (B k) : Nat) : Int))) rfl flat70 (hB.cell (rowArr_get _ (by omega)))) ?_
          refine WpT_val rfl rfl (by decide) (r_bits (k := .u32) (a := ((maskN 25 (outR A B n i p i) : Nat) : Int)) (b := ((maskN 25 (B k) : Nat) : Int)) (v := .int .u32 ((maskN 25 (outR A B n i (k + 1) i) : Nat) : Int)) rfl rfl (by simp) ((bits_or _ _ (mask_lt32 _) (mask_lt32 _)).trans (by rw [mask_or, mask_congr (fun c _ => outR_step hlow hpk hAk c)]))) ?_
          refine WpT_val rfl rfl (by decide) (r_nilCheck (a := ⟨b1, 0, none⟩) rfl) ?_
          refine WpT_val rfl rfl (by decide) (r_indexArr (b := b1) (o := 0) (i := i) (o' := i) rfl rfl rfl Tryd.underlying91 siz70 (by omega) (by omega)) ?_
          refine WpT_zero ?_
          refine s_store (b := b1) (o := i) (c' := rowArr (outR A B n i (k + 1))) (v := (.int .u32 ((maskN 25 (outR A B n i (k + 1) i) : Nat) : Int))) rfl rfl rfl siz70 B1 (by rw [rowArr_size]; omega) (rowArr_set (by omega) rfl (fun i' _ hne j _ => by simp [outR, hne])) ?_
          intro w7 S7
          replace hA := S7.keep (by omega) hA
          replace hB := S7.keep (by omega) hB
          replace E := S7.step E (by first | exact Or.inl (by omega) | exact Or.inr rfl | exact Or.inr (by assumption) | exact Or.inr (by simp) | exact Or.inr (by omega) | exact Or.inr (by dsimp only; omega))
          replace B1 := S7.blk
          refine WpL_nil ?_
          refine inB_normal ?_
          refine thn_normal ?_
          refine Wp_region ?_
          refine WpL_val rfl rfl (by decide) (r_move (v := (.int .u32 ((x : Nat) : Int))) rfl) ?_
          refine WpL_val rfl rfl (by decide) (r_move (v := (.int .u32 ((x : Nat) : Int))) rfl) ?_
          refine WpL_val rfl rfl (by decide) (r_sub (k := .u32) (a := ((x : Nat) : Int)) (b := 1) (c := ((x - 1 : Nat) : Int)) rfl rfl (by rw [wU32 (by omega)]; omega)) ?_
          refine WpL_val rfl rfl (by decide) (r_bits (k := .u32) (a := ((x : Nat) : Int)) (b := ((x - 1 : Nat) : Int)) (v := .int .u32 ((maskN 25 (fun j => A i j && decide (k + 1 ≤ j)) : Nat) : Int)) rfl rfl (by simp) ((bits_and _ _ hxl (by omega)).trans (by rw [hclear]))) ?_
          refine WpL_val rfl rfl (by decide) (r_assign (v := (.int .u32 ((maskN 25 (fun j => A i j && decide (k + 1 ≤ j)) : Nat) : Int))) rfl) ?_
          refine WpL_nil ?_
          refine thn_normal ?_
          exact ⟨25 - (k + 1), by omega, k + 1, Fits.out ⟨rfl, rfl, rfl, rfl, rfl, rfl, rfl, trivial⟩, E, hA, hB, B1, (by omega), rfl⟩
        · have khne := hne
          replace hne := of_decide_eq_false hne
          have hz : x = 0 := by omega
          rw [outR_end (by omega) hp (hx ▸ hz)] at B1
          refine Wp_exit ?_
          refine thn_exit ?_
          refine thn_exit ?_
          refine inB_here ?_
          refine inB_normal ?_
          refine thn_normal ?_
          refine Wp_region ?_
          refine WpL_val rfl rfl (by decide) (r_add (k := .i64) (a := ((i : Nat) : Int)) (b := 1) (c := ((i : Nat) : Int) + 1) rfl rfl (wI64 (by omega))) ?_
          refine WpL_val rfl rfl (by decide) (r_move (v := (.int .i64 (((i : Nat) : Int) + 1))) rfl) ?_
          refine WpL_nil ?_
          refine thn_normal ?_
          exact ⟨n + 1 - (i + 1), by omega, i + 1, Fits.out ⟨rfl, rfl, rfl, rfl, rfl, trivial⟩, E, hA, hB, B1, (by omega), rfl⟩
    · have khlt := hlt
      replace hlt := of_decide_eq_false hlt
      obtain rfl : i = n + 1 := by omega
      have hR : rowArr (outR A B n (n + 1) 0) = rowArr (thenR A B n) := rowArr_congr fun i _ j _ => by unfold outR; split; rfl; simp [thenR]; omega
      refine Wp_exit ?_
      refine thn_exit ?_
      refine thn_exit ?_
      refine inB_here ?_
      refine thn_normal ?_
      refine Wp_seq_region ?_
      refine WpL_val rfl rfl (by decide) (r_move (v := (.pointer (some ⟨b1, 0, none⟩))) rfl) ?_
      refine WpL_val rfl rfl (by decide) (r_assign (v := (.pointer (some ⟨b1, 0, none⟩))) rfl) ?_
      refine WpL_nil ?_
      refine Wp_ret ?_
      refine fin_tmp Tryd.results67 (v := (.pointer (some ⟨b1, 0, none⟩))) rfl ?_
      exact ⟨b1, rfl, by omega, by rw [← hR]; exact B1, E⟩

theorem rowArr_one (R : Nat → Nat → Bool) : ∀ u ∈ (rowArr R).toList, u.oneCell' = true := by
  intro u hu
  simp only [rowArr, List.mem_map, List.mem_range] at hu
  obtain ⟨i, _, rfl⟩ := hu
  rfl
theorem or_start {A B : Nat → Nat → Bool} {w : World} {b t : Nat} (h : Blk w b (rowArr A).toList.toArray t) : Blk w b (rowArr fun i j => if i < 0 then orR A B i j else A i j) t := by
  have h0 : rowArr (fun i j => if i < 0 then orR A B i j else A i j) = rowArr A := rowArr_congr fun i _ j _ => by simp
  rw [h0]; simpa using h
theorem or_c (w0 : World) (ba bb : Nat) (A B : Nat → Nat → Bool) (hA : Blk w0 ba (rowArr A) TR) (hB : Blk w0 bb (rowArr B) TR) :
    Ret Tryd.prog 68 #[.pointer (some ⟨ba, 0, none⟩), .pointer (some ⟨bb, 0, none⟩)] w0
      fun v w => ∃ b, v = .pointer (some ⟨b, 0, none⟩) ∧ w0.heap.size ≤ b ∧ Blk w b (rowArr (orR A B)) TR ∧ Ext w0 w := by
  have la := hA.lt
  have lb := hB.lt
  refine Ret_of Tryd.func68 rfl Tryd.ntmps68 (Nat.le_of_ble_eq_true rfl) ?_
  have E : Chg none1 w0 w0 := Chg.refl _ _
  refine Wp_seq_region ?_
  refine WpL_val rfl rfl (by decide) (r_assign (v := (.pointer none)) rfl) ?_
  refine WpL_nil ?_
  refine Wp_seq_region ?_
  refine WpL_val rfl rfl (by decide) (r_move (v := (.pointer (some ⟨ba, 0, none⟩))) rfl) ?_
  refine WpL_val rfl rfl (by decide) (r_nilCheck (a := ⟨ba, 0, none⟩) rfl) ?_
  refine WpL_val rfl rfl (by decide) (r_loadAgg (vs := (rowArr A).toList) rfl agg91 siz91 (by simp [rowArr]) (hA.cells (by simp only [List.drop_zero]; exact List.take_length))) ?_
  refine s_allocStore (v := (.agg ((rowArr A).toList.toArray))) (c := ((rowArr A).toList.toArray)) (n := 25) (by decide) zer91 rfl siz91 rfl rfl (by simpa using by simp [rowArr]) (by simpa using rowArr_one A) ?_
  intro b1 w1 N1
  have F1 := N1.ge E
  have O1_ba := N1.lt hA
  have O1_bb := N1.lt hB
  replace hA := N1.keep hA
  replace hB := N1.keep hB
  replace E := E.ext N1.ext
  have B1 := N1.blk
  refine WpL_nil ?_
  refine Wp_seq ?_
  refine Wp_seq_region ?_
  refine WpL_val rfl rfl (by decide) (r_move (v := (.int .i64 0)) rfl) ?_
  refine WpL_nil ?_
  refine Wp_block ?_
  replace B1 : Blk w1 b1 (rowArr fun i j => if i < 0 then orR A B i j else A i j) TR := or_start B1
  refine Wp_loop (fun nn_ σ W2 => ∃ (i : Nat), (∃ jj_, σ = upds jj_ [(1, (.pointer (some ⟨bb, 0, none⟩))), (5, (.pointer (some ⟨b1, 0, none⟩))), (10, (.int .i64 ((i : Nat) : Int)))]) ∧ Chg none1 w0 W2 ∧ Blk W2 ba (rowArr A) TR ∧ Blk W2 bb (rowArr B) TR ∧ Blk W2 b1 (rowArr fun i' j => if i' < i then orR A B i' j else A i' j) 91 ∧ (i ≤ 25) ∧ nn_ = 25 - i) (n := 25 - 0) ?_ ?_
  · exact ⟨0, Fits.out ⟨rfl, rfl, rfl, trivial⟩, E, hA, hB, B1, Nat.zero_le _, rfl⟩
  · clear E hA hB B1
    rintro _ _ W2 ⟨i, ⟨j2, rfl⟩, E, hA, hB, B1, hi, rfl⟩
    refine Wp_seq_region ?_
    refine WpL_val rfl rfl (by decide) (r_lss (k := .i64) (a := ((i : Nat) : Int)) (b := 25) rfl rfl) ?_
    refine WpL_nil ?_
    refine Wp_seq ?_
    refine Wp_cond (b := decide ((((i : Nat) : Int) : Int) < 25)) rfl (fun hlt => ?_) (fun hlt => ?_)
    · have khlt := hlt
      replace hlt := of_decide_eq_true hlt
      refine Wp_skip ?_
      refine thn_normal ?_
      refine Wp_seq ?_
      refine Wp_block ?_
      refine Wp_seq_region ?_
      refine WpL_val rfl rfl (by decide) (r_move (v := (.int .i64 ((i : Nat) : Int))) rfl) ?_
      refine WpL_val rfl rfl (by decide) (r_assign (v := (.int .i64 ((i : Nat) : Int))) rfl) ?_
      refine WpL_nil ?_
      refine Wp_draw 10 mixed (by kernel_rfl) ?_
      intro w4 X4 _
      replace hA := X4.keep hA
      replace hB := X4.keep hB
      replace B1 := X4.keep B1
      replace E := E.ext X4
      refine WpT_val rfl rfl (by decide) (r_move (v := (.int .i64 ((i : Nat) : Int))) rfl) ?_
      refine WpT_val rfl rfl (by decide) (r_indexArr (b := b1) (o := 0) (i := i) (o' := i) rfl rfl rfl Tryd.underlying91 siz70 (by omega) (by omega)) ?_
      refine WpT_val rfl rfl (by decide) (r_load (v := (.int .u32 ((maskN 25 (A i) : Nat) : Int))) rfl flat70 ((B1.cell (rowArr_get _ (by omega))).trans (by simp))) ?_
      refine WpT_val rfl rfl (by decide) (r_move (v := (.pointer (some ⟨bb, 0, none⟩))) rfl) ?_
      refine WpT_val rfl rfl (by decide) (r_move (v := (.int .i64 ((i : Nat) : Int))) rfl) ?_
      refine WpT_val rfl rfl (by decide) (r_nilCheck (a := ⟨bb, 0, none⟩) rfl) ?_
      refine WpT_val rfl rfl (by decide) (r_indexArr (b := bb) (o := 0) (i := i) (o' := i) rfl rfl rfl Tryd.underlying91 siz70 (by omega) (by omega)) ?_
      refine WpT_val rfl rfl (by decide) (r_load (v := (.int .u32 ((maskN 25 (B i) : Nat) : Int))) rfl flat70 (hB.cell (rowArr_get _ (by omega)))) ?_
      refine WpT_val rfl rfl (by decide) (r_bits (k := .u32) (a := ((maskN 25 (A i) : Nat) : Int)) (b := ((maskN 25 (B i) : Nat) : Int)) (v := .int .u32 ((maskN 25 (orR A B i) : Nat) : Int)) rfl rfl (by simp) ((bits_or _ _ (mask_lt32 _) (mask_lt32 _)).trans (by rw [mask_or]; rfl))) ?_
      refine WpT_val rfl rfl (by decide) (r_indexArr (b := b1) (o := 0) (i := i) (o' := i) rfl rfl rfl Tryd.underlying91 siz70 (by omega) (by omega)) ?_
      refine WpT_zero ?_
      refine s_store (b := b1) (o := i) (c' := rowArr fun i' j => if i' < i + 1 then orR A B i' j else A i' j) (v := (.int .u32 ((maskN 25 (orR A B i) : Nat) : Int))) rfl rfl rfl siz70 B1 (by rw [rowArr_size]; omega) (rowArr_set (by omega) (by simp) (fun i' _ hne j _ => by by_cases h : i' < i; rw [if_pos h, if_pos (by omega)]; rw [if_neg h, if_neg (by omega)])) ?_
      intro w5 S5
      replace hA := S5.keep (by omega) hA
      replace hB := S5.keep (by omega) hB
      replace E := S5.step E (by first | exact Or.inl (by omega) | exact Or.inr rfl | exact Or.inr (by assumption) | exact Or.inr (by simp) | exact Or.inr (by omega) | exact Or.inr (by dsimp only; omega))
      replace B1 := S5.blk
      refine WpL_nil ?_
      refine inB_normal ?_
      refine thn_normal ?_
      refine Wp_region ?_
      refine WpL_val rfl rfl (by decide) (r_add (k := .i64) (a := ((i : Nat) : Int)) (b := 1) (c := ((i : Nat) : Int) + 1) rfl rfl (wI64 (by omega))) ?_
      refine WpL_val rfl rfl (by decide) (r_move (v := (.int .i64 (((i : Nat) : Int) + 1))) rfl) ?_
      refine WpL_nil ?_
      refine thn_normal ?_
      exact ⟨25 - (i + 1), by omega, i + 1, Fits.out ⟨rfl, rfl, rfl, trivial⟩, E, hA, hB, B1, (by omega), rfl⟩
    · have khlt := hlt
      replace hlt := of_decide_eq_false hlt
      obtain rfl : i = 25 := by omega
      have hR : rowArr (fun i' j => if i' < 25 then orR A B i' j else A i' j) = rowArr (orR A B) := rowArr_congr fun i h j _ => by rw [if_pos h]
      refine Wp_exit ?_
      refine thn_exit ?_
      refine thn_exit ?_
      refine inB_here ?_
      refine thn_normal ?_
      refine Wp_seq_region ?_
      refine WpL_val rfl rfl (by decide) (r_assign (v := (.pointer (some ⟨b1, 0, none⟩))) rfl) ?_
      refine WpL_nil ?_
      refine Wp_ret ?_
      refine fin_tmp Tryd.results68 (v := (.pointer (some ⟨b1, 0, none⟩))) rfl ?_
      exact ⟨b1, rfl, by omega, by rw [← hR]; exact B1, E⟩
end Go.Proofs
