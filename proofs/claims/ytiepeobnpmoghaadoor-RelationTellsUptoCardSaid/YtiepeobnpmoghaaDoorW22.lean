/- Contracts: First; and the plain law of the first and longest match. -/
import Derived.Test.YtiepeobnpmoghaaDoorW21
namespace Go.Proofs
open Go Go.Eng
set_option maxRecDepth 100000

theorem fin_agg_tmp2 {P : Program} {fn : Func} {R : Value → World → Prop} {a0 t b n u s : Nat} (hr : fn.results = #[.cell a0 t, .tmp u, .tmp s]) {σ : Env} {w : World} {vs : List Value} {v' v'' : Value} (hv : σ a0 = .pointer (some ⟨b, 0, none⟩)) (hf : aggB P t = true) (hs : Siz P t n) (hn : vs.length = n) (hc : CellsAt w b 0 vs) (hv' : σ u = v') (hv'' : σ s = v'') (h : R (.tuple #[.agg vs.toArray, v', v'']) w) : fin P fn R .ret σ w :=
  ⟨.tuple #[.agg vs.toArray, v', v''], fun a ha => by
    subst ha
    have h0 : a.tmps.getD a0 undef = .pointer (some ⟨b, 0, none⟩) := hv
    have h1 : a.tmps.getD u undef = v' := hv'
    have h2 : a.tmps.getD s undef = v'' := hv''
    simp only [Array.getD_eq_getD_getElem?] at h0 h1 h2
    simp [results, hr, h0, h1, h2, asAddr, run_loadVar hf hs hn hc], h⟩
def FirstP (R : Rl) (p q : Int) (s : Bool) : Prop := (s = false ∧ p = 0 ∧ q = 0 ∧ ∀ i j, R i j = false) ∨ (s = true ∧ ∃ i j : Nat, p = i ∧ q = j ∧ R i j = true ∧ (∀ i', i' < i → ∀ j', R i' j' = false) ∧ ∀ j', j < j' → R i j' = false)
theorem top_bit {n x k : Nat} {R : Rl} {i : Nat} (hn : n ≤ 24) (w : Wf n R) (hx : x = maskN 25 (R i)) (h1 : 2 ^ k ≤ x) (h2 : x < 2 ^ (k + 1)) : R i k = true ∧ ∀ j, k < j → R i j = false := by
  have hk : k < 25 := by
    have := maskN_lt 25 (R i)
    exact (Nat.pow_lt_pow_iff_right (a := 2) (by decide)).1 (Nat.lt_of_le_of_lt h1 (hx ▸ this))
  constructor
  · have hb : x.testBit k = true := by
      rw [Nat.testBit_eq_decide_div_mod_eq]
      have : x / 2 ^ k = 1 := by
        rw [Nat.pow_succ] at h2
        exact Nat.div_eq_of_lt_le (by omega) (by omega)
      simp [this]
    rw [hx, maskN_bit] at hb
    simp at hb
    exact hb.2
  · intro j hj
    by_cases h25 : j < 25
    · have hb : x.testBit j = false := Nat.testBit_lt_two_pow (Nat.lt_of_lt_of_le h2 (Nat.pow_le_pow_right (by decide) hj))
      rw [hx, maskN_bit] at hb
      simp at hb
      exact hb h25
    · cases h : R i j with
      | false => rfl
      | true => have := w i j h; omega
set_option maxHeartbeats 1000000 in
theorem first_r_c (w0 : World) (t : Re) (vs : List Value) (vt : Value) (text : List Int) (ht : ReAt w0 t vs) (htx : IntsAt w0 vt text) (hT : TabOk w0) :
    Ret Tryd.prog 18 #[.agg vs.toArray, vt] w0 fun v w => (∃ p q s, v = .tuple #[.agg #[.int .i64 p, .int .i64 q], .bool s, .int .i64 (checkP t text)] ∧ (checkP t text ≠ 0 → p = 0 ∧ q = 0 ∧ s = false) ∧ (checkP t text = 0 → FirstP (relOf text t) p q s)) ∧ Ext w0 w := by
  have ht0 := ht
  have hwf := wf_rel text t
  obtain ⟨sa, sc, aa, ac, rfl, hset, hlen, hargs⟩ := ht.form
  obtain ⟨ta, tc, rfl⟩ := SlAt.form htx
  simp only [List.length_map] at htx ⊢
  refine Ret_of Tryd.func18 rfl Tryd.ntmps18 (Nat.le_of_ble_eq_true rfl) ?_
  have E : Chg none1 w0 w0 := Chg.refl _ _
  refine Wp_seq_region ?_
  refine s_box (v := (.agg #[(.int .i64 t.kind), (.slice sa t.set.length sc), (.slice aa t.args.length ac), (.int .i64 t.mn), (.int .i64 t.mx), (.bool t.neg)])) (c := #[(.int .i64 t.kind), (.slice sa t.set.length sc), (.slice aa t.args.length ac), (.int .i64 t.mn), (.int .i64 t.mx), (.bool t.neg)]) (by decide) rfl rfl ?_
  intro bp wp Np
  have Fp := Np.ge E
  replace E := E.ext Np.ext
  have Bp := Np.blk
  refine s_alloc (c := #[(.int .i64 0), (.int .i64 0)]) (by decide) zer43 rfl ?_
  intro bo wo No
  have Fo := No.ge E
  have Oo_bp := No.lt Bp
  replace Bp := No.keep Bp
  replace E := E.ext No.ext
  have Bo := No.blk
  refine WpL_val rfl rfl (by decide) (r_assign (v := (.bool false)) rfl) ?_
  refine WpL_val rfl rfl (by decide) (r_assign (v := (.int .i64 0)) rfl) ?_
  refine WpL_nil ?_
  refine Wp_seq ?_
  refine Wp_seq_region ?_
  refine WpL_val rfl rfl (by decide) (r_loadAgg (vs := [(.int .i64 t.kind), (.slice sa t.set.length sc), (.slice aa t.args.length ac), (.int .i64 t.mn), (.int .i64 t.mx), (.bool t.neg)]) rfl agg27 siz27 rfl (Bp.cells rfl)) ?_
  refine WpL_val rfl rfl (by decide) (r_move (v := (.slice ta text.length tc)) rfl) ?_
  refine WpL_enter rfl rfl (by decide) (r_callF (vs := [(.agg #[(.int .i64 t.kind), (.slice sa t.set.length sc), (.slice aa t.args.length ac), (.int .i64 t.mn), (.int .i64 t.mx), (.bool t.neg)]), (.slice ta text.length tc)]) Tryd.func39 nm39 bd39 rfl) (pcheck_c _ t _ _ text (ReAt.ext E t ht0) (htx.ext E)) ?_
  rintro _ w9 ⟨rfl, X9⟩
  replace Bp := X9.keep Bp
  replace Bo := X9.keep Bo
  replace E := E.ext X9
  refine WpL_val rfl rfl (by decide) (r_assign (v := (.int .i64 (checkP t text))) rfl) ?_
  refine WpL_nil ?_
  refine Wp_seq_region ?_
  refine WpL_val rfl rfl (by decide) (r_move (v := (.int .i64 (checkP t text))) rfl) ?_
  refine WpL_val rfl rfl (by decide) (r_neq (k := .i64) (a := checkP t text) (b := 0) rfl rfl) ?_
  refine WpL_nil ?_
  refine Wp_cond (b := decide ((checkP t text : Int) ≠ 0)) rfl (fun h0 => ?_) (fun h0 => ?_)
  · have kh0 := h0
    replace h0 := of_decide_eq_true h0
    refine Wp_seq_region ?_
    refine WpL_val rfl rfl (by decide) (r_build (ps := []) (v := (.agg #[(.int .i64 0), (.int .i64 0)])) rfl (by kernel_rfl)) ?_
    refine WpL_val rfl rfl (by decide) (r_move (v := (.int .i64 (checkP t text))) rfl) ?_
    refine s_storeAgg (b := bo) (o := 0) (c' := #[(.int .i64 0), (.int .i64 0)]) rfl rfl (by simp [Value.oneCell']) siz43 rfl Bo (by simp) rfl ?_
    intro w2 S2
    replace Bp := S2.keep (by omega) Bp
    replace E := S2.step E (by first | exact Or.inl (by omega) | exact Or.inr rfl | exact Or.inr (by simp))
    replace Bo := S2.blk
    refine WpL_val rfl rfl (by decide) (r_assign (v := (.bool false)) rfl) ?_
    refine WpL_val rfl rfl (by decide) (r_assign (v := (.int .i64 (checkP t text))) rfl) ?_
    refine WpL_nil ?_
    refine Wp_ret ?_
    refine thn_ret ?_
    refine fin_agg_tmp2 Tryd.results18 (vs := [.int .i64 0, .int .i64 0]) (b := bo) (v' := .bool false) (v'' := .int .i64 (checkP t text)) rfl agg43 siz43 rfl (Bo.cells rfl) rfl rfl ?_
    exact ⟨⟨0, 0, false, rfl, fun _ => ⟨rfl, rfl, rfl⟩, fun h => absurd h h0⟩, E⟩
  · have kh0 := h0
    replace h0 := of_decide_eq_false h0
    have h0' : checkP t text = 0 := by omega
    obtain ⟨hok, hsz, hn⟩ := checkP_ok h0'
    refine Wp_skip ?_
    refine thn_normal ?_
    refine Wp_seq_region ?_
    refine WpL_val rfl rfl (by decide) (r_loadAgg (vs := [(.int .i64 t.kind), (.slice sa t.set.length sc), (.slice aa t.args.length ac), (.int .i64 t.mn), (.int .i64 t.mx), (.bool t.neg)]) rfl agg27 siz27 rfl (Bp.cells rfl)) ?_
    refine WpL_val rfl rfl (by decide) (r_move (v := (.slice ta text.length tc)) rfl) ?_
    refine WpL_enter rfl rfl (by decide) (r_callF (vs := [(.agg #[(.int .i64 t.kind), (.slice sa t.set.length sc), (.slice aa t.args.length ac), (.int .i64 t.mn), (.int .i64 t.mx), (.bool t.neg)]), (.slice ta text.length tc)]) Tryd.func40 nm40 bd40 rfl) (of_c text hn 40 (by decide) t (by omega) hok _ _ _ (ReAt.ext E t ht0) (htx.ext E) (hT.ext E)) ?_
    rintro _ w19 ⟨bm, rfl, hbm, Bm, X19⟩
    replace Bp := X19.keep Bp
    replace Bo := X19.keep Bo
    replace E := E.ext X19
    have hbom : bo ≠ bm := fun e => by have := (Option.some.inj (Bo.symm.trans (e ▸ Bm))); simp at this; exact absurd this.2 (by decide)
    refine WpL_val rfl rfl (by decide) (r_assign (v := (.pointer (some ⟨bm, 0, none⟩))) rfl) ?_
    refine WpL_nil ?_
    refine Wp_seq ?_
    refine Wp_seq_region ?_
    refine WpL_val rfl rfl (by decide) (r_move (v := (.slice ta text.length tc)) rfl) ?_
    refine WpL_val rfl rfl (by decide) (r_lenSlice (ad := ta) (n := text.length) (cap := tc) Tryd.underlying22 rfl) ?_
    refine WpL_val rfl rfl (by decide) (r_add (k := .i64) (a := ((text.length : Nat) : Int)) (b := 1) (c := ((text.length : Nat) : Int) + 1) rfl rfl (wI64 (by omega))) ?_
    refine WpL_val rfl rfl (by decide) (r_move (v := (.int .i64 0)) rfl) ?_
    refine WpL_nil ?_
    refine Wp_block ?_
    refine Wp_loop (fun nn_ σ W3 => ∃ (i : Nat), (∃ jj_, σ = upds jj_ [(4, (.pointer (some ⟨bo, 0, none⟩))), (8, (.pointer (some ⟨bm, 0, none⟩))), (22, (.int .i64 (((text.length : Nat) : Int) + 1))), (23, (.int .i64 ((i : Nat) : Int)))]) ∧ Chg none1 w0 W3 ∧ Blk W3 bp #[(.int .i64 t.kind), (.slice sa t.set.length sc), (.slice aa t.args.length ac), (.int .i64 t.mn), (.int .i64 t.mx), (.bool t.neg)] 27 ∧ Blk W3 bo #[(.int .i64 0), (.int .i64 0)] 43 ∧ Blk W3 bm (rowArr (relOf text t)) TR ∧ (i ≤ text.length + 1) ∧ (∀ i', i' < i → ∀ j', relOf text t i' j' = false) ∧ nn_ = text.length + 1 - i) (n := text.length + 1 - 0) ?_ ?_
    · exact ⟨0, Fits.out ⟨rfl, rfl, rfl, rfl, trivial⟩, E, Bp, Bo, Bm, Nat.zero_le _, (fun i' h => by omega), rfl⟩
    · clear E Bp Bo Bm
      rintro _ _ W3 ⟨i, ⟨j3, rfl⟩, E, Bp, Bo, Bm, hi, hp, rfl⟩
      refine Wp_seq_region ?_
      refine WpL_val rfl rfl (by decide) (r_lss (k := .i64) (a := ((i : Nat) : Int)) (b := ((text.length : Nat) : Int) + 1) rfl rfl) ?_
      refine WpL_nil ?_
      refine Wp_seq ?_
      refine Wp_cond (b := decide ((((i : Nat) : Int) : Int) < ((text.length : Nat) : Int) + 1)) rfl (fun hlt => ?_) (fun hlt => ?_)
      · have khlt := hlt
        replace hlt := of_decide_eq_true hlt
        obtain ⟨x, hx⟩ : ∃ x, x = maskN 25 (relOf text t i) := ⟨_, rfl⟩
        have hxl : x < 4294967296 := hx ▸ mask_lt32 _
        refine Wp_skip ?_
        refine thn_normal ?_
        refine Wp_seq ?_
        refine Wp_block ?_
        refine Wp_seq_region ?_
        refine WpL_val rfl rfl (by decide) (r_move (v := (.int .i64 ((i : Nat) : Int))) rfl) ?_
        refine WpL_val rfl rfl (by decide) (r_assign (v := (.int .i64 ((i : Nat) : Int))) rfl) ?_
        refine WpL_nil ?_
        refine Wp_seq_region ?_
        refine WpL_val rfl rfl (by decide) (r_move (v := (.pointer (some ⟨bm, 0, none⟩))) rfl) ?_
        refine WpL_val rfl rfl (by decide) (r_move (v := (.int .i64 ((i : Nat) : Int))) rfl) ?_
        refine WpL_val rfl rfl (by decide) (r_nilCheck (a := ⟨bm, 0, none⟩) rfl) ?_
        refine WpL_val rfl rfl (by decide) (r_indexArr (b := bm) (o := 0) (i := i) (o' := i) rfl rfl rfl Tryd.underlying91 siz70 (by omega) (by omega)) ?_
        refine WpL_val rfl rfl (by decide) (r_load (v := (.int .u32 ((x : Nat) : Int))) rfl flat70 ((Bm.cell (rowArr_get _ (by omega))).trans (by rw [hx]))) ?_
        refine WpL_val rfl rfl (by decide) (r_neq (k := .u32) (a := ((x : Nat) : Int)) (b := 0) rfl rfl) ?_
        refine WpL_nil ?_
        refine Wp_cond (b := decide ((((x : Nat) : Int) : Int) ≠ 0)) rfl (fun hne => ?_) (fun hne => ?_)
        · have khne := hne
          replace hne := of_decide_eq_true hne
          refine Wp_seq_region ?_
          refine WpL_val rfl rfl (by decide) (r_move (v := (.int .i64 ((i : Nat) : Int))) rfl) ?_
          refine WpL_val rfl rfl (by decide) (r_move (v := (.pointer (some ⟨bm, 0, none⟩))) rfl) ?_
          refine WpL_val rfl rfl (by decide) (r_move (v := (.int .i64 ((i : Nat) : Int))) rfl) ?_
          refine WpL_val rfl rfl (by decide) (r_nilCheck (a := ⟨bm, 0, none⟩) rfl) ?_
          refine WpL_val rfl rfl (by decide) (r_indexArr (b := bm) (o := 0) (i := i) (o' := i) rfl rfl rfl Tryd.underlying91 siz70 (by omega) (by omega)) ?_
          refine WpL_val rfl rfl (by decide) (r_load (v := (.int .u32 ((x : Nat) : Int))) rfl flat70 ((Bm.cell (rowArr_get _ (by omega))).trans (by rw [hx]))) ?_
          refine WpL_enter rfl rfl (by decide) (r_callF (vs := [(.int .u32 ((x : Nat) : Int))]) Tryd.func42 nm42 bd42 rfl) (lz32_c _ x (by omega) hxl) ?_
          rintro _ w29 ⟨⟨k, rfl, hk1, hk2⟩, X29⟩
          replace Bp := X29.keep Bp
          replace Bo := X29.keep Bo
          replace Bm := X29.keep Bm
          replace E := E.ext X29
          obtain ⟨hb1, hb2⟩ := top_bit hn hwf hx hk1 hk2
          have hkw := hwf i k hb1
          refine WpL_val rfl rfl (by decide) (r_sub (k := .i64) (a := 31) (b := 31 - (k : Int)) (c := ((k : Nat) : Int)) rfl rfl (by rw [wI64 (by omega)]; omega)) ?_
          refine WpL_val rfl rfl (by decide) (r_build (ps := [(0, (.int .i64 ((i : Nat) : Int))), (1, (.int .i64 ((k : Nat) : Int)))]) (v := (.agg #[(.int .i64 ((i : Nat) : Int)), (.int .i64 ((k : Nat) : Int))])) rfl (by kernel_rfl)) ?_
          refine s_storeAgg (b := bo) (o := 0) (c' := #[(.int .i64 ((i : Nat) : Int)), (.int .i64 ((k : Nat) : Int))]) rfl rfl (by simp [Value.oneCell']) siz43 rfl Bo (by simp) rfl ?_
          intro w6 S6
          replace Bp := S6.keep (by omega) Bp
          replace Bm := S6.keep (by omega) Bm
          replace E := S6.step E (by first | exact Or.inl (by omega) | exact Or.inr rfl | exact Or.inr (by simp))
          replace Bo := S6.blk
          refine WpL_val rfl rfl (by decide) (r_assign (v := (.bool true)) rfl) ?_
          refine WpL_val rfl rfl (by decide) (r_assign (v := (.int .i64 0)) rfl) ?_
          refine WpL_nil ?_
          refine Wp_ret ?_
          refine inB_ret ?_
          refine thn_ret ?_
          refine thn_ret ?_
          refine inB_ret ?_
          refine thn_ret ?_
          refine fin_agg_tmp2 Tryd.results18 (vs := [.int .i64 ((i : Nat) : Int), .int .i64 ((k : Nat) : Int)]) (b := bo) (v' := .bool true) (v'' := .int .i64 0) rfl agg43 siz43 rfl (Bo.cells rfl) rfl rfl ?_
          exact ⟨⟨_, _, true, by rw [h0'], fun h => absurd h0' h, fun _ => .inr ⟨rfl, i, k, rfl, rfl, hb1, hp, hb2⟩⟩, E⟩
        · have khne := hne
          replace hne := of_decide_eq_false hne
          have hz : x = 0 := by omega
          refine Wp_skip ?_
          refine inB_normal ?_
          refine thn_normal ?_
          refine Wp_region ?_
          refine WpL_val rfl rfl (by decide) (r_add (k := .i64) (a := ((i : Nat) : Int)) (b := 1) (c := ((i : Nat) : Int) + 1) rfl rfl (wI64 (by omega))) ?_
          refine WpL_val rfl rfl (by decide) (r_move (v := (.int .i64 (((i : Nat) : Int) + 1))) rfl) ?_
          refine WpL_nil ?_
          refine thn_normal ?_
          exact ⟨text.length + 1 - (i + 1), by omega, i + 1, Fits.out ⟨rfl, rfl, rfl, rfl, trivial⟩, E, Bp, Bo, Bm, (by omega), (fun i' h j' => by rcases Nat.lt_or_ge i' i with h' | h'; exact hp i' h' j'; obtain rfl : i' = i := (by omega); rw [hx, mask_eq_zero] at hz; by_cases hj : j' < 25; exact hz j' hj; cases hh : relOf text t i' j' with | false => rfl | true => have := hwf i' j' hh; omega), rfl⟩
      · have khlt := hlt
        replace hlt := of_decide_eq_false hlt
        refine Wp_exit ?_
        refine thn_exit ?_
        refine thn_exit ?_
        refine inB_here ?_
        refine thn_normal ?_
        refine Wp_seq_region ?_
        refine WpL_val rfl rfl (by decide) (r_build (ps := []) (v := (.agg #[(.int .i64 0), (.int .i64 0)])) rfl (by kernel_rfl)) ?_
        refine s_storeAgg (b := bo) (o := 0) (c' := #[(.int .i64 0), (.int .i64 0)]) rfl rfl (by simp [Value.oneCell']) siz43 rfl Bo (by simp) rfl ?_
        intro w7 S7
        replace Bp := S7.keep (by omega) Bp
        replace Bm := S7.keep (by omega) Bm
        replace E := S7.step E (by first | exact Or.inl (by omega) | exact Or.inr rfl | exact Or.inr (by simp))
        replace Bo := S7.blk
        refine WpL_val rfl rfl (by decide) (r_assign (v := (.bool false)) rfl) ?_
        refine WpL_val rfl rfl (by decide) (r_assign (v := (.int .i64 0)) rfl) ?_
        refine WpL_nil ?_
        refine Wp_ret ?_
        refine fin_agg_tmp2 Tryd.results18 (vs := [.int .i64 0, .int .i64 0]) (b := bo) (v' := .bool false) (v'' := .int .i64 0) rfl agg43 siz43 rfl (Bo.cells rfl) rfl rfl ?_
        exact ⟨⟨0, 0, false, by rw [h0'], fun h => absurd h0' h, fun _ => .inl ⟨rfl, rfl, rfl, fun i' j' => by cases hh : relOf text t i' j' with | false => rfl | true => have := hwf i' j' hh; rw [hp i' (by omega) j'] at hh; cases hh⟩⟩, E⟩

/-! The plain law. -/
def ltP (a b : Nat × Nat) : Prop := a.1 < b.1 ∨ (a.1 = b.1 ∧ a.2 < b.2)
def lastF (a y : Nat × Nat) : Nat × Nat := if y.1 = a.1 then y else a
theorem row_mem {R : Rl} {i p : Nat} {y : Nat × Nat} : y ∈ rowL R i p ↔ y.1 = i ∧ y.2 < p ∧ R i y.2 = true := by
  unfold rowL
  simp only [List.mem_map, List.mem_filter, List.mem_range]
  constructor
  · rintro ⟨j, ⟨h1, h2⟩, rfl⟩; exact ⟨rfl, h1, h2⟩
  · rintro ⟨h1, h2, h3⟩; exact ⟨y.2, ⟨h2, h3⟩, by rw [← h1]⟩
theorem pairs_mem {R : Rl} {n : Nat} {y : Nat × Nat} : y ∈ pairsL R n ↔ y.1 < n ∧ y.2 < 25 ∧ R y.1 y.2 = true := by
  unfold pairsL
  simp only [List.mem_flatMap, List.mem_range, row_mem]
  constructor
  · rintro ⟨i, h1, rfl, h3, h4⟩; exact ⟨h1, h3, h4⟩
  · rintro ⟨h1, h2, h3⟩; exact ⟨y.1, h1, rfl, h2, h3⟩
theorem pairs_sorted (R : Rl) : ∀ n, (pairsL R n).Pairwise ltP
  | 0 => by simp [pairsL]
  | n + 1 => by
    rw [pairsL_succ, List.pairwise_append]
    refine ⟨pairs_sorted R n, ?_, ?_⟩
    · unfold rowL
      rw [List.pairwise_map]
      refine List.Pairwise.filter _ (List.Pairwise.imp ?_ List.pairwise_lt_range)
      intro a b h; exact .inr ⟨rfl, h⟩
    · intro a ha b hb
      rw [pairs_mem] at ha
      rw [row_mem] at hb
      exact .inl (by omega)
theorem fold_last : ∀ (l : List (Nat × Nat)) (a : Nat × Nat), (a :: l).Pairwise ltP → l.foldl lastF a ∈ a :: l ∧ (l.foldl lastF a).1 = a.1 ∧ ∀ z ∈ a :: l, z.1 = a.1 → z.2 ≤ (l.foldl lastF a).2
  | [], a, _ => by simp
  | b :: l, a, h => by
    simp only [List.foldl_cons]
    rw [List.pairwise_cons] at h
    obtain ⟨h1, h2⟩ := h
    by_cases hb : b.1 = a.1
    · have hf : lastF a b = b := by unfold lastF; rw [if_pos hb]
      rw [hf]
      obtain ⟨i1, i2, i3⟩ := fold_last l b h2
      refine ⟨List.mem_cons_of_mem _ i1, by rw [i2, hb], ?_⟩
      intro z hz hz1
      rcases List.mem_cons.1 hz with rfl | hz
      · have h4 := h1 b (by simp)
        have h5 := i3 b (by simp) rfl
        unfold ltP at h4; omega
      · exact i3 z hz (by omega)
    · have hf : lastF a b = a := by unfold lastF; rw [if_neg hb]
      rw [hf]
      have h3 : (a :: l).Pairwise ltP := by
        rw [List.pairwise_cons]
        rw [List.pairwise_cons] at h2
        exact ⟨fun y hy => h1 y (by simp [hy]), h2.2⟩
      obtain ⟨i1, i2, i3⟩ := fold_last l a h3
      refine ⟨?_, i2, ?_⟩
      · rcases List.mem_cons.1 i1 with e | e
        · rw [e]; simp
        · simp [e]
      · intro z hz hz1
        rcases List.mem_cons.1 hz with rfl | hz
        · exact i3 z (by simp) rfl
        · rcases List.mem_cons.1 hz with rfl | hz
          · exact absurd hz1 hb
          · exact i3 z (by simp [hz]) hz1
theorem first_law {R : Rl} {n : Nat} {p q : Int} {s : Bool} (hn : n ≤ 24) (w : Wf n R) (hF : FirstP R p q s) {x : Nat × Nat} {l : List (Nat × Nat)} (hL : pairsL R (n + 1) = x :: l) :
    s = true ∧ p = (((x :: l).foldl lastF x).1 : Int) ∧ q = (((x :: l).foldl lastF x).2 : Int) := by
  have hs := pairs_sorted R (n + 1)
  rw [hL] at hs
  have hx : x ∈ pairsL R (n + 1) := by rw [hL]; simp
  have hxm := pairs_mem.1 hx
  rcases hF with ⟨_, _, _, h⟩ | ⟨h1, i, j, rfl, rfl, h2, h3, h4⟩
  · rw [h] at hxm; simp at hxm
  · have hf : (x :: l).foldl lastF x = l.foldl lastF x := by
      rw [List.foldl_cons]
      have : lastF x x = x := by unfold lastF; rw [if_pos rfl]
      rw [this]
    rw [hf]
    obtain ⟨i1, i2, i3⟩ := fold_last l x hs
    have hij : (i, j) ∈ x :: l := by
      rw [← hL, pairs_mem]
      have := w i j h2
      exact ⟨by show i < n + 1; omega, by show j < 25; omega, h2⟩
    have hx1 : x.1 = i := by
      have ha : i ≤ x.1 := by
        rcases Nat.lt_or_ge x.1 i with h | h
        · have := h3 x.1 h x.2; rw [this] at hxm; simp at hxm
        · exact h
      have hb : x.1 ≤ i := by
        rcases List.mem_cons.1 hij with e | e
        · rw [← e]; exact Nat.le_refl _
        · have := (List.pairwise_cons.1 hs).1 _ e
          unfold ltP at this; simp at this; omega
      omega
    have hy : l.foldl lastF x ∈ pairsL R (n + 1) := by rw [hL]; exact i1
    have hym := pairs_mem.1 hy
    have hle := i3 (i, j) hij (by show i = x.1; omega)
    have hge : (l.foldl lastF x).2 ≤ j := by
      rcases Nat.lt_or_ge j (l.foldl lastF x).2 with h | h
      · have h5 := h4 _ h
        rw [i2, hx1] at hym
        rw [h5] at hym; simp at hym
      · exact h
    have hle' : j ≤ (l.foldl lastF x).2 := hle
    exact ⟨h1, by rw [i2, hx1], by omega⟩
theorem first_none {R : Rl} {n : Nat} {p q : Int} {s : Bool} (hn : n ≤ 24) (w : Wf n R) (hF : FirstP R p q s) (hL : pairsL R (n + 1) = []) : s = false ∧ p = 0 ∧ q = 0 := by
  rcases hF with ⟨h1, h2, h3, _⟩ | ⟨h1, i, j, rfl, rfl, h2, h3, h4⟩
  · exact ⟨h1, h2, h3⟩
  · have hw := w i j h2
    have : (i, j) ∈ pairsL R (n + 1) := by
      rw [pairs_mem]
      exact ⟨by show i < n + 1; omega, by show j < 25; omega, h2⟩
    rw [hL] at this; simp at this
end Go.Proofs
