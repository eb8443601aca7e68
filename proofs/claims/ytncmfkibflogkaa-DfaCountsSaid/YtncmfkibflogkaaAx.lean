/- DfaCounts, walked. -/
import Derived.Test.YtncmfkibflogkaaAw
namespace Go.Proofs
open Go Go.Eng Go.Sort
set_option maxRecDepth 100000

theorem cnt_evn : (List.range (3 + 1)).map (fun k => cntF 1 k (beh evnD evnD.start)) = [1, 0, 1, 0] := by decide
theorem cnts_get {c m : Nat} {f : List Nat → Int} {k : Nat} (hk : k < m) : ((List.range m).map fun k => cntF c k f)[k]? = some (cntF c k f) := by simp [hk]
set_option maxHeartbeats 8000000 in
theorem counts_c (w0 : World) (v : Value) (l : List Int) (hl : IntsAt w0 v l) :
    Ret Try.prog 5 #[v] w0 fun r w => r = .bool true ∧ Ext w0 w := by
  refine Ret_of Try.func5 rfl Try.ntmps5 (Nat.le_of_ble_eq_true rfl) ?_
  have E : Chg none1 w0 w0 := Chg.refl _ _
  refine Wp_seq_region ?_
  refine WpL_val rfl rfl (by decide) (r_assign (v := (.bool false)) rfl) ?_
  refine WpL_nil ?_
  refine Wp_seq ?_
  refine Wp_seq_region ?_
  refine WpL_enter rfl rfl (by decide) (r_callF (vs := []) Try.func27 nm27 bd27 rfl) (evn_c _) ?_
  rintro _ w9 ⟨⟨vs0, rfl, hev⟩, X9⟩
  replace E := E.ext X9
  refine WpL_enter rfl rfl (by decide) (r_callF (vs := [(.agg vs0.toArray), (.int .i64 3)]) Try.func26 nm26 bd26 rfl) (dfCount_c _ 2 1 3 evnD _ evn_ok hev (by decide) (by decide) (by decide) (by decide)) ?_
  rintro _ w19 ⟨⟨a0, c0, rfl, hi0⟩, X19⟩
  replace E := E.ext X19
  rw [cnt_evn] at hi0
  refine WpL_val rfl rfl (by decide) (r_move (v := (.tuple #[(.slice a0 (3 + 1) c0), (.int .i64 0)])) rfl) ?_
  refine WpL_val rfl rfl (by decide) (r_extract (vs := #[(.slice a0 (3 + 1) c0), (.int .i64 0)]) (v := (.slice a0 (3 + 1) c0)) rfl rfl) ?_
  refine WpL_val rfl rfl (by decide) (r_extract (vs := #[(.slice a0 (3 + 1) c0), (.int .i64 0)]) (v := (.int .i64 0)) rfl rfl) ?_
  refine WpL_val rfl rfl (by decide) (r_assign (v := (.slice a0 (3 + 1) c0)) rfl) ?_
  refine WpL_val rfl rfl (by decide) (r_assign (v := (.int .i64 0)) rfl) ?_
  refine WpL_nil ?_
  refine Wp_seq_region ?_
  refine WpL_val rfl rfl (by decide) (r_move (v := (.int .i64 0)) rfl) ?_
  refine WpL_val rfl rfl (by decide) (r_neq (k := .i64) (a := 0) (b := 0) rfl rfl) ?_
  refine WpL_val rfl rfl (by decide) (r_move (v := (.bool false)) rfl) ?_
  refine WpL_guard_yes (oj := _) rfl rfl (by decide) rfl ?_
  refine WpL_val rfl rfl (by decide) (r_move (v := (.slice a0 (3 + 1) c0)) rfl) ?_
  refine WpL_guard_yes (oj := _) rfl rfl (by decide) rfl ?_
  refine s_buildSlice (ps := [(0, (.int .i64 1)), (1, (.int .i64 0)), (2, (.int .i64 1)), (3, (.int .i64 0))]) (c := #[(.int .i64 1), (.int .i64 0), (.int .i64 1), (.int .i64 0)]) (by decide) rfl Try.underlying22 siz3 zer3 (by decide) (by decide) (by kernel_rfl) ?_
  intro bz wz Nz
  have Fz := Nz.ge E
  replace hi0 := hi0.ext Nz.ext
  replace E := E.ext Nz.ext
  have Bz := Nz.blk
  refine WpL_guard_yes (oj := _) rfl rfl (by decide) rfl ?_
  refine WpL_enter rfl rfl (by decide) (r_callF (vs := [(.slice a0 (3 + 1) c0), (.slice (some ⟨bz, 0, none⟩) 4 4)]) Try.func28 nm28 bd28 rfl) (eql2_c _ _ _ [1, 0, 1, 0] [1, 0, 1, 0] hi0 (ints_of_blk [1, 0, 1, 0] Bz (by decide) (by decide))) ?_
  rintro _ w29 ⟨rfl, X29⟩
  replace Bz := X29.keep Bz
  replace hi0 := hi0.ext X29
  replace E := E.ext X29
  refine WpL_guard_yes (oj := _) rfl rfl (by decide) rfl ?_
  refine WpL_val rfl rfl (by decide) (r_not (b := true) rfl) ?_
  refine WpL_val rfl rfl (by decide) (r_pick (b := false) (v := (.bool false)) rfl rfl) ?_
  refine WpL_nil ?_
  refine Wp_cond_false rfl ?_
  refine Wp_skip ?_
  refine thn_normal ?_
  refine Wp_seq_region ?_
  refine WpL_val rfl rfl (by decide) (r_move (v := v) rfl) ?_
  refine WpL_enter rfl rfl (by decide) (r_callF (vs := [v, (.int .i64 3)]) Try.func21 nm21 bd21 rfl) (plain_d _ _ l (hl.ext E)) ?_
  rintro _ w39 ⟨⟨n, d, aa, ac, na, nc, hn, ok, hacc, rfl, hD⟩, X39⟩
  replace Bz := X39.keep Bz
  replace E := E.ext X39
  refine s_allocStore (v := (.agg #[(.int .i64 d.start), (.slice aa n ac), (.slice na n nc)])) (c := #[(.int .i64 d.start), (.slice aa n ac), (.slice na n nc)]) (n := 3) (by decide) zer25 rfl siz25 rfl rfl rfl (by simp [Value.oneCell']) ?_
  intro bd wd Nd
  have Fd := Nd.ge E
  have Od_bz := Nd.lt Bz
  replace Bz := Nd.keep Bz
  replace hD := hD.ext Nd.ext
  replace E := E.ext Nd.ext
  have Bd := Nd.blk
  refine WpL_nil ?_
  refine Wp_seq_region ?_
  refine WpL_val rfl rfl (by decide) (r_loadAgg (vs := [(.int .i64 d.start), (.slice aa n ac), (.slice na n nc)]) rfl agg25 siz25 rfl (Bd.cells rfl)) ?_
  refine WpL_enter rfl rfl (by decide) (r_callF (vs := [(.agg #[(.int .i64 d.start), (.slice aa n ac), (.slice na n nc)])]) Try.func29 nm29 bd29 rfl) (dfNot_c _ n 3 d _ ok hD (by omega) (by decide)) ?_
  rintro _ w49 ⟨⟨C, ca, cc, ma, mc, hC, hCl, hCa, rfl, hCN⟩, X49⟩
  replace Bz := X49.keep Bz
  replace Bd := X49.keep Bd
  replace hD := hD.ext X49
  replace E := E.ext X49
  obtain ⟨nC, hBf, hCb, _, _⟩ := id hC
  have okC := hBf.ok
  have hCD := hCN.at'
  have hnC : nC ≤ 7 := by have := okC.nl; omega
  have hnC1 : 1 ≤ nC := by have := okC.st; omega
  refine WpL_val rfl rfl (by decide) (r_move (v := (.tuple #[(.agg #[(.int .i64 C.start), (.slice ca C.accept.length cc), (.slice ma C.next.length mc)]), (.int .i64 0)])) rfl) ?_
  refine WpL_val rfl rfl (by decide) (r_extract (vs := #[(.agg #[(.int .i64 C.start), (.slice ca C.accept.length cc), (.slice ma C.next.length mc)]), (.int .i64 0)]) (v := (.agg #[(.int .i64 C.start), (.slice ca C.accept.length cc), (.slice ma C.next.length mc)])) rfl rfl) ?_
  refine WpL_val rfl rfl (by decide) (r_extract (vs := #[(.agg #[(.int .i64 C.start), (.slice ca C.accept.length cc), (.slice ma C.next.length mc)]), (.int .i64 0)]) (v := (.int .i64 0)) rfl rfl) ?_
  refine s_allocStore (v := (.agg #[(.int .i64 C.start), (.slice ca C.accept.length cc), (.slice ma C.next.length mc)])) (c := #[(.int .i64 C.start), (.slice ca C.accept.length cc), (.slice ma C.next.length mc)]) (n := 3) (by decide) zer25 rfl siz25 rfl rfl rfl (by simp [Value.oneCell']) ?_
  intro bm wm Nm
  have Fm := Nm.ge E
  have Om_bz := Nm.lt Bz
  have Om_bd := Nm.lt Bd
  replace Bz := Nm.keep Bz
  replace Bd := Nm.keep Bd
  replace hD := hD.ext Nm.ext
  replace hCD := hCD.ext Nm.ext
  replace E := E.ext Nm.ext
  have Bm := Nm.blk
  refine WpL_val rfl rfl (by decide) (r_assign (v := (.int .i64 0)) rfl) ?_
  refine WpL_nil ?_
  refine Wp_seq_region ?_
  refine WpL_val rfl rfl (by decide) (r_loadAgg (vs := [(.int .i64 d.start), (.slice aa n ac), (.slice na n nc)]) rfl agg25 siz25 rfl (Bd.cells rfl)) ?_
  refine WpL_enter rfl rfl (by decide) (r_callF (vs := [(.agg #[(.int .i64 d.start), (.slice aa n ac), (.slice na n nc)]), (.int .i64 10)]) Try.func26 nm26 bd26 rfl) (dfCount_c _ n 3 10 d _ ok hD (by omega) (by decide) (by decide) (by decide)) ?_
  rintro _ w59 ⟨⟨a1, c1, rfl, hi1⟩, X59⟩
  replace Bz := X59.keep Bz
  replace Bd := X59.keep Bd
  replace Bm := X59.keep Bm
  replace hD := hD.ext X59
  replace hCD := hCD.ext X59
  replace E := E.ext X59
  refine WpL_val rfl rfl (by decide) (r_move (v := (.tuple #[(.slice a1 11 c1), (.int .i64 0)])) rfl) ?_
  refine WpL_val rfl rfl (by decide) (r_extract (vs := #[(.slice a1 11 c1), (.int .i64 0)]) (v := (.slice a1 11 c1)) rfl rfl) ?_
  refine WpL_val rfl rfl (by decide) (r_extract (vs := #[(.slice a1 11 c1), (.int .i64 0)]) (v := (.int .i64 0)) rfl rfl) ?_
  refine WpL_val rfl rfl (by decide) (r_assign (v := (.slice a1 11 c1)) rfl) ?_
  refine WpL_val rfl rfl (by decide) (r_assign (v := (.int .i64 0)) rfl) ?_
  refine WpL_nil ?_
  refine Wp_seq_region ?_
  refine WpL_val rfl rfl (by decide) (r_loadAgg (vs := [(.int .i64 C.start), (.slice ca C.accept.length cc), (.slice ma C.next.length mc)]) rfl agg25 siz25 rfl (Bm.cells rfl)) ?_
  refine WpL_enter rfl rfl (by decide) (r_callF (vs := [(.agg #[(.int .i64 C.start), (.slice ca C.accept.length cc), (.slice ma C.next.length mc)]), (.int .i64 10)]) Try.func26 nm26 bd26 rfl) (dfCount_c _ nC 3 10 C _ okC hCD ⟨hnC1, by omega⟩ (by decide) (by decide) (by decide)) ?_
  rintro _ w69 ⟨⟨a2, c2, rfl, hi2⟩, X69⟩
  replace Bz := X69.keep Bz
  replace Bd := X69.keep Bd
  replace Bm := X69.keep Bm
  replace hD := hD.ext X69
  replace hCD := hCD.ext X69
  replace hi1 := hi1.ext X69
  replace E := E.ext X69
  refine WpL_val rfl rfl (by decide) (r_move (v := (.tuple #[(.slice a2 11 c2), (.int .i64 0)])) rfl) ?_
  refine WpL_val rfl rfl (by decide) (r_extract (vs := #[(.slice a2 11 c2), (.int .i64 0)]) (v := (.slice a2 11 c2)) rfl rfl) ?_
  refine WpL_val rfl rfl (by decide) (r_extract (vs := #[(.slice a2 11 c2), (.int .i64 0)]) (v := (.int .i64 0)) rfl rfl) ?_
  refine WpL_val rfl rfl (by decide) (r_assign (v := (.slice a2 11 c2)) rfl) ?_
  refine WpL_val rfl rfl (by decide) (r_assign (v := (.int .i64 0)) rfl) ?_
  refine WpL_nil ?_
  refine Wp_seq_region ?_
  refine WpL_val rfl rfl (by decide) (r_loadAgg (vs := [(.int .i64 d.start), (.slice aa n ac), (.slice na n nc)]) rfl agg25 siz25 rfl (Bd.cells rfl)) ?_
  refine WpL_enter rfl rfl (by decide) (r_callF (vs := [(.agg #[(.int .i64 d.start), (.slice aa n ac), (.slice na n nc)])]) Try.func30 nm30 bd30 rfl) (dfLeast_d _ n 3 d _ ok hD (by omega) (by decide)) ?_
  rintro _ w79 ⟨⟨wl, a3, c3, sm, rfl, hi3, hL⟩, X79⟩
  replace Bz := X79.keep Bz
  replace Bd := X79.keep Bd
  replace Bm := X79.keep Bm
  replace hD := hD.ext X79
  replace hCD := hCD.ext X79
  replace hi1 := hi1.ext X79
  replace hi2 := hi2.ext X79
  replace E := E.ext X79
  refine WpL_val rfl rfl (by decide) (r_move (v := (.tuple #[(.slice a3 wl.length c3), (.bool sm), (.int .i64 0)])) rfl) ?_
  refine WpL_val rfl rfl (by decide) (r_extract (vs := #[(.slice a3 wl.length c3), (.bool sm), (.int .i64 0)]) (v := (.slice a3 wl.length c3)) rfl rfl) ?_
  refine WpL_val rfl rfl (by decide) (r_extract (vs := #[(.slice a3 wl.length c3), (.bool sm), (.int .i64 0)]) (v := (.bool sm)) rfl rfl) ?_
  refine WpL_val rfl rfl (by decide) (r_extract (vs := #[(.slice a3 wl.length c3), (.bool sm), (.int .i64 0)]) (v := (.int .i64 0)) rfl rfl) ?_
  refine WpL_val rfl rfl (by decide) (r_assign (v := (.slice a3 wl.length c3)) rfl) ?_
  refine WpL_val rfl rfl (by decide) (r_assign (v := (.bool sm)) rfl) ?_
  refine WpL_val rfl rfl (by decide) (r_assign (v := (.int .i64 0)) rfl) ?_
  refine WpL_nil ?_
  refine Wp_seq ?_
  refine Wp_seq_region ?_
  refine WpL_val rfl rfl (by decide) (r_move (v := (.int .i64 0)) rfl) ?_
  refine WpL_val rfl rfl (by decide) (r_move (v := (.int .i64 0)) rfl) ?_
  refine WpL_val rfl rfl (by decide) (r_move (v := (.int .i64 0)) rfl) ?_
  refine WpL_val rfl rfl (by decide) (r_move (v := (.int .i64 0)) rfl) ?_
  refine s_buildSlice (ps := [(0, (.int .i64 0)), (1, (.int .i64 0)), (2, (.int .i64 0)), (3, (.int .i64 0))]) (c := #[(.int .i64 0), (.int .i64 0), (.int .i64 0), (.int .i64 0)]) (by decide) rfl Try.underlying85 siz26 zer26 (by decide) (by decide) (by kernel_rfl) ?_
  intro bg wg Ng
  have Fg := Ng.ge E
  have Og_bz := Ng.lt Bz
  have Og_bd := Ng.lt Bd
  have Og_bm := Ng.lt Bm
  replace Bz := Ng.keep Bz
  replace Bd := Ng.keep Bd
  replace Bm := Ng.keep Bm
  replace hD := hD.ext Ng.ext
  replace hCD := hCD.ext Ng.ext
  replace hi1 := hi1.ext Ng.ext
  replace hi2 := hi2.ext Ng.ext
  replace hi3 := hi3.ext Ng.ext
  replace E := E.ext Ng.ext
  have Bg := Ng.blk
  refine WpL_enter rfl rfl (by decide) (r_callF (vs := [(.slice (some ⟨bg, 0, none⟩) 4 4)]) Try.func24 nm24 bd24 rfl) (good_c _ _ [0, 0, 0, 0] (ints_of_blk [0, 0, 0, 0] Bg (by decide) (by decide))) ?_
  rintro _ w89 ⟨rfl, X89⟩
  replace Bz := X89.keep Bz
  replace Bd := X89.keep Bd
  replace Bm := X89.keep Bm
  replace Bg := X89.keep Bg
  replace hD := hD.ext X89
  replace hCD := hCD.ext X89
  replace hi1 := hi1.ext X89
  replace hi2 := hi2.ext X89
  replace hi3 := hi3.ext X89
  replace E := E.ext X89
  refine WpL_val rfl rfl (by decide) (r_not (b := true) rfl) ?_
  refine WpL_val rfl rfl (by decide) (r_move (v := (.bool false)) rfl) ?_
  refine WpL_guard_yes (oj := _) rfl rfl (by decide) rfl ?_
  refine WpL_val rfl rfl (by decide) (r_move (v := (.slice a1 11 c1)) rfl) ?_
  refine WpL_guard_yes (oj := _) rfl rfl (by decide) rfl ?_
  refine WpL_val rfl rfl (by decide) (r_lenSlice (ad := a1) (n := 11) (cap := c1) Try.underlying22 rfl) ?_
  refine WpL_guard_yes (oj := _) rfl rfl (by decide) rfl ?_
  refine WpL_val rfl rfl (by decide) (r_neq (k := .i64) (a := 11) (b := 11) rfl rfl) ?_
  refine WpL_val rfl rfl (by decide) (r_pick (b := false) (v := (.bool false)) rfl rfl) ?_
  refine WpL_val rfl rfl (by decide) (r_move (v := (.bool false)) rfl) ?_
  refine WpL_guard_yes (oj := _) rfl rfl (by decide) rfl ?_
  refine WpL_val rfl rfl (by decide) (r_move (v := (.slice a2 11 c2)) rfl) ?_
  refine WpL_guard_yes (oj := _) rfl rfl (by decide) rfl ?_
  refine WpL_val rfl rfl (by decide) (r_lenSlice (ad := a2) (n := 11) (cap := c2) Try.underlying22 rfl) ?_
  refine WpL_guard_yes (oj := _) rfl rfl (by decide) rfl ?_
  refine WpL_val rfl rfl (by decide) (r_neq (k := .i64) (a := 11) (b := 11) rfl rfl) ?_
  refine WpL_val rfl rfl (by decide) (r_pick (b := false) (v := (.bool false)) rfl rfl) ?_
  refine WpL_nil ?_
  refine Wp_cond_false rfl ?_
  refine Wp_skip ?_
  refine thn_normal ?_
  refine Wp_seq_region ?_
  refine WpL_val rfl rfl (by decide) (r_assign (v := (.int .i64 1)) rfl) ?_
  refine WpL_nil ?_
  refine Wp_seq ?_
  refine Wp_seq_region ?_
  refine WpL_val rfl rfl (by decide) (r_move (v := (.int .i64 0)) rfl) ?_
  refine WpL_nil ?_
  refine Wp_block ?_
  refine Wp_loop (fun nn_ σ W1 => ∃ (k : Nat), (∃ jj_, σ = upds jj_ [(5, (.pointer (some ⟨bd, 0, none⟩))), (8, (.slice a1 11 c1)), (10, (.slice a2 11 c2)), (12, (.slice a3 wl.length c3)), (13, (.bool sm)), (72, (.int .i64 ((k : Nat) : Int))), (15, (.int .i64 ((3 ^ k : Nat) : Int)))]) ∧ Chg none1 w0 W1 ∧ Blk W1 bz #[(.int .i64 1), (.int .i64 0), (.int .i64 1), (.int .i64 0)] 3 ∧ Blk W1 bd #[(.int .i64 d.start), (.slice aa n ac), (.slice na n nc)] 25 ∧ Blk W1 bm #[(.int .i64 C.start), (.slice ca C.accept.length cc), (.slice ma C.next.length mc)] 25 ∧ Blk W1 bg #[(.int .i64 0), (.int .i64 0), (.int .i64 0), (.int .i64 0)] 26 ∧ (k ≤ 11) ∧ (DfaAt W1 d [.int .i64 d.start, .slice aa n ac, .slice na n nc]) ∧ (IntsAt W1 (.slice a1 11 c1) ((List.range 11).map fun k => cntF 3 k (beh d d.start))) ∧ (IntsAt W1 (.slice a2 11 c2) ((List.range 11).map fun k => cntF 3 k (beh C C.start))) ∧ (IntsAt W1 (.slice a3 wl.length c3) (toI wl)) ∧ nn_ = 11 - k) (n := 11 - 0) ?_ ?_
  · exact ⟨0, Fits.out ⟨rfl, rfl, rfl, rfl, rfl, rfl, rfl, trivial⟩, E, Bz, Bd, Bm, Bg, Nat.zero_le _, hD, hi1, hi2, hi3, rfl⟩
  · clear E Bz Bd Bm Bg
    rintro _ _ W1 ⟨k, ⟨j1, rfl⟩, E, Bz, Bd, Bm, Bg, hk, hD, hi1, hi2, hi3, rfl⟩
    refine Wp_seq_region ?_
    refine WpL_val rfl rfl (by decide) (r_lss (k := .i64) (a := ((k : Nat) : Int)) (b := 11) rfl rfl) ?_
    refine WpL_nil ?_
    refine Wp_seq ?_
    refine Wp_cond (b := decide ((((k : Nat) : Int) : Int) < 11)) rfl (fun hlt => ?_) (fun hlt => ?_)
    · have khlt := hlt
      replace hlt := of_decide_eq_true hlt
      obtain ⟨p1, q1, rfl, hx1⟩ := ints_cells hi1 (by decide)
      obtain ⟨p2, q2, rfl, hx2⟩ := ints_cells hi2 (by decide)
      have hg1 := hx1 k _ (cnts_get (m := 11) (by omega))
      have hg2 := hx2 k _ (cnts_get (m := 11) (by omega))
      have hC0 : cntF 3 k (beh C C.start) = cntF 3 k fun w => fl (beh d d.start w) := cntF_congr fun w hw => by rw [hBf.st]; exact hCb w hw
      rw [hC0] at hg2
      obtain ⟨x1, hx1e⟩ : ∃ x, x = cntF 3 k (beh d d.start) := ⟨_, rfl⟩
      obtain ⟨x2, hx2e⟩ : ∃ x, x = cntF 3 k fun w => fl (beh d d.start w) := ⟨_, rfl⟩
      have hxs : x1 + x2 = ((3 ^ k : Nat) : Int) := by rw [hx1e, hx2e]; exact cntF_not
      have hx10 : 0 ≤ x1 ∧ 0 ≤ x2 := ⟨by rw [hx1e]; exact cntF_nn, by rw [hx2e]; exact cntF_nn⟩
      rw [← hx1e] at hg1
      rw [← hx2e] at hg2
      have hx3k : 3 ^ k ≤ 177147 := Nat.le_trans (Nat.pow_le_pow_right (by decide) (show k ≤ 11 by omega)) (by decide)
      have hlk : k < wl.length → x1 = 0 := fun h => by rw [hx1e]; exact hL.cnt h
      refine Wp_skip ?_
      refine thn_normal ?_
      refine Wp_seq ?_
      refine Wp_block ?_
      refine Wp_seq_region ?_
      refine WpL_val rfl rfl (by decide) (r_move (v := (.int .i64 ((k : Nat) : Int))) rfl) ?_
      refine WpL_val rfl rfl (by decide) (r_assign (v := (.int .i64 ((k : Nat) : Int))) rfl) ?_
      refine WpL_nil ?_
      refine Wp_seq ?_
      refine Wp_seq_draw 23 mixed (by kernel_rfl) ?_
      intro w3 X3 _
      replace Bz := X3.keep Bz
      replace Bd := X3.keep Bd
      replace Bm := X3.keep Bm
      replace Bg := X3.keep Bg
      replace hD := hD.ext X3
      replace hi1 := hi1.ext X3
      replace hi2 := hi2.ext X3
      replace hi3 := hi3.ext X3
      replace hg1 := X3.cell hg1
      replace hg2 := X3.cell hg2
      replace E := E.ext X3
      refine WpT_val rfl rfl (by decide) (r_move (v := (.slice (some ⟨p1, q1, none⟩) 11 c1)) rfl) ?_
      refine WpT_val rfl rfl (by decide) (r_move (v := (.int .i64 ((k : Nat) : Int))) rfl) ?_
      refine WpT_val rfl rfl (by decide) (r_indexSlice (b := p1) (o := q1) (len := 11) (cap := c1) (i := k) (o' := q1 + k) rfl rfl rfl Try.underlying22 siz3 (by omega) (by omega)) ?_
      refine WpT_val rfl rfl (by decide) (r_load (v := (.int .i64 x1)) rfl flat3 (hg1)) ?_
      refine WpT_val rfl rfl (by decide) (r_move (v := (.slice (some ⟨p2, q2, none⟩) 11 c2)) rfl) ?_
      refine WpT_val rfl rfl (by decide) (r_move (v := (.int .i64 ((k : Nat) : Int))) rfl) ?_
      refine WpT_val rfl rfl (by decide) (r_indexSlice (b := p2) (o := q2) (len := 11) (cap := c2) (i := k) (o' := q2 + k) rfl rfl rfl Try.underlying22 siz3 (by omega) (by omega)) ?_
      refine WpT_val rfl rfl (by decide) (r_load (v := (.int .i64 x2)) rfl flat3 (hg2)) ?_
      refine WpT_val rfl rfl (by decide) (r_add (k := .i64) (a := x1) (b := x2) (c := x1 + x2) rfl rfl (wI64 (by omega))) ?_
      refine WpT_val rfl rfl (by decide) (r_move (v := (.int .i64 ((3 ^ k : Nat) : Int))) rfl) ?_
      refine WpT_val rfl rfl (by decide) (r_neq (k := .i64) (a := x1 + x2) (b := ((3 ^ k : Nat) : Int)) rfl rfl) ?_
      refine WpT_val rfl rfl (by decide) (r_move (v := (.bool (decide ((x1 + x2 : Int) ≠ ((3 ^ k : Nat) : Int))))) rfl) ?_
      have hg4 : (decide ((x1 + x2 : Int) ≠ ((3 ^ k : Nat) : Int))) = false := decide_eq_false (fun h => h hxs)
      refine WpT_guard_yes (oj := _) rfl rfl (by decide) (congrArg Value.bool hg4) ?_
      refine WpT_val rfl rfl (by decide) (r_move (v := (.int .i64 ((k : Nat) : Int))) rfl) ?_
      refine WpT_guard_yes (oj := _) rfl rfl (by decide) (congrArg Value.bool hg4) ?_
      refine WpT_val rfl rfl (by decide) (r_move (v := (.slice a3 wl.length c3)) rfl) ?_
      refine WpT_guard_yes (oj := _) rfl rfl (by decide) (congrArg Value.bool hg4) ?_
      refine WpT_val rfl rfl (by decide) (r_lenSlice (ad := a3) (n := wl.length) (cap := c3) Try.underlying22 rfl) ?_
      refine WpT_guard_yes (oj := _) rfl rfl (by decide) (congrArg Value.bool hg4) ?_
      refine WpT_val rfl rfl (by decide) (r_lss (k := .i64) (a := ((k : Nat) : Int)) (b := ((wl.length : Nat) : Int)) rfl rfl) ?_
      refine WpT_guard_yes (oj := _) rfl rfl (by decide) (congrArg Value.bool hg4) ?_
      refine WpT_val rfl rfl (by decide) (r_move (v := (.bool (decide ((((k : Nat) : Int) : Int) < ((wl.length : Nat) : Int))))) rfl) ?_
      rcases Bool.eq_false_or_eq_true (decide ((((k : Nat) : Int) : Int) < ((wl.length : Nat) : Int))) with hkl | hkl
      · have khkl := hkl
        replace khkl := of_decide_eq_true khkl
        refine WpT_guard_yes (oj := _) rfl rfl (by decide) (congrArg Value.bool hkl) ?_
        refine WpT_val rfl rfl (by decide) (r_move (v := (.slice (some ⟨p1, q1, none⟩) 11 c1)) rfl) ?_
        refine WpT_guard_yes (oj := _) rfl rfl (by decide) (congrArg Value.bool hkl) ?_
        refine WpT_val rfl rfl (by decide) (r_move (v := (.int .i64 ((k : Nat) : Int))) rfl) ?_
        refine WpT_guard_yes (oj := _) rfl rfl (by decide) (congrArg Value.bool hkl) ?_
        refine WpT_val rfl rfl (by decide) (r_indexSlice (b := p1) (o := q1) (len := 11) (cap := c1) (i := k) (o' := q1 + k) rfl rfl rfl Try.underlying22 siz3 (by omega) (by omega)) ?_
        refine WpT_guard_yes (oj := _) rfl rfl (by decide) (congrArg Value.bool hkl) ?_
        refine WpT_val rfl rfl (by decide) (r_load (v := (.int .i64 x1)) rfl flat3 (hg1)) ?_
        refine WpT_guard_yes (oj := _) rfl rfl (by decide) (congrArg Value.bool hkl) ?_
        refine WpT_val rfl rfl (by decide) (r_gtr (k := .i64) (a := x1) (b := 0) rfl rfl) ?_
        refine WpT_guard_yes (oj := _) rfl rfl (by decide) (congrArg Value.bool hg4) ?_
        refine WpT_val rfl rfl (by decide) (r_pick (b := decide ((((k : Nat) : Int) : Int) < ((wl.length : Nat) : Int))) (v := (.bool (decide ((0 : Int) < x1)))) rfl (by rw [hkl]; rfl)) ?_
        refine WpT_zero ?_
        refine WpL_val rfl rfl (by decide) (r_pick (b := decide ((x1 + x2 : Int) ≠ ((3 ^ k : Nat) : Int))) (v := (.bool (decide ((0 : Int) < x1)))) rfl (by rw [hg4]; rfl)) ?_
        refine WpL_nil ?_
        have hc6 : (decide ((0 : Int) < x1)) = false := decide_eq_false (by have := hlk (by omega); omega)
        refine Wp_cond_false (congrArg Value.bool hc6) ?_
        refine Wp_skip ?_
        refine thn_normal ?_
        refine Wp_region ?_
        refine WpL_val rfl rfl (by decide) (r_move (v := (.int .i64 ((3 ^ k : Nat) : Int))) rfl) ?_
        refine WpL_val rfl rfl (by decide) (r_mul (k := .i64) (a := ((3 ^ k : Nat) : Int)) (b := 3) (c := ((3 ^ (k + 1) : Nat) : Int)) rfl rfl ((wI64 (by omega)).trans (by rw [Nat.pow_succ, Int.natCast_mul]; rfl))) ?_
        refine WpL_val rfl rfl (by decide) (r_assign (v := (.int .i64 ((3 ^ (k + 1) : Nat) : Int))) rfl) ?_
        refine WpL_nil ?_
        refine inB_normal ?_
        refine thn_normal ?_
        refine Wp_region ?_
        refine WpL_val rfl rfl (by decide) (r_add (k := .i64) (a := ((k : Nat) : Int)) (b := 1) (c := ((k : Nat) : Int) + 1) rfl rfl (wI64 (by omega))) ?_
        refine WpL_val rfl rfl (by decide) (r_move (v := (.int .i64 (((k : Nat) : Int) + 1))) rfl) ?_
        refine WpL_nil ?_
        refine thn_normal ?_
        exact ⟨11 - (k + 1), by omega, k + 1, Fits.out ⟨rfl, rfl, rfl, rfl, rfl, rfl, rfl, trivial⟩, E, Bz, Bd, Bm, Bg, (by omega), hD, hi1, hi2, hi3, rfl⟩
      · have khkl := hkl
        replace khkl := of_decide_eq_false khkl
        refine WpT_guard_no (oj := _) rfl rfl (by decide) (v := .bool false) (congrArg Value.bool hkl) (Or.inl rfl) ?_
        refine WpT_guard_no (oj := _) rfl rfl (by decide) (v := .bool false) (congrArg Value.bool hkl) (Or.inl rfl) ?_
        refine WpT_guard_no (oj := _) rfl rfl (by decide) (v := .bool false) (congrArg Value.bool hkl) (Or.inl rfl) ?_
        refine WpT_guard_no (oj := _) rfl rfl (by decide) (v := .bool false) (congrArg Value.bool hkl) (Or.inl rfl) ?_
        refine WpT_guard_no (oj := _) rfl rfl (by decide) (v := .bool false) (congrArg Value.bool hkl) (Or.inl rfl) ?_
        refine WpT_guard_yes (oj := _) rfl rfl (by decide) (congrArg Value.bool hg4) ?_
        refine WpT_val rfl rfl (by decide) (r_pick (b := decide ((((k : Nat) : Int) : Int) < ((wl.length : Nat) : Int))) (v := (.bool false)) rfl (by rw [hkl]; rfl)) ?_
        refine WpT_zero ?_
        refine WpL_val rfl rfl (by decide) (r_pick (b := decide ((x1 + x2 : Int) ≠ ((3 ^ k : Nat) : Int))) (v := (.bool false)) rfl (by rw [hg4]; rfl)) ?_
        refine WpL_nil ?_
        refine Wp_cond_false rfl ?_
        refine Wp_skip ?_
        refine thn_normal ?_
        refine Wp_region ?_
        refine WpL_val rfl rfl (by decide) (r_move (v := (.int .i64 ((3 ^ k : Nat) : Int))) rfl) ?_
        refine WpL_val rfl rfl (by decide) (r_mul (k := .i64) (a := ((3 ^ k : Nat) : Int)) (b := 3) (c := ((3 ^ (k + 1) : Nat) : Int)) rfl rfl ((wI64 (by omega)).trans (by rw [Nat.pow_succ, Int.natCast_mul]; rfl))) ?_
        refine WpL_val rfl rfl (by decide) (r_assign (v := (.int .i64 ((3 ^ (k + 1) : Nat) : Int))) rfl) ?_
        refine WpL_nil ?_
        refine inB_normal ?_
        refine thn_normal ?_
        refine Wp_region ?_
        refine WpL_val rfl rfl (by decide) (r_add (k := .i64) (a := ((k : Nat) : Int)) (b := 1) (c := ((k : Nat) : Int) + 1) rfl rfl (wI64 (by omega))) ?_
        refine WpL_val rfl rfl (by decide) (r_move (v := (.int .i64 (((k : Nat) : Int) + 1))) rfl) ?_
        refine WpL_nil ?_
        refine thn_normal ?_
        exact ⟨11 - (k + 1), by omega, k + 1, Fits.out ⟨rfl, rfl, rfl, rfl, rfl, rfl, rfl, trivial⟩, E, Bz, Bd, Bm, Bg, (by omega), hD, hi1, hi2, hi3, rfl⟩
    · have khlt := hlt
      replace hlt := of_decide_eq_false hlt
      have hwi := hL.inw hn.1
      have hli3 : (toI wl).length = wl.length := by simp [toI]
      refine Wp_exit ?_
      refine thn_exit ?_
      refine thn_exit ?_
      refine inB_here ?_
      refine thn_normal ?_
      refine Wp_seq_region ?_
      refine WpL_val rfl rfl (by decide) (r_loadAgg (vs := [(.int .i64 d.start), (.slice aa n ac), (.slice na n nc)]) rfl agg25 siz25 rfl (Bd.cells rfl)) ?_
      refine WpL_val rfl rfl (by decide) (r_move (v := (.slice a3 wl.length c3)) rfl) ?_
      refine WpL_enter rfl rfl (by decide) (r_callF (vs := [(.agg #[(.int .i64 d.start), (.slice aa n ac), (.slice na n nc)]), (.slice a3 wl.length c3)]) Try.func31 nm31 bd31 rfl) (dfrun_c _ n 3 d _ _ (toI wl) ok hD (by omega) (by decide) hi3 (by rw [hli3]; omega) (toI_rng hwi.1)) ?_
      rintro _ w99 ⟨rfl, X99⟩
      replace Bz := X99.keep Bz
      replace Bd := X99.keep Bd
      replace Bm := X99.keep Bm
      replace Bg := X99.keep Bg
      replace hD := hD.ext X99
      replace E := E.ext X99
      rw [toI_nat]
      refine WpL_val rfl rfl (by decide) (r_move (v := (.tuple #[(.int .i64 (beh d d.start wl)), (.int .i64 0)])) rfl) ?_
      refine WpL_val rfl rfl (by decide) (r_extract (vs := #[(.int .i64 (beh d d.start wl)), (.int .i64 0)]) (v := (.int .i64 (beh d d.start wl))) rfl rfl) ?_
      refine WpL_val rfl rfl (by decide) (r_extract (vs := #[(.int .i64 (beh d d.start wl)), (.int .i64 0)]) (v := (.int .i64 0)) rfl rfl) ?_
      refine WpL_val rfl rfl (by decide) (r_assign (v := (.int .i64 (beh d d.start wl))) rfl) ?_
      refine WpL_val rfl rfl (by decide) (r_assign (v := (.int .i64 0)) rfl) ?_
      refine WpL_nil ?_
      refine Wp_seq ?_
      refine Wp_seq_region ?_
      refine WpL_val rfl rfl (by decide) (r_move (v := (.bool sm)) rfl) ?_
      refine WpL_val rfl rfl (by decide) (r_not (b := sm) rfl) ?_
      refine WpL_nil ?_
      refine Wp_cond (b := !sm) rfl (fun hsm => ?_) (fun hsm => ?_)
      · have khsm := hsm
        replace hsm := by simpa using hsm
        refine Wp_seq_region ?_
        refine WpL_val rfl rfl (by decide) (r_move (v := (.slice a3 wl.length c3)) rfl) ?_
        refine WpL_val rfl rfl (by decide) (r_lenSlice (ad := a3) (n := wl.length) (cap := c3) Try.underlying22 rfl) ?_
        obtain ⟨e8, he8⟩ : ∃ e, (decide ((((wl.length : Nat) : Int) : Int) = 0)) = e := ⟨_, rfl⟩
        refine WpL_val rfl rfl (by decide) ((r_eql (k := .i64) (a := ((wl.length : Nat) : Int)) (b := 0) rfl rfl).trans (by rw [he8]; try rfl)) ?_
        refine WpL_val rfl rfl (by decide) (r_move (v := (.bool e8)) rfl) ?_
        refine WpL_guard_any (oj := _) (gv := (.bool e8)) (u := (bif e8 then (.int .i64 0) else undef)) rfl rfl (by decide) (by decide) rfl (by cases e8 <;> first | exact Or.inr ⟨Or.inl rfl, rfl⟩ | exact Or.inr ⟨Or.inr rfl, rfl⟩ | exact Or.inl ⟨rfl, r_move (v := (.int .i64 0)) rfl⟩) ?_
        refine WpL_guard_any (oj := _) (gv := (.bool e8)) (u := (bif e8 then (.bool true) else undef)) rfl rfl (by decide) (by decide) rfl (by cases e8 <;> first | exact Or.inr ⟨Or.inl rfl, rfl⟩ | exact Or.inr ⟨Or.inr rfl, rfl⟩ | exact Or.inl ⟨rfl, r_eql (k := .i64) (a := 0) (b := 0) rfl rfl⟩) ?_
        obtain ⟨e9, he9⟩ : ∃ e, (e8 || false) = e := ⟨_, rfl⟩
        refine WpL_val rfl rfl (by decide) (r_pick (b := e8) (v := .bool e9) rfl (by rw [← he9]; cases e8 <;> rfl)) ?_
        refine WpL_val rfl rfl (by decide) (r_move (v := (.bool e9)) rfl) ?_
        refine WpL_guard_any (oj := _) (gv := (.bool e9)) (u := (bif e9 then (.int .i64 (beh d d.start wl)) else undef)) rfl rfl (by decide) (by decide) rfl (by cases e9 <;> first | exact Or.inr ⟨Or.inl rfl, rfl⟩ | exact Or.inr ⟨Or.inr rfl, rfl⟩ | exact Or.inl ⟨rfl, r_move (v := (.int .i64 (beh d d.start wl))) rfl⟩) ?_
        obtain ⟨e10, he10⟩ : ∃ e, (decide ((beh d d.start wl : Int) < 0)) = e := ⟨_, rfl⟩
        refine WpL_guard_any (oj := _) (gv := (.bool e9)) (u := (bif e9 then (.bool e10) else undef)) rfl rfl (by decide) (by decide) rfl (by cases e9 <;> first | exact Or.inr ⟨Or.inl rfl, rfl⟩ | exact Or.inr ⟨Or.inr rfl, rfl⟩ | exact Or.inl ⟨rfl, (r_lss (k := .i64) (a := beh d d.start wl) (b := 0) rfl rfl).trans (by rw [he10]; try rfl)⟩) ?_
        obtain ⟨e11, he11⟩ : ∃ e, (e9 && e10) = e := ⟨_, rfl⟩
        refine WpL_val rfl rfl (by decide) (r_pick (b := e9) (v := .bool e11) rfl (by rw [← he11]; cases e9 <;> rfl)) ?_
        refine WpL_val rfl rfl (by decide) (r_assign (v := (.bool e11)) rfl) ?_
        refine WpL_nil ?_
        subst he11
        subst he10
        subst he9
        subst he8
        refine Wp_ret ?_
        refine thn_ret ?_
        refine fin_tmp Try.results5 (v := (.bool (((decide ((((wl.length : Nat) : Int) : Int) = 0)) || false) && (decide ((beh d d.start wl : Int) < 0))))) rfl ?_
        exact ⟨bool_eq (by obtain ⟨h1, h2⟩ := hL.2 hsm; rw [h1]; simpa using h2 [] (inW.nil 3)), E⟩
      · have khsm := hsm
        replace hsm := by simpa using hsm
        refine Wp_skip ?_
        refine thn_normal ?_
        refine Wp_seq_region ?_
        refine WpL_val rfl rfl (by decide) (r_move (v := (.int .i64 0)) rfl) ?_
        refine WpL_val rfl rfl (by decide) (r_eql (k := .i64) (a := 0) (b := 0) rfl rfl) ?_
        refine WpL_val rfl rfl (by decide) (r_move (v := (.bool true)) rfl) ?_
        refine WpL_guard_yes (oj := _) rfl rfl (by decide) rfl ?_
        refine WpL_val rfl rfl (by decide) (r_move (v := (.int .i64 (beh d d.start wl))) rfl) ?_
        refine WpL_guard_yes (oj := _) rfl rfl (by decide) rfl ?_
        obtain ⟨e12, he12⟩ : ∃ e, (decide ((0 : Int) ≤ beh d d.start wl)) = e := ⟨_, rfl⟩
        refine WpL_val rfl rfl (by decide) ((r_geq (k := .i64) (a := beh d d.start wl) (b := 0) rfl rfl).trans (by rw [he12]; try rfl)) ?_
        refine WpL_val rfl rfl (by decide) (r_pick (b := true) (v := (.bool e12)) rfl rfl) ?_
        refine WpL_val rfl rfl (by decide) (r_move (v := (.bool e12)) rfl) ?_
        refine WpL_guard_any (oj := _) (gv := (.bool e12)) (u := (bif e12 then (.slice a3 wl.length c3) else undef)) rfl rfl (by decide) (by decide) rfl (by cases e12 <;> first | exact Or.inr ⟨Or.inl rfl, rfl⟩ | exact Or.inr ⟨Or.inr rfl, rfl⟩ | exact Or.inl ⟨rfl, r_move (v := (.slice a3 wl.length c3)) rfl⟩) ?_
        refine WpL_guard_any (oj := _) (gv := (.bool e12)) (u := (bif e12 then (.int .i64 ((wl.length : Nat) : Int)) else undef)) rfl rfl (by decide) (by decide) rfl (by cases e12 <;> first | exact Or.inr ⟨Or.inl rfl, rfl⟩ | exact Or.inr ⟨Or.inr rfl, rfl⟩ | exact Or.inl ⟨rfl, r_lenSlice (ad := a3) (n := wl.length) (cap := c3) Try.underlying22 rfl⟩) ?_
        refine WpL_guard_any (oj := _) (gv := (.bool e12)) (u := (bif e12 then (.pointer (some ⟨bd, 2, none⟩)) else undef)) rfl rfl (by decide) (by decide) rfl (by cases e12 <;> first | exact Or.inr ⟨Or.inl rfl, rfl⟩ | exact Or.inr ⟨Or.inr rfl, rfl⟩ | exact Or.inl ⟨rfl, r_fieldAddr (b := bd) (o := 0) (o' := 2) rfl Try.underlying25 rfl siz23 rfl⟩) ?_
        refine WpL_guard_any (oj := _) (gv := (.bool e12)) (u := (bif e12 then (.slice na n nc) else undef)) rfl rfl (by decide) (by decide) rfl (by cases e12 <;> first | exact Or.inr ⟨Or.inl rfl, rfl⟩ | exact Or.inr ⟨Or.inr rfl, rfl⟩ | exact Or.inl ⟨rfl, r_load (v := (.slice na n nc)) rfl flat23 (Bd.cell rfl)⟩) ?_
        refine WpL_guard_any (oj := _) (gv := (.bool e12)) (u := (bif e12 then (.int .i64 ((n : Nat) : Int)) else undef)) rfl rfl (by decide) (by decide) rfl (by cases e12 <;> first | exact Or.inr ⟨Or.inl rfl, rfl⟩ | exact Or.inr ⟨Or.inr rfl, rfl⟩ | exact Or.inl ⟨rfl, r_lenSlice (ad := na) (n := n) (cap := nc) Try.underlying23 rfl⟩) ?_
        obtain ⟨e13, he13⟩ : ∃ e, (decide ((((wl.length : Nat) : Int) : Int) < ((n : Nat) : Int))) = e := ⟨_, rfl⟩
        refine WpL_guard_any (oj := _) (gv := (.bool e12)) (u := (bif e12 then (.bool e13) else undef)) rfl rfl (by decide) (by decide) rfl (by cases e12 <;> first | exact Or.inr ⟨Or.inl rfl, rfl⟩ | exact Or.inr ⟨Or.inr rfl, rfl⟩ | exact Or.inl ⟨rfl, (r_lss (k := .i64) (a := ((wl.length : Nat) : Int)) (b := ((n : Nat) : Int)) rfl rfl).trans (by rw [he13]; try rfl)⟩) ?_
        obtain ⟨e14, he14⟩ : ∃ e, (e12 && e13) = e := ⟨_, rfl⟩
        refine WpL_val rfl rfl (by decide) (r_pick (b := e12) (v := .bool e14) rfl (by rw [← he14]; cases e12 <;> rfl)) ?_
        refine WpL_val rfl rfl (by decide) (r_assign (v := (.bool e14)) rfl) ?_
        refine WpL_nil ?_
        subst he14
        subst he13
        subst he12
        refine Wp_ret ?_
        refine fin_tmp Try.results5 (v := (.bool ((decide ((0 : Int) ≤ beh d d.start wl)) && (decide ((((wl.length : Nat) : Int) : Int) < ((n : Nat) : Int)))))) rfl ?_
        exact ⟨bool_eq (by have h1 := (hL.1 hsm).1.acc; have h2 := hwi.2; rw [Bool.and_eq_true, decide_eq_true_eq, decide_eq_true_eq]; omega), E⟩
end Go.Proofs
