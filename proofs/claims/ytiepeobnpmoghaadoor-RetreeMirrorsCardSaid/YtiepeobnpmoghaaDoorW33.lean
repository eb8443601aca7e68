/- Walk: the law RetreeMirrors. -/
import Derived.Test.YtiepeobnpmoghaaDoorW32
namespace Go.Proofs
open Go Go.Eng
set_option maxRecDepth 100000

theorem pair_any {n : Nat} {l : List (Nat × Nat)} {a b : Nat} (ha : a ≤ n) (hb : b ≤ n) (h : (n - b, n - a) ∈ l) : l.any (pairB ((n : Int) - (b : Int)) ((n : Int) - (a : Int))) = true := by
  rw [List.any_eq_true]
  exact ⟨_, h, by simp [pairB]; omega⟩

set_option maxHeartbeats 4000000 in
theorem mirrors_c (w0 : World) (hT : TabOk w0) (va vt : Value) (l t : List Int) (hl : IntsAt w0 va l) (ht : IntsAt w0 vt t) :
    Ret Tryd.prog 7 #[va, vt] w0 fun v w => v = .bool true ∧ Ext w0 w := by
  refine Ret_of Tryd.func7 rfl Tryd.ntmps7 (Nat.le_of_ble_eq_true rfl) ?_
  have E : Chg none1 w0 w0 := Chg.refl _ _
  refine Wp_seq_region ?_
  refine WpL_val rfl rfl (by decide) (r_assign (v := (.bool false)) rfl) ?_
  refine WpL_nil ?_
  refine Wp_seq ?_
  refine Wp_seq_region ?_
  refine WpL_enter rfl rfl (by decide) (r_callF (vs := []) Tryd.func24 nm24 bd24 rfl) (rbegun_c _) ?_
  rintro _ w9 ⟨rfl, X9⟩
  replace E := E.ext X9
  refine WpL_val rfl rfl (by decide) (r_not (b := true) rfl) ?_
  refine WpL_val rfl rfl (by decide) (r_move (v := (.bool false)) rfl) ?_
  refine WpL_guard_yes (oj := _) rfl rfl (by decide) rfl ?_
  refine WpL_enter rfl rfl (by decide) (r_callF (vs := []) Tryd.func8 nm8 bd8 rfl) (begun_c _ (hT.ext E)) ?_
  rintro _ w19 ⟨rfl, X19⟩
  replace E := E.ext X19
  refine WpL_guard_yes (oj := _) rfl rfl (by decide) rfl ?_
  refine WpL_val rfl rfl (by decide) (r_not (b := true) rfl) ?_
  refine WpL_val rfl rfl (by decide) (r_pick (b := false) (v := (.bool false)) rfl rfl) ?_
  refine WpL_nil ?_
  refine Wp_cond_false rfl ?_
  refine Wp_skip ?_
  refine thn_normal ?_
  refine Wp_seq_region ?_
  refine WpL_val rfl rfl (by decide) (r_move (v := va) rfl) ?_
  refine WpL_enter rfl rfl (by decide) (r_callF (vs := [va]) Tryd.func9 nm9 bd9 rfl) (mkRe_c _ _ l (hl.ext E)) ?_
  rintro _ wa ⟨a, us, rfl, ga, za, ha, Xa⟩
  replace E := E.ext Xa
  replace ha := ReIn.at _ ha
  have fa := ha
  obtain ⟨sa, sc, aa, ac, rfl, _⟩ := ha.form
  have oka := gen_ok a ga
  have oka2 := ok_rev a oka
  have hsz2 := size_rev a
  have hua : usesB [10] a = false := uses_none (p := genP 8) (fun u hu => by have := hu.2.1; simp; omega) a ga
  have hur : usesB [10] (revT a) = false := by rw [uses_rev]; exact hua
  refine WpL_val rfl rfl (by decide) (r_move (v := vt) rfl) ?_
  refine WpL_enter rfl rfl (by decide) (r_callF (vs := [vt]) Tryd.func10 nm10 bd10 rfl) (text_c _ _ t (ht.ext E)) ?_
  rintro _ wt ⟨ta, tc, text, rfl, hx, hlen, hrb, Xt⟩
  replace fa := ReAt.ext Xt a fa
  replace E := E.ext Xt
  have htx : Txt text := ⟨by omega, hrb⟩
  have htr : Txt text.reverse := ⟨by simp; omega, fun x hx => hrb x (by simpa using hx)⟩
  have hfa : fitsE a 40 = 0 := (fitsE_zero (by decide) (by decide)).2 ⟨oka, by omega⟩
  have hfn : fitsE (revT a) 40 = 0 := (fitsE_zero (by decide) (by decide)).2 ⟨oka2, by omega⟩
  refine s_allocStore (v := (.agg #[(.int .i64 a.kind), (.slice sa a.set.length sc), (.slice aa a.args.length ac), (.int .i64 a.mn), (.int .i64 a.mx), (.bool a.neg)])) (c := #[(.int .i64 a.kind), (.slice sa a.set.length sc), (.slice aa a.args.length ac), (.int .i64 a.mn), (.int .i64 a.mx), (.bool a.neg)]) (n := 6) (by decide) zer27 rfl siz27 rfl rfl rfl (by simp [Value.oneCell']) ?_
  intro bp wp Np
  have Fp := Np.ge E
  replace fa := ReAt.ext Np.ext a fa
  replace hx := hx.ext Np.ext
  replace E := E.ext Np.ext
  have Bp := Np.blk
  refine WpL_val rfl rfl (by decide) (r_assign (v := (.slice ta text.length tc)) rfl) ?_
  refine WpL_nil ?_
  refine Wp_seq_region ?_
  refine WpL_val rfl rfl (by decide) (r_loadAgg (vs := [(.int .i64 a.kind), (.slice sa a.set.length sc), (.slice aa a.args.length ac), (.int .i64 a.mn), (.int .i64 a.mx), (.bool a.neg)]) rfl agg27 siz27 rfl (Bp.cells rfl)) ?_
  refine WpL_enter rfl rfl (by decide) (r_callF (vs := [(.agg #[(.int .i64 a.kind), (.slice sa a.set.length sc), (.slice aa a.args.length ac), (.int .i64 a.mn), (.int .i64 a.mx), (.bool a.neg)])]) Tryd.func30 nm30 bd30 rfl) (reversed_c _ a _ fa hfa hua) ?_
  rintro _ wn ⟨us, rfl, fn, Xn⟩
  replace Bp := Xn.keep Bp
  replace fa := ReAt.ext Xn a fa
  replace hx := hx.ext Xn
  replace E := E.ext Xn
  have fn0 := fn
  obtain ⟨na, nc, nb, nd, rfl, _⟩ := fn.form
  refine WpL_val rfl rfl (by decide) (r_move (v := (.tuple #[(.agg #[(.int .i64 ((revT a).kind)), (.slice na ((revT a).set.length) nc), (.slice nb ((revT a).args.length) nd), (.int .i64 ((revT a).mn)), (.int .i64 ((revT a).mx)), (.bool ((revT a).neg))]), (.int .i64 0)])) rfl) ?_
  refine WpL_val rfl rfl (by decide) (r_extract (vs := #[(.agg #[(.int .i64 ((revT a).kind)), (.slice na ((revT a).set.length) nc), (.slice nb ((revT a).args.length) nd), (.int .i64 ((revT a).mn)), (.int .i64 ((revT a).mx)), (.bool ((revT a).neg))]), (.int .i64 0)]) (v := (.agg #[(.int .i64 ((revT a).kind)), (.slice na ((revT a).set.length) nc), (.slice nb ((revT a).args.length) nd), (.int .i64 ((revT a).mn)), (.int .i64 ((revT a).mx)), (.bool ((revT a).neg))])) rfl rfl) ?_
  refine WpL_val rfl rfl (by decide) (r_extract (vs := #[(.agg #[(.int .i64 ((revT a).kind)), (.slice na ((revT a).set.length) nc), (.slice nb ((revT a).args.length) nd), (.int .i64 ((revT a).mn)), (.int .i64 ((revT a).mx)), (.bool ((revT a).neg))]), (.int .i64 0)]) (v := (.int .i64 0)) rfl rfl) ?_
  refine s_allocStore (v := (.agg #[(.int .i64 ((revT a).kind)), (.slice na ((revT a).set.length) nc), (.slice nb ((revT a).args.length) nd), (.int .i64 ((revT a).mn)), (.int .i64 ((revT a).mx)), (.bool ((revT a).neg))])) (c := #[(.int .i64 ((revT a).kind)), (.slice na ((revT a).set.length) nc), (.slice nb ((revT a).args.length) nd), (.int .i64 ((revT a).mn)), (.int .i64 ((revT a).mx)), (.bool ((revT a).neg))]) (n := 6) (by decide) zer27 rfl siz27 rfl rfl rfl (by simp [Value.oneCell']) ?_
  intro bq wq Nq
  have Fq := Nq.ge E
  have Oq_bp := Nq.lt Bp
  replace Bp := Nq.keep Bp
  replace fa := ReAt.ext Nq.ext a fa
  replace hx := hx.ext Nq.ext
  replace fn0 := ReAt.ext Nq.ext _ fn0
  replace E := E.ext Nq.ext
  have Bq := Nq.blk
  refine WpL_val rfl rfl (by decide) (r_assign (v := (.int .i64 0)) rfl) ?_
  refine WpL_nil ?_
  refine Wp_seq_region ?_
  refine WpL_val rfl rfl (by decide) (r_loadAgg (vs := [(.int .i64 ((revT a).kind)), (.slice na ((revT a).set.length) nc), (.slice nb ((revT a).args.length) nd), (.int .i64 ((revT a).mn)), (.int .i64 ((revT a).mx)), (.bool ((revT a).neg))]) rfl agg27 siz27 rfl (Bq.cells rfl)) ?_
  refine WpL_enter rfl rfl (by decide) (r_callF (vs := [(.agg #[(.int .i64 ((revT a).kind)), (.slice na ((revT a).set.length) nc), (.slice nb ((revT a).args.length) nd), (.int .i64 ((revT a).mn)), (.int .i64 ((revT a).mx)), (.bool ((revT a).neg))])]) Tryd.func30 nm30 bd30 rfl) ((reversed_c _ (revT a) _ fn0 hfn hur).mono (R' := fun v w => ∃ us, v = .tuple #[.agg us.toArray, .int .i64 0] ∧ ReAt w a us ∧ Ext wq w) (by rintro v w ⟨us, h1, h2, h3⟩; rw [rev_rev] at h2; exact ⟨us, h1, h2, h3⟩)) ?_
  rintro _ wm ⟨us, rfl, fm, Xm⟩
  replace Bp := Xm.keep Bp
  replace Bq := Xm.keep Bq
  replace fa := ReAt.ext Xm a fa
  replace hx := hx.ext Xm
  replace fn0 := ReAt.ext Xm _ fn0
  replace E := E.ext Xm
  have fm0 := fm
  obtain ⟨ma, mc, mb, md, rfl, _⟩ := fm.form
  have hcx : checkP a text = 0 := check_zero oka (by omega) htx
  have hcy : checkP (revT a) text.reverse = 0 := check_zero oka2 (by omega) htr
  have hrel := rel_rev (text := text) (by omega) a oka (uses_look a hua)
  have hwf := wf_rel text a
  obtain ⟨px, hpx0⟩ : ∃ px, px = pairsL (relOf text a) (text.length + 1) := ⟨_, rfl⟩
  obtain ⟨py, hpy0⟩ : ∃ py, py = pairsL (mir text.length (relOf text a)) (text.length + 1) := ⟨_, rfl⟩
  refine WpL_val rfl rfl (by decide) (r_move (v := (.tuple #[(.agg #[(.int .i64 a.kind), (.slice ma a.set.length mc), (.slice mb a.args.length md), (.int .i64 a.mn), (.int .i64 a.mx), (.bool a.neg)]), (.int .i64 0)])) rfl) ?_
  refine WpL_val rfl rfl (by decide) (r_extract (vs := #[(.agg #[(.int .i64 a.kind), (.slice ma a.set.length mc), (.slice mb a.args.length md), (.int .i64 a.mn), (.int .i64 a.mx), (.bool a.neg)]), (.int .i64 0)]) (v := (.agg #[(.int .i64 a.kind), (.slice ma a.set.length mc), (.slice mb a.args.length md), (.int .i64 a.mn), (.int .i64 a.mx), (.bool a.neg)])) rfl rfl) ?_
  refine WpL_val rfl rfl (by decide) (r_extract (vs := #[(.agg #[(.int .i64 a.kind), (.slice ma a.set.length mc), (.slice mb a.args.length md), (.int .i64 a.mn), (.int .i64 a.mx), (.bool a.neg)]), (.int .i64 0)]) (v := (.int .i64 0)) rfl rfl) ?_
  refine s_allocStore (v := (.agg #[(.int .i64 a.kind), (.slice ma a.set.length mc), (.slice mb a.args.length md), (.int .i64 a.mn), (.int .i64 a.mx), (.bool a.neg)])) (c := #[(.int .i64 a.kind), (.slice ma a.set.length mc), (.slice mb a.args.length md), (.int .i64 a.mn), (.int .i64 a.mx), (.bool a.neg)]) (n := 6) (by decide) zer27 rfl siz27 rfl rfl rfl (by simp [Value.oneCell']) ?_
  intro br wr Nr
  have Fr := Nr.ge E
  have Or_bp := Nr.lt Bp
  have Or_bq := Nr.lt Bq
  replace Bp := Nr.keep Bp
  replace Bq := Nr.keep Bq
  replace fa := ReAt.ext Nr.ext a fa
  replace hx := hx.ext Nr.ext
  replace fn0 := ReAt.ext Nr.ext _ fn0
  replace fm0 := ReAt.ext Nr.ext _ fm0
  replace E := E.ext Nr.ext
  have Br := Nr.blk
  refine WpL_val rfl rfl (by decide) (r_assign (v := (.int .i64 0)) rfl) ?_
  refine WpL_nil ?_
  refine Wp_seq_region ?_
  refine WpL_val rfl rfl (by decide) (r_loadAgg (vs := [(.int .i64 a.kind), (.slice sa a.set.length sc), (.slice aa a.args.length ac), (.int .i64 a.mn), (.int .i64 a.mx), (.bool a.neg)]) rfl agg27 siz27 rfl (Bp.cells rfl)) ?_
  refine WpL_val rfl rfl (by decide) (r_move (v := (.slice ta text.length tc)) rfl) ?_
  refine WpL_enter rfl rfl (by decide) (r_callF (vs := [(.agg #[(.int .i64 a.kind), (.slice sa a.set.length sc), (.slice aa a.args.length ac), (.int .i64 a.mn), (.int .i64 a.mx), (.bool a.neg)]), (.slice ta text.length tc)]) Tryd.func16 nm16 bd16 rfl) ((pairs_c _ a _ _ text fa hx (hT.ext E)).mono (R' := fun v w => ∃ b c, v = .tuple #[.slice b px.length c, .int .i64 0] ∧ PairsAt w (.slice b px.length c) px ∧ Ext wr w) (by rintro v w ⟨b, c, h1, h2, h3⟩; rw [hcx] at h1; rw [if_pos rfl, ← hpx0] at h1; rw [if_pos hcx, ← hpx0] at h2; exact ⟨b, c, h1, h2, h3⟩)) ?_
  rintro _ wx ⟨xb, xc, rfl, hpx, Xx⟩
  replace Bp := Xx.keep Bp
  replace Bq := Xx.keep Bq
  replace Br := Xx.keep Br
  replace fa := ReAt.ext Xx a fa
  replace hx := hx.ext Xx
  replace fn0 := ReAt.ext Xx _ fn0
  replace fm0 := ReAt.ext Xx _ fm0
  replace E := E.ext Xx
  have hbp : bp < wx.heap.size := Bp.lt
  have hbq : bq < wx.heap.size := Bq.lt
  have hbr : br < wx.heap.size := Br.lt
  have hwx := E.size
  refine WpL_val rfl rfl (by decide) (r_move (v := (.tuple #[(.slice xb px.length xc), (.int .i64 0)])) rfl) ?_
  refine WpL_val rfl rfl (by decide) (r_extract (vs := #[(.slice xb px.length xc), (.int .i64 0)]) (v := (.slice xb px.length xc)) rfl rfl) ?_
  refine WpL_val rfl rfl (by decide) (r_extract (vs := #[(.slice xb px.length xc), (.int .i64 0)]) (v := (.int .i64 0)) rfl rfl) ?_
  refine WpL_val rfl rfl (by decide) (r_assign (v := (.slice xb px.length xc)) rfl) ?_
  refine WpL_val rfl rfl (by decide) (r_assign (v := (.int .i64 0)) rfl) ?_
  refine WpL_nil ?_
  refine Wp_seq_region ?_
  refine WpL_val rfl rfl (by decide) (r_move (v := (.slice ta text.length tc)) rfl) ?_
  refine WpL_enter rfl rfl (by decide) (r_callF (vs := [(.slice ta text.length tc)]) Tryd.func31 nm31 bd31 rfl) (clonei_c _ _ text hx (by omega)) ?_
  rintro _ wc ⟨ca, cc, rfl, hcc, hcl, Xc⟩
  replace Bp := Xc.keep Bp
  replace Bq := Xc.keep Bq
  replace Br := Xc.keep Br
  replace E := E.ext Xc
  have hrevc : Ret Tryd.prog 32 #[.slice ca text.length cc] wc fun v w => IntsAt w (.slice ca text.length cc) text.reverse ∧ Ext wx w ∧ Chg (fun y => wx.heap.size ≤ y) wc w := by
    rcases hcl with hnil | ⟨b, rest, rfl, hb, hB⟩
    · subst hnil
      exact (revi0_c _ ca cc).mono fun v w h => ⟨SlAt.nil _ _ _ _, Ext.trans Xc h, Ext.chg h⟩
    · refine (revi_c _ b cc _ text rest hB (by omega)).mono fun v w h => ⟨?_, Xc.step h.2 (fun y hy he => by have he' : y = b := he; omega), h.2.mono (fun y _ he => by have he' : y = b := he; omega)⟩
      have h3 := ints_own (c := cc) h.1 (by simpa using hcc) (by simp; omega)
      simpa using h3
  refine WpL_val rfl rfl (by decide) (r_assign (v := (.slice ca text.length cc)) rfl) ?_
  refine WpL_nil ?_
  refine Wp_seq_region ?_
  refine WpL_val rfl rfl (by decide) (r_move (v := (.slice ca text.length cc)) rfl) ?_
  refine WpL_enter rfl rfl (by decide) (r_callF (vs := [(.slice ca text.length cc)]) Tryd.func32 nm32 bd32 rfl) (hrevc) ?_
  rintro _ wv ⟨hxr, Xv, Cv⟩
  replace Bp := Cv.keep (by omega) Bp
  replace Bq := Cv.keep (by omega) Bq
  replace Br := Cv.keep (by omega) Br
  replace E := E.step Cv (by intro x hx hm; omega)
  replace fa := ReAt.ext Xv a fa
  replace fn0 := ReAt.ext Xv _ fn0
  replace fm0 := ReAt.ext Xv _ fm0
  replace hpx := SlAt.ext hpx Xv
  refine WpL_nil ?_
  refine Wp_seq_region ?_
  refine WpL_val rfl rfl (by decide) (r_loadAgg (vs := [(.int .i64 ((revT a).kind)), (.slice na ((revT a).set.length) nc), (.slice nb ((revT a).args.length) nd), (.int .i64 ((revT a).mn)), (.int .i64 ((revT a).mx)), (.bool ((revT a).neg))]) rfl agg27 siz27 rfl (Bq.cells rfl)) ?_
  refine WpL_val rfl rfl (by decide) (r_move (v := (.slice ca text.length cc)) rfl) ?_
  refine WpL_enter rfl rfl (by decide) (r_callF (vs := [(.agg #[(.int .i64 ((revT a).kind)), (.slice na ((revT a).set.length) nc), (.slice nb ((revT a).args.length) nd), (.int .i64 ((revT a).mn)), (.int .i64 ((revT a).mx)), (.bool ((revT a).neg))]), (.slice ca text.length cc)]) Tryd.func16 nm16 bd16 rfl) ((pairs_c _ (revT a) _ _ text.reverse fn0 hxr (hT.ext E)).mono (R' := fun v w => ∃ b c, v = .tuple #[.slice b py.length c, .int .i64 0] ∧ PairsAt w (.slice b py.length c) py ∧ Ext wv w) (by rintro v w ⟨b, c, h1, h2, h3⟩; rw [hcy] at h1; rw [if_pos rfl, hrel, List.length_reverse, ← hpy0] at h1; rw [if_pos hcy, hrel, List.length_reverse, ← hpy0] at h2; exact ⟨b, c, h1, h2, h3⟩)) ?_
  rintro _ wy ⟨yb, yc, rfl, hpy, Xy⟩
  replace Bp := Xy.keep Bp
  replace Bq := Xy.keep Bq
  replace Br := Xy.keep Br
  replace fa := ReAt.ext Xy a fa
  replace fm0 := ReAt.ext Xy _ fm0
  replace hpx := SlAt.ext hpx Xy
  replace E := E.ext Xy
  have hpl : py.length = px.length := by rw [hpx0, hpy0]; exact pairs_mir (by omega) hwf
  refine WpL_val rfl rfl (by decide) (r_move (v := (.tuple #[(.slice yb py.length yc), (.int .i64 0)])) rfl) ?_
  refine WpL_val rfl rfl (by decide) (r_extract (vs := #[(.slice yb py.length yc), (.int .i64 0)]) (v := (.slice yb py.length yc)) rfl rfl) ?_
  refine WpL_val rfl rfl (by decide) (r_extract (vs := #[(.slice yb py.length yc), (.int .i64 0)]) (v := (.int .i64 0)) rfl rfl) ?_
  refine WpL_val rfl rfl (by decide) (r_assign (v := (.slice yb py.length yc)) rfl) ?_
  refine WpL_val rfl rfl (by decide) (r_assign (v := (.int .i64 0)) rfl) ?_
  refine WpL_nil ?_
  refine Wp_seq ?_
  refine Wp_seq_region ?_
  refine WpL_val rfl rfl (by decide) (r_move (v := (.int .i64 0)) rfl) ?_
  refine WpL_val rfl rfl (by decide) (r_move (v := (.int .i64 0)) rfl) ?_
  refine WpL_val rfl rfl (by decide) (r_move (v := (.int .i64 0)) rfl) ?_
  refine WpL_val rfl rfl (by decide) (r_move (v := (.int .i64 0)) rfl) ?_
  refine s_buildSlice (ps := [(0, (.int .i64 0)), (1, (.int .i64 0)), (2, (.int .i64 0)), (3, (.int .i64 0))]) (c := #[(.int .i64 0), (.int .i64 0), (.int .i64 0), (.int .i64 0)]) (by decide) rfl Tryd.underlying77 siz38 zer38 (by decide) (by decide) (by kernel_rfl) ?_
  intro bg wg Ng
  have Fg := Ng.ge E
  have Og_bp := Ng.lt Bp
  have Og_bq := Ng.lt Bq
  have Og_br := Ng.lt Br
  replace Bp := Ng.keep Bp
  replace Bq := Ng.keep Bq
  replace Br := Ng.keep Br
  replace fa := ReAt.ext Ng.ext a fa
  replace fm0 := ReAt.ext Ng.ext _ fm0
  replace hpx := SlAt.ext hpx Ng.ext
  replace hpy := SlAt.ext hpy Ng.ext
  replace E := E.ext Ng.ext
  have Bg := Ng.blk
  refine WpL_enter rfl rfl (by decide) (r_callF (vs := [(.slice (some ⟨bg, 0, none⟩) 4 4)]) Tryd.func27 nm27 bd27 rfl) ((good_c _ _ [0, 0, 0, 0] (ints_of_blk [0, 0, 0, 0] Bg (by simp) (by simp))).mono (R' := fun v w => v = .bool true ∧ Ext wg w) (fun v w h => h)) ?_
  rintro _ w29 ⟨rfl, X29⟩
  replace Bp := X29.keep Bp
  replace Bq := X29.keep Bq
  replace Br := X29.keep Br
  replace Bg := X29.keep Bg
  replace fa := ReAt.ext X29 a fa
  replace fm0 := ReAt.ext X29 _ fm0
  replace hpx := SlAt.ext hpx X29
  replace hpy := SlAt.ext hpy X29
  replace E := E.ext X29
  refine WpL_val rfl rfl (by decide) (r_not (b := true) rfl) ?_
  refine WpL_val rfl rfl (by decide) (r_move (v := (.bool false)) rfl) ?_
  refine WpL_guard_yes (oj := _) rfl rfl (by decide) rfl ?_
  refine WpL_val rfl rfl (by decide) (r_loadAgg (vs := [(.int .i64 a.kind), (.slice ma a.set.length mc), (.slice mb a.args.length md), (.int .i64 a.mn), (.int .i64 a.mx), (.bool a.neg)]) rfl agg27 siz27 rfl (Br.cells rfl)) ?_
  refine WpL_guard_yes (oj := _) rfl rfl (by decide) rfl ?_
  refine WpL_val rfl rfl (by decide) (r_loadAgg (vs := [(.int .i64 a.kind), (.slice sa a.set.length sc), (.slice aa a.args.length ac), (.int .i64 a.mn), (.int .i64 a.mx), (.bool a.neg)]) rfl agg27 siz27 rfl (Bp.cells rfl)) ?_
  refine WpL_guard_yes (oj := _) rfl rfl (by decide) rfl ?_
  refine WpL_enter rfl rfl (by decide) (r_callF (vs := [(.agg #[(.int .i64 a.kind), (.slice ma a.set.length mc), (.slice mb a.args.length md), (.int .i64 a.mn), (.int .i64 a.mx), (.bool a.neg)]), (.agg #[(.int .i64 a.kind), (.slice sa a.set.length sc), (.slice aa a.args.length ac), (.int .i64 a.mn), (.int .i64 a.mx), (.bool a.neg)])]) Tryd.func28 nm28 bd28 rfl) (resame_d fm0 fa rfl) ?_
  rintro _ w39 ⟨rfl, X39⟩
  replace Bp := X39.keep Bp
  replace Bq := X39.keep Bq
  replace Br := X39.keep Br
  replace Bg := X39.keep Bg
  replace fa := ReAt.ext X39 a fa
  replace fm0 := ReAt.ext X39 _ fm0
  replace hpx := SlAt.ext hpx X39
  replace hpy := SlAt.ext hpy X39
  replace E := E.ext X39
  refine WpL_guard_yes (oj := _) rfl rfl (by decide) rfl ?_
  refine WpL_val rfl rfl (by decide) (r_not (b := true) rfl) ?_
  refine WpL_val rfl rfl (by decide) (r_pick (b := false) (v := (.bool false)) rfl rfl) ?_
  refine WpL_val rfl rfl (by decide) (r_move (v := (.bool false)) rfl) ?_
  refine WpL_guard_yes (oj := _) rfl rfl (by decide) rfl ?_
  refine WpL_val rfl rfl (by decide) (r_move (v := (.slice xb px.length xc)) rfl) ?_
  refine WpL_guard_yes (oj := _) rfl rfl (by decide) rfl ?_
  refine WpL_val rfl rfl (by decide) (r_lenSlice (ad := xb) (n := px.length) (cap := xc) Tryd.underlying37 rfl) ?_
  refine WpL_guard_yes (oj := _) rfl rfl (by decide) rfl ?_
  refine WpL_val rfl rfl (by decide) (r_move (v := (.slice yb py.length yc)) rfl) ?_
  refine WpL_guard_yes (oj := _) rfl rfl (by decide) rfl ?_
  refine WpL_val rfl rfl (by decide) (r_lenSlice (ad := yb) (n := py.length) (cap := yc) Tryd.underlying37 rfl) ?_
  refine WpL_guard_yes (oj := _) rfl rfl (by decide) rfl ?_
  refine WpL_val rfl rfl (by decide) (r_neq (k := .i64) (a := ((px.length : Nat) : Int)) (b := ((py.length : Nat) : Int)) rfl rfl) ?_
  refine WpL_val rfl rfl (by decide) (r_pick (b := false) (v := (.bool (decide ((((px.length : Nat) : Int) : Int) ≠ ((py.length : Nat) : Int))))) rfl rfl) ?_
  refine WpL_nil ?_
  have hc1 : (decide ((((px.length : Nat) : Int) : Int) ≠ ((py.length : Nat) : Int))) = false := by simp; omega
  refine Wp_cond_false (congrArg Value.bool hc1) ?_
  refine Wp_skip ?_
  refine thn_normal ?_
  refine Wp_seq ?_
  refine Wp_seq_region ?_
  refine WpL_val rfl rfl (by decide) (r_move (v := (.slice xb px.length xc)) rfl) ?_
  refine WpL_val rfl rfl (by decide) (r_lenSlice (ad := xb) (n := px.length) (cap := xc) Tryd.underlying37 rfl) ?_
  refine WpL_val rfl rfl (by decide) (r_move (v := (.int .i64 0)) rfl) ?_
  refine WpL_nil ?_
  refine Wp_block ?_
  refine Wp_loop (fun nn_ σ W2 => ∃ (k : Nat), (∃ jj_, σ = upds jj_ [(6, (.slice ta text.length tc)), (14, (.slice yb py.length yc)), (74, (.slice xb px.length xc)), (75, (.int .i64 ((px.length : Nat) : Int))), (76, (.int .i64 ((k : Nat) : Int)))]) ∧ Chg none1 w0 W2 ∧ Blk W2 bp #[(.int .i64 a.kind), (.slice sa a.set.length sc), (.slice aa a.args.length ac), (.int .i64 a.mn), (.int .i64 a.mx), (.bool a.neg)] 27 ∧ Blk W2 bq #[(.int .i64 ((revT a).kind)), (.slice na ((revT a).set.length) nc), (.slice nb ((revT a).args.length) nd), (.int .i64 ((revT a).mn)), (.int .i64 ((revT a).mx)), (.bool ((revT a).neg))] 27 ∧ Blk W2 br #[(.int .i64 a.kind), (.slice ma a.set.length mc), (.slice mb a.args.length md), (.int .i64 a.mn), (.int .i64 a.mx), (.bool a.neg)] 27 ∧ Blk W2 bg #[(.int .i64 0), (.int .i64 0), (.int .i64 0), (.int .i64 0)] 38 ∧ (k ≤ px.length) ∧ (PairsAt W2 (.slice yb py.length yc) py) ∧ (PairsAt W2 (.slice xb px.length xc) px) ∧ nn_ = px.length - k) (n := px.length - 0) ?_ ?_
  · exact ⟨0, Fits.out ⟨rfl, rfl, rfl, rfl, rfl, trivial⟩, E, Bp, Bq, Br, Bg, Nat.zero_le _, hpy, hpx, rfl⟩
  · clear E Bp Bq Br Bg
    rintro _ _ W2 ⟨k, ⟨j2, rfl⟩, E, Bp, Bq, Br, Bg, hk, hpy, hpx, rfl⟩
    refine Wp_seq_region ?_
    refine WpL_val rfl rfl (by decide) (r_lss (k := .i64) (a := ((k : Nat) : Int)) (b := ((px.length : Nat) : Int)) rfl rfl) ?_
    refine WpL_nil ?_
    refine Wp_seq ?_
    refine Wp_cond (b := decide ((((k : Nat) : Int) : Int) < ((px.length : Nat) : Int))) rfl (fun hlt => ?_) (fun hlt => ?_)
    · have khlt := hlt
      replace hlt := of_decide_eq_true hlt
      obtain ⟨q, hq⟩ := get_of_lt (l := px) (i := k) (by omega)
      have hqm : q ∈ px := List.mem_of_getElem? hq
      have hqm2 := hqm
      rw [hpx0, pairs_mem] at hqm
      have hqw := hwf _ _ hqm.2.2
      have hpxl : px.length ≤ 9223372036854775807 := by simpa using SlAt.le hpx
      obtain ⟨b, o, rfl, hcells⟩ := pairs_cells hpx (by omega)
      refine Wp_skip ?_
      refine thn_normal ?_
      refine Wp_seq ?_
      refine Wp_block ?_
      refine Wp_seq_region ?_
      refine WpL_val rfl rfl (by decide) (r_indexSlice (b := b) (o := o) (len := px.length) (cap := xc) (i := k) (o' := o + k * 2) rfl rfl rfl Tryd.underlying37 siz43 (by omega) (by omega)) ?_
      refine WpL_val rfl rfl (by decide) (r_loadAgg (vs := [(.int .i64 ((q.1 : Nat) : Int)), (.int .i64 ((q.2 : Nat) : Int))]) rfl agg43 siz43 rfl (hcells k q hq)) ?_
      refine s_allocStore (v := (.agg #[(.int .i64 ((q.1 : Nat) : Int)), (.int .i64 ((q.2 : Nat) : Int))])) (c := #[(.int .i64 ((q.1 : Nat) : Int)), (.int .i64 ((q.2 : Nat) : Int))]) (n := 2) (by decide) zer43 rfl siz43 rfl rfl rfl (by simp [Value.oneCell']) ?_
      intro bs ws Ns
      have Fs := Ns.ge E
      have Os_bp := Ns.lt Bp
      have Os_bq := Ns.lt Bq
      have Os_br := Ns.lt Br
      have Os_bg := Ns.lt Bg
      replace Bp := Ns.keep Bp
      replace Bq := Ns.keep Bq
      replace Br := Ns.keep Br
      replace Bg := Ns.keep Bg
      replace hpx := SlAt.ext hpx Ns.ext
      replace hpy := SlAt.ext hpy Ns.ext
      replace E := E.ext Ns.ext
      have Bs := Ns.blk
      refine WpL_nil ?_
      refine Wp_seq_region ?_
      refine WpL_val rfl rfl (by decide) (r_move (v := (.slice yb py.length yc)) rfl) ?_
      refine WpL_val rfl rfl (by decide) (r_move (v := (.slice ta text.length tc)) rfl) ?_
      refine WpL_val rfl rfl (by decide) (r_lenSlice (ad := ta) (n := text.length) (cap := tc) Tryd.underlying22 rfl) ?_
      refine WpL_val rfl rfl (by decide) (r_indexArr (b := bs) (o := 0) (i := 1) (o' := 1) rfl rfl rfl Tryd.underlying43 siz3 (by omega) (by omega)) ?_
      refine WpL_val rfl rfl (by decide) (r_load (v := (.int .i64 ((q.2 : Nat) : Int))) rfl flat3 (Bs.cell rfl)) ?_
      refine WpL_val rfl rfl (by decide) (r_sub (k := .i64) (a := ((text.length : Nat) : Int)) (b := ((q.2 : Nat) : Int)) (c := ((text.length : Nat) : Int) - ((q.2 : Nat) : Int)) rfl rfl (wI64 (by omega))) ?_
      refine WpL_val rfl rfl (by decide) (r_move (v := (.slice ta text.length tc)) rfl) ?_
      refine WpL_val rfl rfl (by decide) (r_lenSlice (ad := ta) (n := text.length) (cap := tc) Tryd.underlying22 rfl) ?_
      refine WpL_val rfl rfl (by decide) (r_indexArr (b := bs) (o := 0) (i := 0) (o' := 0) rfl rfl rfl Tryd.underlying43 siz3 (by omega) (by omega)) ?_
      refine WpL_val rfl rfl (by decide) (r_load (v := (.int .i64 ((q.1 : Nat) : Int))) rfl flat3 (Bs.cell rfl)) ?_
      refine WpL_val rfl rfl (by decide) (r_sub (k := .i64) (a := ((text.length : Nat) : Int)) (b := ((q.1 : Nat) : Int)) (c := ((text.length : Nat) : Int) - ((q.1 : Nat) : Int)) rfl rfl (wI64 (by omega))) ?_
      refine WpL_val rfl rfl (by decide) (r_build (ps := [(0, (.int .i64 (((text.length : Nat) : Int) - ((q.2 : Nat) : Int)))), (1, (.int .i64 (((text.length : Nat) : Int) - ((q.1 : Nat) : Int))))]) (v := (.agg #[(.int .i64 (((text.length : Nat) : Int) - ((q.2 : Nat) : Int))), (.int .i64 (((text.length : Nat) : Int) - ((q.1 : Nat) : Int)))])) rfl (by kernel_rfl)) ?_
      refine WpL_enter rfl rfl (by decide) (r_callF (vs := [(.slice yb py.length yc), (.agg #[(.int .i64 (((text.length : Nat) : Int) - ((q.2 : Nat) : Int))), (.int .i64 (((text.length : Nat) : Int) - ((q.1 : Nat) : Int)))])]) Tryd.func33 nm33 bd33 rfl) ((hasp_c _ _ ((text.length : Int) - (q.2 : Int)) ((text.length : Int) - (q.1 : Int)) py hpy).mono (R' := fun v w => v = .bool true ∧ Ext ws w) (fun v w h => ⟨h.1.trans (bool_eq (pair_any (by omega) (by omega) (by rw [hpy0]; exact pairs_mir_mem (by omega) hwf (by rw [← hpx0]; exact hqm2)))), h.2⟩)) ?_
      rintro _ w49 ⟨rfl, X49⟩
      replace Bp := X49.keep Bp
      replace Bq := X49.keep Bq
      replace Br := X49.keep Br
      replace Bg := X49.keep Bg
      replace Bs := X49.keep Bs
      replace hpx := SlAt.ext hpx X49
      replace hpy := SlAt.ext hpy X49
      replace E := E.ext X49
      refine WpL_val rfl rfl (by decide) (r_not (b := true) rfl) ?_
      refine WpL_nil ?_
      refine Wp_cond_false rfl ?_
      refine Wp_skip ?_
      refine inB_normal ?_
      refine thn_normal ?_
      refine Wp_region ?_
      refine WpL_val rfl rfl (by decide) (r_add (k := .i64) (a := ((k : Nat) : Int)) (b := 1) (c := ((k : Nat) : Int) + 1) rfl rfl (wI64 (by omega))) ?_
      refine WpL_val rfl rfl (by decide) (r_move (v := (.int .i64 (((k : Nat) : Int) + 1))) rfl) ?_
      refine WpL_nil ?_
      refine thn_normal ?_
      exact ⟨px.length - (k + 1), by omega, k + 1, Fits.out ⟨rfl, rfl, rfl, rfl, rfl, trivial⟩, E, Bp, Bq, Br, Bg, (by omega), hpy, hpx, rfl⟩
    · have khlt := hlt
      replace hlt := of_decide_eq_false hlt
      refine Wp_exit ?_
      refine thn_exit ?_
      refine thn_exit ?_
      refine inB_here ?_
      refine thn_normal ?_
      refine Wp_seq_region ?_
      refine WpL_val rfl rfl (by decide) (r_assign (v := (.bool true)) rfl) ?_
      refine WpL_nil ?_
      refine Wp_ret ?_
      refine fin_tmp Tryd.results7 (v := (.bool true)) rfl ?_
      exact ⟨rfl, E⟩
end Go.Proofs
