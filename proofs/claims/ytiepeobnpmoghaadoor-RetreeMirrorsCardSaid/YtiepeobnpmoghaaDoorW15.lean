/- Walks: the laws RelationKleene and RelationBoole. -/
import Derived.Test.YtiepeobnpmoghaaDoorW14
import Derived.Test.YtiepeobnpmoghaaDoorLk
import Derived.Test.YtiepeobnpmoghaaDoorDag
namespace Go.Proofs
open Go Go.Eng
set_option maxRecDepth 100000

theorem re_d {w : World} (k : Int) (ts : List Re) {b : Nat} (h : ResAt w b 0 ts) (hl : ts.length ≤ 9223372036854775807) :
    Ret Tryd.prog 12 #[.int .i64 k, .slice (some ⟨b, 0, none⟩) ts.length ts.length] w fun v w' => (Fact.re (.mk k [] ts 0 0 false)).In v w' ∧ Ext w w' :=
  (re_c w k _ _ _).mono fun v w' ⟨h1, h2⟩ => ⟨⟨_, h1, ReAt.of (set := []) (SlAt.nil _ _ _ _) ⟨Nat.le_refl _, hl⟩ (.inr ⟨b, 0, rfl, ResAt.ext h2 ts h⟩)⟩, h2⟩
theorem re_d0 (w : World) (k : Int) :
    Ret Tryd.prog 12 #[.int .i64 k, .slice none 0 0] w fun v w' => (Fact.re (.mk k [] [] 0 0 false)).In v w' ∧ Ext w w' :=
  (re_c w k _ _ _).mono fun v w' ⟨h1, h2⟩ => ⟨⟨_, h1, ReAt.of (set := []) (args := []) (SlAt.nil _ _ _ _) (by simp) (.inl rfl)⟩, h2⟩
theorem same_d {w : World} {s t : Re} {us vs : List Value} {vt : Value} {text : List Int} (hs : ReAt w s us) (ht : ReAt w t vs) (htx : IntsAt w vt text) (hT : TabOk w) (h : Sm s t text) :
    Ret Tryd.prog 13 #[.agg us.toArray, .agg vs.toArray, vt] w fun v w' => (Fact.eq (.bool true)).In v w' ∧ Ext w w' :=
  same_c w s t us vs vt text hs ht htx hT h.1 h.2.1 h.2.2
theorem size_d {w : World} {t : Re} {vs : List Value} (ht : ReAt w t vs) (hs : t.size ≤ 1000) :
    Ret Tryd.prog 11 #[.agg vs.toArray] w fun v w' => (Fact.eq (.int .i64 ((t.size : Nat) : Int))).In v w' ∧ Ext w w' := size_c w t vs ht (by omega)

set_option maxHeartbeats 4000000 in
theorem kleene_c (w0 : World) (hT : TabOk w0) (va vb vc vt : Value) (k l m t : List Int) (hk : IntsAt w0 va k) (hl : IntsAt w0 vb l) (hm : IntsAt w0 vc m) (ht : IntsAt w0 vt t) :
    Ret Tryd.prog 3 #[va, vb, vc, vt] w0 fun v w => v = .bool true ∧ Ext w0 w := by
  refine Ret_of Tryd.func3 rfl Tryd.ntmps3 (Nat.le_of_ble_eq_true rfl) ?_
  have E : Chg none1 w0 w0 := Chg.refl _ _
  refine Wp_seq_region ?_
  refine WpL_val rfl rfl (by decide) (r_assign (v := (.bool false)) rfl) ?_
  refine WpL_nil ?_
  refine Wp_seq ?_
  refine Wp_seq_region ?_
  refine WpL_enter rfl rfl (by decide) (r_callF (vs := []) Tryd.func8 nm8 bd8 rfl) (begun_c _ (hT.ext E)) ?_
  rintro _ w9 ⟨rfl, X9⟩
  replace E := E.ext X9
  refine WpL_val rfl rfl (by decide) (r_not (b := true) rfl) ?_
  refine WpL_nil ?_
  refine Wp_cond_false rfl ?_
  refine Wp_skip ?_
  refine thn_normal ?_
  refine Wp_seq_region ?_
  refine WpL_val rfl rfl (by decide) (r_move (v := va) rfl) ?_
  refine WpL_enter rfl rfl (by decide) (r_callF (vs := [va]) Tryd.func9 nm9 bd9 rfl) (mkRe_c _ _ k (hk.ext E)) ?_
  rintro _ wa ⟨a, us, rfl, ga, za, ha, Xa⟩
  replace E := E.ext Xa
  replace ha := ReIn.at _ ha
  have fa := ha
  obtain ⟨sa, sc, aa, ac, rfl, _⟩ := ha.form
  refine WpL_val rfl rfl (by decide) (r_move (v := vb) rfl) ?_
  refine WpL_enter rfl rfl (by decide) (r_callF (vs := [vb]) Tryd.func9 nm9 bd9 rfl) (mkRe_c _ _ l (hl.ext E)) ?_
  rintro _ wb ⟨b, us, rfl, gb, zb, hb, Xb⟩
  replace fa := ReAt.ext Xb a fa
  replace E := E.ext Xb
  replace hb := ReIn.at _ hb
  have fb := hb
  obtain ⟨sb, sd, ab, ad, rfl, _⟩ := hb.form
  refine WpL_val rfl rfl (by decide) (r_move (v := vc) rfl) ?_
  refine WpL_enter rfl rfl (by decide) (r_callF (vs := [vc]) Tryd.func9 nm9 bd9 rfl) (mkRe_c _ _ m (hm.ext E)) ?_
  rintro _ wc ⟨c, us, rfl, gc, zc, hc, Xc⟩
  replace fa := ReAt.ext Xc a fa
  replace fb := ReAt.ext Xc b fb
  replace E := E.ext Xc
  replace hc := ReIn.at _ hc
  have fc := hc
  obtain ⟨sf, se, af, ae, rfl, _⟩ := hc.form
  refine WpL_val rfl rfl (by decide) (r_move (v := vt) rfl) ?_
  refine WpL_enter rfl rfl (by decide) (r_callF (vs := [vt]) Tryd.func10 nm10 bd10 rfl) (text_c _ _ t (ht.ext E)) ?_
  rintro _ wt ⟨ta, tc, text, rfl, hx, hlen, hrb, Xt⟩
  replace fa := ReAt.ext Xt a fa
  replace fb := ReAt.ext Xt b fb
  replace fc := ReAt.ext Xt c fc
  replace E := E.ext Xt
  have oka := gen_ok a ga
  have okb := gen_ok b gb
  have okc := gen_ok c gc
  have htx : Txt text := ⟨by omega, hrb⟩
  have E2 : Chg none1 wt wt := Chg.refl _ _
  refine s_alloc (c := #[(.int .i64 0), (.slice none 0 0), (.slice none 0 0), (.int .i64 0), (.int .i64 0), (.bool false)]) (by decide) zer27 rfl ?_
  intro bp wp Np
  have Fp := Np.ge E
  have Fp_E2 := Np.ge E2
  replace E := E.ext Np.ext
  have Bp := Np.blk
  replace E2 := E2.ext Np.ext
  refine s_alloc (c := #[(.int .i64 0), (.slice none 0 0), (.slice none 0 0), (.int .i64 0), (.int .i64 0), (.bool false)]) (by decide) zer27 rfl ?_
  intro bq wq Nq
  have Fq := Nq.ge E
  have Fq_E2 := Nq.ge E2
  have Oq_bp := Nq.lt Bp
  replace Bp := Nq.keep Bp
  replace E := E.ext Nq.ext
  have Bq := Nq.blk
  replace E2 := E2.ext Nq.ext
  refine s_alloc (c := #[(.int .i64 0), (.slice none 0 0), (.slice none 0 0), (.int .i64 0), (.int .i64 0), (.bool false)]) (by decide) zer27 rfl ?_
  intro br wr Nr
  have Fr := Nr.ge E
  have Fr_E2 := Nr.ge E2
  have Or_bp := Nr.lt Bp
  have Or_bq := Nr.lt Bq
  replace Bp := Nr.keep Bp
  replace Bq := Nr.keep Bq
  replace E := E.ext Nr.ext
  have Br := Nr.blk
  replace E2 := E2.ext Nr.ext
  refine s_storeAgg (b := bp) (o := 0) (c' := #[(.int .i64 a.kind), (.slice sa a.set.length sc), (.slice aa a.args.length ac), (.int .i64 a.mn), (.int .i64 a.mx), (.bool a.neg)]) rfl rfl (by simp [Value.oneCell']) siz27 rfl Bp (by simp) rfl ?_
  intro w1 S1
  replace Bq := S1.keep (by omega) Bq
  replace Br := S1.keep (by omega) Br
  replace E := S1.step E (by first | exact Or.inl (by omega) | exact Or.inr rfl | exact Or.inr (by assumption) | exact Or.inr (by simp) | exact Or.inr (by omega) | exact Or.inr (by dsimp only; omega))
  replace E2 := S1.step E2 (Or.inl (by omega))
  replace Bp := S1.blk
  refine s_storeAgg (b := bq) (o := 0) (c' := #[(.int .i64 b.kind), (.slice sb b.set.length sd), (.slice ab b.args.length ad), (.int .i64 b.mn), (.int .i64 b.mx), (.bool b.neg)]) rfl rfl (by simp [Value.oneCell']) siz27 rfl Bq (by simp) rfl ?_
  intro w2 S2
  replace Bp := S2.keep (by omega) Bp
  replace Br := S2.keep (by omega) Br
  replace E := S2.step E (by first | exact Or.inl (by omega) | exact Or.inr rfl | exact Or.inr (by assumption) | exact Or.inr (by simp) | exact Or.inr (by omega) | exact Or.inr (by dsimp only; omega))
  replace E2 := S2.step E2 (Or.inl (by omega))
  replace Bq := S2.blk
  refine s_storeAgg (b := br) (o := 0) (c' := #[(.int .i64 c.kind), (.slice sf c.set.length se), (.slice af c.args.length ae), (.int .i64 c.mn), (.int .i64 c.mx), (.bool c.neg)]) rfl rfl (by simp [Value.oneCell']) siz27 rfl Br (by simp) rfl ?_
  intro w3 S3
  replace Bp := S3.keep (by omega) Bp
  replace Bq := S3.keep (by omega) Bq
  replace E := S3.step E (by first | exact Or.inl (by omega) | exact Or.inr rfl | exact Or.inr (by assumption) | exact Or.inr (by simp) | exact Or.inr (by omega) | exact Or.inr (by dsimp only; omega))
  replace E2 := S3.step E2 (Or.inl (by omega))
  replace Br := S3.blk
  refine WpL_val rfl rfl (by decide) (r_assign (v := (.slice ta text.length tc)) rfl) ?_
  refine WpL_nil ?_
  refine Wp_seq ?_
  refine Wp_seq ?_
  obtain ⟨Fs4, hFs4⟩ : ∃ Fs : List Fact, Fs = [.re a, .eq (.int .i64 ((a.size : Nat) : Int)), .re b, .eq (.int .i64 ((b.size : Nat) : Int)), .eq (.int .i64 (((a.size : Nat) : Int) + ((b.size : Nat) : Int))), .re c, .eq (.int .i64 ((c.size : Nat) : Int)), .eq (.int .i64 ((((a.size : Nat) : Int) + ((b.size : Nat) : Int)) + ((c.size : Nat) : Int))), .eq (.bool (decide (18 < (((a.size : Nat) : Int) + ((b.size : Nat) : Int)) + ((c.size : Nat) : Int))))] := ⟨_, rfl⟩
  refine Wp_dag [26, 27, 28, 29, 30, 31, 32, 33, 34] [[], [0], [], [1, 2], [1, 3], [], [3, 5], [4, 6], [7]] Fs4 hFs4 mixed (by kernel_rfl) (by kernel_rfl) ?_ ?_
  · intro wd X0
    refine DagSteps.cons (fun s' w' X U H => Or.inl ⟨?_, ?_⟩) ?_
    · exact Guarded_none rfl
    · exact Does_val (r_loadAgg (vs := [(.int .i64 a.kind), (.slice sa a.set.length sc), (.slice aa a.args.length ac), (.int .i64 a.mn), (.int .i64 a.mx), (.bool a.neg)]) (U 9 rfl) agg27 siz27 rfl ((X0.trans X).keep Bp |>.cells rfl)) (Ext.refl _) ⟨_, rfl, ReAt.ext (X0.trans X) _ (ReAt.ext E2 a fa)⟩
    refine DagSteps.cons (fun s' w' X U H => Or.inl ⟨?_, ?_⟩) ?_
    · exact Guarded_none rfl
    · obtain ⟨v26, e26, r26⟩ : (Fact.re a).In (s' 26) w' := H 0 rfl 26 (.re a) rfl (by rw [hFs4]; rfl)
      exact Does_enter (r_callF (vs := [(.agg v26.toArray)]) Tryd.func11 nm11 bd11 (lst1 e26)) (size_d r26 (by omega))
    refine DagSteps.cons (fun s' w' X U H => Or.inl ⟨?_, ?_⟩) ?_
    · exact Guarded_none rfl
    · exact Does_val (r_loadAgg (vs := [(.int .i64 b.kind), (.slice sb b.set.length sd), (.slice ab b.args.length ad), (.int .i64 b.mn), (.int .i64 b.mx), (.bool b.neg)]) (U 10 rfl) agg27 siz27 rfl ((X0.trans X).keep Bq |>.cells rfl)) (Ext.refl _) ⟨_, rfl, ReAt.ext (X0.trans X) _ (ReAt.ext E2 b fb)⟩
    refine DagSteps.cons (fun s' w' X U H => Or.inl ⟨?_, ?_⟩) ?_
    · exact Guarded_none rfl
    · obtain ⟨v28, e28, r28⟩ : (Fact.re b).In (s' 28) w' := H 2 rfl 28 (.re b) rfl (by rw [hFs4]; rfl)
      exact Does_enter (r_callF (vs := [(.agg v28.toArray)]) Tryd.func11 nm11 bd11 (lst1 e28)) (size_d r28 (by omega))
    refine DagSteps.cons (fun s' w' X U H => Or.inl ⟨?_, ?_⟩) ?_
    · exact Guarded_none rfl
    · have e27 : s' 27 = (.int .i64 ((a.size : Nat) : Int)) := H 1 rfl 27 (.eq (.int .i64 ((a.size : Nat) : Int))) rfl (by rw [hFs4]; rfl)
      have e29 : s' 29 = (.int .i64 ((b.size : Nat) : Int)) := H 3 rfl 29 (.eq (.int .i64 ((b.size : Nat) : Int))) rfl (by rw [hFs4]; rfl)
      exact Does_val (r_add (k := .i64) (a := ((a.size : Nat) : Int)) (b := ((b.size : Nat) : Int)) (c := ((a.size : Nat) : Int) + ((b.size : Nat) : Int)) e27 e29 (wI64 (by omega))) (Ext.refl _) rfl
    refine DagSteps.cons (fun s' w' X U H => Or.inl ⟨?_, ?_⟩) ?_
    · exact Guarded_none rfl
    · exact Does_val (r_loadAgg (vs := [(.int .i64 c.kind), (.slice sf c.set.length se), (.slice af c.args.length ae), (.int .i64 c.mn), (.int .i64 c.mx), (.bool c.neg)]) (U 11 rfl) agg27 siz27 rfl ((X0.trans X).keep Br |>.cells rfl)) (Ext.refl _) ⟨_, rfl, ReAt.ext (X0.trans X) _ (ReAt.ext E2 c fc)⟩
    refine DagSteps.cons (fun s' w' X U H => Or.inl ⟨?_, ?_⟩) ?_
    · exact Guarded_none rfl
    · obtain ⟨v31, e31, r31⟩ : (Fact.re c).In (s' 31) w' := H 5 rfl 31 (.re c) rfl (by rw [hFs4]; rfl)
      exact Does_enter (r_callF (vs := [(.agg v31.toArray)]) Tryd.func11 nm11 bd11 (lst1 e31)) (size_d r31 (by omega))
    refine DagSteps.cons (fun s' w' X U H => Or.inl ⟨?_, ?_⟩) ?_
    · exact Guarded_none rfl
    · have e30 : s' 30 = (.int .i64 (((a.size : Nat) : Int) + ((b.size : Nat) : Int))) := H 4 rfl 30 (.eq (.int .i64 (((a.size : Nat) : Int) + ((b.size : Nat) : Int)))) rfl (by rw [hFs4]; rfl)
      have e32 : s' 32 = (.int .i64 ((c.size : Nat) : Int)) := H 6 rfl 32 (.eq (.int .i64 ((c.size : Nat) : Int))) rfl (by rw [hFs4]; rfl)
      exact Does_val (r_add (k := .i64) (a := ((a.size : Nat) : Int) + ((b.size : Nat) : Int)) (b := ((c.size : Nat) : Int)) (c := (((a.size : Nat) : Int) + ((b.size : Nat) : Int)) + ((c.size : Nat) : Int)) e30 e32 (wI64 (by omega))) (Ext.refl _) rfl
    refine DagSteps.cons (fun s' w' X U H => Or.inl ⟨?_, ?_⟩) ?_
    · exact Guarded_none rfl
    · have e33 : s' 33 = (.int .i64 ((((a.size : Nat) : Int) + ((b.size : Nat) : Int)) + ((c.size : Nat) : Int))) := H 7 rfl 33 (.eq (.int .i64 ((((a.size : Nat) : Int) + ((b.size : Nat) : Int)) + ((c.size : Nat) : Int)))) rfl (by rw [hFs4]; rfl)
      exact Does_val (r_gtr (k := .i64) (a := (((a.size : Nat) : Int) + ((b.size : Nat) : Int)) + ((c.size : Nat) : Int)) (b := 18) e33 rfl) (Ext.refl _) rfl
    exact DagSteps.nil
  · intro s' w4 X4 U H
    obtain ⟨j4, rfl⟩ := Fits.out (σ := s') (l := [(8, (.bool false)), (9, (.pointer (some ⟨bp, 0, none⟩))), (10, (.pointer (some ⟨bq, 0, none⟩))), (11, (.pointer (some ⟨br, 0, none⟩))), (12, (.slice ta text.length tc)), (34, (.bool (decide (18 < (((a.size : Nat) : Int) + ((b.size : Nat) : Int)) + ((c.size : Nat) : Int)))))]) ⟨U 8 rfl, U 9 rfl, U 10 rfl, U 11 rfl, U 12 rfl, (show s' 34 = (.bool (decide (18 < (((a.size : Nat) : Int) + ((b.size : Nat) : Int)) + ((c.size : Nat) : Int)))) from H 8 34 (.eq (.bool (decide (18 < (((a.size : Nat) : Int) + ((b.size : Nat) : Int)) + ((c.size : Nat) : Int))))) rfl (by rw [hFs4]; rfl)), trivial⟩
    clear U H
    replace Bp := X4.keep Bp
    replace Bq := X4.keep Bq
    replace Br := X4.keep Br
    replace E := E.ext X4
    replace E2 := E2.ext X4
    refine thn_normal ?_
    refine Wp_cond (b := decide (18 < (((a.size : Nat) : Int) + ((b.size : Nat) : Int)) + ((c.size : Nat) : Int))) rfl (fun hsz => ?_) (fun hsz => ?_)
    · have khsz := hsz
      replace hsz := of_decide_eq_true hsz
      refine Wp_seq_region ?_
      refine WpL_val rfl rfl (by decide) (r_assign (v := (.bool true)) rfl) ?_
      refine WpL_nil ?_
      refine Wp_ret ?_
      refine thn_ret ?_
      refine fin_tmp Tryd.results3 (v := (.bool true)) rfl ?_
      exact ⟨rfl, E⟩
    · have khsz := hsz
      replace hsz := of_decide_eq_false hsz
      refine Wp_skip ?_
      refine thn_normal ?_
      refine Wp_seq_region ?_
      refine WpL_val rfl rfl (by decide) (r_assign (v := (.int .i64 3)) rfl) ?_
      refine WpL_val rfl rfl (by decide) (r_assign (v := (.int .i64 4)) rfl) ?_
      refine WpL_nil ?_
      refine Wp_seq_region ?_
      refine WpL_val rfl rfl (by decide) (r_loadAgg (vs := [(.int .i64 a.kind), (.slice sa a.set.length sc), (.slice aa a.args.length ac), (.int .i64 a.mn), (.int .i64 a.mx), (.bool a.neg)]) rfl agg27 siz27 rfl (Bp.cells rfl)) ?_
      refine s_buildSlice (ps := [(0, (.agg #[(.int .i64 a.kind), (.slice sa a.set.length sc), (.slice aa a.args.length ac), (.int .i64 a.mn), (.int .i64 a.mx), (.bool a.neg)]))]) (c := #[(.int .i64 a.kind), (.slice sa a.set.length sc), (.slice aa a.args.length ac), (.int .i64 a.mn), (.int .i64 a.mx), (.bool a.neg)]) (by decide) rfl Tryd.underlying25 siz27 zer27 (by decide) (by decide) (by kernel_rfl) ?_
      intro bu wu Nu
      have Fu := Nu.ge E
      have Fu_E2 := Nu.ge E2
      have Ou_bp := Nu.lt Bp
      have Ou_bq := Nu.lt Bq
      have Ou_br := Nu.lt Br
      replace Bp := Nu.keep Bp
      replace Bq := Nu.keep Bq
      replace Br := Nu.keep Br
      replace E := E.ext Nu.ext
      have Bu := Nu.blk
      replace E2 := E2.ext Nu.ext
      refine WpL_enter rfl rfl (by decide) (r_callF (vs := [(.int .i64 5), (.slice (some ⟨bu, 0, none⟩) 1 1)]) Tryd.func12 nm12 bd12 rfl) (re_d 5 [a] (b := bu) (by simp only [ResAt]; exact ⟨⟨_, Bu.cells rfl, ReAt.ext E2 a fa⟩, trivial⟩) (by simp)) ?_
      rintro _ ws ⟨⟨us, rfl, hs⟩, Xs⟩
      replace Bp := Xs.keep Bp
      replace Bq := Xs.keep Bq
      replace Br := Xs.keep Br
      replace Bu := Xs.keep Bu
      replace E := E.ext Xs
      replace E2 := E2.ext Xs
      obtain ⟨s1, s2, s3, s4, rfl, _⟩ := hs.form
      have E3 : Chg none1 ws ws := Chg.refl _ _
      refine s_allocStore (v := (.agg #[(.int .i64 5), (.slice s1 0 s2), (.slice s3 1 s4), (.int .i64 0), (.int .i64 0), (.bool false)])) (c := #[(.int .i64 5), (.slice s1 0 s2), (.slice s3 1 s4), (.int .i64 0), (.int .i64 0), (.bool false)]) (n := 6) (by decide) zer27 rfl siz27 rfl rfl rfl (by simp [Value.oneCell']) ?_
      intro bv wv Nv
      have Fv := Nv.ge E
      have Fv_E2 := Nv.ge E2
      have Fv_E3 := Nv.ge E3
      have Ov_bp := Nv.lt Bp
      have Ov_bq := Nv.lt Bq
      have Ov_br := Nv.lt Br
      have Ov_bu := Nv.lt Bu
      replace Bp := Nv.keep Bp
      replace Bq := Nv.keep Bq
      replace Br := Nv.keep Br
      replace Bu := Nv.keep Bu
      replace E := E.ext Nv.ext
      have Bv := Nv.blk
      replace E2 := E2.ext Nv.ext
      replace E3 := E3.ext Nv.ext
      refine WpL_nil ?_
      refine Wp_seq ?_
      obtain ⟨Fs6, hFs6⟩ : ∃ Fs : List Fact, Fs = [.eq (.int .i64 3), .re a, .eq (.int .i64 3), .re b, .re c, .res [b, c], .re (.mk 3 [] [b, c] 0 0 false), .res [a, .mk 3 [] [b, c] 0 0 false], .re (.mk 3 [] [a, .mk 3 [] [b, c] 0 0 false] 0 0 false), .eq (.int .i64 3), .eq (.int .i64 3), .re a, .re b, .res [a, b], .re (.mk 3 [] [a, b] 0 0 false), .re c, .res [.mk 3 [] [a, b] 0 0 false, c], .re (.mk 3 [] [.mk 3 [] [a, b] 0 0 false, c] 0 0 false), .eq (.slice ta text.length tc), .eq (.bool true), .eq (.bool true), .eq (.int .i64 3), .re a, .eq (.int .i64 4), .re b, .re c, .res [b, c], .re (.mk 4 [] [b, c] 0 0 false), .res [a, .mk 4 [] [b, c] 0 0 false], .re (.mk 3 [] [a, .mk 4 [] [b, c] 0 0 false] 0 0 false), .eq (.int .i64 4), .eq (.int .i64 3), .re a, .re b, .res [a, b], .re (.mk 3 [] [a, b] 0 0 false), .eq (.int .i64 3), .re a, .re c, .res [a, c], .re (.mk 3 [] [a, c] 0 0 false), .res [.mk 3 [] [a, b] 0 0 false, .mk 3 [] [a, c] 0 0 false], .re (.mk 4 [] [.mk 3 [] [a, b] 0 0 false, .mk 3 [] [a, c] 0 0 false] 0 0 false), .eq (.slice ta text.length tc), .eq (.bool true), .eq (.bool true), .eq (.bool true), .eq (.int .i64 3), .eq (.int .i64 4), .re a, .re b, .res [a, b], .re (.mk 4 [] [a, b] 0 0 false), .re c, .res [.mk 4 [] [a, b] 0 0 false, c], .re (.mk 3 [] [.mk 4 [] [a, b] 0 0 false, c] 0 0 false), .eq (.int .i64 4), .eq (.int .i64 3), .re a, .re c, .res [a, c], .re (.mk 3 [] [a, c] 0 0 false), .eq (.int .i64 3), .re b, .re c, .res [b, c], .re (.mk 3 [] [b, c] 0 0 false), .res [.mk 3 [] [a, c] 0 0 false, .mk 3 [] [b, c] 0 0 false], .re (.mk 4 [] [.mk 3 [] [a, c] 0 0 false, .mk 3 [] [b, c] 0 0 false] 0 0 false), .eq (.slice ta text.length tc), .eq (.bool true), .eq (.bool true), .eq (.bool true), .eq (.int .i64 4), .re a, .re b, .res [a, b], .re (.mk 4 [] [a, b] 0 0 false), .eq (.int .i64 4), .re b, .re a, .res [b, a], .re (.mk 4 [] [b, a] 0 0 false), .eq (.slice ta text.length tc), .eq (.bool true), .eq (.bool true), .eq (.bool true), .eq (.int .i64 4), .re a, .re a, .res [a, a], .re (.mk 4 [] [a, a] 0 0 false), .re a, .eq (.slice ta text.length tc), .eq (.bool true), .eq (.bool true), .eq (.bool true), .re (starT a), .eq (.int .i64 4), .re (.mk 1 [] [] 0 0 false), .eq (.int .i64 3), .re a, .re (starT a), .res [a, starT a], .re (.mk 3 [] [a, starT a] 0 0 false), .res [.mk 1 [] [] 0 0 false, .mk 3 [] [a, starT a] 0 0 false], .re (.mk 4 [] [.mk 1 [] [] 0 0 false, .mk 3 [] [a, starT a] 0 0 false] 0 0 false), .eq (.slice ta text.length tc), .eq (.bool true), .eq (.bool true), .eq (.bool true), .eq (.int .i64 3), .re (starT a), .re (starT a), .res [starT a, starT a], .re (.mk 3 [] [starT a, starT a] 0 0 false), .re (starT a), .eq (.slice ta text.length tc), .eq (.bool true), .eq (.bool true), .eq (.bool true), .re (starT a), .res [starT a], .re (.mk 5 [] [starT a] 0 0 false), .re (starT a), .eq (.slice ta text.length tc), .eq (.bool true), .eq (.bool true), .eq (.bool true)] := ⟨_, rfl⟩
      refine Wp_dag [38, 39, 40, 41, 42, 43, 44, 45, 46, 47, 48, 49, 50, 51, 52, 53, 54, 55, 56, 57, 58, 59, 60, 61, 62, 63, 64, 65, 66, 67, 68, 69, 70, 71, 72, 73, 74, 75, 76, 77, 78, 79, 80, 81, 82, 83, 84, 85, 86, 87, 88, 89, 90, 91, 92, 93, 94, 95, 96, 97, 98, 99, 100, 101, 102, 103, 104, 105, 106, 107, 108, 109, 110, 111, 112, 113, 114, 115, 116, 117, 118, 119, 120, 121, 122, 123, 124, 125, 126, 127, 128, 129, 130, 131, 132, 133, 134, 135, 136, 137, 138, 139, 140, 141, 142, 143, 144, 145, 146, 147, 148, 149, 150, 151, 152, 153, 154, 155, 156, 157, 158, 159, 160, 161, 162, 163, 164, 165, 8] [[], [], [], [], [], [3, 4], [2, 5], [1, 6], [0, 6, 7], [], [], [], [], [11, 12], [8, 10, 13], [], [14, 15], [9, 14, 16], [], [8, 17, 18], [19], [20], [20], [20], [20], [20], [20, 24, 25], [20, 23, 26], [20, 22, 27], [20, 21, 27, 28], [20], [20], [20], [20], [20, 32, 33], [20, 29, 31, 34], [20], [20], [20], [20, 37, 38], [20, 35, 36, 39], [20, 35, 40], [20, 30, 40, 41], [20], [20, 29, 42, 43], [20, 44], [44, 45], [46], [46], [46], [46], [46, 49, 50], [46, 48, 51], [46], [46, 52, 53], [46, 47, 52, 54], [46], [46], [46], [46], [46, 58, 59], [46, 55, 57, 60], [46], [46], [46], [46, 63, 64], [46, 61, 62, 65], [46, 61, 66], [46, 56, 66, 67], [46], [46, 55, 68, 69], [46, 70], [70, 71], [72], [72], [72], [72, 74, 75], [72, 73, 76], [72], [72], [72], [72, 79, 80], [72, 77, 78, 81], [72], [72, 77, 82, 83], [72, 84], [84, 85], [86], [86], [86], [86, 88, 89], [86, 87, 90], [86], [86], [86, 91, 92, 93], [86, 94], [94, 95], [96], [96], [96], [96], [96], [96], [96, 101, 102], [96, 99, 100, 103], [96, 99, 104], [96, 98, 104, 105], [96], [96, 97, 106, 107], [96, 108], [108, 109], [110], [110], [110], [110, 112, 113], [110, 111, 114], [110], [110], [110, 115, 116, 117], [110, 118], [118, 119], [120], [120, 121], [120, 122], [120], [120], [120, 123, 124, 125], [120, 126], [0, 1, 2, 3, 4, 5, 6, 7, 8, 9, 10, 11, 12, 13, 14, 15, 16, 17, 18, 19, 20, 21, 22, 23, 24, 25, 26, 27, 28, 29, 30, 31, 32, 33, 34, 35, 36, 37, 38, 39, 40, 41, 42, 43, 44, 45, 46, 47, 48, 49, 50, 51, 52, 53, 54, 55, 56, 57, 58, 59, 60, 61, 62, 63, 64, 65, 66, 67, 68, 69, 70, 71, 72, 73, 74, 75, 76, 77, 78, 79, 80, 81, 82, 83, 84, 85, 86, 87, 88, 89, 90, 91, 92, 93, 94, 95, 96, 97, 98, 99, 100, 101, 102, 103, 104, 105, 106, 107, 108, 109, 110, 111, 112, 113, 114, 115, 116, 117, 118, 119, 120, 121, 122, 123, 124, 125, 126, 127]] Fs6 hFs6 mixed (by kernel_rfl) (by kernel_rfl) ?_ ?_
      · intro wd X0
        refine DagSteps.cons (fun s' w' X U H => Or.inl ⟨?_, ?_⟩) ?_
        · exact Guarded_none rfl
        · exact Does_val (r_move (v := (.int .i64 3)) (U 13 rfl)) (Ext.refl _) rfl
        refine DagSteps.cons (fun s' w' X U H => Or.inl ⟨?_, ?_⟩) ?_
        · exact Guarded_none rfl
        · exact Does_val (r_loadAgg (vs := [(.int .i64 a.kind), (.slice sa a.set.length sc), (.slice aa a.args.length ac), (.int .i64 a.mn), (.int .i64 a.mx), (.bool a.neg)]) (U 9 rfl) agg27 siz27 rfl ((X0.trans X).keep Bp |>.cells rfl)) (Ext.refl _) ⟨_, rfl, ReAt.ext (X0.trans X) _ (ReAt.ext E2 a fa)⟩
        refine DagSteps.cons (fun s' w' X U H => Or.inl ⟨?_, ?_⟩) ?_
        · exact Guarded_none rfl
        · exact Does_val (r_move (v := (.int .i64 3)) (U 13 rfl)) (Ext.refl _) rfl
        refine DagSteps.cons (fun s' w' X U H => Or.inl ⟨?_, ?_⟩) ?_
        · exact Guarded_none rfl
        · exact Does_val (r_loadAgg (vs := [(.int .i64 b.kind), (.slice sb b.set.length sd), (.slice ab b.args.length ad), (.int .i64 b.mn), (.int .i64 b.mx), (.bool b.neg)]) (U 10 rfl) agg27 siz27 rfl ((X0.trans X).keep Bq |>.cells rfl)) (Ext.refl _) ⟨_, rfl, ReAt.ext (X0.trans X) _ (ReAt.ext E2 b fb)⟩
        refine DagSteps.cons (fun s' w' X U H => Or.inl ⟨?_, ?_⟩) ?_
        · exact Guarded_none rfl
        · exact Does_val (r_loadAgg (vs := [(.int .i64 c.kind), (.slice sf c.set.length se), (.slice af c.args.length ae), (.int .i64 c.mn), (.int .i64 c.mx), (.bool c.neg)]) (U 11 rfl) agg27 siz27 rfl ((X0.trans X).keep Br |>.cells rfl)) (Ext.refl _) ⟨_, rfl, ReAt.ext (X0.trans X) _ (ReAt.ext E2 c fc)⟩
        refine DagSteps.cons (fun s' w' X U H => Or.inl ⟨?_, ?_⟩) ?_
        · exact Guarded_none rfl
        · obtain ⟨v41, e41, r41⟩ : (Fact.re b).In (s' 41) w' := H 3 rfl 41 (.re b) rfl (by rw [hFs6]; rfl)
          obtain ⟨v42, e42, r42⟩ : (Fact.re c).In (s' 42) w' := H 4 rfl 42 (.re c) rfl (by rw [hFs6]; rfl)
          exact Does_res2 Tryd.underlying25 siz27 zer27 e41 e42 r41 r42
        refine DagSteps.cons (fun s' w' X U H => Or.inl ⟨?_, ?_⟩) ?_
        · exact Guarded_none rfl
        · have e40 : s' 40 = (.int .i64 3) := H 2 rfl 40 (.eq (.int .i64 3)) rfl (by rw [hFs6]; rfl)
          obtain ⟨b43, e43, r43⟩ : (Fact.res [b, c]).In (s' 43) w' := H 5 rfl 43 (.res [b, c]) rfl (by rw [hFs6]; rfl)
          exact Does_enter (r_callF (vs := [(.int .i64 3), (.slice (some ⟨b43, 0, none⟩) 2 2)]) Tryd.func12 nm12 bd12 (lst2 e40 e43)) (re_d 3 [b, c] r43 (by simp))
        refine DagSteps.cons (fun s' w' X U H => Or.inl ⟨?_, ?_⟩) ?_
        · exact Guarded_none rfl
        · obtain ⟨v39, e39, r39⟩ : (Fact.re a).In (s' 39) w' := H 1 rfl 39 (.re a) rfl (by rw [hFs6]; rfl)
          obtain ⟨v44, e44, r44⟩ : (Fact.re (.mk 3 [] [b, c] 0 0 false)).In (s' 44) w' := H 6 rfl 44 (.re (.mk 3 [] [b, c] 0 0 false)) rfl (by rw [hFs6]; rfl)
          exact Does_res2 Tryd.underlying25 siz27 zer27 e39 e44 r39 r44
        refine DagSteps.cons (fun s' w' X U H => Or.inl ⟨?_, ?_⟩) ?_
        · exact Guarded_none rfl
        · have e38 : s' 38 = (.int .i64 3) := H 0 rfl 38 (.eq (.int .i64 3)) rfl (by rw [hFs6]; rfl)
          obtain ⟨b45, e45, r45⟩ : (Fact.res [a, .mk 3 [] [b, c] 0 0 false]).In (s' 45) w' := H 7 rfl 45 (.res [a, .mk 3 [] [b, c] 0 0 false]) rfl (by rw [hFs6]; rfl)
          exact Does_enter (r_callF (vs := [(.int .i64 3), (.slice (some ⟨b45, 0, none⟩) 2 2)]) Tryd.func12 nm12 bd12 (lst2 e38 e45)) (re_d 3 [a, .mk 3 [] [b, c] 0 0 false] r45 (by simp))
        refine DagSteps.cons (fun s' w' X U H => Or.inl ⟨?_, ?_⟩) ?_
        · exact Guarded_none rfl
        · exact Does_val (r_move (v := (.int .i64 3)) (U 13 rfl)) (Ext.refl _) rfl
        refine DagSteps.cons (fun s' w' X U H => Or.inl ⟨?_, ?_⟩) ?_
        · exact Guarded_none rfl
        · exact Does_val (r_move (v := (.int .i64 3)) (U 13 rfl)) (Ext.refl _) rfl
        refine DagSteps.cons (fun s' w' X U H => Or.inl ⟨?_, ?_⟩) ?_
        · exact Guarded_none rfl
        · exact Does_val (r_loadAgg (vs := [(.int .i64 a.kind), (.slice sa a.set.length sc), (.slice aa a.args.length ac), (.int .i64 a.mn), (.int .i64 a.mx), (.bool a.neg)]) (U 9 rfl) agg27 siz27 rfl ((X0.trans X).keep Bp |>.cells rfl)) (Ext.refl _) ⟨_, rfl, ReAt.ext (X0.trans X) _ (ReAt.ext E2 a fa)⟩
        refine DagSteps.cons (fun s' w' X U H => Or.inl ⟨?_, ?_⟩) ?_
        · exact Guarded_none rfl
        · exact Does_val (r_loadAgg (vs := [(.int .i64 b.kind), (.slice sb b.set.length sd), (.slice ab b.args.length ad), (.int .i64 b.mn), (.int .i64 b.mx), (.bool b.neg)]) (U 10 rfl) agg27 siz27 rfl ((X0.trans X).keep Bq |>.cells rfl)) (Ext.refl _) ⟨_, rfl, ReAt.ext (X0.trans X) _ (ReAt.ext E2 b fb)⟩
        refine DagSteps.cons (fun s' w' X U H => Or.inl ⟨?_, ?_⟩) ?_
        · exact Guarded_none rfl
        · obtain ⟨v49, e49, r49⟩ : (Fact.re a).In (s' 49) w' := H 11 rfl 49 (.re a) rfl (by rw [hFs6]; rfl)
          obtain ⟨v50, e50, r50⟩ : (Fact.re b).In (s' 50) w' := H 12 rfl 50 (.re b) rfl (by rw [hFs6]; rfl)
          exact Does_res2 Tryd.underlying25 siz27 zer27 e49 e50 r49 r50
        refine DagSteps.cons (fun s' w' X U H => Or.inl ⟨?_, ?_⟩) ?_
        · exact Guarded_none rfl
        · have e48 : s' 48 = (.int .i64 3) := H 10 rfl 48 (.eq (.int .i64 3)) rfl (by rw [hFs6]; rfl)
          obtain ⟨b51, e51, r51⟩ : (Fact.res [a, b]).In (s' 51) w' := H 13 rfl 51 (.res [a, b]) rfl (by rw [hFs6]; rfl)
          exact Does_enter (r_callF (vs := [(.int .i64 3), (.slice (some ⟨b51, 0, none⟩) 2 2)]) Tryd.func12 nm12 bd12 (lst2 e48 e51)) (re_d 3 [a, b] r51 (by simp))
        refine DagSteps.cons (fun s' w' X U H => Or.inl ⟨?_, ?_⟩) ?_
        · exact Guarded_none rfl
        · exact Does_val (r_loadAgg (vs := [(.int .i64 c.kind), (.slice sf c.set.length se), (.slice af c.args.length ae), (.int .i64 c.mn), (.int .i64 c.mx), (.bool c.neg)]) (U 11 rfl) agg27 siz27 rfl ((X0.trans X).keep Br |>.cells rfl)) (Ext.refl _) ⟨_, rfl, ReAt.ext (X0.trans X) _ (ReAt.ext E2 c fc)⟩
        refine DagSteps.cons (fun s' w' X U H => Or.inl ⟨?_, ?_⟩) ?_
        · exact Guarded_none rfl
        · obtain ⟨v52, e52, r52⟩ : (Fact.re (.mk 3 [] [a, b] 0 0 false)).In (s' 52) w' := H 14 rfl 52 (.re (.mk 3 [] [a, b] 0 0 false)) rfl (by rw [hFs6]; rfl)
          obtain ⟨v53, e53, r53⟩ : (Fact.re c).In (s' 53) w' := H 15 rfl 53 (.re c) rfl (by rw [hFs6]; rfl)
          exact Does_res2 Tryd.underlying25 siz27 zer27 e52 e53 r52 r53
        refine DagSteps.cons (fun s' w' X U H => Or.inl ⟨?_, ?_⟩) ?_
        · exact Guarded_none rfl
        · have e47 : s' 47 = (.int .i64 3) := H 9 rfl 47 (.eq (.int .i64 3)) rfl (by rw [hFs6]; rfl)
          obtain ⟨b54, e54, r54⟩ : (Fact.res [.mk 3 [] [a, b] 0 0 false, c]).In (s' 54) w' := H 16 rfl 54 (.res [.mk 3 [] [a, b] 0 0 false, c]) rfl (by rw [hFs6]; rfl)
          exact Does_enter (r_callF (vs := [(.int .i64 3), (.slice (some ⟨b54, 0, none⟩) 2 2)]) Tryd.func12 nm12 bd12 (lst2 e47 e54)) (re_d 3 [.mk 3 [] [a, b] 0 0 false, c] r54 (by simp))
        refine DagSteps.cons (fun s' w' X U H => Or.inl ⟨?_, ?_⟩) ?_
        · exact Guarded_none rfl
        · exact Does_val (r_move (v := (.slice ta text.length tc)) (U 12 rfl)) (Ext.refl _) rfl
        refine DagSteps.cons (fun s' w' X U H => Or.inl ⟨?_, ?_⟩) ?_
        · exact Guarded_none rfl
        · obtain ⟨v46, e46, r46⟩ : (Fact.re (.mk 3 [] [a, .mk 3 [] [b, c] 0 0 false] 0 0 false)).In (s' 46) w' := H 8 rfl 46 (.re (.mk 3 [] [a, .mk 3 [] [b, c] 0 0 false] 0 0 false)) rfl (by rw [hFs6]; rfl)
          obtain ⟨v55, e55, r55⟩ : (Fact.re (.mk 3 [] [.mk 3 [] [a, b] 0 0 false, c] 0 0 false)).In (s' 55) w' := H 17 rfl 55 (.re (.mk 3 [] [.mk 3 [] [a, b] 0 0 false, c] 0 0 false)) rfl (by rw [hFs6]; rfl)
          have e56 : s' 56 = (.slice ta text.length tc) := H 18 rfl 56 (.eq (.slice ta text.length tc)) rfl (by rw [hFs6]; rfl)
          exact Does_enter (r_callF (vs := [(.agg v46.toArray), (.agg v55.toArray), (.slice ta text.length tc)]) Tryd.func13 nm13 bd13 (lst3 e46 e55 e56)) (same_d r46 r55 (hx.ext (E2.ext (X0.trans X))) (hT.ext (E.ext (X0.trans X))) (kl1 htx oka okb okc (by omega)))
        refine DagSteps.cons (fun s' w' X U H => Or.inl ⟨?_, ?_⟩) ?_
        · exact Guarded_none rfl
        · have e57 : s' 57 = (.bool true) := H 19 rfl 57 (.eq (.bool true)) rfl (by rw [hFs6]; rfl)
          exact Does_val (r_move (v := (.bool true)) e57) (Ext.refl _) rfl
        refine DagSteps.cons (fun s' w' X U H => Or.inl ⟨?_, ?_⟩) ?_
        · exact Guarded_some rfl rfl (d := 58) (H 20 rfl 58 (.eq (.bool true)) rfl (by rw [hFs6]; rfl))
        · exact Does_val (r_move (v := (.int .i64 3)) (U 13 rfl)) (Ext.refl _) rfl
        refine DagSteps.cons (fun s' w' X U H => Or.inl ⟨?_, ?_⟩) ?_
        · exact Guarded_some rfl rfl (d := 58) (H 20 rfl 58 (.eq (.bool true)) rfl (by rw [hFs6]; rfl))
        · exact Does_val (r_loadAgg (vs := [(.int .i64 a.kind), (.slice sa a.set.length sc), (.slice aa a.args.length ac), (.int .i64 a.mn), (.int .i64 a.mx), (.bool a.neg)]) (U 9 rfl) agg27 siz27 rfl ((X0.trans X).keep Bp |>.cells rfl)) (Ext.refl _) ⟨_, rfl, ReAt.ext (X0.trans X) _ (ReAt.ext E2 a fa)⟩
        refine DagSteps.cons (fun s' w' X U H => Or.inl ⟨?_, ?_⟩) ?_
        · exact Guarded_some rfl rfl (d := 58) (H 20 rfl 58 (.eq (.bool true)) rfl (by rw [hFs6]; rfl))
        · exact Does_val (r_move (v := (.int .i64 4)) (U 14 rfl)) (Ext.refl _) rfl
        refine DagSteps.cons (fun s' w' X U H => Or.inl ⟨?_, ?_⟩) ?_
        · exact Guarded_some rfl rfl (d := 58) (H 20 rfl 58 (.eq (.bool true)) rfl (by rw [hFs6]; rfl))
        · exact Does_val (r_loadAgg (vs := [(.int .i64 b.kind), (.slice sb b.set.length sd), (.slice ab b.args.length ad), (.int .i64 b.mn), (.int .i64 b.mx), (.bool b.neg)]) (U 10 rfl) agg27 siz27 rfl ((X0.trans X).keep Bq |>.cells rfl)) (Ext.refl _) ⟨_, rfl, ReAt.ext (X0.trans X) _ (ReAt.ext E2 b fb)⟩
        refine DagSteps.cons (fun s' w' X U H => Or.inl ⟨?_, ?_⟩) ?_
        · exact Guarded_some rfl rfl (d := 58) (H 20 rfl 58 (.eq (.bool true)) rfl (by rw [hFs6]; rfl))
        · exact Does_val (r_loadAgg (vs := [(.int .i64 c.kind), (.slice sf c.set.length se), (.slice af c.args.length ae), (.int .i64 c.mn), (.int .i64 c.mx), (.bool c.neg)]) (U 11 rfl) agg27 siz27 rfl ((X0.trans X).keep Br |>.cells rfl)) (Ext.refl _) ⟨_, rfl, ReAt.ext (X0.trans X) _ (ReAt.ext E2 c fc)⟩
        refine DagSteps.cons (fun s' w' X U H => Or.inl ⟨?_, ?_⟩) ?_
        · exact Guarded_some rfl rfl (d := 58) (H 20 rfl 58 (.eq (.bool true)) rfl (by rw [hFs6]; rfl))
        · obtain ⟨v62, e62, r62⟩ : (Fact.re b).In (s' 62) w' := H 24 rfl 62 (.re b) rfl (by rw [hFs6]; rfl)
          obtain ⟨v63, e63, r63⟩ : (Fact.re c).In (s' 63) w' := H 25 rfl 63 (.re c) rfl (by rw [hFs6]; rfl)
          exact Does_res2 Tryd.underlying25 siz27 zer27 e62 e63 r62 r63
        refine DagSteps.cons (fun s' w' X U H => Or.inl ⟨?_, ?_⟩) ?_
        · exact Guarded_some rfl rfl (d := 58) (H 20 rfl 58 (.eq (.bool true)) rfl (by rw [hFs6]; rfl))
        · have e61 : s' 61 = (.int .i64 4) := H 23 rfl 61 (.eq (.int .i64 4)) rfl (by rw [hFs6]; rfl)
          obtain ⟨b64, e64, r64⟩ : (Fact.res [b, c]).In (s' 64) w' := H 26 rfl 64 (.res [b, c]) rfl (by rw [hFs6]; rfl)
          exact Does_enter (r_callF (vs := [(.int .i64 4), (.slice (some ⟨b64, 0, none⟩) 2 2)]) Tryd.func12 nm12 bd12 (lst2 e61 e64)) (re_d 4 [b, c] r64 (by simp))
        refine DagSteps.cons (fun s' w' X U H => Or.inl ⟨?_, ?_⟩) ?_
        · exact Guarded_some rfl rfl (d := 58) (H 20 rfl 58 (.eq (.bool true)) rfl (by rw [hFs6]; rfl))
        · obtain ⟨v60, e60, r60⟩ : (Fact.re a).In (s' 60) w' := H 22 rfl 60 (.re a) rfl (by rw [hFs6]; rfl)
          obtain ⟨v65, e65, r65⟩ : (Fact.re (.mk 4 [] [b, c] 0 0 false)).In (s' 65) w' := H 27 rfl 65 (.re (.mk 4 [] [b, c] 0 0 false)) rfl (by rw [hFs6]; rfl)
          exact Does_res2 Tryd.underlying25 siz27 zer27 e60 e65 r60 r65
        refine DagSteps.cons (fun s' w' X U H => Or.inl ⟨?_, ?_⟩) ?_
        · exact Guarded_some rfl rfl (d := 58) (H 20 rfl 58 (.eq (.bool true)) rfl (by rw [hFs6]; rfl))
        · have e59 : s' 59 = (.int .i64 3) := H 21 rfl 59 (.eq (.int .i64 3)) rfl (by rw [hFs6]; rfl)
          obtain ⟨b66, e66, r66⟩ : (Fact.res [a, .mk 4 [] [b, c] 0 0 false]).In (s' 66) w' := H 28 rfl 66 (.res [a, .mk 4 [] [b, c] 0 0 false]) rfl (by rw [hFs6]; rfl)
          exact Does_enter (r_callF (vs := [(.int .i64 3), (.slice (some ⟨b66, 0, none⟩) 2 2)]) Tryd.func12 nm12 bd12 (lst2 e59 e66)) (re_d 3 [a, .mk 4 [] [b, c] 0 0 false] r66 (by simp))
        refine DagSteps.cons (fun s' w' X U H => Or.inl ⟨?_, ?_⟩) ?_
        · exact Guarded_some rfl rfl (d := 58) (H 20 rfl 58 (.eq (.bool true)) rfl (by rw [hFs6]; rfl))
        · exact Does_val (r_move (v := (.int .i64 4)) (U 14 rfl)) (Ext.refl _) rfl
        refine DagSteps.cons (fun s' w' X U H => Or.inl ⟨?_, ?_⟩) ?_
        · exact Guarded_some rfl rfl (d := 58) (H 20 rfl 58 (.eq (.bool true)) rfl (by rw [hFs6]; rfl))
        · exact Does_val (r_move (v := (.int .i64 3)) (U 13 rfl)) (Ext.refl _) rfl
        refine DagSteps.cons (fun s' w' X U H => Or.inl ⟨?_, ?_⟩) ?_
        · exact Guarded_some rfl rfl (d := 58) (H 20 rfl 58 (.eq (.bool true)) rfl (by rw [hFs6]; rfl))
        · exact Does_val (r_loadAgg (vs := [(.int .i64 a.kind), (.slice sa a.set.length sc), (.slice aa a.args.length ac), (.int .i64 a.mn), (.int .i64 a.mx), (.bool a.neg)]) (U 9 rfl) agg27 siz27 rfl ((X0.trans X).keep Bp |>.cells rfl)) (Ext.refl _) ⟨_, rfl, ReAt.ext (X0.trans X) _ (ReAt.ext E2 a fa)⟩
        refine DagSteps.cons (fun s' w' X U H => Or.inl ⟨?_, ?_⟩) ?_
        · exact Guarded_some rfl rfl (d := 58) (H 20 rfl 58 (.eq (.bool true)) rfl (by rw [hFs6]; rfl))
        · exact Does_val (r_loadAgg (vs := [(.int .i64 b.kind), (.slice sb b.set.length sd), (.slice ab b.args.length ad), (.int .i64 b.mn), (.int .i64 b.mx), (.bool b.neg)]) (U 10 rfl) agg27 siz27 rfl ((X0.trans X).keep Bq |>.cells rfl)) (Ext.refl _) ⟨_, rfl, ReAt.ext (X0.trans X) _ (ReAt.ext E2 b fb)⟩
        refine DagSteps.cons (fun s' w' X U H => Or.inl ⟨?_, ?_⟩) ?_
        · exact Guarded_some rfl rfl (d := 58) (H 20 rfl 58 (.eq (.bool true)) rfl (by rw [hFs6]; rfl))
        · obtain ⟨v70, e70, r70⟩ : (Fact.re a).In (s' 70) w' := H 32 rfl 70 (.re a) rfl (by rw [hFs6]; rfl)
          obtain ⟨v71, e71, r71⟩ : (Fact.re b).In (s' 71) w' := H 33 rfl 71 (.re b) rfl (by rw [hFs6]; rfl)
          exact Does_res2 Tryd.underlying25 siz27 zer27 e70 e71 r70 r71
        refine DagSteps.cons (fun s' w' X U H => Or.inl ⟨?_, ?_⟩) ?_
        · exact Guarded_some rfl rfl (d := 58) (H 20 rfl 58 (.eq (.bool true)) rfl (by rw [hFs6]; rfl))
        · have e69 : s' 69 = (.int .i64 3) := H 31 rfl 69 (.eq (.int .i64 3)) rfl (by rw [hFs6]; rfl)
          obtain ⟨b72, e72, r72⟩ : (Fact.res [a, b]).In (s' 72) w' := H 34 rfl 72 (.res [a, b]) rfl (by rw [hFs6]; rfl)
          exact Does_enter (r_callF (vs := [(.int .i64 3), (.slice (some ⟨b72, 0, none⟩) 2 2)]) Tryd.func12 nm12 bd12 (lst2 e69 e72)) (re_d 3 [a, b] r72 (by simp))
        refine DagSteps.cons (fun s' w' X U H => Or.inl ⟨?_, ?_⟩) ?_
        · exact Guarded_some rfl rfl (d := 58) (H 20 rfl 58 (.eq (.bool true)) rfl (by rw [hFs6]; rfl))
        · exact Does_val (r_move (v := (.int .i64 3)) (U 13 rfl)) (Ext.refl _) rfl
        refine DagSteps.cons (fun s' w' X U H => Or.inl ⟨?_, ?_⟩) ?_
        · exact Guarded_some rfl rfl (d := 58) (H 20 rfl 58 (.eq (.bool true)) rfl (by rw [hFs6]; rfl))
        · exact Does_val (r_loadAgg (vs := [(.int .i64 a.kind), (.slice sa a.set.length sc), (.slice aa a.args.length ac), (.int .i64 a.mn), (.int .i64 a.mx), (.bool a.neg)]) (U 9 rfl) agg27 siz27 rfl ((X0.trans X).keep Bp |>.cells rfl)) (Ext.refl _) ⟨_, rfl, ReAt.ext (X0.trans X) _ (ReAt.ext E2 a fa)⟩
        refine DagSteps.cons (fun s' w' X U H => Or.inl ⟨?_, ?_⟩) ?_
        · exact Guarded_some rfl rfl (d := 58) (H 20 rfl 58 (.eq (.bool true)) rfl (by rw [hFs6]; rfl))
        · exact Does_val (r_loadAgg (vs := [(.int .i64 c.kind), (.slice sf c.set.length se), (.slice af c.args.length ae), (.int .i64 c.mn), (.int .i64 c.mx), (.bool c.neg)]) (U 11 rfl) agg27 siz27 rfl ((X0.trans X).keep Br |>.cells rfl)) (Ext.refl _) ⟨_, rfl, ReAt.ext (X0.trans X) _ (ReAt.ext E2 c fc)⟩
        refine DagSteps.cons (fun s' w' X U H => Or.inl ⟨?_, ?_⟩) ?_
        · exact Guarded_some rfl rfl (d := 58) (H 20 rfl 58 (.eq (.bool true)) rfl (by rw [hFs6]; rfl))
        · obtain ⟨v75, e75, r75⟩ : (Fact.re a).In (s' 75) w' := H 37 rfl 75 (.re a) rfl (by rw [hFs6]; rfl)
          obtain ⟨v76, e76, r76⟩ : (Fact.re c).In (s' 76) w' := H 38 rfl 76 (.re c) rfl (by rw [hFs6]; rfl)
          exact Does_res2 Tryd.underlying25 siz27 zer27 e75 e76 r75 r76
        refine DagSteps.cons (fun s' w' X U H => Or.inl ⟨?_, ?_⟩) ?_
        · exact Guarded_some rfl rfl (d := 58) (H 20 rfl 58 (.eq (.bool true)) rfl (by rw [hFs6]; rfl))
        · have e74 : s' 74 = (.int .i64 3) := H 36 rfl 74 (.eq (.int .i64 3)) rfl (by rw [hFs6]; rfl)
          obtain ⟨b77, e77, r77⟩ : (Fact.res [a, c]).In (s' 77) w' := H 39 rfl 77 (.res [a, c]) rfl (by rw [hFs6]; rfl)
          exact Does_enter (r_callF (vs := [(.int .i64 3), (.slice (some ⟨b77, 0, none⟩) 2 2)]) Tryd.func12 nm12 bd12 (lst2 e74 e77)) (re_d 3 [a, c] r77 (by simp))
        refine DagSteps.cons (fun s' w' X U H => Or.inl ⟨?_, ?_⟩) ?_
        · exact Guarded_some rfl rfl (d := 58) (H 20 rfl 58 (.eq (.bool true)) rfl (by rw [hFs6]; rfl))
        · obtain ⟨v73, e73, r73⟩ : (Fact.re (.mk 3 [] [a, b] 0 0 false)).In (s' 73) w' := H 35 rfl 73 (.re (.mk 3 [] [a, b] 0 0 false)) rfl (by rw [hFs6]; rfl)
          obtain ⟨v78, e78, r78⟩ : (Fact.re (.mk 3 [] [a, c] 0 0 false)).In (s' 78) w' := H 40 rfl 78 (.re (.mk 3 [] [a, c] 0 0 false)) rfl (by rw [hFs6]; rfl)
          exact Does_res2 Tryd.underlying25 siz27 zer27 e73 e78 r73 r78
        refine DagSteps.cons (fun s' w' X U H => Or.inl ⟨?_, ?_⟩) ?_
        · exact Guarded_some rfl rfl (d := 58) (H 20 rfl 58 (.eq (.bool true)) rfl (by rw [hFs6]; rfl))
        · have e68 : s' 68 = (.int .i64 4) := H 30 rfl 68 (.eq (.int .i64 4)) rfl (by rw [hFs6]; rfl)
          obtain ⟨b79, e79, r79⟩ : (Fact.res [.mk 3 [] [a, b] 0 0 false, .mk 3 [] [a, c] 0 0 false]).In (s' 79) w' := H 41 rfl 79 (.res [.mk 3 [] [a, b] 0 0 false, .mk 3 [] [a, c] 0 0 false]) rfl (by rw [hFs6]; rfl)
          exact Does_enter (r_callF (vs := [(.int .i64 4), (.slice (some ⟨b79, 0, none⟩) 2 2)]) Tryd.func12 nm12 bd12 (lst2 e68 e79)) (re_d 4 [.mk 3 [] [a, b] 0 0 false, .mk 3 [] [a, c] 0 0 false] r79 (by simp))
        refine DagSteps.cons (fun s' w' X U H => Or.inl ⟨?_, ?_⟩) ?_
        · exact Guarded_some rfl rfl (d := 58) (H 20 rfl 58 (.eq (.bool true)) rfl (by rw [hFs6]; rfl))
        · exact Does_val (r_move (v := (.slice ta text.length tc)) (U 12 rfl)) (Ext.refl _) rfl
        refine DagSteps.cons (fun s' w' X U H => Or.inl ⟨?_, ?_⟩) ?_
        · exact Guarded_some rfl rfl (d := 58) (H 20 rfl 58 (.eq (.bool true)) rfl (by rw [hFs6]; rfl))
        · obtain ⟨v67, e67, r67⟩ : (Fact.re (.mk 3 [] [a, .mk 4 [] [b, c] 0 0 false] 0 0 false)).In (s' 67) w' := H 29 rfl 67 (.re (.mk 3 [] [a, .mk 4 [] [b, c] 0 0 false] 0 0 false)) rfl (by rw [hFs6]; rfl)
          obtain ⟨v80, e80, r80⟩ : (Fact.re (.mk 4 [] [.mk 3 [] [a, b] 0 0 false, .mk 3 [] [a, c] 0 0 false] 0 0 false)).In (s' 80) w' := H 42 rfl 80 (.re (.mk 4 [] [.mk 3 [] [a, b] 0 0 false, .mk 3 [] [a, c] 0 0 false] 0 0 false)) rfl (by rw [hFs6]; rfl)
          have e81 : s' 81 = (.slice ta text.length tc) := H 43 rfl 81 (.eq (.slice ta text.length tc)) rfl (by rw [hFs6]; rfl)
          exact Does_enter (r_callF (vs := [(.agg v67.toArray), (.agg v80.toArray), (.slice ta text.length tc)]) Tryd.func13 nm13 bd13 (lst3 e67 e80 e81)) (same_d r67 r80 (hx.ext (E2.ext (X0.trans X))) (hT.ext (E.ext (X0.trans X))) (kl2 htx oka okb okc (by omega)))
        refine DagSteps.cons (fun s' w' X U H => Or.inl ⟨?_, ?_⟩) ?_
        · exact Guarded_none rfl
        · have e58 : s' 58 = (.bool true) := H 20 rfl 58 (.eq (.bool true)) rfl (by rw [hFs6]; rfl)
          have e82 : s' 82 = (.bool true) := H 44 rfl 82 (.eq (.bool true)) rfl (by rw [hFs6]; rfl)
          exact Does_val (r_pick (b := true) (v := (.bool true)) e58 e82) (Ext.refl _) rfl
        refine DagSteps.cons (fun s' w' X U H => Or.inl ⟨?_, ?_⟩) ?_
        · exact Guarded_none rfl
        · have e83 : s' 83 = (.bool true) := H 45 rfl 83 (.eq (.bool true)) rfl (by rw [hFs6]; rfl)
          exact Does_val (r_move (v := (.bool true)) e83) (Ext.refl _) rfl
        refine DagSteps.cons (fun s' w' X U H => Or.inl ⟨?_, ?_⟩) ?_
        · exact Guarded_some rfl rfl (d := 84) (H 46 rfl 84 (.eq (.bool true)) rfl (by rw [hFs6]; rfl))
        · exact Does_val (r_move (v := (.int .i64 3)) (U 13 rfl)) (Ext.refl _) rfl
        refine DagSteps.cons (fun s' w' X U H => Or.inl ⟨?_, ?_⟩) ?_
        · exact Guarded_some rfl rfl (d := 84) (H 46 rfl 84 (.eq (.bool true)) rfl (by rw [hFs6]; rfl))
        · exact Does_val (r_move (v := (.int .i64 4)) (U 14 rfl)) (Ext.refl _) rfl
        refine DagSteps.cons (fun s' w' X U H => Or.inl ⟨?_, ?_⟩) ?_
        · exact Guarded_some rfl rfl (d := 84) (H 46 rfl 84 (.eq (.bool true)) rfl (by rw [hFs6]; rfl))
        · exact Does_val (r_loadAgg (vs := [(.int .i64 a.kind), (.slice sa a.set.length sc), (.slice aa a.args.length ac), (.int .i64 a.mn), (.int .i64 a.mx), (.bool a.neg)]) (U 9 rfl) agg27 siz27 rfl ((X0.trans X).keep Bp |>.cells rfl)) (Ext.refl _) ⟨_, rfl, ReAt.ext (X0.trans X) _ (ReAt.ext E2 a fa)⟩
        refine DagSteps.cons (fun s' w' X U H => Or.inl ⟨?_, ?_⟩) ?_
        · exact Guarded_some rfl rfl (d := 84) (H 46 rfl 84 (.eq (.bool true)) rfl (by rw [hFs6]; rfl))
        · exact Does_val (r_loadAgg (vs := [(.int .i64 b.kind), (.slice sb b.set.length sd), (.slice ab b.args.length ad), (.int .i64 b.mn), (.int .i64 b.mx), (.bool b.neg)]) (U 10 rfl) agg27 siz27 rfl ((X0.trans X).keep Bq |>.cells rfl)) (Ext.refl _) ⟨_, rfl, ReAt.ext (X0.trans X) _ (ReAt.ext E2 b fb)⟩
        refine DagSteps.cons (fun s' w' X U H => Or.inl ⟨?_, ?_⟩) ?_
        · exact Guarded_some rfl rfl (d := 84) (H 46 rfl 84 (.eq (.bool true)) rfl (by rw [hFs6]; rfl))
        · obtain ⟨v87, e87, r87⟩ : (Fact.re a).In (s' 87) w' := H 49 rfl 87 (.re a) rfl (by rw [hFs6]; rfl)
          obtain ⟨v88, e88, r88⟩ : (Fact.re b).In (s' 88) w' := H 50 rfl 88 (.re b) rfl (by rw [hFs6]; rfl)
          exact Does_res2 Tryd.underlying25 siz27 zer27 e87 e88 r87 r88
        refine DagSteps.cons (fun s' w' X U H => Or.inl ⟨?_, ?_⟩) ?_
        · exact Guarded_some rfl rfl (d := 84) (H 46 rfl 84 (.eq (.bool true)) rfl (by rw [hFs6]; rfl))
        · have e86 : s' 86 = (.int .i64 4) := H 48 rfl 86 (.eq (.int .i64 4)) rfl (by rw [hFs6]; rfl)
          obtain ⟨b89, e89, r89⟩ : (Fact.res [a, b]).In (s' 89) w' := H 51 rfl 89 (.res [a, b]) rfl (by rw [hFs6]; rfl)
          exact Does_enter (r_callF (vs := [(.int .i64 4), (.slice (some ⟨b89, 0, none⟩) 2 2)]) Tryd.func12 nm12 bd12 (lst2 e86 e89)) (re_d 4 [a, b] r89 (by simp))
        refine DagSteps.cons (fun s' w' X U H => Or.inl ⟨?_, ?_⟩) ?_
        · exact Guarded_some rfl rfl (d := 84) (H 46 rfl 84 (.eq (.bool true)) rfl (by rw [hFs6]; rfl))
        · exact Does_val (r_loadAgg (vs := [(.int .i64 c.kind), (.slice sf c.set.length se), (.slice af c.args.length ae), (.int .i64 c.mn), (.int .i64 c.mx), (.bool c.neg)]) (U 11 rfl) agg27 siz27 rfl ((X0.trans X).keep Br |>.cells rfl)) (Ext.refl _) ⟨_, rfl, ReAt.ext (X0.trans X) _ (ReAt.ext E2 c fc)⟩
        refine DagSteps.cons (fun s' w' X U H => Or.inl ⟨?_, ?_⟩) ?_
        · exact Guarded_some rfl rfl (d := 84) (H 46 rfl 84 (.eq (.bool true)) rfl (by rw [hFs6]; rfl))
        · obtain ⟨v90, e90, r90⟩ : (Fact.re (.mk 4 [] [a, b] 0 0 false)).In (s' 90) w' := H 52 rfl 90 (.re (.mk 4 [] [a, b] 0 0 false)) rfl (by rw [hFs6]; rfl)
          obtain ⟨v91, e91, r91⟩ : (Fact.re c).In (s' 91) w' := H 53 rfl 91 (.re c) rfl (by rw [hFs6]; rfl)
          exact Does_res2 Tryd.underlying25 siz27 zer27 e90 e91 r90 r91
        refine DagSteps.cons (fun s' w' X U H => Or.inl ⟨?_, ?_⟩) ?_
        · exact Guarded_some rfl rfl (d := 84) (H 46 rfl 84 (.eq (.bool true)) rfl (by rw [hFs6]; rfl))
        · have e85 : s' 85 = (.int .i64 3) := H 47 rfl 85 (.eq (.int .i64 3)) rfl (by rw [hFs6]; rfl)
          obtain ⟨b92, e92, r92⟩ : (Fact.res [.mk 4 [] [a, b] 0 0 false, c]).In (s' 92) w' := H 54 rfl 92 (.res [.mk 4 [] [a, b] 0 0 false, c]) rfl (by rw [hFs6]; rfl)
          exact Does_enter (r_callF (vs := [(.int .i64 3), (.slice (some ⟨b92, 0, none⟩) 2 2)]) Tryd.func12 nm12 bd12 (lst2 e85 e92)) (re_d 3 [.mk 4 [] [a, b] 0 0 false, c] r92 (by simp))
        refine DagSteps.cons (fun s' w' X U H => Or.inl ⟨?_, ?_⟩) ?_
        · exact Guarded_some rfl rfl (d := 84) (H 46 rfl 84 (.eq (.bool true)) rfl (by rw [hFs6]; rfl))
        · exact Does_val (r_move (v := (.int .i64 4)) (U 14 rfl)) (Ext.refl _) rfl
        refine DagSteps.cons (fun s' w' X U H => Or.inl ⟨?_, ?_⟩) ?_
        · exact Guarded_some rfl rfl (d := 84) (H 46 rfl 84 (.eq (.bool true)) rfl (by rw [hFs6]; rfl))
        · exact Does_val (r_move (v := (.int .i64 3)) (U 13 rfl)) (Ext.refl _) rfl
        refine DagSteps.cons (fun s' w' X U H => Or.inl ⟨?_, ?_⟩) ?_
        · exact Guarded_some rfl rfl (d := 84) (H 46 rfl 84 (.eq (.bool true)) rfl (by rw [hFs6]; rfl))
        · exact Does_val (r_loadAgg (vs := [(.int .i64 a.kind), (.slice sa a.set.length sc), (.slice aa a.args.length ac), (.int .i64 a.mn), (.int .i64 a.mx), (.bool a.neg)]) (U 9 rfl) agg27 siz27 rfl ((X0.trans X).keep Bp |>.cells rfl)) (Ext.refl _) ⟨_, rfl, ReAt.ext (X0.trans X) _ (ReAt.ext E2 a fa)⟩
        refine DagSteps.cons (fun s' w' X U H => Or.inl ⟨?_, ?_⟩) ?_
        · exact Guarded_some rfl rfl (d := 84) (H 46 rfl 84 (.eq (.bool true)) rfl (by rw [hFs6]; rfl))
        · exact Does_val (r_loadAgg (vs := [(.int .i64 c.kind), (.slice sf c.set.length se), (.slice af c.args.length ae), (.int .i64 c.mn), (.int .i64 c.mx), (.bool c.neg)]) (U 11 rfl) agg27 siz27 rfl ((X0.trans X).keep Br |>.cells rfl)) (Ext.refl _) ⟨_, rfl, ReAt.ext (X0.trans X) _ (ReAt.ext E2 c fc)⟩
        refine DagSteps.cons (fun s' w' X U H => Or.inl ⟨?_, ?_⟩) ?_
        · exact Guarded_some rfl rfl (d := 84) (H 46 rfl 84 (.eq (.bool true)) rfl (by rw [hFs6]; rfl))
        · obtain ⟨v96, e96, r96⟩ : (Fact.re a).In (s' 96) w' := H 58 rfl 96 (.re a) rfl (by rw [hFs6]; rfl)
          obtain ⟨v97, e97, r97⟩ : (Fact.re c).In (s' 97) w' := H 59 rfl 97 (.re c) rfl (by rw [hFs6]; rfl)
          exact Does_res2 Tryd.underlying25 siz27 zer27 e96 e97 r96 r97
        refine DagSteps.cons (fun s' w' X U H => Or.inl ⟨?_, ?_⟩) ?_
        · exact Guarded_some rfl rfl (d := 84) (H 46 rfl 84 (.eq (.bool true)) rfl (by rw [hFs6]; rfl))
        · have e95 : s' 95 = (.int .i64 3) := H 57 rfl 95 (.eq (.int .i64 3)) rfl (by rw [hFs6]; rfl)
          obtain ⟨b98, e98, r98⟩ : (Fact.res [a, c]).In (s' 98) w' := H 60 rfl 98 (.res [a, c]) rfl (by rw [hFs6]; rfl)
          exact Does_enter (r_callF (vs := [(.int .i64 3), (.slice (some ⟨b98, 0, none⟩) 2 2)]) Tryd.func12 nm12 bd12 (lst2 e95 e98)) (re_d 3 [a, c] r98 (by simp))
        refine DagSteps.cons (fun s' w' X U H => Or.inl ⟨?_, ?_⟩) ?_
        · exact Guarded_some rfl rfl (d := 84) (H 46 rfl 84 (.eq (.bool true)) rfl (by rw [hFs6]; rfl))
        · exact Does_val (r_move (v := (.int .i64 3)) (U 13 rfl)) (Ext.refl _) rfl
        refine DagSteps.cons (fun s' w' X U H => Or.inl ⟨?_, ?_⟩) ?_
        · exact Guarded_some rfl rfl (d := 84) (H 46 rfl 84 (.eq (.bool true)) rfl (by rw [hFs6]; rfl))
        · exact Does_val (r_loadAgg (vs := [(.int .i64 b.kind), (.slice sb b.set.length sd), (.slice ab b.args.length ad), (.int .i64 b.mn), (.int .i64 b.mx), (.bool b.neg)]) (U 10 rfl) agg27 siz27 rfl ((X0.trans X).keep Bq |>.cells rfl)) (Ext.refl _) ⟨_, rfl, ReAt.ext (X0.trans X) _ (ReAt.ext E2 b fb)⟩
        refine DagSteps.cons (fun s' w' X U H => Or.inl ⟨?_, ?_⟩) ?_
        · exact Guarded_some rfl rfl (d := 84) (H 46 rfl 84 (.eq (.bool true)) rfl (by rw [hFs6]; rfl))
        · exact Does_val (r_loadAgg (vs := [(.int .i64 c.kind), (.slice sf c.set.length se), (.slice af c.args.length ae), (.int .i64 c.mn), (.int .i64 c.mx), (.bool c.neg)]) (U 11 rfl) agg27 siz27 rfl ((X0.trans X).keep Br |>.cells rfl)) (Ext.refl _) ⟨_, rfl, ReAt.ext (X0.trans X) _ (ReAt.ext E2 c fc)⟩
        refine DagSteps.cons (fun s' w' X U H => Or.inl ⟨?_, ?_⟩) ?_
        · exact Guarded_some rfl rfl (d := 84) (H 46 rfl 84 (.eq (.bool true)) rfl (by rw [hFs6]; rfl))
        · obtain ⟨v101, e101, r101⟩ : (Fact.re b).In (s' 101) w' := H 63 rfl 101 (.re b) rfl (by rw [hFs6]; rfl)
          obtain ⟨v102, e102, r102⟩ : (Fact.re c).In (s' 102) w' := H 64 rfl 102 (.re c) rfl (by rw [hFs6]; rfl)
          exact Does_res2 Tryd.underlying25 siz27 zer27 e101 e102 r101 r102
        refine DagSteps.cons (fun s' w' X U H => Or.inl ⟨?_, ?_⟩) ?_
        · exact Guarded_some rfl rfl (d := 84) (H 46 rfl 84 (.eq (.bool true)) rfl (by rw [hFs6]; rfl))
        · have e100 : s' 100 = (.int .i64 3) := H 62 rfl 100 (.eq (.int .i64 3)) rfl (by rw [hFs6]; rfl)
          obtain ⟨b103, e103, r103⟩ : (Fact.res [b, c]).In (s' 103) w' := H 65 rfl 103 (.res [b, c]) rfl (by rw [hFs6]; rfl)
          exact Does_enter (r_callF (vs := [(.int .i64 3), (.slice (some ⟨b103, 0, none⟩) 2 2)]) Tryd.func12 nm12 bd12 (lst2 e100 e103)) (re_d 3 [b, c] r103 (by simp))
        refine DagSteps.cons (fun s' w' X U H => Or.inl ⟨?_, ?_⟩) ?_
        · exact Guarded_some rfl rfl (d := 84) (H 46 rfl 84 (.eq (.bool true)) rfl (by rw [hFs6]; rfl))
        · obtain ⟨v99, e99, r99⟩ : (Fact.re (.mk 3 [] [a, c] 0 0 false)).In (s' 99) w' := H 61 rfl 99 (.re (.mk 3 [] [a, c] 0 0 false)) rfl (by rw [hFs6]; rfl)
          obtain ⟨v104, e104, r104⟩ : (Fact.re (.mk 3 [] [b, c] 0 0 false)).In (s' 104) w' := H 66 rfl 104 (.re (.mk 3 [] [b, c] 0 0 false)) rfl (by rw [hFs6]; rfl)
          exact Does_res2 Tryd.underlying25 siz27 zer27 e99 e104 r99 r104
        refine DagSteps.cons (fun s' w' X U H => Or.inl ⟨?_, ?_⟩) ?_
        · exact Guarded_some rfl rfl (d := 84) (H 46 rfl 84 (.eq (.bool true)) rfl (by rw [hFs6]; rfl))
        · have e94 : s' 94 = (.int .i64 4) := H 56 rfl 94 (.eq (.int .i64 4)) rfl (by rw [hFs6]; rfl)
          obtain ⟨b105, e105, r105⟩ : (Fact.res [.mk 3 [] [a, c] 0 0 false, .mk 3 [] [b, c] 0 0 false]).In (s' 105) w' := H 67 rfl 105 (.res [.mk 3 [] [a, c] 0 0 false, .mk 3 [] [b, c] 0 0 false]) rfl (by rw [hFs6]; rfl)
          exact Does_enter (r_callF (vs := [(.int .i64 4), (.slice (some ⟨b105, 0, none⟩) 2 2)]) Tryd.func12 nm12 bd12 (lst2 e94 e105)) (re_d 4 [.mk 3 [] [a, c] 0 0 false, .mk 3 [] [b, c] 0 0 false] r105 (by simp))
        refine DagSteps.cons (fun s' w' X U H => Or.inl ⟨?_, ?_⟩) ?_
        · exact Guarded_some rfl rfl (d := 84) (H 46 rfl 84 (.eq (.bool true)) rfl (by rw [hFs6]; rfl))
        · exact Does_val (r_move (v := (.slice ta text.length tc)) (U 12 rfl)) (Ext.refl _) rfl
        refine DagSteps.cons (fun s' w' X U H => Or.inl ⟨?_, ?_⟩) ?_
        · exact Guarded_some rfl rfl (d := 84) (H 46 rfl 84 (.eq (.bool true)) rfl (by rw [hFs6]; rfl))
        · obtain ⟨v93, e93, r93⟩ : (Fact.re (.mk 3 [] [.mk 4 [] [a, b] 0 0 false, c] 0 0 false)).In (s' 93) w' := H 55 rfl 93 (.re (.mk 3 [] [.mk 4 [] [a, b] 0 0 false, c] 0 0 false)) rfl (by rw [hFs6]; rfl)
          obtain ⟨v106, e106, r106⟩ : (Fact.re (.mk 4 [] [.mk 3 [] [a, c] 0 0 false, .mk 3 [] [b, c] 0 0 false] 0 0 false)).In (s' 106) w' := H 68 rfl 106 (.re (.mk 4 [] [.mk 3 [] [a, c] 0 0 false, .mk 3 [] [b, c] 0 0 false] 0 0 false)) rfl (by rw [hFs6]; rfl)
          have e107 : s' 107 = (.slice ta text.length tc) := H 69 rfl 107 (.eq (.slice ta text.length tc)) rfl (by rw [hFs6]; rfl)
          exact Does_enter (r_callF (vs := [(.agg v93.toArray), (.agg v106.toArray), (.slice ta text.length tc)]) Tryd.func13 nm13 bd13 (lst3 e93 e106 e107)) (same_d r93 r106 (hx.ext (E2.ext (X0.trans X))) (hT.ext (E.ext (X0.trans X))) (kl3 htx oka okb okc (by omega)))
        refine DagSteps.cons (fun s' w' X U H => Or.inl ⟨?_, ?_⟩) ?_
        · exact Guarded_none rfl
        · have e84 : s' 84 = (.bool true) := H 46 rfl 84 (.eq (.bool true)) rfl (by rw [hFs6]; rfl)
          have e108 : s' 108 = (.bool true) := H 70 rfl 108 (.eq (.bool true)) rfl (by rw [hFs6]; rfl)
          exact Does_val (r_pick (b := true) (v := (.bool true)) e84 e108) (Ext.refl _) rfl
        refine DagSteps.cons (fun s' w' X U H => Or.inl ⟨?_, ?_⟩) ?_
        · exact Guarded_none rfl
        · have e109 : s' 109 = (.bool true) := H 71 rfl 109 (.eq (.bool true)) rfl (by rw [hFs6]; rfl)
          exact Does_val (r_move (v := (.bool true)) e109) (Ext.refl _) rfl
        refine DagSteps.cons (fun s' w' X U H => Or.inl ⟨?_, ?_⟩) ?_
        · exact Guarded_some rfl rfl (d := 110) (H 72 rfl 110 (.eq (.bool true)) rfl (by rw [hFs6]; rfl))
        · exact Does_val (r_move (v := (.int .i64 4)) (U 14 rfl)) (Ext.refl _) rfl
        refine DagSteps.cons (fun s' w' X U H => Or.inl ⟨?_, ?_⟩) ?_
        · exact Guarded_some rfl rfl (d := 110) (H 72 rfl 110 (.eq (.bool true)) rfl (by rw [hFs6]; rfl))
        · exact Does_val (r_loadAgg (vs := [(.int .i64 a.kind), (.slice sa a.set.length sc), (.slice aa a.args.length ac), (.int .i64 a.mn), (.int .i64 a.mx), (.bool a.neg)]) (U 9 rfl) agg27 siz27 rfl ((X0.trans X).keep Bp |>.cells rfl)) (Ext.refl _) ⟨_, rfl, ReAt.ext (X0.trans X) _ (ReAt.ext E2 a fa)⟩
        refine DagSteps.cons (fun s' w' X U H => Or.inl ⟨?_, ?_⟩) ?_
        · exact Guarded_some rfl rfl (d := 110) (H 72 rfl 110 (.eq (.bool true)) rfl (by rw [hFs6]; rfl))
        · exact Does_val (r_loadAgg (vs := [(.int .i64 b.kind), (.slice sb b.set.length sd), (.slice ab b.args.length ad), (.int .i64 b.mn), (.int .i64 b.mx), (.bool b.neg)]) (U 10 rfl) agg27 siz27 rfl ((X0.trans X).keep Bq |>.cells rfl)) (Ext.refl _) ⟨_, rfl, ReAt.ext (X0.trans X) _ (ReAt.ext E2 b fb)⟩
        refine DagSteps.cons (fun s' w' X U H => Or.inl ⟨?_, ?_⟩) ?_
        · exact Guarded_some rfl rfl (d := 110) (H 72 rfl 110 (.eq (.bool true)) rfl (by rw [hFs6]; rfl))
        · obtain ⟨v112, e112, r112⟩ : (Fact.re a).In (s' 112) w' := H 74 rfl 112 (.re a) rfl (by rw [hFs6]; rfl)
          obtain ⟨v113, e113, r113⟩ : (Fact.re b).In (s' 113) w' := H 75 rfl 113 (.re b) rfl (by rw [hFs6]; rfl)
          exact Does_res2 Tryd.underlying25 siz27 zer27 e112 e113 r112 r113
        refine DagSteps.cons (fun s' w' X U H => Or.inl ⟨?_, ?_⟩) ?_
        · exact Guarded_some rfl rfl (d := 110) (H 72 rfl 110 (.eq (.bool true)) rfl (by rw [hFs6]; rfl))
        · have e111 : s' 111 = (.int .i64 4) := H 73 rfl 111 (.eq (.int .i64 4)) rfl (by rw [hFs6]; rfl)
          obtain ⟨b114, e114, r114⟩ : (Fact.res [a, b]).In (s' 114) w' := H 76 rfl 114 (.res [a, b]) rfl (by rw [hFs6]; rfl)
          exact Does_enter (r_callF (vs := [(.int .i64 4), (.slice (some ⟨b114, 0, none⟩) 2 2)]) Tryd.func12 nm12 bd12 (lst2 e111 e114)) (re_d 4 [a, b] r114 (by simp))
        refine DagSteps.cons (fun s' w' X U H => Or.inl ⟨?_, ?_⟩) ?_
        · exact Guarded_some rfl rfl (d := 110) (H 72 rfl 110 (.eq (.bool true)) rfl (by rw [hFs6]; rfl))
        · exact Does_val (r_move (v := (.int .i64 4)) (U 14 rfl)) (Ext.refl _) rfl
        refine DagSteps.cons (fun s' w' X U H => Or.inl ⟨?_, ?_⟩) ?_
        · exact Guarded_some rfl rfl (d := 110) (H 72 rfl 110 (.eq (.bool true)) rfl (by rw [hFs6]; rfl))
        · exact Does_val (r_loadAgg (vs := [(.int .i64 b.kind), (.slice sb b.set.length sd), (.slice ab b.args.length ad), (.int .i64 b.mn), (.int .i64 b.mx), (.bool b.neg)]) (U 10 rfl) agg27 siz27 rfl ((X0.trans X).keep Bq |>.cells rfl)) (Ext.refl _) ⟨_, rfl, ReAt.ext (X0.trans X) _ (ReAt.ext E2 b fb)⟩
        refine DagSteps.cons (fun s' w' X U H => Or.inl ⟨?_, ?_⟩) ?_
        · exact Guarded_some rfl rfl (d := 110) (H 72 rfl 110 (.eq (.bool true)) rfl (by rw [hFs6]; rfl))
        · exact Does_val (r_loadAgg (vs := [(.int .i64 a.kind), (.slice sa a.set.length sc), (.slice aa a.args.length ac), (.int .i64 a.mn), (.int .i64 a.mx), (.bool a.neg)]) (U 9 rfl) agg27 siz27 rfl ((X0.trans X).keep Bp |>.cells rfl)) (Ext.refl _) ⟨_, rfl, ReAt.ext (X0.trans X) _ (ReAt.ext E2 a fa)⟩
        refine DagSteps.cons (fun s' w' X U H => Or.inl ⟨?_, ?_⟩) ?_
        · exact Guarded_some rfl rfl (d := 110) (H 72 rfl 110 (.eq (.bool true)) rfl (by rw [hFs6]; rfl))
        · obtain ⟨v117, e117, r117⟩ : (Fact.re b).In (s' 117) w' := H 79 rfl 117 (.re b) rfl (by rw [hFs6]; rfl)
          obtain ⟨v118, e118, r118⟩ : (Fact.re a).In (s' 118) w' := H 80 rfl 118 (.re a) rfl (by rw [hFs6]; rfl)
          exact Does_res2 Tryd.underlying25 siz27 zer27 e117 e118 r117 r118
        refine DagSteps.cons (fun s' w' X U H => Or.inl ⟨?_, ?_⟩) ?_
        · exact Guarded_some rfl rfl (d := 110) (H 72 rfl 110 (.eq (.bool true)) rfl (by rw [hFs6]; rfl))
        · have e116 : s' 116 = (.int .i64 4) := H 78 rfl 116 (.eq (.int .i64 4)) rfl (by rw [hFs6]; rfl)
          obtain ⟨b119, e119, r119⟩ : (Fact.res [b, a]).In (s' 119) w' := H 81 rfl 119 (.res [b, a]) rfl (by rw [hFs6]; rfl)
          exact Does_enter (r_callF (vs := [(.int .i64 4), (.slice (some ⟨b119, 0, none⟩) 2 2)]) Tryd.func12 nm12 bd12 (lst2 e116 e119)) (re_d 4 [b, a] r119 (by simp))
        refine DagSteps.cons (fun s' w' X U H => Or.inl ⟨?_, ?_⟩) ?_
        · exact Guarded_some rfl rfl (d := 110) (H 72 rfl 110 (.eq (.bool true)) rfl (by rw [hFs6]; rfl))
        · exact Does_val (r_move (v := (.slice ta text.length tc)) (U 12 rfl)) (Ext.refl _) rfl
        refine DagSteps.cons (fun s' w' X U H => Or.inl ⟨?_, ?_⟩) ?_
        · exact Guarded_some rfl rfl (d := 110) (H 72 rfl 110 (.eq (.bool true)) rfl (by rw [hFs6]; rfl))
        · obtain ⟨v115, e115, r115⟩ : (Fact.re (.mk 4 [] [a, b] 0 0 false)).In (s' 115) w' := H 77 rfl 115 (.re (.mk 4 [] [a, b] 0 0 false)) rfl (by rw [hFs6]; rfl)
          obtain ⟨v120, e120, r120⟩ : (Fact.re (.mk 4 [] [b, a] 0 0 false)).In (s' 120) w' := H 82 rfl 120 (.re (.mk 4 [] [b, a] 0 0 false)) rfl (by rw [hFs6]; rfl)
          have e121 : s' 121 = (.slice ta text.length tc) := H 83 rfl 121 (.eq (.slice ta text.length tc)) rfl (by rw [hFs6]; rfl)
          exact Does_enter (r_callF (vs := [(.agg v115.toArray), (.agg v120.toArray), (.slice ta text.length tc)]) Tryd.func13 nm13 bd13 (lst3 e115 e120 e121)) (same_d r115 r120 (hx.ext (E2.ext (X0.trans X))) (hT.ext (E.ext (X0.trans X))) (kl4 htx oka okb (by omega)))
        refine DagSteps.cons (fun s' w' X U H => Or.inl ⟨?_, ?_⟩) ?_
        · exact Guarded_none rfl
        · have e110 : s' 110 = (.bool true) := H 72 rfl 110 (.eq (.bool true)) rfl (by rw [hFs6]; rfl)
          have e122 : s' 122 = (.bool true) := H 84 rfl 122 (.eq (.bool true)) rfl (by rw [hFs6]; rfl)
          exact Does_val (r_pick (b := true) (v := (.bool true)) e110 e122) (Ext.refl _) rfl
        refine DagSteps.cons (fun s' w' X U H => Or.inl ⟨?_, ?_⟩) ?_
        · exact Guarded_none rfl
        · have e123 : s' 123 = (.bool true) := H 85 rfl 123 (.eq (.bool true)) rfl (by rw [hFs6]; rfl)
          exact Does_val (r_move (v := (.bool true)) e123) (Ext.refl _) rfl
        refine DagSteps.cons (fun s' w' X U H => Or.inl ⟨?_, ?_⟩) ?_
        · exact Guarded_some rfl rfl (d := 124) (H 86 rfl 124 (.eq (.bool true)) rfl (by rw [hFs6]; rfl))
        · exact Does_val (r_move (v := (.int .i64 4)) (U 14 rfl)) (Ext.refl _) rfl
        refine DagSteps.cons (fun s' w' X U H => Or.inl ⟨?_, ?_⟩) ?_
        · exact Guarded_some rfl rfl (d := 124) (H 86 rfl 124 (.eq (.bool true)) rfl (by rw [hFs6]; rfl))
        · exact Does_val (r_loadAgg (vs := [(.int .i64 a.kind), (.slice sa a.set.length sc), (.slice aa a.args.length ac), (.int .i64 a.mn), (.int .i64 a.mx), (.bool a.neg)]) (U 9 rfl) agg27 siz27 rfl ((X0.trans X).keep Bp |>.cells rfl)) (Ext.refl _) ⟨_, rfl, ReAt.ext (X0.trans X) _ (ReAt.ext E2 a fa)⟩
        refine DagSteps.cons (fun s' w' X U H => Or.inl ⟨?_, ?_⟩) ?_
        · exact Guarded_some rfl rfl (d := 124) (H 86 rfl 124 (.eq (.bool true)) rfl (by rw [hFs6]; rfl))
        · exact Does_val (r_loadAgg (vs := [(.int .i64 a.kind), (.slice sa a.set.length sc), (.slice aa a.args.length ac), (.int .i64 a.mn), (.int .i64 a.mx), (.bool a.neg)]) (U 9 rfl) agg27 siz27 rfl ((X0.trans X).keep Bp |>.cells rfl)) (Ext.refl _) ⟨_, rfl, ReAt.ext (X0.trans X) _ (ReAt.ext E2 a fa)⟩
        refine DagSteps.cons (fun s' w' X U H => Or.inl ⟨?_, ?_⟩) ?_
        · exact Guarded_some rfl rfl (d := 124) (H 86 rfl 124 (.eq (.bool true)) rfl (by rw [hFs6]; rfl))
        · obtain ⟨v126, e126, r126⟩ : (Fact.re a).In (s' 126) w' := H 88 rfl 126 (.re a) rfl (by rw [hFs6]; rfl)
          obtain ⟨v127, e127, r127⟩ : (Fact.re a).In (s' 127) w' := H 89 rfl 127 (.re a) rfl (by rw [hFs6]; rfl)
          exact Does_res2 Tryd.underlying25 siz27 zer27 e126 e127 r126 r127
        refine DagSteps.cons (fun s' w' X U H => Or.inl ⟨?_, ?_⟩) ?_
        · exact Guarded_some rfl rfl (d := 124) (H 86 rfl 124 (.eq (.bool true)) rfl (by rw [hFs6]; rfl))
        · have e125 : s' 125 = (.int .i64 4) := H 87 rfl 125 (.eq (.int .i64 4)) rfl (by rw [hFs6]; rfl)
          obtain ⟨b128, e128, r128⟩ : (Fact.res [a, a]).In (s' 128) w' := H 90 rfl 128 (.res [a, a]) rfl (by rw [hFs6]; rfl)
          exact Does_enter (r_callF (vs := [(.int .i64 4), (.slice (some ⟨b128, 0, none⟩) 2 2)]) Tryd.func12 nm12 bd12 (lst2 e125 e128)) (re_d 4 [a, a] r128 (by simp))
        refine DagSteps.cons (fun s' w' X U H => Or.inl ⟨?_, ?_⟩) ?_
        · exact Guarded_some rfl rfl (d := 124) (H 86 rfl 124 (.eq (.bool true)) rfl (by rw [hFs6]; rfl))
        · exact Does_val (r_loadAgg (vs := [(.int .i64 a.kind), (.slice sa a.set.length sc), (.slice aa a.args.length ac), (.int .i64 a.mn), (.int .i64 a.mx), (.bool a.neg)]) (U 9 rfl) agg27 siz27 rfl ((X0.trans X).keep Bp |>.cells rfl)) (Ext.refl _) ⟨_, rfl, ReAt.ext (X0.trans X) _ (ReAt.ext E2 a fa)⟩
        refine DagSteps.cons (fun s' w' X U H => Or.inl ⟨?_, ?_⟩) ?_
        · exact Guarded_some rfl rfl (d := 124) (H 86 rfl 124 (.eq (.bool true)) rfl (by rw [hFs6]; rfl))
        · exact Does_val (r_move (v := (.slice ta text.length tc)) (U 12 rfl)) (Ext.refl _) rfl
        refine DagSteps.cons (fun s' w' X U H => Or.inl ⟨?_, ?_⟩) ?_
        · exact Guarded_some rfl rfl (d := 124) (H 86 rfl 124 (.eq (.bool true)) rfl (by rw [hFs6]; rfl))
        · obtain ⟨v129, e129, r129⟩ : (Fact.re (.mk 4 [] [a, a] 0 0 false)).In (s' 129) w' := H 91 rfl 129 (.re (.mk 4 [] [a, a] 0 0 false)) rfl (by rw [hFs6]; rfl)
          obtain ⟨v130, e130, r130⟩ : (Fact.re a).In (s' 130) w' := H 92 rfl 130 (.re a) rfl (by rw [hFs6]; rfl)
          have e131 : s' 131 = (.slice ta text.length tc) := H 93 rfl 131 (.eq (.slice ta text.length tc)) rfl (by rw [hFs6]; rfl)
          exact Does_enter (r_callF (vs := [(.agg v129.toArray), (.agg v130.toArray), (.slice ta text.length tc)]) Tryd.func13 nm13 bd13 (lst3 e129 e130 e131)) (same_d r129 r130 (hx.ext (E2.ext (X0.trans X))) (hT.ext (E.ext (X0.trans X))) (kl5 htx oka (by omega)))
        refine DagSteps.cons (fun s' w' X U H => Or.inl ⟨?_, ?_⟩) ?_
        · exact Guarded_none rfl
        · have e124 : s' 124 = (.bool true) := H 86 rfl 124 (.eq (.bool true)) rfl (by rw [hFs6]; rfl)
          have e132 : s' 132 = (.bool true) := H 94 rfl 132 (.eq (.bool true)) rfl (by rw [hFs6]; rfl)
          exact Does_val (r_pick (b := true) (v := (.bool true)) e124 e132) (Ext.refl _) rfl
        refine DagSteps.cons (fun s' w' X U H => Or.inl ⟨?_, ?_⟩) ?_
        · exact Guarded_none rfl
        · have e133 : s' 133 = (.bool true) := H 95 rfl 133 (.eq (.bool true)) rfl (by rw [hFs6]; rfl)
          exact Does_val (r_move (v := (.bool true)) e133) (Ext.refl _) rfl
        refine DagSteps.cons (fun s' w' X U H => Or.inl ⟨?_, ?_⟩) ?_
        · exact Guarded_some rfl rfl (d := 134) (H 96 rfl 134 (.eq (.bool true)) rfl (by rw [hFs6]; rfl))
        · exact Does_val (r_loadAgg (vs := [(.int .i64 5), (.slice s1 0 s2), (.slice s3 1 s4), (.int .i64 0), (.int .i64 0), (.bool false)]) (U 15 rfl) agg27 siz27 rfl ((X0.trans X).keep Bv |>.cells rfl)) (Ext.refl _) ⟨_, rfl, ReAt.ext (X0.trans X) _ (ReAt.ext E3 (starT a) hs)⟩
        refine DagSteps.cons (fun s' w' X U H => Or.inl ⟨?_, ?_⟩) ?_
        · exact Guarded_some rfl rfl (d := 134) (H 96 rfl 134 (.eq (.bool true)) rfl (by rw [hFs6]; rfl))
        · exact Does_val (r_move (v := (.int .i64 4)) (U 14 rfl)) (Ext.refl _) rfl
        refine DagSteps.cons (fun s' w' X U H => Or.inl ⟨?_, ?_⟩) ?_
        · exact Guarded_some rfl rfl (d := 134) (H 96 rfl 134 (.eq (.bool true)) rfl (by rw [hFs6]; rfl))
        · exact Does_enter (r_callF (vs := [(.int .i64 1), (.slice none 0 0)]) Tryd.func12 nm12 bd12 (lst2 rfl rfl)) (re_d0 _ 1)
        refine DagSteps.cons (fun s' w' X U H => Or.inl ⟨?_, ?_⟩) ?_
        · exact Guarded_some rfl rfl (d := 134) (H 96 rfl 134 (.eq (.bool true)) rfl (by rw [hFs6]; rfl))
        · exact Does_val (r_move (v := (.int .i64 3)) (U 13 rfl)) (Ext.refl _) rfl
        refine DagSteps.cons (fun s' w' X U H => Or.inl ⟨?_, ?_⟩) ?_
        · exact Guarded_some rfl rfl (d := 134) (H 96 rfl 134 (.eq (.bool true)) rfl (by rw [hFs6]; rfl))
        · exact Does_val (r_loadAgg (vs := [(.int .i64 a.kind), (.slice sa a.set.length sc), (.slice aa a.args.length ac), (.int .i64 a.mn), (.int .i64 a.mx), (.bool a.neg)]) (U 9 rfl) agg27 siz27 rfl ((X0.trans X).keep Bp |>.cells rfl)) (Ext.refl _) ⟨_, rfl, ReAt.ext (X0.trans X) _ (ReAt.ext E2 a fa)⟩
        refine DagSteps.cons (fun s' w' X U H => Or.inl ⟨?_, ?_⟩) ?_
        · exact Guarded_some rfl rfl (d := 134) (H 96 rfl 134 (.eq (.bool true)) rfl (by rw [hFs6]; rfl))
        · exact Does_val (r_loadAgg (vs := [(.int .i64 5), (.slice s1 0 s2), (.slice s3 1 s4), (.int .i64 0), (.int .i64 0), (.bool false)]) (U 15 rfl) agg27 siz27 rfl ((X0.trans X).keep Bv |>.cells rfl)) (Ext.refl _) ⟨_, rfl, ReAt.ext (X0.trans X) _ (ReAt.ext E3 (starT a) hs)⟩
        refine DagSteps.cons (fun s' w' X U H => Or.inl ⟨?_, ?_⟩) ?_
        · exact Guarded_some rfl rfl (d := 134) (H 96 rfl 134 (.eq (.bool true)) rfl (by rw [hFs6]; rfl))
        · obtain ⟨v139, e139, r139⟩ : (Fact.re a).In (s' 139) w' := H 101 rfl 139 (.re a) rfl (by rw [hFs6]; rfl)
          obtain ⟨v140, e140, r140⟩ : (Fact.re (starT a)).In (s' 140) w' := H 102 rfl 140 (.re (starT a)) rfl (by rw [hFs6]; rfl)
          exact Does_res2 Tryd.underlying25 siz27 zer27 e139 e140 r139 r140
        refine DagSteps.cons (fun s' w' X U H => Or.inl ⟨?_, ?_⟩) ?_
        · exact Guarded_some rfl rfl (d := 134) (H 96 rfl 134 (.eq (.bool true)) rfl (by rw [hFs6]; rfl))
        · have e138 : s' 138 = (.int .i64 3) := H 100 rfl 138 (.eq (.int .i64 3)) rfl (by rw [hFs6]; rfl)
          obtain ⟨b141, e141, r141⟩ : (Fact.res [a, starT a]).In (s' 141) w' := H 103 rfl 141 (.res [a, starT a]) rfl (by rw [hFs6]; rfl)
          exact Does_enter (r_callF (vs := [(.int .i64 3), (.slice (some ⟨b141, 0, none⟩) 2 2)]) Tryd.func12 nm12 bd12 (lst2 e138 e141)) (re_d 3 [a, starT a] r141 (by simp))
        refine DagSteps.cons (fun s' w' X U H => Or.inl ⟨?_, ?_⟩) ?_
        · exact Guarded_some rfl rfl (d := 134) (H 96 rfl 134 (.eq (.bool true)) rfl (by rw [hFs6]; rfl))
        · obtain ⟨v137, e137, r137⟩ : (Fact.re (.mk 1 [] [] 0 0 false)).In (s' 137) w' := H 99 rfl 137 (.re (.mk 1 [] [] 0 0 false)) rfl (by rw [hFs6]; rfl)
          obtain ⟨v142, e142, r142⟩ : (Fact.re (.mk 3 [] [a, starT a] 0 0 false)).In (s' 142) w' := H 104 rfl 142 (.re (.mk 3 [] [a, starT a] 0 0 false)) rfl (by rw [hFs6]; rfl)
          exact Does_res2 Tryd.underlying25 siz27 zer27 e137 e142 r137 r142
        refine DagSteps.cons (fun s' w' X U H => Or.inl ⟨?_, ?_⟩) ?_
        · exact Guarded_some rfl rfl (d := 134) (H 96 rfl 134 (.eq (.bool true)) rfl (by rw [hFs6]; rfl))
        · have e136 : s' 136 = (.int .i64 4) := H 98 rfl 136 (.eq (.int .i64 4)) rfl (by rw [hFs6]; rfl)
          obtain ⟨b143, e143, r143⟩ : (Fact.res [.mk 1 [] [] 0 0 false, .mk 3 [] [a, starT a] 0 0 false]).In (s' 143) w' := H 105 rfl 143 (.res [.mk 1 [] [] 0 0 false, .mk 3 [] [a, starT a] 0 0 false]) rfl (by rw [hFs6]; rfl)
          exact Does_enter (r_callF (vs := [(.int .i64 4), (.slice (some ⟨b143, 0, none⟩) 2 2)]) Tryd.func12 nm12 bd12 (lst2 e136 e143)) (re_d 4 [.mk 1 [] [] 0 0 false, .mk 3 [] [a, starT a] 0 0 false] r143 (by simp))
        refine DagSteps.cons (fun s' w' X U H => Or.inl ⟨?_, ?_⟩) ?_
        · exact Guarded_some rfl rfl (d := 134) (H 96 rfl 134 (.eq (.bool true)) rfl (by rw [hFs6]; rfl))
        · exact Does_val (r_move (v := (.slice ta text.length tc)) (U 12 rfl)) (Ext.refl _) rfl
        refine DagSteps.cons (fun s' w' X U H => Or.inl ⟨?_, ?_⟩) ?_
        · exact Guarded_some rfl rfl (d := 134) (H 96 rfl 134 (.eq (.bool true)) rfl (by rw [hFs6]; rfl))
        · obtain ⟨v135, e135, r135⟩ : (Fact.re (starT a)).In (s' 135) w' := H 97 rfl 135 (.re (starT a)) rfl (by rw [hFs6]; rfl)
          obtain ⟨v144, e144, r144⟩ : (Fact.re (.mk 4 [] [.mk 1 [] [] 0 0 false, .mk 3 [] [a, starT a] 0 0 false] 0 0 false)).In (s' 144) w' := H 106 rfl 144 (.re (.mk 4 [] [.mk 1 [] [] 0 0 false, .mk 3 [] [a, starT a] 0 0 false] 0 0 false)) rfl (by rw [hFs6]; rfl)
          have e145 : s' 145 = (.slice ta text.length tc) := H 107 rfl 145 (.eq (.slice ta text.length tc)) rfl (by rw [hFs6]; rfl)
          exact Does_enter (r_callF (vs := [(.agg v135.toArray), (.agg v144.toArray), (.slice ta text.length tc)]) Tryd.func13 nm13 bd13 (lst3 e135 e144 e145)) (same_d r135 r144 (hx.ext (E2.ext (X0.trans X))) (hT.ext (E.ext (X0.trans X))) (kl6 htx oka (by omega)))
        refine DagSteps.cons (fun s' w' X U H => Or.inl ⟨?_, ?_⟩) ?_
        · exact Guarded_none rfl
        · have e134 : s' 134 = (.bool true) := H 96 rfl 134 (.eq (.bool true)) rfl (by rw [hFs6]; rfl)
          have e146 : s' 146 = (.bool true) := H 108 rfl 146 (.eq (.bool true)) rfl (by rw [hFs6]; rfl)
          exact Does_val (r_pick (b := true) (v := (.bool true)) e134 e146) (Ext.refl _) rfl
        refine DagSteps.cons (fun s' w' X U H => Or.inl ⟨?_, ?_⟩) ?_
        · exact Guarded_none rfl
        · have e147 : s' 147 = (.bool true) := H 109 rfl 147 (.eq (.bool true)) rfl (by rw [hFs6]; rfl)
          exact Does_val (r_move (v := (.bool true)) e147) (Ext.refl _) rfl
        refine DagSteps.cons (fun s' w' X U H => Or.inl ⟨?_, ?_⟩) ?_
        · exact Guarded_some rfl rfl (d := 148) (H 110 rfl 148 (.eq (.bool true)) rfl (by rw [hFs6]; rfl))
        · exact Does_val (r_move (v := (.int .i64 3)) (U 13 rfl)) (Ext.refl _) rfl
        refine DagSteps.cons (fun s' w' X U H => Or.inl ⟨?_, ?_⟩) ?_
        · exact Guarded_some rfl rfl (d := 148) (H 110 rfl 148 (.eq (.bool true)) rfl (by rw [hFs6]; rfl))
        · exact Does_val (r_loadAgg (vs := [(.int .i64 5), (.slice s1 0 s2), (.slice s3 1 s4), (.int .i64 0), (.int .i64 0), (.bool false)]) (U 15 rfl) agg27 siz27 rfl ((X0.trans X).keep Bv |>.cells rfl)) (Ext.refl _) ⟨_, rfl, ReAt.ext (X0.trans X) _ (ReAt.ext E3 (starT a) hs)⟩
        refine DagSteps.cons (fun s' w' X U H => Or.inl ⟨?_, ?_⟩) ?_
        · exact Guarded_some rfl rfl (d := 148) (H 110 rfl 148 (.eq (.bool true)) rfl (by rw [hFs6]; rfl))
        · exact Does_val (r_loadAgg (vs := [(.int .i64 5), (.slice s1 0 s2), (.slice s3 1 s4), (.int .i64 0), (.int .i64 0), (.bool false)]) (U 15 rfl) agg27 siz27 rfl ((X0.trans X).keep Bv |>.cells rfl)) (Ext.refl _) ⟨_, rfl, ReAt.ext (X0.trans X) _ (ReAt.ext E3 (starT a) hs)⟩
        refine DagSteps.cons (fun s' w' X U H => Or.inl ⟨?_, ?_⟩) ?_
        · exact Guarded_some rfl rfl (d := 148) (H 110 rfl 148 (.eq (.bool true)) rfl (by rw [hFs6]; rfl))
        · obtain ⟨v150, e150, r150⟩ : (Fact.re (starT a)).In (s' 150) w' := H 112 rfl 150 (.re (starT a)) rfl (by rw [hFs6]; rfl)
          obtain ⟨v151, e151, r151⟩ : (Fact.re (starT a)).In (s' 151) w' := H 113 rfl 151 (.re (starT a)) rfl (by rw [hFs6]; rfl)
          exact Does_res2 Tryd.underlying25 siz27 zer27 e150 e151 r150 r151
        refine DagSteps.cons (fun s' w' X U H => Or.inl ⟨?_, ?_⟩) ?_
        · exact Guarded_some rfl rfl (d := 148) (H 110 rfl 148 (.eq (.bool true)) rfl (by rw [hFs6]; rfl))
        · have e149 : s' 149 = (.int .i64 3) := H 111 rfl 149 (.eq (.int .i64 3)) rfl (by rw [hFs6]; rfl)
          obtain ⟨b152, e152, r152⟩ : (Fact.res [starT a, starT a]).In (s' 152) w' := H 114 rfl 152 (.res [starT a, starT a]) rfl (by rw [hFs6]; rfl)
          exact Does_enter (r_callF (vs := [(.int .i64 3), (.slice (some ⟨b152, 0, none⟩) 2 2)]) Tryd.func12 nm12 bd12 (lst2 e149 e152)) (re_d 3 [starT a, starT a] r152 (by simp))
        refine DagSteps.cons (fun s' w' X U H => Or.inl ⟨?_, ?_⟩) ?_
        · exact Guarded_some rfl rfl (d := 148) (H 110 rfl 148 (.eq (.bool true)) rfl (by rw [hFs6]; rfl))
        · exact Does_val (r_loadAgg (vs := [(.int .i64 5), (.slice s1 0 s2), (.slice s3 1 s4), (.int .i64 0), (.int .i64 0), (.bool false)]) (U 15 rfl) agg27 siz27 rfl ((X0.trans X).keep Bv |>.cells rfl)) (Ext.refl _) ⟨_, rfl, ReAt.ext (X0.trans X) _ (ReAt.ext E3 (starT a) hs)⟩
        refine DagSteps.cons (fun s' w' X U H => Or.inl ⟨?_, ?_⟩) ?_
        · exact Guarded_some rfl rfl (d := 148) (H 110 rfl 148 (.eq (.bool true)) rfl (by rw [hFs6]; rfl))
        · exact Does_val (r_move (v := (.slice ta text.length tc)) (U 12 rfl)) (Ext.refl _) rfl
        refine DagSteps.cons (fun s' w' X U H => Or.inl ⟨?_, ?_⟩) ?_
        · exact Guarded_some rfl rfl (d := 148) (H 110 rfl 148 (.eq (.bool true)) rfl (by rw [hFs6]; rfl))
        · obtain ⟨v153, e153, r153⟩ : (Fact.re (.mk 3 [] [starT a, starT a] 0 0 false)).In (s' 153) w' := H 115 rfl 153 (.re (.mk 3 [] [starT a, starT a] 0 0 false)) rfl (by rw [hFs6]; rfl)
          obtain ⟨v154, e154, r154⟩ : (Fact.re (starT a)).In (s' 154) w' := H 116 rfl 154 (.re (starT a)) rfl (by rw [hFs6]; rfl)
          have e155 : s' 155 = (.slice ta text.length tc) := H 117 rfl 155 (.eq (.slice ta text.length tc)) rfl (by rw [hFs6]; rfl)
          exact Does_enter (r_callF (vs := [(.agg v153.toArray), (.agg v154.toArray), (.slice ta text.length tc)]) Tryd.func13 nm13 bd13 (lst3 e153 e154 e155)) (same_d r153 r154 (hx.ext (E2.ext (X0.trans X))) (hT.ext (E.ext (X0.trans X))) (kl7 htx oka (by omega)))
        refine DagSteps.cons (fun s' w' X U H => Or.inl ⟨?_, ?_⟩) ?_
        · exact Guarded_none rfl
        · have e148 : s' 148 = (.bool true) := H 110 rfl 148 (.eq (.bool true)) rfl (by rw [hFs6]; rfl)
          have e156 : s' 156 = (.bool true) := H 118 rfl 156 (.eq (.bool true)) rfl (by rw [hFs6]; rfl)
          exact Does_val (r_pick (b := true) (v := (.bool true)) e148 e156) (Ext.refl _) rfl
        refine DagSteps.cons (fun s' w' X U H => Or.inl ⟨?_, ?_⟩) ?_
        · exact Guarded_none rfl
        · have e157 : s' 157 = (.bool true) := H 119 rfl 157 (.eq (.bool true)) rfl (by rw [hFs6]; rfl)
          exact Does_val (r_move (v := (.bool true)) e157) (Ext.refl _) rfl
        refine DagSteps.cons (fun s' w' X U H => Or.inl ⟨?_, ?_⟩) ?_
        · exact Guarded_some rfl rfl (d := 158) (H 120 rfl 158 (.eq (.bool true)) rfl (by rw [hFs6]; rfl))
        · exact Does_val (r_loadAgg (vs := [(.int .i64 5), (.slice s1 0 s2), (.slice s3 1 s4), (.int .i64 0), (.int .i64 0), (.bool false)]) (U 15 rfl) agg27 siz27 rfl ((X0.trans X).keep Bv |>.cells rfl)) (Ext.refl _) ⟨_, rfl, ReAt.ext (X0.trans X) _ (ReAt.ext E3 (starT a) hs)⟩
        refine DagSteps.cons (fun s' w' X U H => Or.inl ⟨?_, ?_⟩) ?_
        · exact Guarded_some rfl rfl (d := 158) (H 120 rfl 158 (.eq (.bool true)) rfl (by rw [hFs6]; rfl))
        · obtain ⟨v159, e159, r159⟩ : (Fact.re (starT a)).In (s' 159) w' := H 121 rfl 159 (.re (starT a)) rfl (by rw [hFs6]; rfl)
          exact Does_res1 Tryd.underlying25 siz27 zer27 e159 r159
        refine DagSteps.cons (fun s' w' X U H => Or.inl ⟨?_, ?_⟩) ?_
        · exact Guarded_some rfl rfl (d := 158) (H 120 rfl 158 (.eq (.bool true)) rfl (by rw [hFs6]; rfl))
        · obtain ⟨b160, e160, r160⟩ : (Fact.res [starT a]).In (s' 160) w' := H 122 rfl 160 (.res [starT a]) rfl (by rw [hFs6]; rfl)
          exact Does_enter (r_callF (vs := [(.int .i64 5), (.slice (some ⟨b160, 0, none⟩) 1 1)]) Tryd.func12 nm12 bd12 (lst2 rfl e160)) (re_d 5 [starT a] r160 (by simp))
        refine DagSteps.cons (fun s' w' X U H => Or.inl ⟨?_, ?_⟩) ?_
        · exact Guarded_some rfl rfl (d := 158) (H 120 rfl 158 (.eq (.bool true)) rfl (by rw [hFs6]; rfl))
        · exact Does_val (r_loadAgg (vs := [(.int .i64 5), (.slice s1 0 s2), (.slice s3 1 s4), (.int .i64 0), (.int .i64 0), (.bool false)]) (U 15 rfl) agg27 siz27 rfl ((X0.trans X).keep Bv |>.cells rfl)) (Ext.refl _) ⟨_, rfl, ReAt.ext (X0.trans X) _ (ReAt.ext E3 (starT a) hs)⟩
        refine DagSteps.cons (fun s' w' X U H => Or.inl ⟨?_, ?_⟩) ?_
        · exact Guarded_some rfl rfl (d := 158) (H 120 rfl 158 (.eq (.bool true)) rfl (by rw [hFs6]; rfl))
        · exact Does_val (r_move (v := (.slice ta text.length tc)) (U 12 rfl)) (Ext.refl _) rfl
        refine DagSteps.cons (fun s' w' X U H => Or.inl ⟨?_, ?_⟩) ?_
        · exact Guarded_some rfl rfl (d := 158) (H 120 rfl 158 (.eq (.bool true)) rfl (by rw [hFs6]; rfl))
        · obtain ⟨v161, e161, r161⟩ : (Fact.re (.mk 5 [] [starT a] 0 0 false)).In (s' 161) w' := H 123 rfl 161 (.re (.mk 5 [] [starT a] 0 0 false)) rfl (by rw [hFs6]; rfl)
          obtain ⟨v162, e162, r162⟩ : (Fact.re (starT a)).In (s' 162) w' := H 124 rfl 162 (.re (starT a)) rfl (by rw [hFs6]; rfl)
          have e163 : s' 163 = (.slice ta text.length tc) := H 125 rfl 163 (.eq (.slice ta text.length tc)) rfl (by rw [hFs6]; rfl)
          exact Does_enter (r_callF (vs := [(.agg v161.toArray), (.agg v162.toArray), (.slice ta text.length tc)]) Tryd.func13 nm13 bd13 (lst3 e161 e162 e163)) (same_d r161 r162 (hx.ext (E2.ext (X0.trans X))) (hT.ext (E.ext (X0.trans X))) (kl8 htx oka (by omega)))
        refine DagSteps.cons (fun s' w' X U H => Or.inl ⟨?_, ?_⟩) ?_
        · exact Guarded_none rfl
        · have e158 : s' 158 = (.bool true) := H 120 rfl 158 (.eq (.bool true)) rfl (by rw [hFs6]; rfl)
          have e164 : s' 164 = (.bool true) := H 126 rfl 164 (.eq (.bool true)) rfl (by rw [hFs6]; rfl)
          exact Does_val (r_pick (b := true) (v := (.bool true)) e158 e164) (Ext.refl _) rfl
        refine DagSteps.cons (fun s' w' X U H => Or.inl ⟨?_, ?_⟩) ?_
        · exact Guarded_none rfl
        · have e165 : s' 165 = (.bool true) := H 127 rfl 165 (.eq (.bool true)) rfl (by rw [hFs6]; rfl)
          exact Does_val (r_assign (v := (.bool true)) e165) (Ext.refl _) rfl
        exact DagSteps.nil
      · intro s' w6 X6 U H
        obtain ⟨j6, rfl⟩ := Fits.out (σ := s') (l := [(8, (.bool true))]) ⟨(show s' 8 = (.bool true) from H 128 8 (.eq (.bool true)) rfl (by rw [hFs6]; rfl)), trivial⟩
        clear U H
        replace Bp := X6.keep Bp
        replace Bq := X6.keep Bq
        replace Br := X6.keep Br
        replace Bu := X6.keep Bu
        replace Bv := X6.keep Bv
        replace E := E.ext X6
        replace E2 := E2.ext X6
        replace E3 := E3.ext X6
        refine thn_normal ?_
        refine Wp_ret ?_
        refine fin_tmp Tryd.results3 (v := (.bool true)) rfl ?_
        exact ⟨rfl, E⟩
end Go.Proofs
