/- Walks: the law RelationBoole. -/
import Derived.Test.YtiepeobnpmoghaaDoorW15
namespace Go.Proofs
open Go Go.Eng
set_option maxRecDepth 100000

theorem not_d {w0 : World} {t : Re} {vs : List Value} (ht : ReAt w0 t vs) :
    Ret Tryd.prog 14 #[.agg vs.toArray] w0 fun v w => (Fact.re (notT t)).In v w ∧ Ext w0 w := by
  have ht0 := ht
  obtain ⟨sa, sc, aa, ac, rfl, _⟩ := ht.form
  refine Ret_of Tryd.func14 rfl Tryd.ntmps14 (Nat.le_of_ble_eq_true rfl) ?_
  have E : Chg none1 w0 w0 := Chg.refl _ _
  refine Wp_seq_region ?_
  refine s_box (v := (.agg #[(.int .i64 t.kind), (.slice sa t.set.length sc), (.slice aa t.args.length ac), (.int .i64 t.mn), (.int .i64 t.mx), (.bool t.neg)])) (c := #[(.int .i64 t.kind), (.slice sa t.set.length sc), (.slice aa t.args.length ac), (.int .i64 t.mn), (.int .i64 t.mx), (.bool t.neg)]) (by decide) rfl rfl ?_
  intro bp wp Np
  have Fp := Np.ge E
  replace E := E.ext Np.ext
  have Bp := Np.blk
  refine s_alloc (c := #[(.int .i64 0), (.slice none 0 0), (.slice none 0 0), (.int .i64 0), (.int .i64 0), (.bool false)]) (by decide) zer27 rfl ?_
  intro bq wq Nq
  have Fq := Nq.ge E
  have Oq_bp := Nq.lt Bp
  replace Bp := Nq.keep Bp
  replace E := E.ext Nq.ext
  have Bq := Nq.blk
  refine WpL_nil ?_
  refine Wp_seq_region ?_
  refine WpL_val rfl rfl (by decide) (r_loadAgg (vs := [(.int .i64 t.kind), (.slice sa t.set.length sc), (.slice aa t.args.length ac), (.int .i64 t.mn), (.int .i64 t.mx), (.bool t.neg)]) rfl agg27 siz27 rfl (Bp.cells rfl)) ?_
  refine s_buildSlice (ps := [(0, (.agg #[(.int .i64 t.kind), (.slice sa t.set.length sc), (.slice aa t.args.length ac), (.int .i64 t.mn), (.int .i64 t.mx), (.bool t.neg)]))]) (c := #[(.int .i64 t.kind), (.slice sa t.set.length sc), (.slice aa t.args.length ac), (.int .i64 t.mn), (.int .i64 t.mx), (.bool t.neg)]) (by decide) rfl Tryd.underlying25 siz27 zer27 (by decide) (by decide) (by kernel_rfl) ?_
  intro br wr Nr
  have Fr := Nr.ge E
  have Or_bp := Nr.lt Bp
  have Or_bq := Nr.lt Bq
  replace Bp := Nr.keep Bp
  replace Bq := Nr.keep Bq
  replace E := E.ext Nr.ext
  have Br := Nr.blk
  refine WpL_enter rfl rfl (by decide) (r_callF (vs := [(.int .i64 8), (.slice (some ⟨br, 0, none⟩) 1 1)]) Tryd.func12 nm12 bd12 rfl) (re_c _ 8 _ _ _) ?_
  rintro _ ws ⟨rfl, Xs⟩
  replace Bp := Xs.keep Bp
  replace Bq := Xs.keep Bq
  replace Br := Xs.keep Br
  replace E := E.ext Xs
  refine s_storeAgg (b := bq) (o := 0) (c' := #[(.int .i64 8), (.slice none 0 0), (.slice (some ⟨br, 0, none⟩) 1 1), (.int .i64 0), (.int .i64 0), (.bool false)]) rfl rfl (by simp [Value.oneCell']) siz27 rfl Bq (by simp) rfl ?_
  intro w1 S1
  replace Bp := S1.keep (by omega) Bp
  replace Br := S1.keep (by omega) Br
  replace E := S1.step E (by first | exact Or.inl (by omega) | exact Or.inr rfl | exact Or.inr (by simp))
  replace Bq := S1.blk
  refine WpL_nil ?_
  refine Wp_ret ?_
  refine fin_agg Tryd.results14 (vs := [(.int .i64 8), (.slice none 0 0), (.slice (some ⟨br, 0, none⟩) 1 1), (.int .i64 0), (.int .i64 0), (.bool false)]) (b := bq) rfl agg27 siz27 rfl (Bq.cells rfl) ?_
  exact ⟨⟨_, rfl, ReAt.of (set := []) (args := [t]) (SlAt.nil _ _ _ _) (by simp) (.inr ⟨br, 0, rfl, by simp only [ResAt]; exact ⟨⟨_, Br.cells rfl, ReAt.ext E t ht0⟩, trivial⟩⟩)⟩, E⟩
theorem look_d {w0 : World} {t : Re} {vs : List Value} (ng : Bool) (ht : ReAt w0 t vs) :
    Ret Tryd.prog 15 #[.agg vs.toArray, .bool ng] w0 fun v w => (Fact.re (lookT t ng)).In v w ∧ Ext w0 w := by
  have ht0 := ht
  obtain ⟨sa, sc, aa, ac, rfl, _⟩ := ht.form
  refine Ret_of Tryd.func15 rfl Tryd.ntmps15 (Nat.le_of_ble_eq_true rfl) ?_
  have E : Chg none1 w0 w0 := Chg.refl _ _
  refine Wp_seq_region ?_
  refine s_box (v := (.agg #[(.int .i64 t.kind), (.slice sa t.set.length sc), (.slice aa t.args.length ac), (.int .i64 t.mn), (.int .i64 t.mx), (.bool t.neg)])) (c := #[(.int .i64 t.kind), (.slice sa t.set.length sc), (.slice aa t.args.length ac), (.int .i64 t.mn), (.int .i64 t.mx), (.bool t.neg)]) (by decide) rfl rfl ?_
  intro bp wp Np
  have Fp := Np.ge E
  replace E := E.ext Np.ext
  have Bp := Np.blk
  refine s_alloc (c := #[(.int .i64 0), (.slice none 0 0), (.slice none 0 0), (.int .i64 0), (.int .i64 0), (.bool false)]) (by decide) zer27 rfl ?_
  intro bq wq Nq
  have Fq := Nq.ge E
  have Oq_bp := Nq.lt Bp
  replace Bp := Nq.keep Bp
  replace E := E.ext Nq.ext
  have Bq := Nq.blk
  refine WpL_nil ?_
  refine Wp_seq_region ?_
  refine WpL_val rfl rfl (by decide) (r_move (v := (.bool ng)) rfl) ?_
  refine WpL_val rfl rfl (by decide) (r_loadAgg (vs := [(.int .i64 t.kind), (.slice sa t.set.length sc), (.slice aa t.args.length ac), (.int .i64 t.mn), (.int .i64 t.mx), (.bool t.neg)]) rfl agg27 siz27 rfl (Bp.cells rfl)) ?_
  refine s_buildSlice (ps := [(0, (.agg #[(.int .i64 t.kind), (.slice sa t.set.length sc), (.slice aa t.args.length ac), (.int .i64 t.mn), (.int .i64 t.mx), (.bool t.neg)]))]) (c := #[(.int .i64 t.kind), (.slice sa t.set.length sc), (.slice aa t.args.length ac), (.int .i64 t.mn), (.int .i64 t.mx), (.bool t.neg)]) (by decide) rfl Tryd.underlying25 siz27 zer27 (by decide) (by decide) (by kernel_rfl) ?_
  intro br wr Nr
  have Fr := Nr.ge E
  have Or_bp := Nr.lt Bp
  have Or_bq := Nr.lt Bq
  replace Bp := Nr.keep Bp
  replace Bq := Nr.keep Bq
  replace E := E.ext Nr.ext
  have Br := Nr.blk
  refine WpL_val rfl rfl (by decide) (r_build (ps := [(0, (.int .i64 10)), (5, (.bool ng)), (2, (.slice (some ⟨br, 0, none⟩) 1 1))]) (v := (.agg #[(.int .i64 10), (.slice none 0 0), (.slice (some ⟨br, 0, none⟩) 1 1), (.int .i64 0), (.int .i64 0), (.bool ng)])) rfl (by kernel_rfl)) ?_
  refine s_storeAgg (b := bq) (o := 0) (c' := #[(.int .i64 10), (.slice none 0 0), (.slice (some ⟨br, 0, none⟩) 1 1), (.int .i64 0), (.int .i64 0), (.bool ng)]) rfl rfl (by simp [Value.oneCell']) siz27 rfl Bq (by simp) rfl ?_
  intro w1 S1
  replace Bp := S1.keep (by omega) Bp
  replace Br := S1.keep (by omega) Br
  replace E := S1.step E (by first | exact Or.inl (by omega) | exact Or.inr rfl | exact Or.inr (by simp))
  replace Bq := S1.blk
  refine WpL_nil ?_
  refine Wp_ret ?_
  refine fin_agg Tryd.results15 (vs := [(.int .i64 10), (.slice none 0 0), (.slice (some ⟨br, 0, none⟩) 1 1), (.int .i64 0), (.int .i64 0), (.bool ng)]) (b := bq) rfl agg27 siz27 rfl (Bq.cells rfl) ?_
  exact ⟨⟨_, rfl, ReAt.of (set := []) (args := [t]) (SlAt.nil _ _ _ _) (by simp) (.inr ⟨br, 0, rfl, by simp only [ResAt]; exact ⟨⟨_, Br.cells rfl, ReAt.ext E t ht0⟩, trivial⟩⟩)⟩, E⟩

set_option maxHeartbeats 4000000 in
theorem boole_c (w0 : World) (hT : TabOk w0) (va vb vt : Value) (k l t : List Int) (hk : IntsAt w0 va k) (hl : IntsAt w0 vb l) (ht : IntsAt w0 vt t) :
    Ret Tryd.prog 4 #[va, vb, vt] w0 fun v w => v = .bool true ∧ Ext w0 w := by
  refine Ret_of Tryd.func4 rfl Tryd.ntmps4 (Nat.le_of_ble_eq_true rfl) ?_
  have E : Chg none1 w0 w0 := Chg.refl _ _
  refine Wp_seq_region ?_
  refine WpL_val rfl rfl (by decide) (r_assign (v := (.bool false)) rfl) ?_
  refine WpL_nil ?_
  refine Wp_seq ?_
  refine Wp_seq_region ?_
  refine WpL_enter rfl rfl (by decide) (r_callF (vs := []) Tryd.func8 nm8 bd8 rfl) (begun_c _ (hT.ext E)) ?_
  rintro _ w9 ⟨rfl, X9⟩
  replace E := E.ext X9
  refine WpL_val rfl rfl (by decide) (r_not (b := true) rfl) ?_
  refine WpL_nil ?_
  refine Wp_cond_false rfl ?_
  refine Wp_skip ?_
  refine thn_normal ?_
  refine Wp_seq_region ?_
  refine WpL_val rfl rfl (by decide) (r_move (v := va) rfl) ?_
  refine WpL_enter rfl rfl (by decide) (r_callF (vs := [va]) Tryd.func9 nm9 bd9 rfl) (mkRe_c _ _ k (hk.ext E)) ?_
  rintro _ wa ⟨a, us, rfl, ga, za, ha, Xa⟩
  replace E := E.ext Xa
  replace ha := ReIn.at _ ha
  have fa := ha
  obtain ⟨sa, sc, aa, ac, rfl, _⟩ := ha.form
  refine WpL_val rfl rfl (by decide) (r_move (v := vb) rfl) ?_
  refine WpL_enter rfl rfl (by decide) (r_callF (vs := [vb]) Tryd.func9 nm9 bd9 rfl) (mkRe_c _ _ l (hl.ext E)) ?_
  rintro _ wb ⟨b, us, rfl, gb, zb, hb, Xb⟩
  replace fa := ReAt.ext Xb a fa
  replace E := E.ext Xb
  replace hb := ReIn.at _ hb
  have fb := hb
  obtain ⟨sb, sd, ab, ad, rfl, _⟩ := hb.form
  refine WpL_val rfl rfl (by decide) (r_move (v := vt) rfl) ?_
  refine WpL_enter rfl rfl (by decide) (r_callF (vs := [vt]) Tryd.func10 nm10 bd10 rfl) (text_c _ _ t (ht.ext E)) ?_
  rintro _ wt ⟨ta, tc, text, rfl, hx, hlen, hrb, Xt⟩
  replace fa := ReAt.ext Xt a fa
  replace fb := ReAt.ext Xt b fb
  replace E := E.ext Xt
  have oka := gen_ok a ga
  have okb := gen_ok b gb
  have htx : Txt text := ⟨by omega, hrb⟩
  have E2 : Chg none1 wt wt := Chg.refl _ _
  refine s_alloc (c := #[(.int .i64 0), (.slice none 0 0), (.slice none 0 0), (.int .i64 0), (.int .i64 0), (.bool false)]) (by decide) zer27 rfl ?_
  intro bp wp Np
  have Fp := Np.ge E
  have Fp_E2 := Np.ge E2
  replace E := E.ext Np.ext
  have Bp := Np.blk
  replace E2 := E2.ext Np.ext
  refine s_alloc (c := #[(.int .i64 0), (.slice none 0 0), (.slice none 0 0), (.int .i64 0), (.int .i64 0), (.bool false)]) (by decide) zer27 rfl ?_
  intro bq wq Nq
  have Fq := Nq.ge E
  have Fq_E2 := Nq.ge E2
  have Oq_bp := Nq.lt Bp
  replace Bp := Nq.keep Bp
  replace E := E.ext Nq.ext
  have Bq := Nq.blk
  replace E2 := E2.ext Nq.ext
  refine s_storeAgg (b := bp) (o := 0) (c' := #[(.int .i64 a.kind), (.slice sa a.set.length sc), (.slice aa a.args.length ac), (.int .i64 a.mn), (.int .i64 a.mx), (.bool a.neg)]) rfl rfl (by simp [Value.oneCell']) siz27 rfl Bp (by simp) rfl ?_
  intro w1 S1
  replace Bq := S1.keep (by omega) Bq
  replace E := S1.step E (by first | exact Or.inl (by omega) | exact Or.inr rfl | exact Or.inr (by simp))
  replace E2 := S1.step E2 (Or.inl (by omega))
  replace Bp := S1.blk
  refine s_storeAgg (b := bq) (o := 0) (c' := #[(.int .i64 b.kind), (.slice sb b.set.length sd), (.slice ab b.args.length ad), (.int .i64 b.mn), (.int .i64 b.mx), (.bool b.neg)]) rfl rfl (by simp [Value.oneCell']) siz27 rfl Bq (by simp) rfl ?_
  intro w2 S2
  replace Bp := S2.keep (by omega) Bp
  replace E := S2.step E (by first | exact Or.inl (by omega) | exact Or.inr rfl | exact Or.inr (by simp))
  replace E2 := S2.step E2 (Or.inl (by omega))
  replace Bq := S2.blk
  refine WpL_val rfl rfl (by decide) (r_assign (v := (.slice ta text.length tc)) rfl) ?_
  refine WpL_nil ?_
  refine Wp_seq ?_
  refine Wp_seq ?_
  obtain ⟨Fs3, hFs3⟩ : ∃ Fs : List Fact, Fs = [.re a, .eq (.int .i64 ((a.size : Nat) : Int)), .re b, .eq (.int .i64 ((b.size : Nat) : Int)), .eq (.int .i64 (((a.size : Nat) : Int) + ((b.size : Nat) : Int))), .eq (.bool (decide (18 < ((a.size : Nat) : Int) + ((b.size : Nat) : Int))))] := ⟨_, rfl⟩
  refine Wp_dag [20, 21, 22, 23, 24, 25] [[], [0], [], [1, 2], [1, 3], [4]] Fs3 hFs3 mixed (by kernel_rfl) (by kernel_rfl) ?_ ?_
  · intro wd X0
    refine DagSteps.cons (fun s' w' X U H => ⟨?_, ?_⟩) ?_
    · exact Guarded_none rfl
    · exact Does_val (r_loadAgg (vs := [(.int .i64 a.kind), (.slice sa a.set.length sc), (.slice aa a.args.length ac), (.int .i64 a.mn), (.int .i64 a.mx), (.bool a.neg)]) (U 7 rfl) agg27 siz27 rfl ((X0.trans X).keep Bp |>.cells rfl)) (Ext.refl _) ⟨_, rfl, ReAt.ext (X0.trans X) _ (ReAt.ext E2 a fa)⟩
    refine DagSteps.cons (fun s' w' X U H => ⟨?_, ?_⟩) ?_
    · exact Guarded_none rfl
    · obtain ⟨v20, e20, r20⟩ : (Fact.re a).In (s' 20) w' := H 0 rfl 20 (.re a) rfl (by rw [hFs3]; rfl)
      exact Does_enter (r_callF (vs := [(.agg v20.toArray)]) Tryd.func11 nm11 bd11 (lst1 e20)) (size_d r20 (by omega))
    refine DagSteps.cons (fun s' w' X U H => ⟨?_, ?_⟩) ?_
    · exact Guarded_none rfl
    · exact Does_val (r_loadAgg (vs := [(.int .i64 b.kind), (.slice sb b.set.length sd), (.slice ab b.args.length ad), (.int .i64 b.mn), (.int .i64 b.mx), (.bool b.neg)]) (U 8 rfl) agg27 siz27 rfl ((X0.trans X).keep Bq |>.cells rfl)) (Ext.refl _) ⟨_, rfl, ReAt.ext (X0.trans X) _ (ReAt.ext E2 b fb)⟩
    refine DagSteps.cons (fun s' w' X U H => ⟨?_, ?_⟩) ?_
    · exact Guarded_none rfl
    · obtain ⟨v22, e22, r22⟩ : (Fact.re b).In (s' 22) w' := H 2 rfl 22 (.re b) rfl (by rw [hFs3]; rfl)
      exact Does_enter (r_callF (vs := [(.agg v22.toArray)]) Tryd.func11 nm11 bd11 (lst1 e22)) (size_d r22 (by omega))
    refine DagSteps.cons (fun s' w' X U H => ⟨?_, ?_⟩) ?_
    · exact Guarded_none rfl
    · have e21 : s' 21 = (.int .i64 ((a.size : Nat) : Int)) := H 1 rfl 21 (.eq (.int .i64 ((a.size : Nat) : Int))) rfl (by rw [hFs3]; rfl)
      have e23 : s' 23 = (.int .i64 ((b.size : Nat) : Int)) := H 3 rfl 23 (.eq (.int .i64 ((b.size : Nat) : Int))) rfl (by rw [hFs3]; rfl)
      exact Does_val (r_add (k := .i64) (a := ((a.size : Nat) : Int)) (b := ((b.size : Nat) : Int)) (c := ((a.size : Nat) : Int) + ((b.size : Nat) : Int)) e21 e23 (wI64 (by omega))) (Ext.refl _) rfl
    refine DagSteps.cons (fun s' w' X U H => ⟨?_, ?_⟩) ?_
    · exact Guarded_none rfl
    · have e24 : s' 24 = (.int .i64 (((a.size : Nat) : Int) + ((b.size : Nat) : Int))) := H 4 rfl 24 (.eq (.int .i64 (((a.size : Nat) : Int) + ((b.size : Nat) : Int)))) rfl (by rw [hFs3]; rfl)
      exact Does_val (r_gtr (k := .i64) (a := ((a.size : Nat) : Int) + ((b.size : Nat) : Int)) (b := 18) e24 rfl) (Ext.refl _) rfl
    exact DagSteps.nil
  · intro s' w3 X3 U H
    obtain ⟨j3, rfl⟩ := Fits.out (σ := s') (l := [(6, (.bool false)), (7, (.pointer (some ⟨bp, 0, none⟩))), (8, (.pointer (some ⟨bq, 0, none⟩))), (9, (.slice ta text.length tc)), (25, (.bool (decide (18 < ((a.size : Nat) : Int) + ((b.size : Nat) : Int)))))]) ⟨U 6 rfl, U 7 rfl, U 8 rfl, U 9 rfl, (show s' 25 = (.bool (decide (18 < ((a.size : Nat) : Int) + ((b.size : Nat) : Int)))) from H 5 25 (.eq (.bool (decide (18 < ((a.size : Nat) : Int) + ((b.size : Nat) : Int))))) rfl (by rw [hFs3]; rfl)), trivial⟩
    clear U H
    replace Bp := X3.keep Bp
    replace Bq := X3.keep Bq
    replace E := E.ext X3
    replace E2 := E2.ext X3
    refine thn_normal ?_
    refine Wp_cond (b := decide (18 < ((a.size : Nat) : Int) + ((b.size : Nat) : Int))) rfl (fun hsz => ?_) (fun hsz => ?_)
    · have khsz := hsz
      replace hsz := of_decide_eq_true hsz
      refine Wp_seq_region ?_
      refine WpL_val rfl rfl (by decide) (r_assign (v := (.bool true)) rfl) ?_
      refine WpL_nil ?_
      refine Wp_ret ?_
      refine thn_ret ?_
      refine fin_tmp Tryd.results4 (v := (.bool true)) rfl ?_
      exact ⟨rfl, E⟩
    · have khsz := hsz
      replace hsz := of_decide_eq_false hsz
      refine Wp_skip ?_
      refine thn_normal ?_
      refine Wp_seq_region ?_
      refine WpL_val rfl rfl (by decide) (r_assign (v := (.func (.func 14) #[] #[])) rfl) ?_
      refine WpL_nil ?_
      refine Wp_seq_region ?_
      refine WpL_val rfl rfl (by decide) (r_assign (v := (.func (.func 15) #[] #[])) rfl) ?_
      refine WpL_nil ?_
      refine Wp_seq ?_
      obtain ⟨Fs5, hFs5⟩ : ∃ Fs : List Fact, Fs = [.eq (.func (.func 14) #[] #[]), .re a, .re b, .res [a, b], .re (.mk 7 [] [a, b] 0 0 false), .re (notT (.mk 7 [] [a, b] 0 0 false)), .eq (.func (.func 14) #[] #[]), .re a, .re (notT a), .eq (.func (.func 14) #[] #[]), .re b, .re (notT b), .res [notT a, notT b], .re (.mk 4 [] [notT a, notT b] 0 0 false), .eq (.slice ta text.length tc), .eq (.bool true), .eq (.bool true), .eq (.func (.func 14) #[] #[]), .eq (.func (.func 14) #[] #[]), .re a, .re (notT a), .re (notT (notT a)), .re a, .eq (.slice ta text.length tc), .eq (.bool true), .eq (.bool true), .eq (.bool true), .re a, .eq (.func (.func 14) #[] #[]), .re a, .re (notT a), .res [a, notT a], .re (.mk 7 [] [a, notT a] 0 0 false), .re (.mk 0 [] [] 0 0 false), .eq (.slice ta text.length tc), .eq (.bool true), .eq (.bool true), .eq (.bool true), .re a, .re a, .re b, .res [a, b], .re (.mk 4 [] [a, b] 0 0 false), .res [a, .mk 4 [] [a, b] 0 0 false], .re (.mk 7 [] [a, .mk 4 [] [a, b] 0 0 false] 0 0 false), .re a, .eq (.slice ta text.length tc), .eq (.bool true), .eq (.bool true), .eq (.bool true), .eq (.func (.func 15) #[] #[]), .eq (.func (.func 15) #[] #[]), .re a, .re (lookT a true), .re (lookT (lookT a true) true), .eq (.func (.func 15) #[] #[]), .re a, .re (lookT a false), .eq (.slice ta text.length tc), .eq (.bool true), .eq (.bool true), .eq (.bool true), .eq (.func (.func 15) #[] #[]), .re a, .re (lookT a false), .eq (.func (.func 15) #[] #[]), .re a, .re (lookT a true), .res [lookT a false, lookT a true], .re (.mk 4 [] [lookT a false, lookT a true] 0 0 false), .re (.mk 1 [] [] 0 0 false), .eq (.slice ta text.length tc), .eq (.bool true), .eq (.bool true), .eq (.bool true)] := ⟨_, rfl⟩
      refine Wp_dag [26, 27, 28, 29, 30, 31, 32, 33, 34, 35, 36, 37, 38, 39, 40, 41, 42, 43, 44, 45, 46, 47, 48, 49, 50, 51, 52, 53, 54, 55, 56, 57, 58, 59, 60, 61, 62, 63, 64, 65, 66, 67, 68, 69, 70, 71, 72, 73, 74, 75, 76, 77, 78, 79, 80, 81, 82, 83, 84, 85, 86, 87, 88, 89, 90, 91, 92, 93, 94, 95, 96, 97, 98, 99, 6] [[], [], [], [1, 2], [3], [0, 4], [], [], [5, 6, 7], [], [], [8, 9, 10], [8, 11], [11, 12], [], [5, 13, 14], [15], [16], [16], [16], [16, 18, 19], [16, 17, 20], [16], [16], [16, 21, 22, 23], [16, 24], [24, 25], [26], [26], [26], [26, 28, 29], [26, 27, 30], [26, 30, 31], [26], [26], [26, 32, 33, 34], [26, 35], [35, 36], [37], [37], [37], [37, 39, 40], [37, 41], [37, 38, 42], [37, 42, 43], [37], [37], [37, 44, 45, 46], [37, 47], [47, 48], [49], [49], [49], [49, 51, 52], [49, 50, 53], [49], [49], [49, 54, 55, 56], [49], [49, 54, 57, 58], [49, 59], [59, 60], [61], [61], [61, 62, 63], [61], [61], [61, 64, 65, 66], [61, 64, 67], [61, 67, 68], [61, 69], [61], [61, 69, 70, 71], [61, 72], [0, 1, 2, 3, 4, 5, 6, 7, 8, 9, 10, 11, 12, 13, 14, 15, 16, 17, 18, 19, 20, 21, 22, 23, 24, 25, 26, 27, 28, 29, 30, 31, 32, 33, 34, 35, 36, 37, 38, 39, 40, 41, 42, 43, 44, 45, 46, 47, 48, 49, 50, 51, 52, 53, 54, 55, 56, 57, 58, 59, 60, 61, 62, 63, 64, 65, 66, 67, 68, 69, 70, 71, 72, 73]] Fs5 hFs5 mixed (by kernel_rfl) (by kernel_rfl) ?_ ?_
      · intro wd X0
        refine DagSteps.cons (fun s' w' X U H => ⟨?_, ?_⟩) ?_
        · exact Guarded_none rfl
        · exact Does_val (r_move (v := (.func (.func 14) #[] #[])) (U 10 rfl)) (Ext.refl _) rfl
        refine DagSteps.cons (fun s' w' X U H => ⟨?_, ?_⟩) ?_
        · exact Guarded_none rfl
        · exact Does_val (r_loadAgg (vs := [(.int .i64 a.kind), (.slice sa a.set.length sc), (.slice aa a.args.length ac), (.int .i64 a.mn), (.int .i64 a.mx), (.bool a.neg)]) (U 7 rfl) agg27 siz27 rfl ((X0.trans X).keep Bp |>.cells rfl)) (Ext.refl _) ⟨_, rfl, ReAt.ext (X0.trans X) _ (ReAt.ext E2 a fa)⟩
        refine DagSteps.cons (fun s' w' X U H => ⟨?_, ?_⟩) ?_
        · exact Guarded_none rfl
        · exact Does_val (r_loadAgg (vs := [(.int .i64 b.kind), (.slice sb b.set.length sd), (.slice ab b.args.length ad), (.int .i64 b.mn), (.int .i64 b.mx), (.bool b.neg)]) (U 8 rfl) agg27 siz27 rfl ((X0.trans X).keep Bq |>.cells rfl)) (Ext.refl _) ⟨_, rfl, ReAt.ext (X0.trans X) _ (ReAt.ext E2 b fb)⟩
        refine DagSteps.cons (fun s' w' X U H => ⟨?_, ?_⟩) ?_
        · exact Guarded_none rfl
        · obtain ⟨v27, e27, r27⟩ : (Fact.re a).In (s' 27) w' := H 1 rfl 27 (.re a) rfl (by rw [hFs5]; rfl)
          obtain ⟨v28, e28, r28⟩ : (Fact.re b).In (s' 28) w' := H 2 rfl 28 (.re b) rfl (by rw [hFs5]; rfl)
          exact Does_res2 Tryd.underlying25 siz27 zer27 e27 e28 r27 r28
        refine DagSteps.cons (fun s' w' X U H => ⟨?_, ?_⟩) ?_
        · exact Guarded_none rfl
        · obtain ⟨b29, e29, r29⟩ : (Fact.res [a, b]).In (s' 29) w' := H 3 rfl 29 (.res [a, b]) rfl (by rw [hFs5]; rfl)
          exact Does_enter (r_callF (vs := [(.int .i64 7), (.slice (some ⟨b29, 0, none⟩) 2 2)]) Tryd.func12 nm12 bd12 (lst2 rfl e29)) (re_d 7 [a, b] r29 (by simp))
        refine DagSteps.cons (fun s' w' X U H => ⟨?_, ?_⟩) ?_
        · exact Guarded_none rfl
        · obtain ⟨v30, e30, r30⟩ : (Fact.re (.mk 7 [] [a, b] 0 0 false)).In (s' 30) w' := H 4 rfl 30 (.re (.mk 7 [] [a, b] 0 0 false)) rfl (by rw [hFs5]; rfl)
          have e26 : s' 26 = (.func (.func 14) #[] #[]) := H 0 rfl 26 (.eq (.func (.func 14) #[] #[])) rfl (by rw [hFs5]; rfl)
          exact Does_enter (r_callV (first := #[]) (cap := #[]) (vs := [(.agg v30.toArray)]) (ws := #[(.agg v30.toArray)]) e26 Tryd.func14 nm14 bd14 (lst1 e30) rfl) (not_d r30)
        refine DagSteps.cons (fun s' w' X U H => ⟨?_, ?_⟩) ?_
        · exact Guarded_none rfl
        · exact Does_val (r_move (v := (.func (.func 14) #[] #[])) (U 10 rfl)) (Ext.refl _) rfl
        refine DagSteps.cons (fun s' w' X U H => ⟨?_, ?_⟩) ?_
        · exact Guarded_none rfl
        · exact Does_val (r_loadAgg (vs := [(.int .i64 a.kind), (.slice sa a.set.length sc), (.slice aa a.args.length ac), (.int .i64 a.mn), (.int .i64 a.mx), (.bool a.neg)]) (U 7 rfl) agg27 siz27 rfl ((X0.trans X).keep Bp |>.cells rfl)) (Ext.refl _) ⟨_, rfl, ReAt.ext (X0.trans X) _ (ReAt.ext E2 a fa)⟩
        refine DagSteps.cons (fun s' w' X U H => ⟨?_, ?_⟩) ?_
        · exact Guarded_none rfl
        · obtain ⟨v33, e33, r33⟩ : (Fact.re a).In (s' 33) w' := H 7 rfl 33 (.re a) rfl (by rw [hFs5]; rfl)
          have e32 : s' 32 = (.func (.func 14) #[] #[]) := H 6 rfl 32 (.eq (.func (.func 14) #[] #[])) rfl (by rw [hFs5]; rfl)
          exact Does_enter (r_callV (first := #[]) (cap := #[]) (vs := [(.agg v33.toArray)]) (ws := #[(.agg v33.toArray)]) e32 Tryd.func14 nm14 bd14 (lst1 e33) rfl) (not_d r33)
        refine DagSteps.cons (fun s' w' X U H => ⟨?_, ?_⟩) ?_
        · exact Guarded_none rfl
        · exact Does_val (r_move (v := (.func (.func 14) #[] #[])) (U 10 rfl)) (Ext.refl _) rfl
        refine DagSteps.cons (fun s' w' X U H => ⟨?_, ?_⟩) ?_
        · exact Guarded_none rfl
        · exact Does_val (r_loadAgg (vs := [(.int .i64 b.kind), (.slice sb b.set.length sd), (.slice ab b.args.length ad), (.int .i64 b.mn), (.int .i64 b.mx), (.bool b.neg)]) (U 8 rfl) agg27 siz27 rfl ((X0.trans X).keep Bq |>.cells rfl)) (Ext.refl _) ⟨_, rfl, ReAt.ext (X0.trans X) _ (ReAt.ext E2 b fb)⟩
        refine DagSteps.cons (fun s' w' X U H => ⟨?_, ?_⟩) ?_
        · exact Guarded_none rfl
        · obtain ⟨v36, e36, r36⟩ : (Fact.re b).In (s' 36) w' := H 10 rfl 36 (.re b) rfl (by rw [hFs5]; rfl)
          have e35 : s' 35 = (.func (.func 14) #[] #[]) := H 9 rfl 35 (.eq (.func (.func 14) #[] #[])) rfl (by rw [hFs5]; rfl)
          exact Does_enter (r_callV (first := #[]) (cap := #[]) (vs := [(.agg v36.toArray)]) (ws := #[(.agg v36.toArray)]) e35 Tryd.func14 nm14 bd14 (lst1 e36) rfl) (not_d r36)
        refine DagSteps.cons (fun s' w' X U H => ⟨?_, ?_⟩) ?_
        · exact Guarded_none rfl
        · obtain ⟨v34, e34, r34⟩ : (Fact.re (notT a)).In (s' 34) w' := H 8 rfl 34 (.re (notT a)) rfl (by rw [hFs5]; rfl)
          obtain ⟨v37, e37, r37⟩ : (Fact.re (notT b)).In (s' 37) w' := H 11 rfl 37 (.re (notT b)) rfl (by rw [hFs5]; rfl)
          exact Does_res2 Tryd.underlying25 siz27 zer27 e34 e37 r34 r37
        refine DagSteps.cons (fun s' w' X U H => ⟨?_, ?_⟩) ?_
        · exact Guarded_none rfl
        · obtain ⟨b38, e38, r38⟩ : (Fact.res [notT a, notT b]).In (s' 38) w' := H 12 rfl 38 (.res [notT a, notT b]) rfl (by rw [hFs5]; rfl)
          exact Does_enter (r_callF (vs := [(.int .i64 4), (.slice (some ⟨b38, 0, none⟩) 2 2)]) Tryd.func12 nm12 bd12 (lst2 rfl e38)) (re_d 4 [notT a, notT b] r38 (by simp))
        refine DagSteps.cons (fun s' w' X U H => ⟨?_, ?_⟩) ?_
        · exact Guarded_none rfl
        · exact Does_val (r_move (v := (.slice ta text.length tc)) (U 9 rfl)) (Ext.refl _) rfl
        refine DagSteps.cons (fun s' w' X U H => ⟨?_, ?_⟩) ?_
        · exact Guarded_none rfl
        · obtain ⟨v31, e31, r31⟩ : (Fact.re (notT (.mk 7 [] [a, b] 0 0 false))).In (s' 31) w' := H 5 rfl 31 (.re (notT (.mk 7 [] [a, b] 0 0 false))) rfl (by rw [hFs5]; rfl)
          obtain ⟨v39, e39, r39⟩ : (Fact.re (.mk 4 [] [notT a, notT b] 0 0 false)).In (s' 39) w' := H 13 rfl 39 (.re (.mk 4 [] [notT a, notT b] 0 0 false)) rfl (by rw [hFs5]; rfl)
          have e40 : s' 40 = (.slice ta text.length tc) := H 14 rfl 40 (.eq (.slice ta text.length tc)) rfl (by rw [hFs5]; rfl)
          exact Does_enter (r_callF (vs := [(.agg v31.toArray), (.agg v39.toArray), (.slice ta text.length tc)]) Tryd.func13 nm13 bd13 (lst3 e31 e39 e40)) (same_d r31 r39 (hx.ext (E2.ext (X0.trans X))) (hT.ext (E.ext (X0.trans X))) (bo1 htx oka okb (by omega)))
        refine DagSteps.cons (fun s' w' X U H => ⟨?_, ?_⟩) ?_
        · exact Guarded_none rfl
        · have e41 : s' 41 = (.bool true) := H 15 rfl 41 (.eq (.bool true)) rfl (by rw [hFs5]; rfl)
          exact Does_val (r_move (v := (.bool true)) e41) (Ext.refl _) rfl
        refine DagSteps.cons (fun s' w' X U H => ⟨?_, ?_⟩) ?_
        · exact Guarded_some rfl rfl (d := 42) (H 16 rfl 42 (.eq (.bool true)) rfl (by rw [hFs5]; rfl))
        · exact Does_val (r_move (v := (.func (.func 14) #[] #[])) (U 10 rfl)) (Ext.refl _) rfl
        refine DagSteps.cons (fun s' w' X U H => ⟨?_, ?_⟩) ?_
        · exact Guarded_some rfl rfl (d := 42) (H 16 rfl 42 (.eq (.bool true)) rfl (by rw [hFs5]; rfl))
        · exact Does_val (r_move (v := (.func (.func 14) #[] #[])) (U 10 rfl)) (Ext.refl _) rfl
        refine DagSteps.cons (fun s' w' X U H => ⟨?_, ?_⟩) ?_
        · exact Guarded_some rfl rfl (d := 42) (H 16 rfl 42 (.eq (.bool true)) rfl (by rw [hFs5]; rfl))
        · exact Does_val (r_loadAgg (vs := [(.int .i64 a.kind), (.slice sa a.set.length sc), (.slice aa a.args.length ac), (.int .i64 a.mn), (.int .i64 a.mx), (.bool a.neg)]) (U 7 rfl) agg27 siz27 rfl ((X0.trans X).keep Bp |>.cells rfl)) (Ext.refl _) ⟨_, rfl, ReAt.ext (X0.trans X) _ (ReAt.ext E2 a fa)⟩
        refine DagSteps.cons (fun s' w' X U H => ⟨?_, ?_⟩) ?_
        · exact Guarded_some rfl rfl (d := 42) (H 16 rfl 42 (.eq (.bool true)) rfl (by rw [hFs5]; rfl))
        · obtain ⟨v45, e45, r45⟩ : (Fact.re a).In (s' 45) w' := H 19 rfl 45 (.re a) rfl (by rw [hFs5]; rfl)
          have e44 : s' 44 = (.func (.func 14) #[] #[]) := H 18 rfl 44 (.eq (.func (.func 14) #[] #[])) rfl (by rw [hFs5]; rfl)
          exact Does_enter (r_callV (first := #[]) (cap := #[]) (vs := [(.agg v45.toArray)]) (ws := #[(.agg v45.toArray)]) e44 Tryd.func14 nm14 bd14 (lst1 e45) rfl) (not_d r45)
        refine DagSteps.cons (fun s' w' X U H => ⟨?_, ?_⟩) ?_
        · exact Guarded_some rfl rfl (d := 42) (H 16 rfl 42 (.eq (.bool true)) rfl (by rw [hFs5]; rfl))
        · obtain ⟨v46, e46, r46⟩ : (Fact.re (notT a)).In (s' 46) w' := H 20 rfl 46 (.re (notT a)) rfl (by rw [hFs5]; rfl)
          have e43 : s' 43 = (.func (.func 14) #[] #[]) := H 17 rfl 43 (.eq (.func (.func 14) #[] #[])) rfl (by rw [hFs5]; rfl)
          exact Does_enter (r_callV (first := #[]) (cap := #[]) (vs := [(.agg v46.toArray)]) (ws := #[(.agg v46.toArray)]) e43 Tryd.func14 nm14 bd14 (lst1 e46) rfl) (not_d r46)
        refine DagSteps.cons (fun s' w' X U H => ⟨?_, ?_⟩) ?_
        · exact Guarded_some rfl rfl (d := 42) (H 16 rfl 42 (.eq (.bool true)) rfl (by rw [hFs5]; rfl))
        · exact Does_val (r_loadAgg (vs := [(.int .i64 a.kind), (.slice sa a.set.length sc), (.slice aa a.args.length ac), (.int .i64 a.mn), (.int .i64 a.mx), (.bool a.neg)]) (U 7 rfl) agg27 siz27 rfl ((X0.trans X).keep Bp |>.cells rfl)) (Ext.refl _) ⟨_, rfl, ReAt.ext (X0.trans X) _ (ReAt.ext E2 a fa)⟩
        refine DagSteps.cons (fun s' w' X U H => ⟨?_, ?_⟩) ?_
        · exact Guarded_some rfl rfl (d := 42) (H 16 rfl 42 (.eq (.bool true)) rfl (by rw [hFs5]; rfl))
        · exact Does_val (r_move (v := (.slice ta text.length tc)) (U 9 rfl)) (Ext.refl _) rfl
        refine DagSteps.cons (fun s' w' X U H => ⟨?_, ?_⟩) ?_
        · exact Guarded_some rfl rfl (d := 42) (H 16 rfl 42 (.eq (.bool true)) rfl (by rw [hFs5]; rfl))
        · obtain ⟨v47, e47, r47⟩ : (Fact.re (notT (notT a))).In (s' 47) w' := H 21 rfl 47 (.re (notT (notT a))) rfl (by rw [hFs5]; rfl)
          obtain ⟨v48, e48, r48⟩ : (Fact.re a).In (s' 48) w' := H 22 rfl 48 (.re a) rfl (by rw [hFs5]; rfl)
          have e49 : s' 49 = (.slice ta text.length tc) := H 23 rfl 49 (.eq (.slice ta text.length tc)) rfl (by rw [hFs5]; rfl)
          exact Does_enter (r_callF (vs := [(.agg v47.toArray), (.agg v48.toArray), (.slice ta text.length tc)]) Tryd.func13 nm13 bd13 (lst3 e47 e48 e49)) (same_d r47 r48 (hx.ext (E2.ext (X0.trans X))) (hT.ext (E.ext (X0.trans X))) (bo2 htx oka (by omega)))
        refine DagSteps.cons (fun s' w' X U H => ⟨?_, ?_⟩) ?_
        · exact Guarded_none rfl
        · have e42 : s' 42 = (.bool true) := H 16 rfl 42 (.eq (.bool true)) rfl (by rw [hFs5]; rfl)
          have e50 : s' 50 = (.bool true) := H 24 rfl 50 (.eq (.bool true)) rfl (by rw [hFs5]; rfl)
          exact Does_val (r_pick (b := true) (v := (.bool true)) e42 e50) (Ext.refl _) rfl
        refine DagSteps.cons (fun s' w' X U H => ⟨?_, ?_⟩) ?_
        · exact Guarded_none rfl
        · have e51 : s' 51 = (.bool true) := H 25 rfl 51 (.eq (.bool true)) rfl (by rw [hFs5]; rfl)
          exact Does_val (r_move (v := (.bool true)) e51) (Ext.refl _) rfl
        refine DagSteps.cons (fun s' w' X U H => ⟨?_, ?_⟩) ?_
        · exact Guarded_some rfl rfl (d := 52) (H 26 rfl 52 (.eq (.bool true)) rfl (by rw [hFs5]; rfl))
        · exact Does_val (r_loadAgg (vs := [(.int .i64 a.kind), (.slice sa a.set.length sc), (.slice aa a.args.length ac), (.int .i64 a.mn), (.int .i64 a.mx), (.bool a.neg)]) (U 7 rfl) agg27 siz27 rfl ((X0.trans X).keep Bp |>.cells rfl)) (Ext.refl _) ⟨_, rfl, ReAt.ext (X0.trans X) _ (ReAt.ext E2 a fa)⟩
        refine DagSteps.cons (fun s' w' X U H => ⟨?_, ?_⟩) ?_
        · exact Guarded_some rfl rfl (d := 52) (H 26 rfl 52 (.eq (.bool true)) rfl (by rw [hFs5]; rfl))
        · exact Does_val (r_move (v := (.func (.func 14) #[] #[])) (U 10 rfl)) (Ext.refl _) rfl
        refine DagSteps.cons (fun s' w' X U H => ⟨?_, ?_⟩) ?_
        · exact Guarded_some rfl rfl (d := 52) (H 26 rfl 52 (.eq (.bool true)) rfl (by rw [hFs5]; rfl))
        · exact Does_val (r_loadAgg (vs := [(.int .i64 a.kind), (.slice sa a.set.length sc), (.slice aa a.args.length ac), (.int .i64 a.mn), (.int .i64 a.mx), (.bool a.neg)]) (U 7 rfl) agg27 siz27 rfl ((X0.trans X).keep Bp |>.cells rfl)) (Ext.refl _) ⟨_, rfl, ReAt.ext (X0.trans X) _ (ReAt.ext E2 a fa)⟩
        refine DagSteps.cons (fun s' w' X U H => ⟨?_, ?_⟩) ?_
        · exact Guarded_some rfl rfl (d := 52) (H 26 rfl 52 (.eq (.bool true)) rfl (by rw [hFs5]; rfl))
        · obtain ⟨v55, e55, r55⟩ : (Fact.re a).In (s' 55) w' := H 29 rfl 55 (.re a) rfl (by rw [hFs5]; rfl)
          have e54 : s' 54 = (.func (.func 14) #[] #[]) := H 28 rfl 54 (.eq (.func (.func 14) #[] #[])) rfl (by rw [hFs5]; rfl)
          exact Does_enter (r_callV (first := #[]) (cap := #[]) (vs := [(.agg v55.toArray)]) (ws := #[(.agg v55.toArray)]) e54 Tryd.func14 nm14 bd14 (lst1 e55) rfl) (not_d r55)
        refine DagSteps.cons (fun s' w' X U H => ⟨?_, ?_⟩) ?_
        · exact Guarded_some rfl rfl (d := 52) (H 26 rfl 52 (.eq (.bool true)) rfl (by rw [hFs5]; rfl))
        · obtain ⟨v53, e53, r53⟩ : (Fact.re a).In (s' 53) w' := H 27 rfl 53 (.re a) rfl (by rw [hFs5]; rfl)
          obtain ⟨v56, e56, r56⟩ : (Fact.re (notT a)).In (s' 56) w' := H 30 rfl 56 (.re (notT a)) rfl (by rw [hFs5]; rfl)
          exact Does_res2 Tryd.underlying25 siz27 zer27 e53 e56 r53 r56
        refine DagSteps.cons (fun s' w' X U H => ⟨?_, ?_⟩) ?_
        · exact Guarded_some rfl rfl (d := 52) (H 26 rfl 52 (.eq (.bool true)) rfl (by rw [hFs5]; rfl))
        · obtain ⟨b57, e57, r57⟩ : (Fact.res [a, notT a]).In (s' 57) w' := H 31 rfl 57 (.res [a, notT a]) rfl (by rw [hFs5]; rfl)
          exact Does_enter (r_callF (vs := [(.int .i64 7), (.slice (some ⟨b57, 0, none⟩) 2 2)]) Tryd.func12 nm12 bd12 (lst2 rfl e57)) (re_d 7 [a, notT a] r57 (by simp))
        refine DagSteps.cons (fun s' w' X U H => ⟨?_, ?_⟩) ?_
        · exact Guarded_some rfl rfl (d := 52) (H 26 rfl 52 (.eq (.bool true)) rfl (by rw [hFs5]; rfl))
        · exact Does_val (r_build (ps := []) (v := (.agg #[(.int .i64 0), (.slice none 0 0), (.slice none 0 0), (.int .i64 0), (.int .i64 0), (.bool false)])) rfl (by kernel_rfl)) (Ext.refl _) ⟨[(.int .i64 0), (.slice none 0 0), (.slice none 0 0), (.int .i64 0), (.int .i64 0), (.bool false)], rfl, re_zero _⟩
        refine DagSteps.cons (fun s' w' X U H => ⟨?_, ?_⟩) ?_
        · exact Guarded_some rfl rfl (d := 52) (H 26 rfl 52 (.eq (.bool true)) rfl (by rw [hFs5]; rfl))
        · exact Does_val (r_move (v := (.slice ta text.length tc)) (U 9 rfl)) (Ext.refl _) rfl
        refine DagSteps.cons (fun s' w' X U H => ⟨?_, ?_⟩) ?_
        · exact Guarded_some rfl rfl (d := 52) (H 26 rfl 52 (.eq (.bool true)) rfl (by rw [hFs5]; rfl))
        · obtain ⟨v58, e58, r58⟩ : (Fact.re (.mk 7 [] [a, notT a] 0 0 false)).In (s' 58) w' := H 32 rfl 58 (.re (.mk 7 [] [a, notT a] 0 0 false)) rfl (by rw [hFs5]; rfl)
          obtain ⟨v59, e59, r59⟩ : (Fact.re (.mk 0 [] [] 0 0 false)).In (s' 59) w' := H 33 rfl 59 (.re (.mk 0 [] [] 0 0 false)) rfl (by rw [hFs5]; rfl)
          have e60 : s' 60 = (.slice ta text.length tc) := H 34 rfl 60 (.eq (.slice ta text.length tc)) rfl (by rw [hFs5]; rfl)
          exact Does_enter (r_callF (vs := [(.agg v58.toArray), (.agg v59.toArray), (.slice ta text.length tc)]) Tryd.func13 nm13 bd13 (lst3 e58 e59 e60)) (same_d r58 r59 (hx.ext (E2.ext (X0.trans X))) (hT.ext (E.ext (X0.trans X))) (bo3 htx oka (by omega)))
        refine DagSteps.cons (fun s' w' X U H => ⟨?_, ?_⟩) ?_
        · exact Guarded_none rfl
        · have e52 : s' 52 = (.bool true) := H 26 rfl 52 (.eq (.bool true)) rfl (by rw [hFs5]; rfl)
          have e61 : s' 61 = (.bool true) := H 35 rfl 61 (.eq (.bool true)) rfl (by rw [hFs5]; rfl)
          exact Does_val (r_pick (b := true) (v := (.bool true)) e52 e61) (Ext.refl _) rfl
        refine DagSteps.cons (fun s' w' X U H => ⟨?_, ?_⟩) ?_
        · exact Guarded_none rfl
        · have e62 : s' 62 = (.bool true) := H 36 rfl 62 (.eq (.bool true)) rfl (by rw [hFs5]; rfl)
          exact Does_val (r_move (v := (.bool true)) e62) (Ext.refl _) rfl
        refine DagSteps.cons (fun s' w' X U H => ⟨?_, ?_⟩) ?_
        · exact Guarded_some rfl rfl (d := 63) (H 37 rfl 63 (.eq (.bool true)) rfl (by rw [hFs5]; rfl))
        · exact Does_val (r_loadAgg (vs := [(.int .i64 a.kind), (.slice sa a.set.length sc), (.slice aa a.args.length ac), (.int .i64 a.mn), (.int .i64 a.mx), (.bool a.neg)]) (U 7 rfl) agg27 siz27 rfl ((X0.trans X).keep Bp |>.cells rfl)) (Ext.refl _) ⟨_, rfl, ReAt.ext (X0.trans X) _ (ReAt.ext E2 a fa)⟩
        refine DagSteps.cons (fun s' w' X U H => ⟨?_, ?_⟩) ?_
        · exact Guarded_some rfl rfl (d := 63) (H 37 rfl 63 (.eq (.bool true)) rfl (by rw [hFs5]; rfl))
        · exact Does_val (r_loadAgg (vs := [(.int .i64 a.kind), (.slice sa a.set.length sc), (.slice aa a.args.length ac), (.int .i64 a.mn), (.int .i64 a.mx), (.bool a.neg)]) (U 7 rfl) agg27 siz27 rfl ((X0.trans X).keep Bp |>.cells rfl)) (Ext.refl _) ⟨_, rfl, ReAt.ext (X0.trans X) _ (ReAt.ext E2 a fa)⟩
        refine DagSteps.cons (fun s' w' X U H => ⟨?_, ?_⟩) ?_
        · exact Guarded_some rfl rfl (d := 63) (H 37 rfl 63 (.eq (.bool true)) rfl (by rw [hFs5]; rfl))
        · exact Does_val (r_loadAgg (vs := [(.int .i64 b.kind), (.slice sb b.set.length sd), (.slice ab b.args.length ad), (.int .i64 b.mn), (.int .i64 b.mx), (.bool b.neg)]) (U 8 rfl) agg27 siz27 rfl ((X0.trans X).keep Bq |>.cells rfl)) (Ext.refl _) ⟨_, rfl, ReAt.ext (X0.trans X) _ (ReAt.ext E2 b fb)⟩
        refine DagSteps.cons (fun s' w' X U H => ⟨?_, ?_⟩) ?_
        · exact Guarded_some rfl rfl (d := 63) (H 37 rfl 63 (.eq (.bool true)) rfl (by rw [hFs5]; rfl))
        · obtain ⟨v65, e65, r65⟩ : (Fact.re a).In (s' 65) w' := H 39 rfl 65 (.re a) rfl (by rw [hFs5]; rfl)
          obtain ⟨v66, e66, r66⟩ : (Fact.re b).In (s' 66) w' := H 40 rfl 66 (.re b) rfl (by rw [hFs5]; rfl)
          exact Does_res2 Tryd.underlying25 siz27 zer27 e65 e66 r65 r66
        refine DagSteps.cons (fun s' w' X U H => ⟨?_, ?_⟩) ?_
        · exact Guarded_some rfl rfl (d := 63) (H 37 rfl 63 (.eq (.bool true)) rfl (by rw [hFs5]; rfl))
        · obtain ⟨b67, e67, r67⟩ : (Fact.res [a, b]).In (s' 67) w' := H 41 rfl 67 (.res [a, b]) rfl (by rw [hFs5]; rfl)
          exact Does_enter (r_callF (vs := [(.int .i64 4), (.slice (some ⟨b67, 0, none⟩) 2 2)]) Tryd.func12 nm12 bd12 (lst2 rfl e67)) (re_d 4 [a, b] r67 (by simp))
        refine DagSteps.cons (fun s' w' X U H => ⟨?_, ?_⟩) ?_
        · exact Guarded_some rfl rfl (d := 63) (H 37 rfl 63 (.eq (.bool true)) rfl (by rw [hFs5]; rfl))
        · obtain ⟨v64, e64, r64⟩ : (Fact.re a).In (s' 64) w' := H 38 rfl 64 (.re a) rfl (by rw [hFs5]; rfl)
          obtain ⟨v68, e68, r68⟩ : (Fact.re (.mk 4 [] [a, b] 0 0 false)).In (s' 68) w' := H 42 rfl 68 (.re (.mk 4 [] [a, b] 0 0 false)) rfl (by rw [hFs5]; rfl)
          exact Does_res2 Tryd.underlying25 siz27 zer27 e64 e68 r64 r68
        refine DagSteps.cons (fun s' w' X U H => ⟨?_, ?_⟩) ?_
        · exact Guarded_some rfl rfl (d := 63) (H 37 rfl 63 (.eq (.bool true)) rfl (by rw [hFs5]; rfl))
        · obtain ⟨b69, e69, r69⟩ : (Fact.res [a, .mk 4 [] [a, b] 0 0 false]).In (s' 69) w' := H 43 rfl 69 (.res [a, .mk 4 [] [a, b] 0 0 false]) rfl (by rw [hFs5]; rfl)
          exact Does_enter (r_callF (vs := [(.int .i64 7), (.slice (some ⟨b69, 0, none⟩) 2 2)]) Tryd.func12 nm12 bd12 (lst2 rfl e69)) (re_d 7 [a, .mk 4 [] [a, b] 0 0 false] r69 (by simp))
        refine DagSteps.cons (fun s' w' X U H => ⟨?_, ?_⟩) ?_
        · exact Guarded_some rfl rfl (d := 63) (H 37 rfl 63 (.eq (.bool true)) rfl (by rw [hFs5]; rfl))
        · exact Does_val (r_loadAgg (vs := [(.int .i64 a.kind), (.slice sa a.set.length sc), (.slice aa a.args.length ac), (.int .i64 a.mn), (.int .i64 a.mx), (.bool a.neg)]) (U 7 rfl) agg27 siz27 rfl ((X0.trans X).keep Bp |>.cells rfl)) (Ext.refl _) ⟨_, rfl, ReAt.ext (X0.trans X) _ (ReAt.ext E2 a fa)⟩
        refine DagSteps.cons (fun s' w' X U H => ⟨?_, ?_⟩) ?_
        · exact Guarded_some rfl rfl (d := 63) (H 37 rfl 63 (.eq (.bool true)) rfl (by rw [hFs5]; rfl))
        · exact Does_val (r_move (v := (.slice ta text.length tc)) (U 9 rfl)) (Ext.refl _) rfl
        refine DagSteps.cons (fun s' w' X U H => ⟨?_, ?_⟩) ?_
        · exact Guarded_some rfl rfl (d := 63) (H 37 rfl 63 (.eq (.bool true)) rfl (by rw [hFs5]; rfl))
        · obtain ⟨v70, e70, r70⟩ : (Fact.re (.mk 7 [] [a, .mk 4 [] [a, b] 0 0 false] 0 0 false)).In (s' 70) w' := H 44 rfl 70 (.re (.mk 7 [] [a, .mk 4 [] [a, b] 0 0 false] 0 0 false)) rfl (by rw [hFs5]; rfl)
          obtain ⟨v71, e71, r71⟩ : (Fact.re a).In (s' 71) w' := H 45 rfl 71 (.re a) rfl (by rw [hFs5]; rfl)
          have e72 : s' 72 = (.slice ta text.length tc) := H 46 rfl 72 (.eq (.slice ta text.length tc)) rfl (by rw [hFs5]; rfl)
          exact Does_enter (r_callF (vs := [(.agg v70.toArray), (.agg v71.toArray), (.slice ta text.length tc)]) Tryd.func13 nm13 bd13 (lst3 e70 e71 e72)) (same_d r70 r71 (hx.ext (E2.ext (X0.trans X))) (hT.ext (E.ext (X0.trans X))) (bo4 htx oka okb (by omega)))
        refine DagSteps.cons (fun s' w' X U H => ⟨?_, ?_⟩) ?_
        · exact Guarded_none rfl
        · have e63 : s' 63 = (.bool true) := H 37 rfl 63 (.eq (.bool true)) rfl (by rw [hFs5]; rfl)
          have e73 : s' 73 = (.bool true) := H 47 rfl 73 (.eq (.bool true)) rfl (by rw [hFs5]; rfl)
          exact Does_val (r_pick (b := true) (v := (.bool true)) e63 e73) (Ext.refl _) rfl
        refine DagSteps.cons (fun s' w' X U H => ⟨?_, ?_⟩) ?_
        · exact Guarded_none rfl
        · have e74 : s' 74 = (.bool true) := H 48 rfl 74 (.eq (.bool true)) rfl (by rw [hFs5]; rfl)
          exact Does_val (r_move (v := (.bool true)) e74) (Ext.refl _) rfl
        refine DagSteps.cons (fun s' w' X U H => ⟨?_, ?_⟩) ?_
        · exact Guarded_some rfl rfl (d := 75) (H 49 rfl 75 (.eq (.bool true)) rfl (by rw [hFs5]; rfl))
        · exact Does_val (r_move (v := (.func (.func 15) #[] #[])) (U 11 rfl)) (Ext.refl _) rfl
        refine DagSteps.cons (fun s' w' X U H => ⟨?_, ?_⟩) ?_
        · exact Guarded_some rfl rfl (d := 75) (H 49 rfl 75 (.eq (.bool true)) rfl (by rw [hFs5]; rfl))
        · exact Does_val (r_move (v := (.func (.func 15) #[] #[])) (U 11 rfl)) (Ext.refl _) rfl
        refine DagSteps.cons (fun s' w' X U H => ⟨?_, ?_⟩) ?_
        · exact Guarded_some rfl rfl (d := 75) (H 49 rfl 75 (.eq (.bool true)) rfl (by rw [hFs5]; rfl))
        · exact Does_val (r_loadAgg (vs := [(.int .i64 a.kind), (.slice sa a.set.length sc), (.slice aa a.args.length ac), (.int .i64 a.mn), (.int .i64 a.mx), (.bool a.neg)]) (U 7 rfl) agg27 siz27 rfl ((X0.trans X).keep Bp |>.cells rfl)) (Ext.refl _) ⟨_, rfl, ReAt.ext (X0.trans X) _ (ReAt.ext E2 a fa)⟩
        refine DagSteps.cons (fun s' w' X U H => ⟨?_, ?_⟩) ?_
        · exact Guarded_some rfl rfl (d := 75) (H 49 rfl 75 (.eq (.bool true)) rfl (by rw [hFs5]; rfl))
        · obtain ⟨v78, e78, r78⟩ : (Fact.re a).In (s' 78) w' := H 52 rfl 78 (.re a) rfl (by rw [hFs5]; rfl)
          have e77 : s' 77 = (.func (.func 15) #[] #[]) := H 51 rfl 77 (.eq (.func (.func 15) #[] #[])) rfl (by rw [hFs5]; rfl)
          exact Does_enter (r_callV (first := #[]) (cap := #[]) (vs := [(.agg v78.toArray), (.bool true)]) (ws := #[(.agg v78.toArray), (.bool true)]) e77 Tryd.func15 nm15 bd15 (lst2 e78 rfl) rfl) (look_d true r78)
        refine DagSteps.cons (fun s' w' X U H => ⟨?_, ?_⟩) ?_
        · exact Guarded_some rfl rfl (d := 75) (H 49 rfl 75 (.eq (.bool true)) rfl (by rw [hFs5]; rfl))
        · obtain ⟨v79, e79, r79⟩ : (Fact.re (lookT a true)).In (s' 79) w' := H 53 rfl 79 (.re (lookT a true)) rfl (by rw [hFs5]; rfl)
          have e76 : s' 76 = (.func (.func 15) #[] #[]) := H 50 rfl 76 (.eq (.func (.func 15) #[] #[])) rfl (by rw [hFs5]; rfl)
          exact Does_enter (r_callV (first := #[]) (cap := #[]) (vs := [(.agg v79.toArray), (.bool true)]) (ws := #[(.agg v79.toArray), (.bool true)]) e76 Tryd.func15 nm15 bd15 (lst2 e79 rfl) rfl) (look_d true r79)
        refine DagSteps.cons (fun s' w' X U H => ⟨?_, ?_⟩) ?_
        · exact Guarded_some rfl rfl (d := 75) (H 49 rfl 75 (.eq (.bool true)) rfl (by rw [hFs5]; rfl))
        · exact Does_val (r_move (v := (.func (.func 15) #[] #[])) (U 11 rfl)) (Ext.refl _) rfl
        refine DagSteps.cons (fun s' w' X U H => ⟨?_, ?_⟩) ?_
        · exact Guarded_some rfl rfl (d := 75) (H 49 rfl 75 (.eq (.bool true)) rfl (by rw [hFs5]; rfl))
        · exact Does_val (r_loadAgg (vs := [(.int .i64 a.kind), (.slice sa a.set.length sc), (.slice aa a.args.length ac), (.int .i64 a.mn), (.int .i64 a.mx), (.bool a.neg)]) (U 7 rfl) agg27 siz27 rfl ((X0.trans X).keep Bp |>.cells rfl)) (Ext.refl _) ⟨_, rfl, ReAt.ext (X0.trans X) _ (ReAt.ext E2 a fa)⟩
        refine DagSteps.cons (fun s' w' X U H => ⟨?_, ?_⟩) ?_
        · exact Guarded_some rfl rfl (d := 75) (H 49 rfl 75 (.eq (.bool true)) rfl (by rw [hFs5]; rfl))
        · obtain ⟨v82, e82, r82⟩ : (Fact.re a).In (s' 82) w' := H 56 rfl 82 (.re a) rfl (by rw [hFs5]; rfl)
          have e81 : s' 81 = (.func (.func 15) #[] #[]) := H 55 rfl 81 (.eq (.func (.func 15) #[] #[])) rfl (by rw [hFs5]; rfl)
          exact Does_enter (r_callV (first := #[]) (cap := #[]) (vs := [(.agg v82.toArray), (.bool false)]) (ws := #[(.agg v82.toArray), (.bool false)]) e81 Tryd.func15 nm15 bd15 (lst2 e82 rfl) rfl) (look_d false r82)
        refine DagSteps.cons (fun s' w' X U H => ⟨?_, ?_⟩) ?_
        · exact Guarded_some rfl rfl (d := 75) (H 49 rfl 75 (.eq (.bool true)) rfl (by rw [hFs5]; rfl))
        · exact Does_val (r_move (v := (.slice ta text.length tc)) (U 9 rfl)) (Ext.refl _) rfl
        refine DagSteps.cons (fun s' w' X U H => ⟨?_, ?_⟩) ?_
        · exact Guarded_some rfl rfl (d := 75) (H 49 rfl 75 (.eq (.bool true)) rfl (by rw [hFs5]; rfl))
        · obtain ⟨v80, e80, r80⟩ : (Fact.re (lookT (lookT a true) true)).In (s' 80) w' := H 54 rfl 80 (.re (lookT (lookT a true) true)) rfl (by rw [hFs5]; rfl)
          obtain ⟨v83, e83, r83⟩ : (Fact.re (lookT a false)).In (s' 83) w' := H 57 rfl 83 (.re (lookT a false)) rfl (by rw [hFs5]; rfl)
          have e84 : s' 84 = (.slice ta text.length tc) := H 58 rfl 84 (.eq (.slice ta text.length tc)) rfl (by rw [hFs5]; rfl)
          exact Does_enter (r_callF (vs := [(.agg v80.toArray), (.agg v83.toArray), (.slice ta text.length tc)]) Tryd.func13 nm13 bd13 (lst3 e80 e83 e84)) (same_d r80 r83 (hx.ext (E2.ext (X0.trans X))) (hT.ext (E.ext (X0.trans X))) (bo5 htx oka (by omega)))
        refine DagSteps.cons (fun s' w' X U H => ⟨?_, ?_⟩) ?_
        · exact Guarded_none rfl
        · have e75 : s' 75 = (.bool true) := H 49 rfl 75 (.eq (.bool true)) rfl (by rw [hFs5]; rfl)
          have e85 : s' 85 = (.bool true) := H 59 rfl 85 (.eq (.bool true)) rfl (by rw [hFs5]; rfl)
          exact Does_val (r_pick (b := true) (v := (.bool true)) e75 e85) (Ext.refl _) rfl
        refine DagSteps.cons (fun s' w' X U H => ⟨?_, ?_⟩) ?_
        · exact Guarded_none rfl
        · have e86 : s' 86 = (.bool true) := H 60 rfl 86 (.eq (.bool true)) rfl (by rw [hFs5]; rfl)
          exact Does_val (r_move (v := (.bool true)) e86) (Ext.refl _) rfl
        refine DagSteps.cons (fun s' w' X U H => ⟨?_, ?_⟩) ?_
        · exact Guarded_some rfl rfl (d := 87) (H 61 rfl 87 (.eq (.bool true)) rfl (by rw [hFs5]; rfl))
        · exact Does_val (r_move (v := (.func (.func 15) #[] #[])) (U 11 rfl)) (Ext.refl _) rfl
        refine DagSteps.cons (fun s' w' X U H => ⟨?_, ?_⟩) ?_
        · exact Guarded_some rfl rfl (d := 87) (H 61 rfl 87 (.eq (.bool true)) rfl (by rw [hFs5]; rfl))
        · exact Does_val (r_loadAgg (vs := [(.int .i64 a.kind), (.slice sa a.set.length sc), (.slice aa a.args.length ac), (.int .i64 a.mn), (.int .i64 a.mx), (.bool a.neg)]) (U 7 rfl) agg27 siz27 rfl ((X0.trans X).keep Bp |>.cells rfl)) (Ext.refl _) ⟨_, rfl, ReAt.ext (X0.trans X) _ (ReAt.ext E2 a fa)⟩
        refine DagSteps.cons (fun s' w' X U H => ⟨?_, ?_⟩) ?_
        · exact Guarded_some rfl rfl (d := 87) (H 61 rfl 87 (.eq (.bool true)) rfl (by rw [hFs5]; rfl))
        · obtain ⟨v89, e89, r89⟩ : (Fact.re a).In (s' 89) w' := H 63 rfl 89 (.re a) rfl (by rw [hFs5]; rfl)
          have e88 : s' 88 = (.func (.func 15) #[] #[]) := H 62 rfl 88 (.eq (.func (.func 15) #[] #[])) rfl (by rw [hFs5]; rfl)
          exact Does_enter (r_callV (first := #[]) (cap := #[]) (vs := [(.agg v89.toArray), (.bool false)]) (ws := #[(.agg v89.toArray), (.bool false)]) e88 Tryd.func15 nm15 bd15 (lst2 e89 rfl) rfl) (look_d false r89)
        refine DagSteps.cons (fun s' w' X U H => ⟨?_, ?_⟩) ?_
        · exact Guarded_some rfl rfl (d := 87) (H 61 rfl 87 (.eq (.bool true)) rfl (by rw [hFs5]; rfl))
        · exact Does_val (r_move (v := (.func (.func 15) #[] #[])) (U 11 rfl)) (Ext.refl _) rfl
        refine DagSteps.cons (fun s' w' X U H => ⟨?_, ?_⟩) ?_
        · exact Guarded_some rfl rfl (d := 87) (H 61 rfl 87 (.eq (.bool true)) rfl (by rw [hFs5]; rfl))
        · exact Does_val (r_loadAgg (vs := [(.int .i64 a.kind), (.slice sa a.set.length sc), (.slice aa a.args.length ac), (.int .i64 a.mn), (.int .i64 a.mx), (.bool a.neg)]) (U 7 rfl) agg27 siz27 rfl ((X0.trans X).keep Bp |>.cells rfl)) (Ext.refl _) ⟨_, rfl, ReAt.ext (X0.trans X) _ (ReAt.ext E2 a fa)⟩
        refine DagSteps.cons (fun s' w' X U H => ⟨?_, ?_⟩) ?_
        · exact Guarded_some rfl rfl (d := 87) (H 61 rfl 87 (.eq (.bool true)) rfl (by rw [hFs5]; rfl))
        · obtain ⟨v92, e92, r92⟩ : (Fact.re a).In (s' 92) w' := H 66 rfl 92 (.re a) rfl (by rw [hFs5]; rfl)
          have e91 : s' 91 = (.func (.func 15) #[] #[]) := H 65 rfl 91 (.eq (.func (.func 15) #[] #[])) rfl (by rw [hFs5]; rfl)
          exact Does_enter (r_callV (first := #[]) (cap := #[]) (vs := [(.agg v92.toArray), (.bool true)]) (ws := #[(.agg v92.toArray), (.bool true)]) e91 Tryd.func15 nm15 bd15 (lst2 e92 rfl) rfl) (look_d true r92)
        refine DagSteps.cons (fun s' w' X U H => ⟨?_, ?_⟩) ?_
        · exact Guarded_some rfl rfl (d := 87) (H 61 rfl 87 (.eq (.bool true)) rfl (by rw [hFs5]; rfl))
        · obtain ⟨v90, e90, r90⟩ : (Fact.re (lookT a false)).In (s' 90) w' := H 64 rfl 90 (.re (lookT a false)) rfl (by rw [hFs5]; rfl)
          obtain ⟨v93, e93, r93⟩ : (Fact.re (lookT a true)).In (s' 93) w' := H 67 rfl 93 (.re (lookT a true)) rfl (by rw [hFs5]; rfl)
          exact Does_res2 Tryd.underlying25 siz27 zer27 e90 e93 r90 r93
        refine DagSteps.cons (fun s' w' X U H => ⟨?_, ?_⟩) ?_
        · exact Guarded_some rfl rfl (d := 87) (H 61 rfl 87 (.eq (.bool true)) rfl (by rw [hFs5]; rfl))
        · obtain ⟨b94, e94, r94⟩ : (Fact.res [lookT a false, lookT a true]).In (s' 94) w' := H 68 rfl 94 (.res [lookT a false, lookT a true]) rfl (by rw [hFs5]; rfl)
          exact Does_enter (r_callF (vs := [(.int .i64 4), (.slice (some ⟨b94, 0, none⟩) 2 2)]) Tryd.func12 nm12 bd12 (lst2 rfl e94)) (re_d 4 [lookT a false, lookT a true] r94 (by simp))
        refine DagSteps.cons (fun s' w' X U H => ⟨?_, ?_⟩) ?_
        · exact Guarded_some rfl rfl (d := 87) (H 61 rfl 87 (.eq (.bool true)) rfl (by rw [hFs5]; rfl))
        · exact Does_enter (r_callF (vs := [(.int .i64 1), (.slice none 0 0)]) Tryd.func12 nm12 bd12 (lst2 rfl rfl)) (re_d0 _ 1)
        refine DagSteps.cons (fun s' w' X U H => ⟨?_, ?_⟩) ?_
        · exact Guarded_some rfl rfl (d := 87) (H 61 rfl 87 (.eq (.bool true)) rfl (by rw [hFs5]; rfl))
        · exact Does_val (r_move (v := (.slice ta text.length tc)) (U 9 rfl)) (Ext.refl _) rfl
        refine DagSteps.cons (fun s' w' X U H => ⟨?_, ?_⟩) ?_
        · exact Guarded_some rfl rfl (d := 87) (H 61 rfl 87 (.eq (.bool true)) rfl (by rw [hFs5]; rfl))
        · obtain ⟨v95, e95, r95⟩ : (Fact.re (.mk 4 [] [lookT a false, lookT a true] 0 0 false)).In (s' 95) w' := H 69 rfl 95 (.re (.mk 4 [] [lookT a false, lookT a true] 0 0 false)) rfl (by rw [hFs5]; rfl)
          obtain ⟨v96, e96, r96⟩ : (Fact.re (.mk 1 [] [] 0 0 false)).In (s' 96) w' := H 70 rfl 96 (.re (.mk 1 [] [] 0 0 false)) rfl (by rw [hFs5]; rfl)
          have e97 : s' 97 = (.slice ta text.length tc) := H 71 rfl 97 (.eq (.slice ta text.length tc)) rfl (by rw [hFs5]; rfl)
          exact Does_enter (r_callF (vs := [(.agg v95.toArray), (.agg v96.toArray), (.slice ta text.length tc)]) Tryd.func13 nm13 bd13 (lst3 e95 e96 e97)) (same_d r95 r96 (hx.ext (E2.ext (X0.trans X))) (hT.ext (E.ext (X0.trans X))) (bo6 htx oka (by omega)))
        refine DagSteps.cons (fun s' w' X U H => ⟨?_, ?_⟩) ?_
        · exact Guarded_none rfl
        · have e87 : s' 87 = (.bool true) := H 61 rfl 87 (.eq (.bool true)) rfl (by rw [hFs5]; rfl)
          have e98 : s' 98 = (.bool true) := H 72 rfl 98 (.eq (.bool true)) rfl (by rw [hFs5]; rfl)
          exact Does_val (r_pick (b := true) (v := (.bool true)) e87 e98) (Ext.refl _) rfl
        refine DagSteps.cons (fun s' w' X U H => ⟨?_, ?_⟩) ?_
        · exact Guarded_none rfl
        · have e99 : s' 99 = (.bool true) := H 73 rfl 99 (.eq (.bool true)) rfl (by rw [hFs5]; rfl)
          exact Does_val (r_assign (v := (.bool true)) e99) (Ext.refl _) rfl
        exact DagSteps.nil
      · intro s' w5 X5 U H
        obtain ⟨j5, rfl⟩ := Fits.out (σ := s') (l := [(6, (.bool true))]) ⟨(show s' 6 = (.bool true) from H 74 6 (.eq (.bool true)) rfl (by rw [hFs5]; rfl)), trivial⟩
        clear U H
        replace Bp := X5.keep Bp
        replace Bq := X5.keep Bq
        replace E := E.ext X5
        replace E2 := E2.ext X5
        refine thn_normal ?_
        refine Wp_ret ?_
        refine fin_tmp Tryd.results4 (v := (.bool true)) rfl ?_
        exact ⟨rfl, E⟩
end Go.Proofs
