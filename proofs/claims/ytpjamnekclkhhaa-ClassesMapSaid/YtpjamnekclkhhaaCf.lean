/- classes.Meet, and what classesBegun asks. -/
import Derived.Test.YtpjamnekclkhhaaCe
import Derived.Test.YtpjamnekclkhhaaCc
namespace Go.Proofs
open Go Go.Eng Go.Sort
set_option maxRecDepth 100000

theorem begun_plain {out : List (List Sp)} {e : Int} (h : clsP [[(97, 99)], [(98, 98)]] out e) : e = 0 ∧ out = [[(0, 96), (100, 1114111)], [(97, 97), (99, 99)], [(98, 98)]] := by
  have c1 : Canon [((97 : Int), (99 : Int))] := Canon.one (by unfold vSp; simp)
  have c2 : Canon [((98 : Int), (98 : Int))] := Canon.one (by unfold vSp; simp)
  rcases h with ⟨h1, _⟩ | ⟨_, cs, hc, hf⟩
  · refine absurd (badE_zero fun l hl => ?_) h1
    simp at hl
    rcases hl with rfl | rfl
    · exact checkE_ok c1 (by simp)
    · exact checkE_ok c2 (by simp)
  · obtain ⟨p, hp, hl, hm⟩ := hc
    have e1 : p = [0, 97, 98, 99, 100] := lt_unique hp.1 (by simp) fun x => by
      rw [hp.2 x]
      unfold PieceP
      simp
      omega
    subst e1
    have e2 : firsts (([0, 97, 98, 99, 100] : List Int).map (markL [[(97, 99)], [(98, 98)]])) = [[false, false], [true, false], [true, true]] := by decide
    rw [e2] at hl hm
    have mk : ∀ r, markL [[(97, 99)], [(98, 98)]] r = [decide (97 ≤ r) && decide (r ≤ 99), decide (98 ≤ r) && decide (r ≤ 98)] := fun r => by simp [markL, inS]
    obtain ⟨x, y, z, rfl⟩ : ∃ x y z, cs = [x, y, z] := by
      rcases cs with _ | ⟨x, _ | ⟨y, _ | ⟨z, _ | ⟨u, t⟩⟩⟩⟩ <;> simp at hl
      exact ⟨x, y, z, rfl⟩
    have h0 := hm 0 _ x rfl rfl
    have h1 := hm 1 _ y rfl rfl
    have h2 := hm 2 _ z rfl rfl
    have ex : x = [(0, 96), (100, 1114111)] := canon_ext h0.1 (canon_two (by decide) (by decide) (by decide) (by decide) (by decide)) fun r r0 r1 => by
      rw [h0.2 r r0 r1, Bool.eq_iff_iff, decide_eq_true_eq, mk]
      simp only [inS_cons, inS_nil, Bool.or_false, Bool.or_eq_true, Bool.and_eq_true, decide_eq_true_eq, List.cons.injEq, and_true, Bool.and_eq_false_iff, decide_eq_false_iff_not]
      omega
    have ey : y = [(97, 97), (99, 99)] := canon_ext h1.1 (canon_two (by decide) (by decide) (by decide) (by decide) (by decide)) fun r r0 r1 => by
      rw [h1.2 r r0 r1, Bool.eq_iff_iff, decide_eq_true_eq, mk]
      simp only [inS_cons, inS_nil, Bool.or_false, Bool.or_eq_true, Bool.and_eq_true, decide_eq_true_eq, List.cons.injEq, and_true, Bool.and_eq_false_iff, decide_eq_false_iff_not]
      omega
    have ez : z = [(98, 98)] := canon_ext h2.1 c2 fun r r0 r1 => by
      rw [h2.2 r r0 r1, Bool.eq_iff_iff, decide_eq_true_eq, mk]
      simp only [inS_cons, inS_nil, Bool.or_false, Bool.and_eq_true, decide_eq_true_eq, List.cons.injEq, and_true]
      omega
    subst ex; subst ey; subst ez
    rcases hf with ⟨h5, _⟩ | ⟨_, h5, h6⟩
    · rcases h5 with ⟨c, hc, h6⟩ | h6
      · simp at hc
        rcases hc with rfl | rfl | rfl <;> simp at h6
      · simp at h6
    · exact ⟨h5, h6⟩
theorem SpssAt.two {w : World} {b : Nat} {x y : Value} {A B : List Sp} {T : Nat} (hB : Blk w b #[x, y] T) (hx : SpansAt w x A) (hy : SpansAt w y B) : SpssAt w (.slice (some ⟨b, 0, none⟩) 2 2) [A, B] := by
  refine ⟨[x, y], ⟨some ⟨b, 0, none⟩, 2, rfl, show (2 : Nat) ≤ 9223372036854775807 by decide, Nat.le_refl 2, .inr ⟨b, 0, rfl, ?_⟩⟩, rfl, ?_⟩
  · intro i r hr j u hu
    rcases i with _ | _ | i <;> simp at hr <;> subst hr <;> (cases j with
      | zero => simp at hu; subst hu; exact hB.cell rfl
      | succ j => simp at hu)
  · intro i u l hu hl
    rcases i with _ | _ | i <;> simp at hu hl <;> subst hu <;> subst hl <;> assumption
theorem ofBegun_c (w0 : World) (v : Value) (h : SpssAt w0 v [[(97, 99)], [(98, 98)]]) :
    Ret Try.prog 40 #[v] w0 fun r w => (∃ b o c ra rc sa sc, r = .tuple #[.slice (some ⟨b, o, none⟩) 3 c, .int .i64 0] ∧ w.cell? ⟨b, o + 0, none⟩ = some (.slice ra 2 rc) ∧ w.cell? ⟨b, o + 2, none⟩ = some (.slice sa 1 sc) ∧ SpansAt w (.slice sa 1 sc) [(98, 98)]) ∧ Ext w0 w :=
  (of_c w0 v _ h (by simp) (by simp)).mono fun r w ⟨⟨out, e, hP, a, c, h1, h2⟩, hx⟩ => by
    obtain ⟨rfl, rfl⟩ := begun_plain hP
    refine ⟨?_, hx⟩
    obtain ⟨b, o, rfl, hcl⟩ := spss_cells h2 (by simp)
    obtain ⟨ra, rc, h3, h4⟩ := hcl 0 _ rfl
    obtain ⟨sa, sc, h5, h6⟩ := hcl 2 _ rfl
    exact ⟨b, o, c, ra, rc, sa, sc, h1, h3, h5, h6⟩
def spn1F (lo hi : Int) : Fct := fun v w => ∃ b, v = .slice (some ⟨b, 0, none⟩) 1 1 ∧ SpansAt w v [(lo, hi)]
theorem spn1F_ext (lo hi : Int) : ∀ v w w', Ext w w' → spn1F lo hi v w → spn1F lo hi v w' := by
  rintro v w w' e ⟨b, h1, h2⟩
  exact ⟨b, h1, h2.ext e⟩
theorem Does_spn1 {N : Nat} {σ : Env} {w : World} {dst : Option Tmp} {ty : TypeId} {pos : String} {af : Array Edge} {g : Option (Nat × Bool)} {x : Operand} {lo hi : Int} (hx : ev σ x = .agg #[.int .i64 lo, .int .i64 hi]) :
    Does Try.prog N ⟨dst, .buildSlice 23 1 #[(0, x)], ty, pos, af, g⟩ (spn1F lo hi) σ w := by
  have hn := New.mk' w #[.int .i64 lo, .int .i64 hi] 37
  exact Does_val (run_buildSlice (parts := [(0, x)]) (ps := [(0, .agg #[.int .i64 lo, .int .i64 hi])]) (by simp only [List.map, hx]) Try.underlying23 siz37 zer37 (by decide) (by decide) (by kernel_rfl)) hn.ext ⟨_, rfl, spans_of_blk [(lo, hi)] hn.blk (by simp) (by simp)⟩
set_option maxHeartbeats 1000000 in
theorem cbegun_c (w0 : World) : Ret Try.prog 42 #[] w0 fun v w => v = .bool true ∧ Ext w0 w := by
  refine Ret_of Try.func42 rfl Try.ntmps42 (Nat.le_of_ble_eq_true rfl) ?_
  have E : Chg none1 w0 w0 := Chg.refl _ _
  refine Wp_seq_region ?_
  refine WpL_val rfl rfl (by decide) (r_assign (v := (.bool false)) rfl) ?_
  refine WpL_nil ?_
  refine Wp_seq_region ?_
  refine WpL_enter rfl rfl (by decide) (r_callF (vs := [(.int .i64 97), (.int .i64 99)]) Try.func72 nm72 bd72 rfl) (sp_c _ 97 99) ?_
  rintro _ w1 ⟨rfl, X1⟩
  replace E := E.ext X1
  refine s_buildSlice (ps := [(0, (.agg #[(.int .i64 97), (.int .i64 99)]))]) (c := #[(.int .i64 97), (.int .i64 99)]) (by decide) rfl Try.underlying23 siz37 zer37 (by decide) (by decide) (by kernel_rfl) ?_
  intro bq wq Nq
  have Fq := Nq.ge E
  replace E := E.ext Nq.ext
  have Bq := Nq.blk
  refine WpL_enter rfl rfl (by decide) (r_callF (vs := [(.int .i64 98), (.int .i64 98)]) Try.func72 nm72 bd72 rfl) (sp_c _ 98 98) ?_
  rintro _ w2 ⟨rfl, X2⟩
  replace Bq := X2.keep Bq
  replace E := E.ext X2
  refine s_buildSlice (ps := [(0, (.agg #[(.int .i64 98), (.int .i64 98)]))]) (c := #[(.int .i64 98), (.int .i64 98)]) (by decide) rfl Try.underlying23 siz37 zer37 (by decide) (by decide) (by kernel_rfl) ?_
  intro bt wt Nt
  have Ft := Nt.ge E
  have Ot_bq := Nt.lt Bq
  replace Bq := Nt.keep Bq
  replace E := E.ext Nt.ext
  have Bt := Nt.blk
  refine s_buildSlice (ps := [(0, (.slice (some ⟨bq, 0, none⟩) 1 1)), (1, (.slice (some ⟨bt, 0, none⟩) 1 1))]) (c := #[(.slice (some ⟨bq, 0, none⟩) 1 1), (.slice (some ⟨bt, 0, none⟩) 1 1)]) (by decide) rfl Try.underlying53 siz23 zer23 (by decide) (by decide) (by kernel_rfl) ?_
  intro bs ws Ns
  have Fs := Ns.ge E
  have Os_bq := Ns.lt Bq
  have Os_bt := Ns.lt Bt
  replace Bq := Ns.keep Bq
  replace Bt := Ns.keep Bt
  replace E := E.ext Ns.ext
  have Bs := Ns.blk
  refine WpL_enter rfl rfl (by decide) (r_callF (vs := [(.slice (some ⟨bs, 0, none⟩) 2 2)]) Try.func40 nm40 bd40 rfl) (ofBegun_c _ _ (SpssAt.two Bs (spans_of_blk [(97, 99)] Bq (by simp) (by simp)) (spans_of_blk [(98, 98)] Bt (by simp) (by simp)))) ?_
  rintro _ w3 ⟨⟨b, o, c, ra, rc, sa, sc, rfl, h1, h2, h3⟩, X3⟩
  replace Bq := X3.keep Bq
  replace Bt := X3.keep Bt
  replace Bs := X3.keep Bs
  replace E := E.ext X3
  refine WpL_val rfl rfl (by decide) (r_move (v := (.tuple #[(.slice (some ⟨b, o, none⟩) 3 c), (.int .i64 0)])) rfl) ?_
  refine WpL_val rfl rfl (by decide) (r_extract (vs := #[(.slice (some ⟨b, o, none⟩) 3 c), (.int .i64 0)]) (v := (.slice (some ⟨b, o, none⟩) 3 c)) rfl rfl) ?_
  refine WpL_val rfl rfl (by decide) (r_extract (vs := #[(.slice (some ⟨b, o, none⟩) 3 c), (.int .i64 0)]) (v := (.int .i64 0)) rfl rfl) ?_
  refine WpL_val rfl rfl (by decide) (r_assign (v := (.slice (some ⟨b, o, none⟩) 3 c)) rfl) ?_
  refine WpL_val rfl rfl (by decide) (r_assign (v := (.int .i64 0)) rfl) ?_
  refine WpL_nil ?_
  refine Wp_seq ?_
  obtain ⟨Fs1, hFs1⟩ : ∃ Fs : List Fact, Fs = [.eq (.int .i64 0), .eq (.bool true), .eq (.bool true), .eq (.slice (some ⟨b, o, none⟩) 3 c), .eq (.int .i64 3), .eq (.bool true), .eq (.bool true), .eq (.bool true), .eq (.slice (some ⟨b, o, none⟩) 3 c), .eq (.pointer (some ⟨b, o + 0, none⟩)), .eq (.slice ra 2 rc), .eq (.int .i64 2), .eq (.bool true), .eq (.bool true), .eq (.bool true), .eq (.slice (some ⟨b, o, none⟩) 3 c), .eq (.pointer (some ⟨b, o + 2, none⟩)), .eq (.slice sa 1 sc), .eq (.agg #[(.int .i64 98), (.int .i64 98)]), .gen (spn1F 98 98) (spn1F_ext _ _), .eq (.bool true), .eq (.bool true), .eq (.bool true)] := ⟨_, rfl⟩
  refine Wp_dag [12, 13, 14, 15, 16, 17, 18, 19, 20, 21, 22, 23, 24, 25, 26, 27, 28, 29, 30, 31, 32, 33, 0] [[], [0], [1], [2], [2, 3], [2, 4], [2, 5], [2, 6], [7], [7, 8], [7, 9], [7, 10], [7, 11], [7, 12], [7, 13], [14], [14, 15], [14, 16], [14], [14, 18], [14, 17, 18, 19], [14, 20], [0, 1, 2, 3, 4, 5, 6, 7, 8, 9, 10, 11, 12, 13, 14, 15, 16, 17, 18, 19, 20, 21]] Fs1 hFs1 mixed (by kernel_rfl) (by kernel_rfl) ?_ ?_
  · intro wd X0
    refine DagSteps.cons (fun s' w' X U H => Or.inl ⟨?_, ?_⟩) ?_
    · exact Guarded_none rfl
    · exact Does_val (r_move (v := (.int .i64 0)) (U 2 rfl)) (Ext.refl _) rfl
    refine DagSteps.cons (fun s' w' X U H => Or.inl ⟨?_, ?_⟩) ?_
    · exact Guarded_none rfl
    · have e12 : s' 12 = (.int .i64 0) := H 0 rfl 12 (.eq (.int .i64 0)) rfl (by rw [hFs1]; rfl)
      exact Does_val (r_eql (k := .i64) (a := 0) (b := 0) e12 rfl) (Ext.refl _) rfl
    refine DagSteps.cons (fun s' w' X U H => Or.inl ⟨?_, ?_⟩) ?_
    · exact Guarded_none rfl
    · have e13 : s' 13 = (.bool true) := H 1 rfl 13 (.eq (.bool true)) rfl (by rw [hFs1]; rfl)
      exact Does_val (r_move (v := (.bool true)) e13) (Ext.refl _) rfl
    refine DagSteps.cons (fun s' w' X U H => Or.inl ⟨?_, ?_⟩) ?_
    · exact Guarded_some rfl rfl (d := 14) (H 2 rfl 14 (.eq (.bool true)) rfl (by rw [hFs1]; rfl))
    · exact Does_val (r_move (v := (.slice (some ⟨b, o, none⟩) 3 c)) (U 1 rfl)) (Ext.refl _) rfl
    refine DagSteps.cons (fun s' w' X U H => Or.inl ⟨?_, ?_⟩) ?_
    · exact Guarded_some rfl rfl (d := 14) (H 2 rfl 14 (.eq (.bool true)) rfl (by rw [hFs1]; rfl))
    · have e15 : s' 15 = (.slice (some ⟨b, o, none⟩) 3 c) := H 3 rfl 15 (.eq (.slice (some ⟨b, o, none⟩) 3 c)) rfl (by rw [hFs1]; rfl)
      exact Does_val (r_lenSlice (ad := some ⟨b, o, none⟩) (n := 3) (cap := c) Try.underlying53 e15) (Ext.refl _) rfl
    refine DagSteps.cons (fun s' w' X U H => Or.inl ⟨?_, ?_⟩) ?_
    · exact Guarded_some rfl rfl (d := 14) (H 2 rfl 14 (.eq (.bool true)) rfl (by rw [hFs1]; rfl))
    · have e16 : s' 16 = (.int .i64 3) := H 4 rfl 16 (.eq (.int .i64 3)) rfl (by rw [hFs1]; rfl)
      exact Does_val (r_eql (k := .i64) (a := 3) (b := 3) e16 rfl) (Ext.refl _) rfl
    refine DagSteps.cons (fun s' w' X U H => Or.inl ⟨?_, ?_⟩) ?_
    · exact Guarded_none rfl
    · have e14 : s' 14 = (.bool true) := H 2 rfl 14 (.eq (.bool true)) rfl (by rw [hFs1]; rfl)
      have e17 : s' 17 = (.bool true) := H 5 rfl 17 (.eq (.bool true)) rfl (by rw [hFs1]; rfl)
      exact Does_val (r_pick (b := true) (v := (.bool true)) e14 e17) (Ext.refl _) rfl
    refine DagSteps.cons (fun s' w' X U H => Or.inl ⟨?_, ?_⟩) ?_
    · exact Guarded_none rfl
    · have e18 : s' 18 = (.bool true) := H 6 rfl 18 (.eq (.bool true)) rfl (by rw [hFs1]; rfl)
      exact Does_val (r_move (v := (.bool true)) e18) (Ext.refl _) rfl
    refine DagSteps.cons (fun s' w' X U H => Or.inl ⟨?_, ?_⟩) ?_
    · exact Guarded_some rfl rfl (d := 19) (H 7 rfl 19 (.eq (.bool true)) rfl (by rw [hFs1]; rfl))
    · exact Does_val (r_move (v := (.slice (some ⟨b, o, none⟩) 3 c)) (U 1 rfl)) (Ext.refl _) rfl
    refine DagSteps.cons (fun s' w' X U H => Or.inl ⟨?_, ?_⟩) ?_
    · exact Guarded_some rfl rfl (d := 19) (H 7 rfl 19 (.eq (.bool true)) rfl (by rw [hFs1]; rfl))
    · have e20 : s' 20 = (.slice (some ⟨b, o, none⟩) 3 c) := H 8 rfl 20 (.eq (.slice (some ⟨b, o, none⟩) 3 c)) rfl (by rw [hFs1]; rfl)
      exact Does_val (r_indexSlice (b := b) (o := o) (len := 3) (cap := c) (i := 0) (o' := o + 0) e20 rfl rfl Try.underlying53 siz23 (by omega) (by omega)) (Ext.refl _) rfl
    refine DagSteps.cons (fun s' w' X U H => Or.inl ⟨?_, ?_⟩) ?_
    · exact Guarded_some rfl rfl (d := 19) (H 7 rfl 19 (.eq (.bool true)) rfl (by rw [hFs1]; rfl))
    · have e21 : s' 21 = (.pointer (some ⟨b, o + 0, none⟩)) := H 9 rfl 21 (.eq (.pointer (some ⟨b, o + 0, none⟩))) rfl (by rw [hFs1]; rfl)
      exact Does_val (r_load (v := (.slice ra 2 rc)) e21 flat23 ((X0.trans X).cell h1)) (Ext.refl _) rfl
    refine DagSteps.cons (fun s' w' X U H => Or.inl ⟨?_, ?_⟩) ?_
    · exact Guarded_some rfl rfl (d := 19) (H 7 rfl 19 (.eq (.bool true)) rfl (by rw [hFs1]; rfl))
    · have e22 : s' 22 = (.slice ra 2 rc) := H 10 rfl 22 (.eq (.slice ra 2 rc)) rfl (by rw [hFs1]; rfl)
      exact Does_val (r_lenSlice (ad := ra) (n := 2) (cap := rc) Try.underlying23 e22) (Ext.refl _) rfl
    refine DagSteps.cons (fun s' w' X U H => Or.inl ⟨?_, ?_⟩) ?_
    · exact Guarded_some rfl rfl (d := 19) (H 7 rfl 19 (.eq (.bool true)) rfl (by rw [hFs1]; rfl))
    · have e23 : s' 23 = (.int .i64 2) := H 11 rfl 23 (.eq (.int .i64 2)) rfl (by rw [hFs1]; rfl)
      exact Does_val (r_eql (k := .i64) (a := 2) (b := 2) e23 rfl) (Ext.refl _) rfl
    refine DagSteps.cons (fun s' w' X U H => Or.inl ⟨?_, ?_⟩) ?_
    · exact Guarded_none rfl
    · have e19 : s' 19 = (.bool true) := H 7 rfl 19 (.eq (.bool true)) rfl (by rw [hFs1]; rfl)
      have e24 : s' 24 = (.bool true) := H 12 rfl 24 (.eq (.bool true)) rfl (by rw [hFs1]; rfl)
      exact Does_val (r_pick (b := true) (v := (.bool true)) e19 e24) (Ext.refl _) rfl
    refine DagSteps.cons (fun s' w' X U H => Or.inl ⟨?_, ?_⟩) ?_
    · exact Guarded_none rfl
    · have e25 : s' 25 = (.bool true) := H 13 rfl 25 (.eq (.bool true)) rfl (by rw [hFs1]; rfl)
      exact Does_val (r_move (v := (.bool true)) e25) (Ext.refl _) rfl
    refine DagSteps.cons (fun s' w' X U H => Or.inl ⟨?_, ?_⟩) ?_
    · exact Guarded_some rfl rfl (d := 26) (H 14 rfl 26 (.eq (.bool true)) rfl (by rw [hFs1]; rfl))
    · exact Does_val (r_move (v := (.slice (some ⟨b, o, none⟩) 3 c)) (U 1 rfl)) (Ext.refl _) rfl
    refine DagSteps.cons (fun s' w' X U H => Or.inl ⟨?_, ?_⟩) ?_
    · exact Guarded_some rfl rfl (d := 26) (H 14 rfl 26 (.eq (.bool true)) rfl (by rw [hFs1]; rfl))
    · have e27 : s' 27 = (.slice (some ⟨b, o, none⟩) 3 c) := H 15 rfl 27 (.eq (.slice (some ⟨b, o, none⟩) 3 c)) rfl (by rw [hFs1]; rfl)
      exact Does_val (r_indexSlice (b := b) (o := o) (len := 3) (cap := c) (i := 2) (o' := o + 2) e27 rfl rfl Try.underlying53 siz23 (by omega) (by omega)) (Ext.refl _) rfl
    refine DagSteps.cons (fun s' w' X U H => Or.inl ⟨?_, ?_⟩) ?_
    · exact Guarded_some rfl rfl (d := 26) (H 14 rfl 26 (.eq (.bool true)) rfl (by rw [hFs1]; rfl))
    · have e28 : s' 28 = (.pointer (some ⟨b, o + 2, none⟩)) := H 16 rfl 28 (.eq (.pointer (some ⟨b, o + 2, none⟩))) rfl (by rw [hFs1]; rfl)
      exact Does_val (r_load (v := (.slice sa 1 sc)) e28 flat23 ((X0.trans X).cell h2)) (Ext.refl _) rfl
    refine DagSteps.cons (fun s' w' X U H => Or.inl ⟨?_, ?_⟩) ?_
    · exact Guarded_some rfl rfl (d := 26) (H 14 rfl 26 (.eq (.bool true)) rfl (by rw [hFs1]; rfl))
    · exact Does_enter (r_callF (vs := [(.int .i64 98), (.int .i64 98)]) Try.func72 nm72 bd72 (lst2 rfl rfl)) (sp_c _ 98 98)
    refine DagSteps.cons (fun s' w' X U H => Or.inl ⟨?_, ?_⟩) ?_
    · exact Guarded_some rfl rfl (d := 26) (H 14 rfl 26 (.eq (.bool true)) rfl (by rw [hFs1]; rfl))
    · have e30 : s' 30 = (.agg #[(.int .i64 98), (.int .i64 98)]) := H 18 rfl 30 (.eq (.agg #[(.int .i64 98), (.int .i64 98)])) rfl (by rw [hFs1]; rfl)
      exact Does_spn1 e30
    refine DagSteps.cons (fun s' w' X U H => Or.inl ⟨?_, ?_⟩) ?_
    · exact Guarded_some rfl rfl (d := 26) (H 14 rfl 26 (.eq (.bool true)) rfl (by rw [hFs1]; rfl))
    · have e29 : s' 29 = (.slice sa 1 sc) := H 17 rfl 29 (.eq (.slice sa 1 sc)) rfl (by rw [hFs1]; rfl)
      obtain ⟨b31, e31, h31⟩ := H 19 rfl 31 (.gen (spn1F 98 98) (spn1F_ext _ _)) rfl (by rw [hFs1]; rfl)
      exact Does_enter (r_callF (vs := [(.slice sa 1 sc), (.slice (some ⟨b31, 0, none⟩) 1 1)]) Try.func30 nm30 bd30 (lst2 e29 e31)) (rspeq_c _ _ _ [(98, 98)] [(98, 98)] (h3.ext (X0.trans X)) (e31 ▸ h31))
    refine DagSteps.cons (fun s' w' X U H => Or.inl ⟨?_, ?_⟩) ?_
    · exact Guarded_none rfl
    · have e26 : s' 26 = (.bool true) := H 14 rfl 26 (.eq (.bool true)) rfl (by rw [hFs1]; rfl)
      have e32 : s' 32 = (.bool true) := H 20 rfl 32 (.eq (.bool true)) rfl (by rw [hFs1]; rfl)
      exact Does_val (r_pick (b := true) (v := (.bool true)) e26 e32) (Ext.refl _) rfl
    refine DagSteps.cons (fun s' w' X U H => Or.inl ⟨?_, ?_⟩) ?_
    · exact Guarded_none rfl
    · have e33 : s' 33 = (.bool true) := H 21 rfl 33 (.eq (.bool true)) rfl (by rw [hFs1]; rfl)
      exact Does_val (r_assign (v := (.bool true)) e33) (Ext.refl _) rfl
    exact DagSteps.nil
  · intro s' w1 X1 U H
    obtain ⟨j1, rfl⟩ := Fits.out (σ := s') (l := [(0, (.bool true))]) ⟨(show s' 0 = (.bool true) from H 22 0 (.eq (.bool true)) rfl (by rw [hFs1]; rfl)), trivial⟩
    clear U H
    replace Bq := X1.keep Bq
    replace Bt := X1.keep Bt
    replace Bs := X1.keep Bs
    replace E := E.ext X1
    refine thn_normal ?_
    refine Wp_ret ?_
    refine fin_tmp Try.results42 (v := (.bool true)) rfl ?_
    exact ⟨rfl, E⟩
theorem grow2_c (w0 : World) (n : Nat) (hn : n ≤ 1048576) :
    Ret Try.prog 103 #[.slice none 0 0, .int .i64 ((n : Nat) : Int)] w0 fun r w => (∃ a c, r = .slice a 0 c) ∧ w.ownsRow w0.heap.size TSs 1 r 0 [] ∧ Ext w0 w := by
  refine Ret_of Try.func103 rfl Try.ntmps103 (Nat.le_of_ble_eq_true rfl) ?_
  have E : Chg none1 w0 w0 := Chg.refl _ _
  refine Wp_seq_region ?_
  refine WpL_val rfl rfl (by decide) (r_assign (v := (.slice none 0 0)) rfl) ?_
  refine WpL_nil ?_
  refine Wp_seq ?_
  refine Wp_seq_region ?_
  refine WpL_val rfl rfl (by decide) (r_move (v := (.int .i64 ((n : Nat) : Int))) rfl) ?_
  refine WpL_val rfl rfl (by decide) (r_lss (k := .i64) (a := ((n : Nat) : Int)) (b := 0) rfl rfl) ?_
  refine WpL_nil ?_
  have hc1 : (decide ((((n : Nat) : Int) : Int) < 0)) = false := decide_eq_false (by omega)
  refine Wp_cond_false (congrArg Value.bool hc1) ?_
  refine Wp_skip ?_
  refine thn_normal ?_
  refine Wp_seq ?_
  refine Wp_seq_region ?_
  refine WpL_val rfl rfl (by decide) (r_move (v := (.int .i64 ((n : Nat) : Int))) rfl) ?_
  refine WpL_val rfl rfl (by decide) (r_move (v := (.slice none 0 0)) rfl) ?_
  refine WpL_val rfl rfl (by decide) (r_capSlice (n := 0) (cap := 0) Try.underlying53 rfl) ?_
  refine WpL_val rfl rfl (by decide) (r_move (v := (.slice none 0 0)) rfl) ?_
  refine WpL_val rfl rfl (by decide) (r_lenSlice (ad := none) (n := 0) (cap := 0) Try.underlying53 rfl) ?_
  refine WpL_val rfl rfl (by decide) (r_sub (k := .i64) (a := 0) (b := 0) (c := 0) rfl rfl (by decide)) ?_
  refine WpL_val rfl rfl (by decide) (r_sub (k := .i64) (a := ((n : Nat) : Int)) (b := 0) (c := ((n : Nat) : Int)) rfl rfl ((wI64 (by omega)).trans (by omega))) ?_
  refine WpL_val rfl rfl (by decide) (r_assign (v := (.int .i64 ((n : Nat) : Int))) rfl) ?_
  refine WpL_nil ?_
  refine Wp_seq_region ?_
  refine WpL_val rfl rfl (by decide) (r_move (v := (.int .i64 ((n : Nat) : Int))) rfl) ?_
  refine WpL_val rfl rfl (by decide) (r_gtr (k := .i64) (a := ((n : Nat) : Int)) (b := 0) rfl rfl) ?_
  refine WpL_nil ?_
  refine Wp_cond (b := decide ((0 : Int) < ((n : Nat) : Int))) rfl (fun hp => ?_) (fun hp => ?_)
  · have khp := hp
    replace hp := of_decide_eq_true hp
    refine Wp_region ?_
    refine WpL_val rfl rfl (by decide) (r_move (v := (.slice none 0 0)) rfl) ?_
    refine WpL_val rfl rfl (by decide) (r_move (v := (.slice none 0 0)) rfl) ?_
    refine WpL_val rfl rfl (by decide) (r_capSlice (n := 0) (cap := 0) Try.underlying53 rfl) ?_
    obtain ⟨a1, ha1⟩ : ∃ a' : Option Addr, (if 0 = 0 then none else Option.map (fun q : Addr => q.add (0 * 1)) none) = a' := ⟨_, rfl⟩
    refine WpL_val rfl rfl (by decide) (r_sliceHi (a := none) (len := 0) (cap := 0) (hi := 0) (l := 0) Try.underlying53 siz23 rfl rfl (by omega) (by omega) ha1) ?_
    refine WpL_val rfl rfl (by decide) (r_move (v := (.int .i64 ((n : Nat) : Int))) rfl) ?_
    simp at ha1
    subst ha1
    refine s_appendZ (base := w0.heap.size) (n := n) (size := 1) (bytes := 24) (by decide) Try.underlying53 Try.underlying3 siz23 byt23 zer23 rfl (by decide) rfl rfl (by omega) (by omega) (by omega) ?_
    intro cc w9 X9 O9 H9
    replace E := E.ext X9
    refine WpL_val rfl rfl (by decide) (r_move (v := (.slice none 0 0)) rfl) ?_
    refine WpL_val rfl rfl (by decide) (r_lenSlice (ad := none) (n := 0) (cap := 0) Try.underlying53 rfl) ?_
    obtain ⟨a2, ha2⟩ : ∃ a' : Option Addr, (if cc = 0 then (some ⟨w0.heap.size, 0, none⟩) else Option.map (fun q : Addr => q.add (0 * 1)) (some ⟨w0.heap.size, 0, none⟩)) = a' := ⟨_, rfl⟩
    refine WpL_val rfl rfl (by decide) (r_sliceHi (a := (some ⟨w0.heap.size, 0, none⟩)) (len := n) (cap := cc) (hi := 0) (l := 0) Try.underlying53 siz23 rfl rfl (by omega) (by omega) ha2) ?_
    have ha3 : a2 = some ⟨w0.heap.size, 0, none⟩ := by rw [← ha2, if_neg (by omega)]; simp [Addr.add_lit]
    subst ha3
    refine WpL_val rfl rfl (by decide) (r_assign (v := (.slice (some ⟨w0.heap.size, 0, none⟩) 0 cc)) rfl) ?_
    refine WpL_nil ?_
    refine thn_normal ?_
    refine Wp_seq_region ?_
    refine WpL_val rfl rfl (by decide) (r_move (v := (.slice (some ⟨w0.heap.size, 0, none⟩) 0 cc)) rfl) ?_
    refine WpL_val rfl rfl (by decide) (r_assign (v := (.slice (some ⟨w0.heap.size, 0, none⟩) 0 cc)) rfl) ?_
    refine WpL_nil ?_
    refine Wp_ret ?_
    refine fin_tmp Try.results103 (v := (.slice (some ⟨w0.heap.size, 0, none⟩) 0 cc)) rfl ?_
    exact ⟨⟨_, _, rfl⟩, O9, E⟩
  · have khp := hp
    replace hp := of_decide_eq_false hp
    refine Wp_skip ?_
    refine thn_normal ?_
    refine Wp_seq_region ?_
    refine WpL_val rfl rfl (by decide) (r_move (v := (.slice none 0 0)) rfl) ?_
    refine WpL_val rfl rfl (by decide) (r_assign (v := (.slice none 0 0)) rfl) ?_
    refine WpL_nil ?_
    refine Wp_ret ?_
    refine fin_tmp Try.results103 (v := (.slice none 0 0)) rfl ?_
    exact ⟨⟨none, 0, rfl⟩, World.ownsRow_nil _ _ _ _, E⟩
/-! Lists of slice values. -/
def ValsAt (w : World) (v : Value) (us : List Value) : Prop := SlAt w 1 v (us.map fun x => [x]) ∧ ∀ u ∈ us, u.oneCell' = true
theorem ValsAt.ext {w w' : World} {v : Value} {us : List Value} (h : ValsAt w v us) (e : Ext w w') : ValsAt w' v us := ⟨h.1.ext e, h.2⟩
theorem vals_any {w : World} {a : Option Addr} {n c : Nat} {us : List Value} (h : ValsAt w (.slice a n c) us) : (n = 0 ∧ us = []) ∨ ∃ b o, a = some ⟨b, o, none⟩ ∧ CellsAt w b o us := by
  have hn : n = us.length := by have := (SlAt.cap h.1).2; simpa using this.symm
  rcases Nat.eq_zero_or_pos n with h0 | h0
  · left; exact ⟨h0, List.eq_nil_of_length_eq_zero (by omega)⟩
  · right
    obtain ⟨b, o, ha, hc⟩ := SlAt.at h.1 h0
    refine ⟨b, o, ha, fun i u hu => ?_⟩
    have := hc i [u] (by simp [hu]) 0 _ rfl
    simpa using this
theorem ValsAt.form {w : World} {v : Value} {us : List Value} (h : ValsAt w v us) : ∃ a c, v = .slice a us.length c := by
  obtain ⟨a, c, hv⟩ := SlAt.form h.1
  exact ⟨a, c, by simpa using hv⟩
theorem SpssAt.vals {w : World} {v : Value} {ll : List (List Sp)} (h : SpssAt w v ll) : ∃ us, ValsAt w v us ∧ us.length = ll.length ∧ ∀ (i : Nat) u l, us[i]? = some u → ll[i]? = some l → SpansAt w u l := by
  obtain ⟨us, h1, h2, h3⟩ := h
  refine ⟨us, ⟨h1, fun u hu => ?_⟩, h2, h3⟩
  obtain ⟨i, hi⟩ := List.getElem?_of_mem hu
  obtain ⟨l, hl⟩ := get_of_lt (l := ll) (i := i) (by have := lt_of_get hi; omega)
  obtain ⟨a, c, rfl⟩ := SlAt.form (h3 i u l hi hl)
  rfl
theorem spss_join {w : World} {v : Value} {us vs : List Value} {A B : List (List Sp)} (h : SlAt w 1 v ((us ++ vs).map fun x => [x])) (hu : us.length = A.length) (hv : vs.length = B.length) (h1 : ∀ (i : Nat) u l, us[i]? = some u → A[i]? = some l → SpansAt w u l) (h2 : ∀ (i : Nat) u l, vs[i]? = some u → B[i]? = some l → SpansAt w u l) : SpssAt w v (A ++ B) := by
  refine ⟨us ++ vs, h, by simp [hu, hv], fun i u l hi hl => ?_⟩
  rcases Nat.lt_or_ge i us.length with h3 | h3
  · rw [List.getElem?_append_left h3] at hi
    rw [List.getElem?_append_left (by omega)] at hl
    exact h1 i u l hi hl
  · rw [List.getElem?_append_right h3] at hi
    rw [List.getElem?_append_right (by omega)] at hl
    exact h2 (i - us.length) u l hi (by rw [hu]; exact hl)
theorem own_vals {w : World} {base n : Nat} {v : Value} {us : List Value} (h : w.ownsRow base TSs 1 v n us) (hn : n = us.length) : SlAt w 1 v (us.map fun x => [x]) := by
  rw [show us = (us.map fun x => [x]).flatten by simp [List.flatten_eq_flatMap, List.flatMap_map]] at h
  exact own_slat h (by intro r hr; simp only [List.mem_map] at hr; obtain ⟨x, _, rfl⟩ := hr; rfl) (by simp [hn]) (by decide)
set_option maxHeartbeats 1000000 in
theorem concat2_c (w0 : World) (b : Nat) (x y : Value) (us vs : List Value) (hB : Blk w0 b #[x, y] 53) (hx : ValsAt w0 x us) (hy : ValsAt w0 y vs) (hl : us.length ≤ 16 ∧ vs.length ≤ 16) :
    Ret Try.prog 87 #[.slice (some ⟨b, 0, none⟩) 2 2] w0 fun r w => (∃ a c, r = .slice a (us.length + vs.length) c) ∧ w.ownsRow w0.heap.size TSs 1 r (us.length + vs.length) (us ++ vs) ∧ Ext w0 w := by
  obtain ⟨ax, cx, rfl⟩ := hx.form
  obtain ⟨ay, cy, rfl⟩ := hy.form
  obtain ⟨base, hbase⟩ : ∃ base, base = w0.heap.size := ⟨_, rfl⟩
  rw [← hbase]
  obtain ⟨lss, hlss⟩ : ∃ lss, lss = [us, vs] := ⟨_, rfl⟩
  have hget : ∀ (k : Nat) l, lss[k]? = some l → l.length ≤ 16 ∧ ∃ a c, w0.cell? ⟨b, 0 + k, none⟩ = some (.slice a l.length c) ∧ ValsAt w0 (.slice a l.length c) l := by
    intro k l hk
    subst hlss
    rcases k with _ | _ | k <;> simp at hk
    · subst hk; exact ⟨hl.1, ax, cx, hB.cell rfl, hx⟩
    · subst hk; exact ⟨hl.2, ay, cy, hB.cell rfl, hy⟩
  have hll : lss.length = 2 := by rw [hlss]; rfl
  have hfl : lss.flatten = us ++ vs := by rw [hlss]; simp
  have hfn : lss.flatten.length = us.length + vs.length := by rw [hfl, List.length_append]
  refine Ret_of Try.func87 rfl Try.ntmps87 (Nat.le_of_ble_eq_true rfl) ?_
  have E : Chg none1 w0 w0 := Chg.refl _ _
  refine Wp_seq_region ?_
  refine WpL_val rfl rfl (by decide) (r_assign (v := (.slice none 0 0)) rfl) ?_
  refine WpL_nil ?_
  refine Wp_seq_region ?_
  refine WpL_val rfl rfl (by decide) (r_assign (v := (.int .i64 0)) rfl) ?_
  refine WpL_nil ?_
  refine Wp_seq ?_
  refine Wp_seq_region ?_
  refine WpL_val rfl rfl (by decide) (r_move (v := (.slice (some ⟨b, 0, none⟩) 2 2)) rfl) ?_
  refine WpL_val rfl rfl (by decide) (r_lenSlice (ad := some ⟨b, 0, none⟩) (n := 2) (cap := 2) Try.underlying58 rfl) ?_
  refine WpL_val rfl rfl (by decide) (r_move (v := (.int .i64 0)) rfl) ?_
  refine WpL_nil ?_
  refine Wp_block ?_
  refine Wp_loop (fun nn_ σ W1 => ∃ (k : Nat) (n : Nat), (∃ jj_, σ = upds jj_ [(0, (.slice (some ⟨b, 0, none⟩) 2 2)), (9, (.slice (some ⟨b, 0, none⟩) 2 2)), (10, (.int .i64 2)), (11, (.int .i64 ((k : Nat) : Int))), (3, (.int .i64 ((n : Nat) : Int)))]) ∧ Chg none1 w0 W1 ∧ (k ≤ 2) ∧ (n = (lss.take k).flatten.length) ∧ (n ≤ 16 * k) ∧ nn_ = 2 - k) (n := 2 - 0) ?_ ?_
  · exact ⟨0, 0, Fits.out ⟨rfl, rfl, rfl, rfl, rfl, trivial⟩, E, Nat.zero_le _, rfl, Nat.le_refl _, rfl⟩
  · clear E
    rintro _ _ W1 ⟨k, n, ⟨j1, rfl⟩, E, hk, hn, hn16, rfl⟩
    refine Wp_seq_region ?_
    refine WpL_val rfl rfl (by decide) (r_lss (k := .i64) (a := ((k : Nat) : Int)) (b := 2) rfl rfl) ?_
    refine WpL_nil ?_
    refine Wp_seq ?_
    refine Wp_cond (b := decide ((((k : Nat) : Int) : Int) < 2)) rfl (fun hlt => ?_) (fun hlt => ?_)
    · have khlt := hlt
      replace hlt := of_decide_eq_true hlt
      obtain ⟨l, hx⟩ := get_of_lt (l := lss) (i := k) (by omega)
      obtain ⟨hl16, ra, rc, hcell, hva⟩ := hget k l hx
      refine Wp_skip ?_
      refine thn_normal ?_
      refine Wp_seq ?_
      refine Wp_block ?_
      refine Wp_seq_region ?_
      refine WpL_val rfl rfl (by decide) (r_indexSlice (b := b) (o := 0) (len := 2) (cap := 2) (i := k) (o' := 0 + k) rfl rfl rfl Try.underlying58 siz53 (by omega) (by omega)) ?_
      refine WpL_val rfl rfl (by decide) (r_load (v := (.slice ra l.length rc)) rfl flat53 (E.cell (fun f => f) hcell)) ?_
      refine WpL_val rfl rfl (by decide) (r_assign (v := (.slice ra l.length rc)) rfl) ?_
      refine WpL_nil ?_
      refine Wp_seq_region ?_
      refine WpL_val rfl rfl (by decide) (r_move (v := (.int .i64 ((n : Nat) : Int))) rfl) ?_
      refine WpL_val rfl rfl (by decide) (r_move (v := (.slice ra l.length rc)) rfl) ?_
      refine WpL_val rfl rfl (by decide) (r_lenSlice (ad := ra) (n := l.length) (cap := rc) Try.underlying53 rfl) ?_
      refine WpL_val rfl rfl (by decide) (r_add (k := .i64) (a := ((n : Nat) : Int)) (b := ((l.length : Nat) : Int)) (c := ((n + l.length : Nat) : Int)) rfl rfl ((wI64 (by omega)).trans (by omega))) ?_
      refine WpL_val rfl rfl (by decide) (r_assign (v := (.int .i64 ((n + l.length : Nat) : Int))) rfl) ?_
      refine WpL_nil ?_
      refine Wp_seq_region ?_
      refine WpL_val rfl rfl (by decide) (r_move (v := (.int .i64 ((n + l.length : Nat) : Int))) rfl) ?_
      refine WpL_val rfl rfl (by decide) (r_lss (k := .i64) (a := ((n + l.length : Nat) : Int)) (b := 0) rfl rfl) ?_
      refine WpL_nil ?_
      have hc3 : (decide ((((n + l.length : Nat) : Int) : Int) < 0)) = false := decide_eq_false (by omega)
      refine Wp_cond_false (congrArg Value.bool hc3) ?_
      refine Wp_skip ?_
      refine inB_normal ?_
      refine thn_normal ?_
      refine Wp_region ?_
      refine WpL_val rfl rfl (by decide) (r_add (k := .i64) (a := ((k : Nat) : Int)) (b := 1) (c := ((k : Nat) : Int) + 1) rfl rfl (wI64 (by omega))) ?_
      refine WpL_val rfl rfl (by decide) (r_move (v := (.int .i64 (((k : Nat) : Int) + 1))) rfl) ?_
      refine WpL_nil ?_
      refine thn_normal ?_
      exact ⟨2 - (k + 1), by omega, k + 1, n + l.length, Fits.out ⟨rfl, rfl, rfl, rfl, rfl, trivial⟩, E, (by omega), (by rw [take_snoc hx, List.flatten_append, List.length_append, hn]; simp), (by omega), rfl⟩
    · have khlt := hlt
      replace hlt := of_decide_eq_false hlt
      have hs0 := E.size
      refine Wp_exit ?_
      refine thn_exit ?_
      refine thn_exit ?_
      refine inB_here ?_
      refine thn_normal ?_
      refine Wp_seq_region ?_
      refine WpL_val rfl rfl (by decide) (r_move (v := (.int .i64 ((n : Nat) : Int))) rfl) ?_
      refine WpL_enter rfl rfl (by decide) (r_callF (vs := [(.slice none 0 0), (.int .i64 ((n : Nat) : Int))]) Try.func103 nm103 bd103 rfl) (grow2_c _ n (by omega)) ?_
      rintro _ w9 ⟨⟨ga, gc, rfl⟩, O9, X9⟩
      replace E := E.ext X9
      have hO9 : w9.ownsRow base TSs 1 (.slice ga 0 gc) 0 [] := own_low O9 (by omega)
      refine WpL_val rfl rfl (by decide) (r_assign (v := (.slice ga 0 gc)) rfl) ?_
      refine WpL_nil ?_
      refine Wp_seq ?_
      refine Wp_seq_region ?_
      refine WpL_val rfl rfl (by decide) (r_move (v := (.slice (some ⟨b, 0, none⟩) 2 2)) rfl) ?_
      refine WpL_val rfl rfl (by decide) (r_lenSlice (ad := some ⟨b, 0, none⟩) (n := 2) (cap := 2) Try.underlying58 rfl) ?_
      refine WpL_val rfl rfl (by decide) (r_move (v := (.int .i64 0)) rfl) ?_
      refine WpL_nil ?_
      refine Wp_block ?_
      refine Wp_loop (fun nn_ σ W4 => ∃ (i : Nat) (la : Option Addr) (lc : Nat) (m : Nat), (∃ jj_, σ = upds jj_ [(25, (.slice (some ⟨b, 0, none⟩) 2 2)), (26, (.int .i64 2)), (27, (.int .i64 ((i : Nat) : Int))), (6, (.slice la m lc))]) ∧ Chg none1 w0 W4 ∧ (i ≤ 2) ∧ (m = (lss.take i).flatten.length) ∧ (m ≤ 16 * i) ∧ (W4.ownsRow base TSs 1 (.slice la m lc) m (lss.take i).flatten) ∧ (base ≤ W4.heap.size) ∧ nn_ = 2 - i) (n := 2 - 0) ?_ ?_
      · exact ⟨0, ga, gc, 0, Fits.out ⟨rfl, rfl, rfl, rfl, trivial⟩, E, Nat.zero_le _, rfl, Nat.le_refl _, hO9, (by have := E.size; omega), rfl⟩
      · clear E
        rintro _ _ W4 ⟨i, la, lc, m, ⟨j4, rfl⟩, E, hi, hm, hm16, hown, hbs, rfl⟩
        refine Wp_seq_region ?_
        refine WpL_val rfl rfl (by decide) (r_lss (k := .i64) (a := ((i : Nat) : Int)) (b := 2) rfl rfl) ?_
        refine WpL_nil ?_
        refine Wp_seq ?_
        refine Wp_cond (b := decide ((((i : Nat) : Int) : Int) < 2)) rfl (fun hlt2 => ?_) (fun hlt2 => ?_)
        · have khlt2 := hlt2
          replace hlt2 := of_decide_eq_true hlt2
          obtain ⟨l, hx⟩ := get_of_lt (l := lss) (i := i) (by omega)
          obtain ⟨hl16, ra, rc, hcell, hva⟩ := hget i l hx
          refine Wp_skip ?_
          refine thn_normal ?_
          refine Wp_seq ?_
          refine Wp_block ?_
          refine Wp_seq_region ?_
          refine WpL_val rfl rfl (by decide) (r_indexSlice (b := b) (o := 0) (len := 2) (cap := 2) (i := i) (o' := 0 + i) rfl rfl rfl Try.underlying58 siz53 (by omega) (by omega)) ?_
          refine WpL_val rfl rfl (by decide) (r_load (v := (.slice ra l.length rc)) rfl flat53 (E.cell (fun f => f) hcell)) ?_
          refine WpL_val rfl rfl (by decide) (r_assign (v := (.slice ra l.length rc)) rfl) ?_
          refine WpL_nil ?_
          refine Wp_region ?_
          refine WpL_val rfl rfl (by decide) (r_move (v := (.slice la m lc)) rfl) ?_
          refine WpL_val rfl rfl (by decide) (r_move (v := (.slice ra l.length rc)) rfl) ?_
          refine s_appendAny (base := base) (n := m) (m := l.length) (xs := (lss.take i).flatten) (news := l) (size := 1) (bytes := 24) (v := (.slice la m lc)) (by decide) Try.underlying53 siz23 byt23 zer23 rfl (by decide) rfl hown rfl ((by simp)) (vals_any (hva.ext E)) (hva.2) (by unfold maxLen; omega) (by omega) (hbs) ?_
          intro v9 w29 Ov9 Cv9 Dv9
          replace E := E.step Cv9 (fun x hx h => absurd (hown.lt x h).1 (by omega))
          obtain ⟨la2, lc2, rfl⟩ := own_form Ov9
          refine WpL_val rfl rfl (by decide) (r_assign (v := (.slice la2 (m + l.length) lc2)) rfl) ?_
          refine WpL_nil ?_
          refine inB_normal ?_
          refine thn_normal ?_
          refine Wp_region ?_
          refine WpL_val rfl rfl (by decide) (r_add (k := .i64) (a := ((i : Nat) : Int)) (b := 1) (c := ((i : Nat) : Int) + 1) rfl rfl (wI64 (by omega))) ?_
          refine WpL_val rfl rfl (by decide) (r_move (v := (.int .i64 (((i : Nat) : Int) + 1))) rfl) ?_
          refine WpL_nil ?_
          refine thn_normal ?_
          exact ⟨2 - (i + 1), by omega, i + 1, la2, lc2, m + l.length, Fits.out ⟨rfl, rfl, rfl, rfl, trivial⟩, E, (by omega), (by rw [take_snoc hx, List.flatten_append, List.length_append, hm]; simp), (by omega), (by rw [take_snoc hx, List.flatten_append]; simpa using Ov9), Nat.le_trans hbs Cv9.size, rfl⟩
        · have khlt2 := hlt2
          replace hlt2 := of_decide_eq_false hlt2
          have hii : i = 2 := by omega
          refine Wp_exit ?_
          refine thn_exit ?_
          refine thn_exit ?_
          refine inB_here ?_
          refine thn_normal ?_
          refine Wp_seq_region ?_
          refine WpL_val rfl rfl (by decide) (r_move (v := (.slice la m lc)) rfl) ?_
          refine WpL_val rfl rfl (by decide) (r_assign (v := (.slice la m lc)) rfl) ?_
          refine WpL_nil ?_
          refine Wp_ret ?_
          refine fin_tmp Try.results87 (v := (.slice la m lc)) rfl ?_
          rw [hii, ← hll, List.take_length] at hown hm
          rw [← hfl, ← hfn, ← hm]
          exact ⟨⟨la, lc, rfl⟩, hown, E⟩
def meetP (A B out : List (List Sp)) (e : Int) : Prop := (partE A ≠ 0 ∧ e = partE A ∧ out = []) ∨ (partE A = 0 ∧ partE B ≠ 0 ∧ e = partE B ∧ out = []) ∨ (partE A = 0 ∧ partE B = 0 ∧ clsP (A ++ B) out e)
theorem meetP.bad1 {A B out : List (List Sp)} {e : Int} (h : meetP A B out e) (hA : partE A ≠ 0) : e = partE A ∧ out = [] := by
  rcases h with ⟨_, h⟩ | ⟨h, _⟩ | ⟨h, _⟩
  · exact h
  · exact absurd h hA
  · exact absurd h hA
theorem meetP.bad2 {A B out : List (List Sp)} {e : Int} (h : meetP A B out e) (hA : partE A = 0) (hB : partE B ≠ 0) : e = partE B ∧ out = [] := by
  rcases h with ⟨h, _⟩ | ⟨_, _, h⟩ | ⟨_, h, _⟩
  · exact absurd hA h
  · exact h
  · exact absurd h hB
theorem meetP.ok {A B out : List (List Sp)} {e : Int} (h : meetP A B out e) (hA : partE A = 0) (hB : partE B = 0) : clsP (A ++ B) out e := by
  rcases h with ⟨h, _⟩ | ⟨_, h, _⟩ | ⟨_, _, h⟩
  · exact absurd hA h
  · exact absurd hB h
  · exact h
theorem part_sizes {A B : List (List Sp)} (ha : partE A = 0) (hb : partE B = 0) : (A ++ B).flatten.length ≤ 1048576 ∧ (A ++ B).length ≤ 1048576 ∧ A.length ≤ 16 ∧ B.length ≤ 16 := by
  obtain ⟨a1, a2, _⟩ := partE_zero ha
  obtain ⟨b1, b2, _⟩ := partE_zero hb
  have f1 := flatLen (badE_all a2)
  have f2 := flatLen (badE_all b2)
  simp only [List.flatten_append, List.length_append]
  omega
theorem meet_c (w0 : World) (v u : Value) (A B : List (List Sp)) (h1 : SpssAt w0 v A) (h2 : SpssAt w0 u B) :
    Ret Try.prog 44 #[v, u] w0 fun r w => (∃ out e, meetP A B out e ∧ ClsRes w r out e) ∧ Ext w0 w := by
  obtain ⟨a, c, rfl, _, hle⟩ := h1.form
  obtain ⟨a', c', rfl, _, hle'⟩ := h2.form
  refine Ret_of Try.func44 rfl Try.ntmps44 (Nat.le_of_ble_eq_true rfl) ?_
  have E : Chg none1 w0 w0 := Chg.refl _ _
  refine Wp_seq_region ?_
  refine WpL_val rfl rfl (by decide) (r_assign (v := (.slice none 0 0)) rfl) ?_
  refine WpL_val rfl rfl (by decide) (r_assign (v := (.int .i64 0)) rfl) ?_
  refine WpL_nil ?_
  refine Wp_seq ?_
  refine Wp_seq_region ?_
  refine WpL_val rfl rfl (by decide) (r_move (v := (.slice a A.length c)) rfl) ?_
  refine WpL_enter rfl rfl (by decide) (r_callF (vs := [(.slice a A.length c)]) Try.func49 nm49 bd49 rfl) (part_c _ _ A h1) ?_
  rintro _ w9 ⟨rfl, X9⟩
  replace E := E.ext X9
  refine WpL_val rfl rfl (by decide) (r_assign (v := (.int .i64 (partE A))) rfl) ?_
  refine WpL_nil ?_
  refine Wp_seq_region ?_
  refine WpL_val rfl rfl (by decide) (r_move (v := (.int .i64 (partE A))) rfl) ?_
  refine WpL_val rfl rfl (by decide) (r_neq (k := .i64) (a := partE A) (b := 0) rfl rfl) ?_
  refine WpL_nil ?_
  refine Wp_cond (b := decide ((partE A : Int) ≠ 0)) rfl (fun hp => ?_) (fun hp => ?_)
  · have khp := hp
    replace hp := of_decide_eq_true hp
    refine Wp_seq_region ?_
    refine WpL_val rfl rfl (by decide) (r_move (v := (.int .i64 (partE A))) rfl) ?_
    refine WpL_val rfl rfl (by decide) (r_assign (v := (.slice none 0 0)) rfl) ?_
    refine WpL_val rfl rfl (by decide) (r_assign (v := (.int .i64 (partE A))) rfl) ?_
    refine WpL_nil ?_
    refine Wp_ret ?_
    refine thn_ret ?_
    refine fin_tmp2 Try.results44 (v := (.slice none 0 0)) (v' := (.int .i64 (partE A))) rfl rfl ?_
    exact ⟨⟨[], partE A, .inl ⟨hp, rfl, rfl⟩, none, 0, rfl, spss_nil _⟩, E⟩
  · have khp := hp
    replace hp := of_decide_eq_false hp
    have hp0 : partE A = 0 := by omega
    refine Wp_skip ?_
    refine thn_normal ?_
    refine Wp_seq ?_
    refine Wp_seq_region ?_
    refine WpL_val rfl rfl (by decide) (r_move (v := (.slice a' B.length c')) rfl) ?_
    refine WpL_enter rfl rfl (by decide) (r_callF (vs := [(.slice a' B.length c')]) Try.func49 nm49 bd49 rfl) (part_c _ _ B (h2.ext E)) ?_
    rintro _ w19 ⟨rfl, X19⟩
    replace E := E.ext X19
    refine WpL_val rfl rfl (by decide) (r_assign (v := (.int .i64 (partE B))) rfl) ?_
    refine WpL_nil ?_
    refine Wp_seq_region ?_
    refine WpL_val rfl rfl (by decide) (r_move (v := (.int .i64 (partE B))) rfl) ?_
    refine WpL_val rfl rfl (by decide) (r_neq (k := .i64) (a := partE B) (b := 0) rfl rfl) ?_
    refine WpL_nil ?_
    refine Wp_cond (b := decide ((partE B : Int) ≠ 0)) rfl (fun hq => ?_) (fun hq => ?_)
    · have khq := hq
      replace hq := of_decide_eq_true hq
      refine Wp_seq_region ?_
      refine WpL_val rfl rfl (by decide) (r_move (v := (.int .i64 (partE B))) rfl) ?_
      refine WpL_val rfl rfl (by decide) (r_assign (v := (.slice none 0 0)) rfl) ?_
      refine WpL_val rfl rfl (by decide) (r_assign (v := (.int .i64 (partE B))) rfl) ?_
      refine WpL_nil ?_
      refine Wp_ret ?_
      refine thn_ret ?_
      refine fin_tmp2 Try.results44 (v := (.slice none 0 0)) (v' := (.int .i64 (partE B))) rfl rfl ?_
      exact ⟨⟨[], partE B, .inr (.inl ⟨hp0, hq, rfl, rfl⟩), none, 0, rfl, spss_nil _⟩, E⟩
    · have khq := hq
      replace hq := of_decide_eq_false hq
      have hq0 : partE B = 0 := by omega
      obtain ⟨z1, z2, z3, z4⟩ := part_sizes hp0 hq0
      refine Wp_skip ?_
      refine thn_normal ?_
      refine Wp_seq_region ?_
      refine WpL_val rfl rfl (by decide) (r_move (v := (.slice a A.length c)) rfl) ?_
      refine WpL_val rfl rfl (by decide) (r_move (v := (.slice a' B.length c')) rfl) ?_
      refine s_buildSlice (ps := [(0, (.slice a A.length c)), (1, (.slice a' B.length c'))]) (c := #[(.slice a A.length c), (.slice a' B.length c')]) (by decide) rfl Try.underlying58 siz53 zer53 (by decide) (by decide) (by kernel_rfl) ?_
      intro bq wq Nq
      have Fq := Nq.ge E
      replace E := E.ext Nq.ext
      have Bq := Nq.blk
      obtain ⟨us, hu1, hu2, hu3⟩ := (h1.ext E).vals
      obtain ⟨vs, hv1, hv2, hv3⟩ := (h2.ext E).vals
      refine WpL_enter rfl rfl (by decide) (r_callF (vs := [(.slice (some ⟨bq, 0, none⟩) 2 2)]) Try.func87 nm87 bd87 rfl) (concat2_c _ bq _ _ us vs Bq hu1 hv1 (by omega)) ?_
      rintro _ w29 ⟨⟨xa, xc, rfl⟩, O29, X29⟩
      replace Bq := X29.keep Bq
      replace E := E.ext X29
      have hSS := spss_join (own_vals O29 (by simp)) hu2 hv2 (fun i u l hu hl => (hu3 i u l hu hl).ext X29) (fun i u l hu hl => (hv3 i u l hu hl).ext X29)
      refine WpL_enter rfl rfl (by decide) (r_callF (vs := [(.slice xa (us.length + vs.length) xc)]) Try.func40 nm40 bd40 rfl) (of_c _ _ (A ++ B) hSS z1 z2) ?_
      rintro _ w39 ⟨⟨out, e9, hP, a9, c9, rfl, h9⟩, X39⟩
      replace Bq := X39.keep Bq
      replace E := E.ext X39
      refine WpL_val rfl rfl (by decide) (r_extract (vs := #[(.slice a9 out.length c9), (.int .i64 e9)]) (v := (.slice a9 out.length c9)) rfl rfl) ?_
      refine WpL_val rfl rfl (by decide) (r_extract (vs := #[(.slice a9 out.length c9), (.int .i64 e9)]) (v := (.int .i64 e9)) rfl rfl) ?_
      refine WpL_val rfl rfl (by decide) (r_assign (v := (.slice a9 out.length c9)) rfl) ?_
      refine WpL_val rfl rfl (by decide) (r_assign (v := (.int .i64 e9)) rfl) ?_
      refine WpL_nil ?_
      refine Wp_ret ?_
      refine fin_tmp2 Try.results44 (v := (.slice a9 out.length c9)) (v' := (.int .i64 e9)) rfl rfl ?_
      exact ⟨⟨out, e9, .inr (.inr ⟨hp0, hq0, hP⟩), a9, c9, rfl, h9⟩, E⟩
theorem sseq_ok (w0 : World) (v1 v2 : Value) (l1 l2 : List (List Sp)) (h1 : SpssAt w0 v1 l1) (h2 : SpssAt w0 v2 l2) (he : l1 = l2) : Ret Try.prog 43 #[v1, v2] w0 fun v w => v = .bool true ∧ Ext w0 w :=
  (sseq_c w0 v1 v2 l1 l2 h1 h2).mono fun v w ⟨h3, h4⟩ => ⟨by rw [h3, decide_eq_true he], h4⟩
set_option maxHeartbeats 1000000 in
theorem ctells_c (w0 : World) (v1 v2 v3 : Value) (S A B : List (List Sp)) (h1 : SpssAt w0 v1 S) (h2 : SpssAt w0 v2 A) (h3 : SpssAt w0 v3 B) (hS : S.flatten.length ≤ 1048576 ∧ S.length ≤ 1048576) :
    Ret Try.prog 7 #[v1, v2, v3] w0 fun v w => v = .bool true ∧ Ext w0 w := by
  obtain ⟨aA, cA, rfl, _, hleA⟩ := h2.form
  obtain ⟨aB, cB, rfl, _, hleB⟩ := h3.form
  refine Ret_of Try.func7 rfl Try.ntmps7 (Nat.le_of_ble_eq_true rfl) ?_
  have E : Chg none1 w0 w0 := Chg.refl _ _
  refine Wp_seq_region ?_
  refine WpL_val rfl rfl (by decide) (r_assign (v := (.bool false)) rfl) ?_
  refine WpL_nil ?_
  refine Wp_seq_region ?_
  refine WpL_val rfl rfl (by decide) (r_move (v := v1) rfl) ?_
  refine WpL_enter rfl rfl (by decide) (r_callF (vs := [v1]) Try.func40 nm40 bd40 rfl) (of_c _ _ S h1 hS.1 hS.2) ?_
  rintro _ w9 ⟨⟨out, e9, hP, a9, c9, rfl, h9⟩, X9⟩
  replace E := E.ext X9
  refine WpL_val rfl rfl (by decide) (r_move (v := (.tuple #[(.slice a9 out.length c9), (.int .i64 e9)])) rfl) ?_
  refine WpL_val rfl rfl (by decide) (r_extract (vs := #[(.slice a9 out.length c9), (.int .i64 e9)]) (v := (.slice a9 out.length c9)) rfl rfl) ?_
  refine WpL_val rfl rfl (by decide) (r_extract (vs := #[(.slice a9 out.length c9), (.int .i64 e9)]) (v := (.int .i64 e9)) rfl rfl) ?_
  refine WpL_val rfl rfl (by decide) (r_assign (v := (.slice a9 out.length c9)) rfl) ?_
  refine WpL_val rfl rfl (by decide) (r_assign (v := (.int .i64 e9)) rfl) ?_
  refine WpL_nil ?_
  refine Wp_seq_region ?_
  refine WpL_val rfl rfl (by decide) (r_move (v := v1) rfl) ?_
  refine WpL_enter rfl rfl (by decide) (r_callF (vs := [v1]) Try.func41 nm41 bd41 rfl) (cof_c _ _ S (h1.ext E) hS.1 hS.2) ?_
  rintro _ w19 ⟨⟨out', e9', hP', a9', c9', rfl, h9'⟩, X19⟩
  replace E := E.ext X19
  obtain ⟨he, ho⟩ := hP.uniq hP'
  refine WpL_val rfl rfl (by decide) (r_move (v := (.tuple #[(.slice a9' out'.length c9'), (.int .i64 e9')])) rfl) ?_
  refine WpL_val rfl rfl (by decide) (r_extract (vs := #[(.slice a9' out'.length c9'), (.int .i64 e9')]) (v := (.slice a9' out'.length c9')) rfl rfl) ?_
  refine WpL_val rfl rfl (by decide) (r_extract (vs := #[(.slice a9' out'.length c9'), (.int .i64 e9')]) (v := (.int .i64 e9')) rfl rfl) ?_
  refine WpL_val rfl rfl (by decide) (r_assign (v := (.slice a9' out'.length c9')) rfl) ?_
  refine WpL_val rfl rfl (by decide) (r_assign (v := (.int .i64 e9')) rfl) ?_
  refine WpL_nil ?_
  refine Wp_seq ?_
  refine Wp_seq_region ?_
  refine WpL_enter rfl rfl (by decide) (r_callF (vs := []) Try.func42 nm42 bd42 rfl) (cbegun_c _) ?_
  rintro _ w29 ⟨rfl, X29⟩
  replace E := E.ext X29
  refine WpL_val rfl rfl (by decide) (r_not (b := true) rfl) ?_
  refine WpL_val rfl rfl (by decide) (r_move (v := (.bool false)) rfl) ?_
  refine WpL_guard_yes (oj := _) rfl rfl (by decide) rfl ?_
  refine WpL_val rfl rfl (by decide) (r_move (v := (.int .i64 e9)) rfl) ?_
  refine WpL_guard_yes (oj := _) rfl rfl (by decide) rfl ?_
  refine WpL_val rfl rfl (by decide) (r_move (v := (.int .i64 e9')) rfl) ?_
  refine WpL_guard_yes (oj := _) rfl rfl (by decide) rfl ?_
  refine WpL_val rfl rfl (by decide) (r_neq (k := .i64) (a := e9) (b := e9') rfl rfl) ?_
  refine WpL_val rfl rfl (by decide) (r_pick (b := false) (v := (.bool (decide ((e9 : Int) ≠ e9')))) rfl rfl) ?_
  refine WpL_val rfl rfl (by decide) (r_move (v := (.bool (decide ((e9 : Int) ≠ e9')))) rfl) ?_
  have hg1 : (decide ((e9 : Int) ≠ e9')) = false := decide_eq_false (fun h => h he)
  refine WpL_guard_yes (oj := _) rfl rfl (by decide) (congrArg Value.bool hg1) ?_
  refine WpL_val rfl rfl (by decide) (r_move (v := (.slice a9 out.length c9)) rfl) ?_
  refine WpL_guard_yes (oj := _) rfl rfl (by decide) (congrArg Value.bool hg1) ?_
  refine WpL_val rfl rfl (by decide) (r_move (v := (.slice a9' out'.length c9')) rfl) ?_
  refine WpL_guard_yes (oj := _) rfl rfl (by decide) (congrArg Value.bool hg1) ?_
  refine WpL_enter rfl rfl (by decide) (r_callF (vs := [(.slice a9 out.length c9), (.slice a9' out'.length c9')]) Try.func43 nm43 bd43 rfl) (sseq_ok _ _ _ out out' ((h9.ext X19).ext X29) (h9'.ext X29) ho) ?_
  rintro _ w39 ⟨rfl, X39⟩
  replace E := E.ext X39
  refine WpL_guard_yes (oj := _) rfl rfl (by decide) (congrArg Value.bool hg1) ?_
  refine WpL_val rfl rfl (by decide) (r_not (b := true) rfl) ?_
  refine WpL_val rfl rfl (by decide) (r_pick (b := decide ((e9 : Int) ≠ e9')) (v := (.bool false)) rfl (by rw [hg1]; rfl)) ?_
  refine WpL_nil ?_
  refine Wp_cond_false rfl ?_
  refine Wp_skip ?_
  refine thn_normal ?_
  refine Wp_seq_region ?_
  refine WpL_val rfl rfl (by decide) (r_move (v := (.slice aA A.length cA)) rfl) ?_
  refine WpL_val rfl rfl (by decide) (r_move (v := (.slice aB B.length cB)) rfl) ?_
  refine WpL_enter rfl rfl (by decide) (r_callF (vs := [(.slice aA A.length cA), (.slice aB B.length cB)]) Try.func44 nm44 bd44 rfl) (meet_c _ _ _ A B (h2.ext E) (h3.ext E)) ?_
  rintro _ w49 ⟨⟨om, em, hM, am, cm, rfl, hm⟩, X49⟩
  replace E := E.ext X49
  refine WpL_val rfl rfl (by decide) (r_move (v := (.tuple #[(.slice am om.length cm), (.int .i64 em)])) rfl) ?_
  refine WpL_val rfl rfl (by decide) (r_extract (vs := #[(.slice am om.length cm), (.int .i64 em)]) (v := (.slice am om.length cm)) rfl rfl) ?_
  refine WpL_val rfl rfl (by decide) (r_extract (vs := #[(.slice am om.length cm), (.int .i64 em)]) (v := (.int .i64 em)) rfl rfl) ?_
  refine WpL_val rfl rfl (by decide) (r_assign (v := (.slice am om.length cm)) rfl) ?_
  refine WpL_val rfl rfl (by decide) (r_assign (v := (.int .i64 em)) rfl) ?_
  refine WpL_nil ?_
  refine Wp_seq ?_
  refine Wp_seq_region ?_
  refine WpL_val rfl rfl (by decide) (r_move (v := (.slice aA A.length cA)) rfl) ?_
  refine WpL_val rfl rfl (by decide) (r_move (v := (.slice aB B.length cB)) rfl) ?_
  refine s_buildSlice (ps := [(0, (.slice aA A.length cA)), (1, (.slice aB B.length cB))]) (c := #[(.slice aA A.length cA), (.slice aB B.length cB)]) (by decide) rfl Try.underlying58 siz53 zer53 (by decide) (by decide) (by kernel_rfl) ?_
  intro bq wq Nq
  have Fq := Nq.ge E
  replace E := E.ext Nq.ext
  have Bq := Nq.blk
  refine WpL_val rfl rfl (by decide) (r_lenSlice (ad := some ⟨bq, 0, none⟩) (n := 2) (cap := 2) Try.underlying58 rfl) ?_
  refine WpL_val rfl rfl (by decide) (r_move (v := (.int .i64 0)) rfl) ?_
  refine WpL_nil ?_
  refine Wp_block ?_
  refine Wp_loop (fun nn_ σ W2 => ∃ (k : Nat), (∃ jj_, σ = upds jj_ [(1, (.slice aA A.length cA)), (2, (.slice aB B.length cB)), (8, (.int .i64 em)), (11, (.slice am om.length cm)), (46, (.slice (some ⟨bq, 0, none⟩) 2 2)), (47, (.int .i64 2)), (48, (.int .i64 ((k : Nat) : Int)))]) ∧ Chg none1 w0 W2 ∧ Blk W2 bq #[(.slice aA A.length cA), (.slice aB B.length cB)] 53 ∧ (k ≤ 2) ∧ (1 ≤ k → partE A = 0) ∧ (2 ≤ k → partE B = 0) ∧ (SpssAt W2 (.slice am om.length cm) om) ∧ nn_ = 2 - k) (n := 2 - 0) ?_ ?_
  · exact ⟨0, Fits.out ⟨rfl, rfl, rfl, rfl, rfl, rfl, rfl, trivial⟩, E, Bq, Nat.zero_le _, (fun h => absurd h (by decide)), (fun h => absurd h (by decide)), hm.ext Nq.ext, rfl⟩
  · clear E Bq
    rintro _ _ W2 ⟨k, ⟨j2, rfl⟩, E, Bq, hk, hA0, hB0, hm, rfl⟩
    refine Wp_seq_region ?_
    refine WpL_val rfl rfl (by decide) (r_lss (k := .i64) (a := ((k : Nat) : Int)) (b := 2) rfl rfl) ?_
    refine WpL_nil ?_
    refine Wp_seq ?_
    refine Wp_cond (b := decide ((((k : Nat) : Int) : Int) < 2)) rfl (fun hlt => ?_) (fun hlt => ?_)
    · have khlt := hlt
      replace hlt := of_decide_eq_true hlt
      rcases Bool.eq_false_or_eq_true (decide (k = 0)) with hk0 | hk0
      · have khk0 := hk0
        replace khk0 := of_decide_eq_true khk0
        refine Wp_skip ?_
        refine thn_normal ?_
        refine Wp_seq ?_
        refine Wp_block ?_
        refine Wp_seq_region ?_
        refine WpL_val rfl rfl (by decide) (r_indexSlice (b := bq) (o := 0) (len := 2) (cap := 2) (i := k) (o' := 0 + k) rfl rfl rfl Try.underlying58 siz53 (by omega) (by omega)) ?_
        refine WpL_val rfl rfl (by decide) (r_load (v := (.slice aA A.length cA)) rfl flat53 ((by rw [khk0]; exact Bq.cell rfl))) ?_
        refine WpL_val rfl rfl (by decide) (r_assign (v := (.slice aA A.length cA)) rfl) ?_
        refine WpL_nil ?_
        refine Wp_seq_region ?_
        refine WpL_val rfl rfl (by decide) (r_move (v := (.slice aA A.length cA)) rfl) ?_
        refine WpL_enter rfl rfl (by decide) (r_callF (vs := [(.slice aA A.length cA)]) Try.func45 nm45 bd45 rfl) (cck_c _ _ A (h2.ext E)) ?_
        rintro _ w59 ⟨rfl, X59⟩
        replace Bq := X59.keep Bq
        replace E := E.ext X59
        refine WpL_val rfl rfl (by decide) (r_assign (v := (.int .i64 (partE A))) rfl) ?_
        refine WpL_nil ?_
        refine Wp_seq_region ?_
        refine WpL_val rfl rfl (by decide) (r_move (v := (.int .i64 (partE A))) rfl) ?_
        refine WpL_val rfl rfl (by decide) (r_neq (k := .i64) (a := partE A) (b := 0) rfl rfl) ?_
        refine WpL_nil ?_
        refine Wp_cond (b := decide ((partE A : Int) ≠ 0)) rfl (fun hpA => ?_) (fun hpA => ?_)
        · have khpA := hpA
          replace hpA := of_decide_eq_true hpA
          obtain ⟨m1, m2⟩ := hM.bad1 hpA
          refine Wp_seq_region ?_
          refine WpL_val rfl rfl (by decide) (r_move (v := (.int .i64 em)) rfl) ?_
          refine WpL_val rfl rfl (by decide) (r_move (v := (.int .i64 (partE A))) rfl) ?_
          refine WpL_val rfl rfl (by decide) (r_eql (k := .i64) (a := em) (b := partE A) rfl rfl) ?_
          refine WpL_val rfl rfl (by decide) (r_move (v := (.bool (decide ((em : Int) = partE A)))) rfl) ?_
          have hg5 : (decide ((em : Int) = partE A)) = true := decide_eq_true m1
          refine WpL_guard_yes (oj := _) rfl rfl (by decide) (congrArg Value.bool hg5) ?_
          refine WpL_val rfl rfl (by decide) (r_move (v := (.slice am om.length cm)) rfl) ?_
          refine WpL_guard_yes (oj := _) rfl rfl (by decide) (congrArg Value.bool hg5) ?_
          refine WpL_val rfl rfl (by decide) (r_lenSlice (ad := am) (n := om.length) (cap := cm) Try.underlying53 rfl) ?_
          refine WpL_guard_yes (oj := _) rfl rfl (by decide) (congrArg Value.bool hg5) ?_
          refine WpL_val rfl rfl (by decide) (r_eql (k := .i64) (a := ((om.length : Nat) : Int)) (b := 0) rfl rfl) ?_
          refine WpL_val rfl rfl (by decide) (r_pick (b := decide ((em : Int) = partE A)) (v := (.bool (decide ((((om.length : Nat) : Int) : Int) = 0)))) rfl (by rw [hg5]; rfl)) ?_
          refine WpL_val rfl rfl (by decide) (r_assign (v := (.bool (decide ((((om.length : Nat) : Int) : Int) = 0)))) rfl) ?_
          refine WpL_nil ?_
          refine Wp_ret ?_
          refine inB_ret ?_
          refine thn_ret ?_
          refine thn_ret ?_
          refine inB_ret ?_
          refine thn_ret ?_
          refine fin_tmp Try.results7 (v := (.bool (decide ((((om.length : Nat) : Int) : Int) = 0)))) rfl ?_
          exact ⟨bool_eq (by rw [m2]; rfl), E⟩
        · have khpA := hpA
          replace hpA := of_decide_eq_false hpA
          refine Wp_skip ?_
          refine inB_normal ?_
          refine thn_normal ?_
          refine Wp_region ?_
          refine WpL_val rfl rfl (by decide) (r_add (k := .i64) (a := ((k : Nat) : Int)) (b := 1) (c := ((k : Nat) : Int) + 1) rfl rfl (wI64 (by omega))) ?_
          refine WpL_val rfl rfl (by decide) (r_move (v := (.int .i64 (((k : Nat) : Int) + 1))) rfl) ?_
          refine WpL_nil ?_
          refine thn_normal ?_
          exact ⟨2 - (k + 1), by omega, k + 1, Fits.out ⟨rfl, rfl, rfl, rfl, rfl, rfl, rfl, trivial⟩, E, Bq, (by omega), (fun _ => by omega), (fun h => by omega), hm.ext X59, rfl⟩
      · have khk0 := hk0
        replace khk0 := of_decide_eq_false khk0
        have hk1 : k = 1 := by omega
        refine Wp_skip ?_
        refine thn_normal ?_
        refine Wp_seq ?_
        refine Wp_block ?_
        refine Wp_seq_region ?_
        refine WpL_val rfl rfl (by decide) (r_indexSlice (b := bq) (o := 0) (len := 2) (cap := 2) (i := k) (o' := 0 + k) rfl rfl rfl Try.underlying58 siz53 (by omega) (by omega)) ?_
        refine WpL_val rfl rfl (by decide) (r_load (v := (.slice aB B.length cB)) rfl flat53 ((by rw [hk1]; exact Bq.cell rfl))) ?_
        refine WpL_val rfl rfl (by decide) (r_assign (v := (.slice aB B.length cB)) rfl) ?_
        refine WpL_nil ?_
        refine Wp_seq_region ?_
        refine WpL_val rfl rfl (by decide) (r_move (v := (.slice aB B.length cB)) rfl) ?_
        refine WpL_enter rfl rfl (by decide) (r_callF (vs := [(.slice aB B.length cB)]) Try.func45 nm45 bd45 rfl) (cck_c _ _ B (h3.ext E)) ?_
        rintro _ w59 ⟨rfl, X59⟩
        replace Bq := X59.keep Bq
        replace E := E.ext X59
        have hA1 := hA0 (by omega)
        refine WpL_val rfl rfl (by decide) (r_assign (v := (.int .i64 (partE B))) rfl) ?_
        refine WpL_nil ?_
        refine Wp_seq_region ?_
        refine WpL_val rfl rfl (by decide) (r_move (v := (.int .i64 (partE B))) rfl) ?_
        refine WpL_val rfl rfl (by decide) (r_neq (k := .i64) (a := partE B) (b := 0) rfl rfl) ?_
        refine WpL_nil ?_
        refine Wp_cond (b := decide ((partE B : Int) ≠ 0)) rfl (fun hpB => ?_) (fun hpB => ?_)
        · have khpB := hpB
          replace hpB := of_decide_eq_true hpB
          obtain ⟨m1, m2⟩ := hM.bad2 hA1 hpB
          refine Wp_seq_region ?_
          refine WpL_val rfl rfl (by decide) (r_move (v := (.int .i64 em)) rfl) ?_
          refine WpL_val rfl rfl (by decide) (r_move (v := (.int .i64 (partE B))) rfl) ?_
          refine WpL_val rfl rfl (by decide) (r_eql (k := .i64) (a := em) (b := partE B) rfl rfl) ?_
          refine WpL_val rfl rfl (by decide) (r_move (v := (.bool (decide ((em : Int) = partE B)))) rfl) ?_
          have hg7 : (decide ((em : Int) = partE B)) = true := decide_eq_true m1
          refine WpL_guard_yes (oj := _) rfl rfl (by decide) (congrArg Value.bool hg7) ?_
          refine WpL_val rfl rfl (by decide) (r_move (v := (.slice am om.length cm)) rfl) ?_
          refine WpL_guard_yes (oj := _) rfl rfl (by decide) (congrArg Value.bool hg7) ?_
          refine WpL_val rfl rfl (by decide) (r_lenSlice (ad := am) (n := om.length) (cap := cm) Try.underlying53 rfl) ?_
          refine WpL_guard_yes (oj := _) rfl rfl (by decide) (congrArg Value.bool hg7) ?_
          refine WpL_val rfl rfl (by decide) (r_eql (k := .i64) (a := ((om.length : Nat) : Int)) (b := 0) rfl rfl) ?_
          refine WpL_val rfl rfl (by decide) (r_pick (b := decide ((em : Int) = partE B)) (v := (.bool (decide ((((om.length : Nat) : Int) : Int) = 0)))) rfl (by rw [hg7]; rfl)) ?_
          refine WpL_val rfl rfl (by decide) (r_assign (v := (.bool (decide ((((om.length : Nat) : Int) : Int) = 0)))) rfl) ?_
          refine WpL_nil ?_
          refine Wp_ret ?_
          refine inB_ret ?_
          refine thn_ret ?_
          refine thn_ret ?_
          refine inB_ret ?_
          refine thn_ret ?_
          refine fin_tmp Try.results7 (v := (.bool (decide ((((om.length : Nat) : Int) : Int) = 0)))) rfl ?_
          exact ⟨bool_eq (by rw [m2]; rfl), E⟩
        · have khpB := hpB
          replace hpB := of_decide_eq_false hpB
          refine Wp_skip ?_
          refine inB_normal ?_
          refine thn_normal ?_
          refine Wp_region ?_
          refine WpL_val rfl rfl (by decide) (r_add (k := .i64) (a := ((k : Nat) : Int)) (b := 1) (c := ((k : Nat) : Int) + 1) rfl rfl (wI64 (by omega))) ?_
          refine WpL_val rfl rfl (by decide) (r_move (v := (.int .i64 (((k : Nat) : Int) + 1))) rfl) ?_
          refine WpL_nil ?_
          refine thn_normal ?_
          exact ⟨2 - (k + 1), by omega, k + 1, Fits.out ⟨rfl, rfl, rfl, rfl, rfl, rfl, rfl, trivial⟩, E, Bq, (by omega), (fun _ => hA1), (fun _ => by omega), hm.ext X59, rfl⟩
    · have khlt := hlt
      replace hlt := of_decide_eq_false hlt
      have hk2 : k = 2 := by omega
      have hA1 := hA0 (by omega)
      have hB1 := hB0 (by omega)
      obtain ⟨z1, z2, z3, z4⟩ := part_sizes hA1 hB1
      have hPm := hM.ok hA1 hB1
      obtain ⟨base, hbase⟩ : ∃ base, base = (W2).heap.size := ⟨_, rfl⟩
      have hwb : w0.heap.size ≤ base := by have := E.size; omega
      have E7 : Chg none1 W2 W2 := Chg.refl _ _
      obtain ⟨us, hu1, hu2, hu3⟩ := (h2.ext E).vals
      obtain ⟨vs, hv1, hv2, hv3⟩ := (h3.ext E).vals
      refine Wp_exit ?_
      refine thn_exit ?_
      refine thn_exit ?_
      refine inB_here ?_
      refine thn_normal ?_
      refine Wp_seq_region ?_
      refine s_build0 (by decide) Try.underlying53 siz23 ?_
      intro bz wz Nz
      have Fz := Nz.ge E
      have Fz_E7 := Nz.ge E7
      replace E := E.ext Nz.ext
      have Bz := Nz.blk
      replace E7 := E7.ext Nz.ext
      refine WpL_val rfl rfl (by decide) (r_move (v := (.slice aA A.length cA)) rfl) ?_
      have hoz := own_empty (base := base) (size := 1) Bz (by omega)
      refine s_appendAny (base := base) (n := 0) (m := A.length) (xs := []) (news := us) (size := 1) (bytes := 24) (v := (.slice (some ⟨bz, 0, none⟩) 0 0)) (by decide) Try.underlying53 siz23 byt23 zer23 rfl (by decide) rfl hoz rfl ((by omega)) (vals_any (hu1.ext Nz.ext)) (hu1.2) (by unfold maxLen; omega) (by omega) ((by have := Nz.ext.size; omega)) ?_
      intro v9 w69 Ov9 Cv9 Dv9
      replace E := E.step Cv9 (fun x hx h => absurd (hoz.lt x h).1 (by omega))
      replace E7 := E7.step Cv9 (fun x hx h => absurd (hoz.lt x h).1 (by omega))
      obtain ⟨la2, lc2, rfl⟩ := own_form Ov9
      refine WpL_val rfl rfl (by decide) (r_move (v := (.slice aB B.length cB)) rfl) ?_
      refine s_appendAny (base := base) (n := (0 + A.length)) (m := B.length) (xs := ([] ++ us)) (news := vs) (size := 1) (bytes := 24) (v := (.slice la2 (0 + A.length) lc2)) (by decide) Try.underlying53 siz23 byt23 zer23 rfl (by decide) rfl Ov9 rfl ((by omega)) (vals_any (hv1.ext E7)) (hv1.2) (by unfold maxLen; omega) (by omega) ((by have := E7.size; omega)) ?_
      intro v8 w79 Ov8 Cv8 Dv8
      replace E := E.step Cv8 (fun x hx h => absurd (Ov9.lt x h).1 (by omega))
      replace E7 := E7.step Cv8 (fun x hx h => absurd (Ov9.lt x h).1 (by omega))
      obtain ⟨la3, lc3, rfl⟩ := own_form Ov8
      have hO8 : (w79).ownsRow base TSs 1 (.slice la3 (0 + A.length + B.length) lc3) (0 + A.length + B.length) (us ++ vs) := by have h8 := Ov8; simp only [List.nil_append] at h8; exact h8
      have hSS := spss_join (own_vals hO8 (by simp; omega)) hu2 hv2 (fun i u l hu hl => (hu3 i u l hu hl).ext E7) (fun i u l hu hl => (hv3 i u l hu hl).ext E7)
      refine WpL_enter rfl rfl (by decide) (r_callF (vs := [(.slice la3 (0 + A.length + B.length) lc3)]) Try.func41 nm41 bd41 rfl) (cof_c _ _ (A ++ B) hSS z1 z2) ?_
      rintro _ w89 ⟨⟨on, en, hPn, an, cn, rfl, hn⟩, X89⟩
      replace E := E.ext X89
      replace E7 := E7.ext X89
      obtain ⟨he2, ho2⟩ := hPm.uniq hPn
      refine WpL_val rfl rfl (by decide) (r_move (v := (.tuple #[(.slice an on.length cn), (.int .i64 en)])) rfl) ?_
      refine WpL_val rfl rfl (by decide) (r_extract (vs := #[(.slice an on.length cn), (.int .i64 en)]) (v := (.slice an on.length cn)) rfl rfl) ?_
      refine WpL_val rfl rfl (by decide) (r_extract (vs := #[(.slice an on.length cn), (.int .i64 en)]) (v := (.int .i64 en)) rfl rfl) ?_
      refine WpL_val rfl rfl (by decide) (r_assign (v := (.slice an on.length cn)) rfl) ?_
      refine WpL_val rfl rfl (by decide) (r_assign (v := (.int .i64 en)) rfl) ?_
      refine WpL_nil ?_
      refine Wp_seq_region ?_
      refine WpL_val rfl rfl (by decide) (r_move (v := (.int .i64 em)) rfl) ?_
      refine WpL_val rfl rfl (by decide) (r_move (v := (.int .i64 en)) rfl) ?_
      refine WpL_val rfl rfl (by decide) (r_eql (k := .i64) (a := em) (b := en) rfl rfl) ?_
      refine WpL_val rfl rfl (by decide) (r_move (v := (.bool (decide ((em : Int) = en)))) rfl) ?_
      have hg8 : (decide ((em : Int) = en)) = true := decide_eq_true he2
      refine WpL_guard_yes (oj := _) rfl rfl (by decide) (congrArg Value.bool hg8) ?_
      refine WpL_val rfl rfl (by decide) (r_move (v := (.slice am om.length cm)) rfl) ?_
      refine WpL_guard_yes (oj := _) rfl rfl (by decide) (congrArg Value.bool hg8) ?_
      refine WpL_val rfl rfl (by decide) (r_move (v := (.slice an on.length cn)) rfl) ?_
      refine WpL_guard_yes (oj := _) rfl rfl (by decide) (congrArg Value.bool hg8) ?_
      refine WpL_enter rfl rfl (by decide) (r_callF (vs := [(.slice am om.length cm), (.slice an on.length cn)]) Try.func43 nm43 bd43 rfl) (sseq_ok _ _ _ om on (hm.ext E7) hn ho2) ?_
      rintro _ w99 ⟨rfl, X99⟩
      replace E := E.ext X99
      replace E7 := E7.ext X99
      refine WpL_val rfl rfl (by decide) (r_pick (b := decide ((em : Int) = en)) (v := (.bool true)) rfl (by rw [hg8]; rfl)) ?_
      refine WpL_val rfl rfl (by decide) (r_assign (v := (.bool true)) rfl) ?_
      refine WpL_nil ?_
      refine Wp_ret ?_
      refine fin_tmp Try.results7 (v := (.bool true)) rfl ?_
      exact ⟨rfl, E⟩
theorem cinteq_c (w0 : World) (v1 v2 : Value) (l1 l2 : List Int) (h1 : IntsAt w0 v1 l1) (h2 : IntsAt w0 v2 l2) :
    Ret Try.prog 28 #[v1, v2] w0 fun v w => v = .bool (decide (l1 = l2)) ∧ Ext w0 w := by
  obtain ⟨a1, c1, rfl⟩ := SlAt.form h1
  obtain ⟨a2, c2, rfl⟩ := SlAt.form h2
  have hb1 : l1.length ≤ 9223372036854775807 := by simpa using SlAt.le h1
  simp only [List.length_map] at h1 h2 ⊢
  refine Ret_of Try.func28 rfl Try.ntmps28 (Nat.le_of_ble_eq_true rfl) ?_
  have E : Chg none1 w0 w0 := Chg.refl _ _
  refine Wp_seq_region ?_
  refine WpL_val rfl rfl (by decide) (r_assign (v := (.bool false)) rfl) ?_
  refine WpL_nil ?_
  refine Wp_seq ?_
  refine Wp_seq_region ?_
  refine WpL_val rfl rfl (by decide) (r_move (v := (.slice a1 l1.length c1)) rfl) ?_
  refine WpL_val rfl rfl (by decide) (r_lenSlice (ad := a1) (n := l1.length) (cap := c1) Try.underlying22 rfl) ?_
  refine WpL_val rfl rfl (by decide) (r_move (v := (.slice a2 l2.length c2)) rfl) ?_
  refine WpL_val rfl rfl (by decide) (r_lenSlice (ad := a2) (n := l2.length) (cap := c2) Try.underlying22 rfl) ?_
  refine WpL_val rfl rfl (by decide) (r_neq (k := .i64) (a := ((l1.length : Nat) : Int)) (b := ((l2.length : Nat) : Int)) rfl rfl) ?_
  refine WpL_nil ?_
  refine Wp_cond (b := decide ((((l1.length : Nat) : Int) : Int) ≠ ((l2.length : Nat) : Int))) rfl (fun hl => ?_) (fun hl => ?_)
  · have khl := hl
    replace hl := of_decide_eq_true hl
    refine Wp_seq_region ?_
    refine WpL_val rfl rfl (by decide) (r_assign (v := (.bool false)) rfl) ?_
    refine WpL_nil ?_
    refine Wp_ret ?_
    refine thn_ret ?_
    refine fin_tmp Try.results28 (v := (.bool false)) rfl ?_
    exact ⟨bool_eq (by symm; rw [decide_eq_false_iff_not]; intro h; rw [h] at hl; exact hl rfl), E⟩
  · have khl := hl
    replace hl := of_decide_eq_false hl
    refine Wp_skip ?_
    refine thn_normal ?_
    refine Wp_seq ?_
    refine Wp_seq_region ?_
    refine WpL_val rfl rfl (by decide) (r_move (v := (.slice a1 l1.length c1)) rfl) ?_
    refine WpL_val rfl rfl (by decide) (r_lenSlice (ad := a1) (n := l1.length) (cap := c1) Try.underlying22 rfl) ?_
    refine WpL_val rfl rfl (by decide) (r_move (v := (.int .i64 0)) rfl) ?_
    refine WpL_nil ?_
    refine Wp_block ?_
    refine Wp_loop (fun nn_ σ W2 => ∃ (k : Nat), (∃ jj_, σ = upds jj_ [(0, (.slice a1 l1.length c1)), (1, (.slice a2 l2.length c2)), (12, (.int .i64 ((l1.length : Nat) : Int))), (13, (.int .i64 ((k : Nat) : Int)))]) ∧ Chg none1 w0 W2 ∧ (k ≤ l1.length) ∧ (∀ (i : Nat), i < k → l1[i]? = l2[i]?) ∧ nn_ = l1.length - k) (n := l1.length - 0) ?_ ?_
    · exact ⟨0, Fits.out ⟨rfl, rfl, rfl, rfl, trivial⟩, E, Nat.zero_le _, (fun i h => absurd h (Nat.not_lt_zero _)), rfl⟩
    · clear E
      rintro _ _ W2 ⟨k, ⟨j2, rfl⟩, E, hk, heq, rfl⟩
      refine Wp_seq_region ?_
      refine WpL_val rfl rfl (by decide) (r_lss (k := .i64) (a := ((k : Nat) : Int)) (b := ((l1.length : Nat) : Int)) rfl rfl) ?_
      refine WpL_nil ?_
      refine Wp_seq ?_
      refine Wp_cond (b := decide ((((k : Nat) : Int) : Int) < ((l1.length : Nat) : Int))) rfl (fun hlt => ?_) (fun hlt => ?_)
      · have khlt := hlt
        replace hlt := of_decide_eq_true hlt
        obtain ⟨p, hp⟩ := get_of_lt (l := l1) (i := k) (by omega)
        obtain ⟨q, hq⟩ := get_of_lt (l := l2) (i := k) (by omega)
        obtain ⟨b1, o1, rfl, hc1⟩ := ints_cells h1 (by omega)
        obtain ⟨b2, o2, rfl, hc2⟩ := ints_cells h2 (by omega)
        refine Wp_skip ?_
        refine thn_normal ?_
        refine Wp_seq ?_
        refine Wp_block ?_
        refine Wp_seq_region ?_
        refine WpL_val rfl rfl (by decide) (r_move (v := (.int .i64 ((k : Nat) : Int))) rfl) ?_
        refine WpL_val rfl rfl (by decide) (r_assign (v := (.int .i64 ((k : Nat) : Int))) rfl) ?_
        refine WpL_nil ?_
        refine Wp_seq_draw 8 mixed (by kernel_rfl) ?_
        intro w4 X4 _
        replace E := E.ext X4
        refine WpT_val rfl rfl (by decide) (r_move (v := (.slice (some ⟨b1, o1, none⟩) l1.length c1)) rfl) ?_
        refine WpT_val rfl rfl (by decide) (r_move (v := (.int .i64 ((k : Nat) : Int))) rfl) ?_
        refine WpT_val rfl rfl (by decide) (r_indexSlice (b := b1) (o := o1) (len := l1.length) (cap := c1) (i := k) (o' := o1 + k) rfl rfl rfl Try.underlying22 siz3 (by omega) (by omega)) ?_
        refine WpT_val rfl rfl (by decide) (r_load (v := (.int .i64 p)) rfl flat3 (E.cell (fun f => f) (hc1 k p hp))) ?_
        refine WpT_val rfl rfl (by decide) (r_move (v := (.slice (some ⟨b2, o2, none⟩) l2.length c2)) rfl) ?_
        refine WpT_val rfl rfl (by decide) (r_move (v := (.int .i64 ((k : Nat) : Int))) rfl) ?_
        refine WpT_val rfl rfl (by decide) (r_indexSlice (b := b2) (o := o2) (len := l2.length) (cap := c2) (i := k) (o' := o2 + k) rfl rfl rfl Try.underlying22 siz3 (by omega) (by omega)) ?_
        refine WpT_val rfl rfl (by decide) (r_load (v := (.int .i64 q)) rfl flat3 (E.cell (fun f => f) (hc2 k q hq))) ?_
        refine WpT_zero ?_
        refine WpL_val rfl rfl (by decide) (r_neq (k := .i64) (a := p) (b := q) rfl rfl) ?_
        refine WpL_nil ?_
        refine Wp_cond (b := decide ((p : Int) ≠ q)) rfl (fun hpq => ?_) (fun hpq => ?_)
        · have khpq := hpq
          replace hpq := of_decide_eq_true hpq
          refine Wp_seq_region ?_
          refine WpL_val rfl rfl (by decide) (r_assign (v := (.bool false)) rfl) ?_
          refine WpL_nil ?_
          refine Wp_ret ?_
          refine inB_ret ?_
          refine thn_ret ?_
          refine thn_ret ?_
          refine inB_ret ?_
          refine thn_ret ?_
          refine fin_tmp Try.results28 (v := (.bool false)) rfl ?_
          exact ⟨bool_eq (by symm; rw [decide_eq_false_iff_not]; intro h; subst h; rw [hp] at hq; cases hq; exact hpq rfl), E⟩
        · have khpq := hpq
          replace hpq := of_decide_eq_false hpq
          have hpq2 : p = q := by omega
          refine Wp_skip ?_
          refine inB_normal ?_
          refine thn_normal ?_
          refine Wp_region ?_
          refine WpL_val rfl rfl (by decide) (r_add (k := .i64) (a := ((k : Nat) : Int)) (b := 1) (c := ((k : Nat) : Int) + 1) rfl rfl (wI64 (by omega))) ?_
          refine WpL_val rfl rfl (by decide) (r_move (v := (.int .i64 (((k : Nat) : Int) + 1))) rfl) ?_
          refine WpL_nil ?_
          refine thn_normal ?_
          exact ⟨l1.length - (k + 1), by omega, k + 1, Fits.out ⟨rfl, rfl, rfl, rfl, trivial⟩, E, (by omega), (fun i hi => by rcases Nat.lt_or_ge i k with h | h; exact heq i h; obtain rfl : i = k := (by omega); rw [hp, hq, hpq2]), rfl⟩
      · have khlt := hlt
        replace hlt := of_decide_eq_false hlt
        have hkk : k = l1.length := by omega
        refine Wp_exit ?_
        refine thn_exit ?_
        refine thn_exit ?_
        refine inB_here ?_
        refine thn_normal ?_
        refine Wp_seq_region ?_
        refine WpL_val rfl rfl (by decide) (r_assign (v := (.bool true)) rfl) ?_
        refine WpL_nil ?_
        refine Wp_ret ?_
        refine fin_tmp Try.results28 (v := (.bool true)) rfl ?_
        exact ⟨bool_eq (by symm; rw [decide_eq_true_eq]; exact get_ext (by omega) (fun i hi => heq i (by omega))), E⟩
theorem wordE_idx (ll : List (List Sp)) (r : Int) : wordE ll [r] = idxE ll r := by
  unfold wordE idxE
  cases h : runeB r <;> simp [h]
theorem wordL_idx {ll : List (List Sp)} {r : Int} (h : idxE ll r = 0) : wordL ll [r] = [clAt ll r] := by unfold wordL; rw [wordE_idx, if_pos h]; rfl
set_option maxHeartbeats 1000000 in
theorem cmap_c (w0 : World) (v u : Value) (ll : List (List Sp)) (r : Int) (t : List Int) (h : SpssAt w0 v ll) (ht : IntsAt w0 u t) (hb : t.length ≤ 17592186044415) :
    Ret Try.prog 8 #[v, .int .i64 r, u] w0 fun v w => v = .bool true ∧ Ext w0 w := by
  obtain ⟨a, c, rfl, _, hle⟩ := h.form
  refine Ret_of Try.func8 rfl Try.ntmps8 (Nat.le_of_ble_eq_true rfl) ?_
  have E : Chg none1 w0 w0 := Chg.refl _ _
  refine Wp_seq_region ?_
  refine WpL_val rfl rfl (by decide) (r_assign (v := (.bool false)) rfl) ?_
  refine WpL_nil ?_
  refine Wp_seq_region ?_
  refine WpL_val rfl rfl (by decide) (r_move (v := (.slice a ll.length c)) rfl) ?_
  refine WpL_enter rfl rfl (by decide) (r_callF (vs := [(.slice a ll.length c)]) Try.func45 nm45 bd45 rfl) (cck_c _ _ ll h) ?_
  rintro _ w1 ⟨rfl, X1⟩
  replace E := E.ext X1
  refine WpL_val rfl rfl (by decide) (r_assign (v := (.int .i64 (partE ll))) rfl) ?_
  refine WpL_nil ?_
  refine Wp_seq_region ?_
  refine WpL_val rfl rfl (by decide) (r_move (v := (.slice a ll.length c)) rfl) ?_
  refine WpL_enter rfl rfl (by decide) (r_callF (vs := [(.slice a ll.length c)]) Try.func46 nm46 bd46 rfl) (least_c _ _ ll (h.ext E)) ?_
  rintro _ w2 ⟨⟨aL, cL, rfl, hL⟩, X2⟩
  replace E := E.ext X2
  refine WpL_val rfl rfl (by decide) (r_move (v := (.tuple #[(.slice aL ((leastP ll).length) cL), (.int .i64 (partE ll))])) rfl) ?_
  refine WpL_val rfl rfl (by decide) (r_extract (vs := #[(.slice aL ((leastP ll).length) cL), (.int .i64 (partE ll))]) (v := (.slice aL ((leastP ll).length) cL)) rfl rfl) ?_
  refine WpL_val rfl rfl (by decide) (r_extract (vs := #[(.slice aL ((leastP ll).length) cL), (.int .i64 (partE ll))]) (v := (.int .i64 (partE ll))) rfl rfl) ?_
  refine WpL_val rfl rfl (by decide) (r_assign (v := (.slice aL ((leastP ll).length) cL)) rfl) ?_
  refine WpL_val rfl rfl (by decide) (r_assign (v := (.int .i64 (partE ll))) rfl) ?_
  refine WpL_nil ?_
  refine Wp_seq_region ?_
  refine WpL_val rfl rfl (by decide) (r_move (v := (.slice a ll.length c)) rfl) ?_
  refine WpL_val rfl rfl (by decide) (r_move (v := u) rfl) ?_
  refine WpL_enter rfl rfl (by decide) (r_callF (vs := [(.slice a ll.length c), u]) Try.func47 nm47 bd47 rfl) (word_c _ _ _ ll t (h.ext E) (ht.ext E) hb) ?_
  rintro _ w3 ⟨⟨aW, cW, rfl, hW⟩, X3⟩
  replace hL := hL.ext X3
  replace E := E.ext X3
  refine WpL_val rfl rfl (by decide) (r_move (v := (.tuple #[(.slice aW ((wordL ll t).length) cW), (.int .i64 (wordE ll t))])) rfl) ?_
  refine WpL_val rfl rfl (by decide) (r_extract (vs := #[(.slice aW ((wordL ll t).length) cW), (.int .i64 (wordE ll t))]) (v := (.slice aW ((wordL ll t).length) cW)) rfl rfl) ?_
  refine WpL_val rfl rfl (by decide) (r_extract (vs := #[(.slice aW ((wordL ll t).length) cW), (.int .i64 (wordE ll t))]) (v := (.int .i64 (wordE ll t))) rfl rfl) ?_
  refine WpL_val rfl rfl (by decide) (r_assign (v := (.slice aW ((wordL ll t).length) cW)) rfl) ?_
  refine WpL_val rfl rfl (by decide) (r_assign (v := (.int .i64 (wordE ll t))) rfl) ?_
  refine WpL_nil ?_
  refine Wp_seq_region ?_
  refine WpL_val rfl rfl (by decide) (r_move (v := (.slice a ll.length c)) rfl) ?_
  refine WpL_val rfl rfl (by decide) (r_move (v := (.int .i64 r)) rfl) ?_
  refine WpL_enter rfl rfl (by decide) (r_callF (vs := [(.slice a ll.length c), (.int .i64 r)]) Try.func48 nm48 bd48 rfl) (index_c _ _ ll r (h.ext E)) ?_
  rintro _ w4 ⟨rfl, X4⟩
  replace hL := hL.ext X4
  replace hW := hW.ext X4
  replace E := E.ext X4
  refine WpL_val rfl rfl (by decide) (r_move (v := (.tuple #[(.int .i64 (if idxE ll r = 0 then clAt ll r else 0)), (.int .i64 (idxE ll r))])) rfl) ?_
  refine WpL_val rfl rfl (by decide) (r_extract (vs := #[(.int .i64 (if idxE ll r = 0 then clAt ll r else 0)), (.int .i64 (idxE ll r))]) (v := (.int .i64 (if idxE ll r = 0 then clAt ll r else 0))) rfl rfl) ?_
  refine WpL_val rfl rfl (by decide) (r_extract (vs := #[(.int .i64 (if idxE ll r = 0 then clAt ll r else 0)), (.int .i64 (idxE ll r))]) (v := (.int .i64 (idxE ll r))) rfl rfl) ?_
  refine WpL_val rfl rfl (by decide) (r_assign (v := (.int .i64 (if idxE ll r = 0 then clAt ll r else 0))) rfl) ?_
  refine WpL_val rfl rfl (by decide) (r_assign (v := (.int .i64 (idxE ll r))) rfl) ?_
  refine WpL_nil ?_
  refine Wp_seq ?_
  refine Wp_seq_region ?_
  refine WpL_enter rfl rfl (by decide) (r_callF (vs := []) Try.func42 nm42 bd42 rfl) (cbegun_c _) ?_
  rintro _ w5 ⟨rfl, X5⟩
  replace hL := hL.ext X5
  replace hW := hW.ext X5
  replace E := E.ext X5
  refine WpL_val rfl rfl (by decide) (r_not (b := true) rfl) ?_
  refine WpL_val rfl rfl (by decide) (r_move (v := (.bool false)) rfl) ?_
  refine WpL_guard_yes (oj := _) rfl rfl (by decide) rfl ?_
  refine WpL_val rfl rfl (by decide) (r_move (v := (.slice a ll.length c)) rfl) ?_
  refine WpL_guard_yes (oj := _) rfl rfl (by decide) rfl ?_
  refine WpL_enter rfl rfl (by decide) (r_callF (vs := [(.slice a ll.length c)]) Try.func49 nm49 bd49 rfl) (part_c _ _ ll (h.ext E)) ?_
  rintro _ w6 ⟨rfl, X6⟩
  replace hL := hL.ext X6
  replace hW := hW.ext X6
  replace E := E.ext X6
  refine WpL_guard_yes (oj := _) rfl rfl (by decide) rfl ?_
  refine WpL_val rfl rfl (by decide) (r_move (v := (.int .i64 (partE ll))) rfl) ?_
  refine WpL_guard_yes (oj := _) rfl rfl (by decide) rfl ?_
  refine WpL_val rfl rfl (by decide) (r_neq (k := .i64) (a := partE ll) (b := partE ll) rfl rfl) ?_
  refine WpL_val rfl rfl (by decide) (r_pick (b := false) (v := (.bool (decide ((partE ll : Int) ≠ partE ll)))) rfl rfl) ?_
  refine WpL_val rfl rfl (by decide) (r_move (v := (.bool (decide ((partE ll : Int) ≠ partE ll)))) rfl) ?_
  have hg1 : (decide ((partE ll : Int) ≠ partE ll)) = false := decide_eq_false (fun h => h rfl)
  refine WpL_guard_yes (oj := _) rfl rfl (by decide) (congrArg Value.bool hg1) ?_
  refine WpL_val rfl rfl (by decide) (r_move (v := (.int .i64 (partE ll))) rfl) ?_
  refine WpL_guard_yes (oj := _) rfl rfl (by decide) (congrArg Value.bool hg1) ?_
  refine WpL_val rfl rfl (by decide) (r_move (v := (.int .i64 (partE ll))) rfl) ?_
  refine WpL_guard_yes (oj := _) rfl rfl (by decide) (congrArg Value.bool hg1) ?_
  refine WpL_val rfl rfl (by decide) (r_neq (k := .i64) (a := partE ll) (b := partE ll) rfl rfl) ?_
  refine WpL_val rfl rfl (by decide) (r_pick (b := decide ((partE ll : Int) ≠ partE ll)) (v := (.bool (decide ((partE ll : Int) ≠ partE ll)))) rfl (by rw [hg1]; rfl)) ?_
  refine WpL_nil ?_
  refine Wp_cond_false (congrArg Value.bool hg1) ?_
  refine Wp_skip ?_
  refine thn_normal ?_
  refine Wp_seq_region ?_
  refine WpL_val rfl rfl (by decide) (r_move (v := (.slice a ll.length c)) rfl) ?_
  refine WpL_val rfl rfl (by decide) (r_move (v := u) rfl) ?_
  refine WpL_enter rfl rfl (by decide) (r_callF (vs := [(.slice a ll.length c), u]) Try.func50 nm50 bd50 rfl) (wof_c _ _ _ ll t (h.ext E) (ht.ext E) hb) ?_
  rintro _ w7 ⟨⟨aV, cV, rfl, hV⟩, X7⟩
  replace hL := hL.ext X7
  replace hW := hW.ext X7
  replace E := E.ext X7
  refine WpL_val rfl rfl (by decide) (r_move (v := (.tuple #[(.slice aV ((wordL ll t).length) cV), (.int .i64 (wordE ll t))])) rfl) ?_
  refine WpL_val rfl rfl (by decide) (r_extract (vs := #[(.slice aV ((wordL ll t).length) cV), (.int .i64 (wordE ll t))]) (v := (.slice aV ((wordL ll t).length) cV)) rfl rfl) ?_
  refine WpL_val rfl rfl (by decide) (r_extract (vs := #[(.slice aV ((wordL ll t).length) cV), (.int .i64 (wordE ll t))]) (v := (.int .i64 (wordE ll t))) rfl rfl) ?_
  refine WpL_val rfl rfl (by decide) (r_assign (v := (.slice aV ((wordL ll t).length) cV)) rfl) ?_
  refine WpL_val rfl rfl (by decide) (r_assign (v := (.int .i64 (wordE ll t))) rfl) ?_
  refine WpL_nil ?_
  refine Wp_seq_region ?_
  refine WpL_val rfl rfl (by decide) (r_move (v := (.slice a ll.length c)) rfl) ?_
  refine WpL_val rfl rfl (by decide) (r_move (v := (.int .i64 r)) rfl) ?_
  refine s_buildSlice (ps := [(0, (.int .i64 r))]) (c := #[(.int .i64 r)]) (by decide) rfl Try.underlying22 siz3 zer3 (by decide) (by decide) (by kernel_rfl) ?_
  intro bq wq Nq
  have Fq := Nq.ge E
  replace hL := hL.ext Nq.ext
  replace hW := hW.ext Nq.ext
  replace hV := hV.ext Nq.ext
  replace E := E.ext Nq.ext
  have Bq := Nq.blk
  have hqI : IntsAt wq (.slice (some ⟨bq, 0, none⟩) 1 1) [r] := ints_of_blk [r] Bq (by simp) (by simp)
  refine WpL_enter rfl rfl (by decide) (r_callF (vs := [(.slice a ll.length c), (.slice (some ⟨bq, 0, none⟩) 1 1)]) Try.func50 nm50 bd50 rfl) (wof_c _ _ _ ll [r] (h.ext E) hqI (by simp)) ?_
  rintro _ w8 ⟨⟨aO, cO, rfl, hO⟩, X8⟩
  replace Bq := X8.keep Bq
  replace hL := hL.ext X8
  replace hW := hW.ext X8
  replace hV := hV.ext X8
  replace E := E.ext X8
  refine WpL_val rfl rfl (by decide) (r_move (v := (.tuple #[(.slice aO ((wordL ll [r]).length) cO), (.int .i64 (wordE ll [r]))])) rfl) ?_
  refine WpL_val rfl rfl (by decide) (r_extract (vs := #[(.slice aO ((wordL ll [r]).length) cO), (.int .i64 (wordE ll [r]))]) (v := (.slice aO ((wordL ll [r]).length) cO)) rfl rfl) ?_
  refine WpL_val rfl rfl (by decide) (r_extract (vs := #[(.slice aO ((wordL ll [r]).length) cO), (.int .i64 (wordE ll [r]))]) (v := (.int .i64 (wordE ll [r]))) rfl rfl) ?_
  refine WpL_val rfl rfl (by decide) (r_assign (v := (.slice aO ((wordL ll [r]).length) cO)) rfl) ?_
  refine WpL_val rfl rfl (by decide) (r_assign (v := (.int .i64 (wordE ll [r]))) rfl) ?_
  refine WpL_nil ?_
  refine Wp_seq ?_
  refine Wp_seq_region ?_
  refine WpL_val rfl rfl (by decide) (r_move (v := (.int .i64 (wordE ll t))) rfl) ?_
  refine WpL_val rfl rfl (by decide) (r_move (v := (.int .i64 (wordE ll t))) rfl) ?_
  refine WpL_val rfl rfl (by decide) (r_neq (k := .i64) (a := wordE ll t) (b := wordE ll t) rfl rfl) ?_
  refine WpL_val rfl rfl (by decide) (r_move (v := (.bool (decide ((wordE ll t : Int) ≠ wordE ll t)))) rfl) ?_
  have hg2 : (decide ((wordE ll t : Int) ≠ wordE ll t)) = false := decide_eq_false (fun h => h rfl)
  refine WpL_guard_yes (oj := _) rfl rfl (by decide) (congrArg Value.bool hg2) ?_
  refine WpL_val rfl rfl (by decide) (r_move (v := (.slice aW ((wordL ll t).length) cW)) rfl) ?_
  refine WpL_guard_yes (oj := _) rfl rfl (by decide) (congrArg Value.bool hg2) ?_
  refine WpL_val rfl rfl (by decide) (r_move (v := (.slice aV ((wordL ll t).length) cV)) rfl) ?_
  refine WpL_guard_yes (oj := _) rfl rfl (by decide) (congrArg Value.bool hg2) ?_
  refine WpL_enter rfl rfl (by decide) (r_callF (vs := [(.slice aW ((wordL ll t).length) cW), (.slice aV ((wordL ll t).length) cV)]) Try.func28 nm28 bd28 rfl) ((cinteq_c _ _ _ (wordL ll t) (wordL ll t) hW hV).mono (fun v w ⟨h1, h2⟩ => ⟨by rw [h1, decide_eq_true rfl], h2⟩ : ∀ v w, _ → v = .bool true ∧ Ext _ w)) ?_
  rintro _ w9 ⟨rfl, X9⟩
  replace Bq := X9.keep Bq
  replace hL := hL.ext X9
  replace hW := hW.ext X9
  replace hV := hV.ext X9
  replace hO := hO.ext X9
  replace E := E.ext X9
  refine WpL_guard_yes (oj := _) rfl rfl (by decide) (congrArg Value.bool hg2) ?_
  refine WpL_val rfl rfl (by decide) (r_not (b := true) rfl) ?_
  refine WpL_val rfl rfl (by decide) (r_pick (b := decide ((wordE ll t : Int) ≠ wordE ll t)) (v := (.bool false)) rfl (by rw [hg2]; rfl)) ?_
  refine WpL_val rfl rfl (by decide) (r_move (v := (.bool false)) rfl) ?_
  refine WpL_guard_yes (oj := _) rfl rfl (by decide) rfl ?_
  refine WpL_val rfl rfl (by decide) (r_move (v := (.int .i64 (idxE ll r))) rfl) ?_
  refine WpL_guard_yes (oj := _) rfl rfl (by decide) rfl ?_
  refine WpL_val rfl rfl (by decide) (r_move (v := (.int .i64 (wordE ll [r]))) rfl) ?_
  refine WpL_guard_yes (oj := _) rfl rfl (by decide) rfl ?_
  refine WpL_val rfl rfl (by decide) (r_neq (k := .i64) (a := idxE ll r) (b := wordE ll [r]) rfl rfl) ?_
  refine WpL_val rfl rfl (by decide) (r_pick (b := false) (v := (.bool (decide ((idxE ll r : Int) ≠ wordE ll [r])))) rfl rfl) ?_
  refine WpL_nil ?_
  have hc3 : (decide ((idxE ll r : Int) ≠ wordE ll [r])) = false := decide_eq_false (fun h => h (wordE_idx ll r).symm)
  refine Wp_cond_false (congrArg Value.bool hc3) ?_
  refine Wp_skip ?_
  refine thn_normal ?_
  refine Wp_seq ?_
  refine Wp_seq_region ?_
  refine WpL_val rfl rfl (by decide) (r_move (v := (.int .i64 (partE ll))) rfl) ?_
  refine WpL_val rfl rfl (by decide) (r_neq (k := .i64) (a := partE ll) (b := 0) rfl rfl) ?_
  refine WpL_nil ?_
  refine Wp_cond (b := decide ((partE ll : Int) ≠ 0)) rfl (fun hp => ?_) (fun hp => ?_)
  · have khp := hp
    replace hp := of_decide_eq_true hp
    have hlp : leastP ll = [] := by unfold leastP; rw [if_neg hp]
    refine Wp_seq_region ?_
    refine WpL_val rfl rfl (by decide) (r_move (v := (.slice aL ((leastP ll).length) cL)) rfl) ?_
    refine WpL_val rfl rfl (by decide) (r_lenSlice (ad := aL) (n := (leastP ll).length) (cap := cL) Try.underlying22 rfl) ?_
    refine WpL_val rfl rfl (by decide) (r_eql (k := .i64) (a := (((leastP ll).length : Nat) : Int)) (b := 0) rfl rfl) ?_
    refine WpL_val rfl rfl (by decide) (r_move (v := (.bool (decide (((((leastP ll).length : Nat) : Int) : Int) = 0)))) rfl) ?_
    have hg5 : (decide (((((leastP ll).length : Nat) : Int) : Int) = 0)) = true := by rw [hlp]; rfl
    refine WpL_guard_yes (oj := _) rfl rfl (by decide) (congrArg Value.bool hg5) ?_
    refine WpL_val rfl rfl (by decide) (r_move (v := (.int .i64 (if idxE ll r = 0 then clAt ll r else 0))) rfl) ?_
    refine WpL_guard_yes (oj := _) rfl rfl (by decide) (congrArg Value.bool hg5) ?_
    refine WpL_val rfl rfl (by decide) (r_eql (k := .i64) (a := if idxE ll r = 0 then clAt ll r else 0) (b := 0) rfl rfl) ?_
    refine WpL_val rfl rfl (by decide) (r_pick (b := decide (((((leastP ll).length : Nat) : Int) : Int) = 0)) (v := (.bool (decide ((if idxE ll r = 0 then clAt ll r else 0 : Int) = 0)))) rfl (by rw [hg5]; rfl)) ?_
    refine WpL_val rfl rfl (by decide) (r_assign (v := (.bool (decide ((if idxE ll r = 0 then clAt ll r else 0 : Int) = 0)))) rfl) ?_
    refine WpL_nil ?_
    refine Wp_ret ?_
    refine thn_ret ?_
    refine fin_tmp Try.results8 (v := (.bool (decide ((if idxE ll r = 0 then clAt ll r else 0 : Int) = 0)))) rfl ?_
    have hi : idxE ll r ≠ 0 := by unfold idxE; rw [if_pos hp]; exact hp
    exact ⟨bool_eq (decide_eq_true (by rw [if_neg hi])), E⟩
  · have khp := hp
    replace hp := of_decide_eq_false hp
    have hp0 : partE ll = 0 := by omega
    obtain ⟨hl16, hb0, hheads, hpart⟩ := partE_zero hp0
    have hlp : leastP ll = leastL ll := by unfold leastP; rw [if_pos hp0]
    have hlpl : (leastP ll).length = ll.length := by rw [hlp]; unfold leastL; rw [List.length_map]
    refine Wp_skip ?_
    refine thn_normal ?_
    refine Wp_seq ?_
    refine Wp_seq_region ?_
    refine WpL_val rfl rfl (by decide) (r_move (v := (.slice a ll.length c)) rfl) ?_
    refine WpL_val rfl rfl (by decide) (r_lenSlice (ad := a) (n := ll.length) (cap := c) Try.underlying53 rfl) ?_
    refine WpL_val rfl rfl (by decide) (r_move (v := (.int .i64 0)) rfl) ?_
    refine WpL_nil ?_
    refine Wp_block ?_
    refine Wp_loop (fun nn_ σ W6 => ∃ (k : Nat), (∃ jj_, σ = upds jj_ [(0, (.slice a ll.length c)), (8, (.slice aL ((leastP ll).length) cL)), (12, (.int .i64 (if idxE ll r = 0 then clAt ll r else 0))), (13, (.int .i64 (idxE ll r))), (16, (.slice aO ((wordL ll [r]).length) cO)), (88, (.slice a ll.length c)), (89, (.int .i64 ((ll.length : Nat) : Int))), (90, (.int .i64 ((k : Nat) : Int)))]) ∧ Chg none1 w0 W6 ∧ Blk W6 bq #[(.int .i64 r)] 3 ∧ (k ≤ ll.length) ∧ (IntsAt W6 (.slice aL (leastP ll).length cL) (leastP ll)) ∧ (IntsAt W6 (.slice aO (wordL ll [r]).length cO) (wordL ll [r])) ∧ nn_ = ll.length - k) (n := ll.length - 0) ?_ ?_
    · exact ⟨0, Fits.out ⟨rfl, rfl, rfl, rfl, rfl, rfl, rfl, rfl, trivial⟩, E, Bq, Nat.zero_le _, hL, hO, rfl⟩
    · clear E Bq
      rintro _ _ W6 ⟨k, ⟨j6, rfl⟩, E, Bq, hk, hL9, hO9, rfl⟩
      refine Wp_seq_region ?_
      refine WpL_val rfl rfl (by decide) (r_lss (k := .i64) (a := ((k : Nat) : Int)) (b := ((ll.length : Nat) : Int)) rfl rfl) ?_
      refine WpL_nil ?_
      refine Wp_seq ?_
      refine Wp_cond (b := decide ((((k : Nat) : Int) : Int) < ((ll.length : Nat) : Int))) rfl (fun hlt => ?_) (fun hlt => ?_)
      · have khlt := hlt
        replace hlt := of_decide_eq_true hlt
        obtain ⟨l, hx⟩ := get_of_lt (l := ll) (i := k) (by omega)
        obtain ⟨b, o, rfl, hcl⟩ := spss_cells h (by omega)
        obtain ⟨ra, rc, hcell, hsp⟩ := hcl k l hx
        have hgl := getD_get (d := []) hx
        have hne : l ≠ [] := by have := (hheads k (by omega)).1; rwa [hgl] at this
        obtain ⟨s1, hs1, hl1⟩ := head_some hne
        obtain ⟨sb, so, rfl, hsc⟩ := spans_cells hsp (by cases l with | nil => exact absurd rfl hne | cons x y => simp)
        have hlpos : 0 < l.length := lt_of_get hs1
        obtain ⟨lb, lo, rfl, hlc⟩ := ints_cells (l := leastP ll) hL9 (by omega)
        have hlk : (leastP ll)[k]? = some s1.1 := by rw [hlp]; unfold leastL; rw [List.getElem?_map, hx, Option.map_some, hl1]
        refine Wp_skip ?_
        refine thn_normal ?_
        refine Wp_seq ?_
        refine Wp_block ?_
        refine Wp_seq_region ?_
        refine WpL_val rfl rfl (by decide) (r_move (v := (.int .i64 ((k : Nat) : Int))) rfl) ?_
        refine WpL_val rfl rfl (by decide) (r_indexSlice (b := b) (o := o) (len := ll.length) (cap := c) (i := k) (o' := o + k) rfl rfl rfl Try.underlying53 siz23 (by omega) (by omega)) ?_
        refine WpL_val rfl rfl (by decide) (r_load (v := (.slice (some ⟨sb, so, none⟩) l.length rc)) rfl flat23 (E.cell (fun f => f) hcell)) ?_
        refine WpL_val rfl rfl (by decide) (r_assign (v := (.int .i64 ((k : Nat) : Int))) rfl) ?_
        refine WpL_val rfl rfl (by decide) (r_assign (v := (.slice (some ⟨sb, so, none⟩) l.length rc)) rfl) ?_
        refine WpL_nil ?_
        refine Wp_seq_draw 15 mixed (by kernel_rfl) ?_
        intro w8 X8 _
        replace Bq := X8.keep Bq
        replace hL9 := hL9.ext X8
        replace hO9 := hO9.ext X8
        replace hlc := fun i x hx => Ext.cell X8 (hlc i x hx)
        replace E := E.ext X8
        refine WpT_val rfl rfl (by decide) (r_move (v := (.slice (some ⟨lb, lo, none⟩) ((leastP ll).length) cL)) rfl) ?_
        refine WpT_val rfl rfl (by decide) (r_lenSlice (ad := some ⟨lb, lo, none⟩) (n := (leastP ll).length) (cap := cL) Try.underlying22 rfl) ?_
        refine WpT_val rfl rfl (by decide) (r_move (v := (.slice (some ⟨b, o, none⟩) ll.length c)) rfl) ?_
        refine WpT_val rfl rfl (by decide) (r_lenSlice (ad := some ⟨b, o, none⟩) (n := ll.length) (cap := c) Try.underlying53 rfl) ?_
        refine WpT_val rfl rfl (by decide) (r_neq (k := .i64) (a := (((leastP ll).length : Nat) : Int)) (b := ((ll.length : Nat) : Int)) rfl rfl) ?_
        refine WpT_val rfl rfl (by decide) (r_move (v := (.bool (decide (((((leastP ll).length : Nat) : Int) : Int) ≠ ((ll.length : Nat) : Int))))) rfl) ?_
        have hg9 : (decide (((((leastP ll).length : Nat) : Int) : Int) ≠ ((ll.length : Nat) : Int))) = false := decide_eq_false (by omega)
        refine WpT_guard_yes (oj := _) rfl rfl (by decide) (congrArg Value.bool hg9) ?_
        refine WpT_val rfl rfl (by decide) (r_move (v := (.slice (some ⟨lb, lo, none⟩) ((leastP ll).length) cL)) rfl) ?_
        refine WpT_guard_yes (oj := _) rfl rfl (by decide) (congrArg Value.bool hg9) ?_
        refine WpT_val rfl rfl (by decide) (r_move (v := (.int .i64 ((k : Nat) : Int))) rfl) ?_
        refine WpT_guard_yes (oj := _) rfl rfl (by decide) (congrArg Value.bool hg9) ?_
        refine WpT_val rfl rfl (by decide) (r_indexSlice (b := lb) (o := lo) (len := (leastP ll).length) (cap := cL) (i := k) (o' := lo + k) rfl rfl rfl Try.underlying22 siz3 (by omega) (by omega)) ?_
        refine WpT_guard_yes (oj := _) rfl rfl (by decide) (congrArg Value.bool hg9) ?_
        refine WpT_val rfl rfl (by decide) (r_load (v := (.int .i64 s1.1)) rfl flat3 (hlc k _ hlk)) ?_
        refine WpT_guard_yes (oj := _) rfl rfl (by decide) (congrArg Value.bool hg9) ?_
        refine WpT_val rfl rfl (by decide) (r_move (v := (.slice (some ⟨sb, so, none⟩) l.length rc)) rfl) ?_
        refine WpT_guard_yes (oj := _) rfl rfl (by decide) (congrArg Value.bool hg9) ?_
        refine WpT_val rfl rfl (by decide) (r_indexSlice (b := sb) (o := so) (len := l.length) (cap := rc) (i := 0) (o' := so + 0 * 2) rfl rfl rfl Try.underlying23 siz37 (by omega) (by omega)) ?_
        refine WpT_guard_yes (oj := _) rfl rfl (by decide) (congrArg Value.bool hg9) ?_
        refine WpT_val rfl rfl (by decide) (r_fieldAddr (b := sb) (o := so + 0 * 2) (o' := so + 0 * 2) rfl Try.underlying37 rfl siz3 rfl) ?_
        refine WpT_guard_yes (oj := _) rfl rfl (by decide) (congrArg Value.bool hg9) ?_
        refine WpT_val rfl rfl (by decide) (r_load (v := (.int .i64 s1.1)) rfl flat3 (E.cell (fun f => f) (hsc 0 s1 hs1 0 _ rfl))) ?_
        refine WpT_guard_yes (oj := _) rfl rfl (by decide) (congrArg Value.bool hg9) ?_
        refine WpT_val rfl rfl (by decide) (r_neq (k := .i64) (a := s1.1) (b := s1.1) rfl rfl) ?_
        refine WpT_zero ?_
        refine WpL_val rfl rfl (by decide) (r_pick (b := decide (((((leastP ll).length : Nat) : Int) : Int) ≠ ((ll.length : Nat) : Int))) (v := (.bool (decide ((s1.1 : Int) ≠ s1.1)))) rfl (by rw [hg9]; rfl)) ?_
        refine WpL_nil ?_
        have hc10 : (decide ((s1.1 : Int) ≠ s1.1)) = false := decide_eq_false (fun h => h rfl)
        refine Wp_cond_false (congrArg Value.bool hc10) ?_
        refine Wp_skip ?_
        refine inB_normal ?_
        refine thn_normal ?_
        refine Wp_region ?_
        refine WpL_val rfl rfl (by decide) (r_add (k := .i64) (a := ((k : Nat) : Int)) (b := 1) (c := ((k : Nat) : Int) + 1) rfl rfl (wI64 (by omega))) ?_
        refine WpL_val rfl rfl (by decide) (r_move (v := (.int .i64 (((k : Nat) : Int) + 1))) rfl) ?_
        refine WpL_nil ?_
        refine thn_normal ?_
        exact ⟨ll.length - (k + 1), by omega, k + 1, Fits.out ⟨rfl, rfl, rfl, rfl, rfl, rfl, rfl, rfl, trivial⟩, E, Bq, (by omega), hL9, hO9, rfl⟩
      · have khlt := hlt
        replace hlt := of_decide_eq_false hlt
        refine Wp_exit ?_
        refine thn_exit ?_
        refine thn_exit ?_
        refine inB_here ?_
        refine thn_normal ?_
        refine Wp_seq ?_
        refine Wp_seq_region ?_
        refine WpL_val rfl rfl (by decide) (r_move (v := (.int .i64 (idxE ll r))) rfl) ?_
        refine WpL_val rfl rfl (by decide) (r_neq (k := .i64) (a := idxE ll r) (b := 0) rfl rfl) ?_
        refine WpL_nil ?_
        refine Wp_cond (b := decide ((idxE ll r : Int) ≠ 0)) rfl (fun hi => ?_) (fun hi => ?_)
        · have khi := hi
          replace hi := of_decide_eq_true hi
          refine Wp_seq_region ?_
          refine WpL_val rfl rfl (by decide) (r_move (v := (.int .i64 (if idxE ll r = 0 then clAt ll r else 0))) rfl) ?_
          refine WpL_val rfl rfl (by decide) (r_eql (k := .i64) (a := if idxE ll r = 0 then clAt ll r else 0) (b := 0) rfl rfl) ?_
          refine WpL_val rfl rfl (by decide) (r_assign (v := (.bool (decide ((if idxE ll r = 0 then clAt ll r else 0 : Int) = 0)))) rfl) ?_
          refine WpL_nil ?_
          refine Wp_ret ?_
          refine thn_ret ?_
          refine fin_tmp Try.results8 (v := (.bool (decide ((if idxE ll r = 0 then clAt ll r else 0 : Int) = 0)))) rfl ?_
          exact ⟨bool_eq (decide_eq_true (by rw [if_neg hi])), E⟩
        · have khi := hi
          replace hi := of_decide_eq_false hi
          have hi0 : idxE ll r = 0 := by omega
          have hwl := wordL_idx hi0
          obtain ⟨ob, oo, rfl, hoc⟩ := ints_cells (l := wordL ll [r]) hO9 (by rw [hwl]; simp)
          have hwn : (wordL ll [r]).length = 1 := by rw [hwl]; rfl
          refine Wp_skip ?_
          refine thn_normal ?_
          refine Wp_seq_region ?_
          refine WpL_val rfl rfl (by decide) (r_move (v := (.int .i64 (if idxE ll r = 0 then clAt ll r else 0))) rfl) ?_
          refine WpL_val rfl rfl (by decide) (r_move (v := (.slice (some ⟨ob, oo, none⟩) ((wordL ll [r]).length) cO)) rfl) ?_
          refine WpL_val rfl rfl (by decide) (r_indexSlice (b := ob) (o := oo) (len := (wordL ll [r]).length) (cap := cO) (i := 0) (o' := oo + 0) rfl rfl rfl Try.underlying22 siz3 (by omega) (by omega)) ?_
          refine WpL_val rfl rfl (by decide) (r_load (v := (.int .i64 (clAt ll r))) rfl flat3 (hoc 0 _ (by rw [hwl]; rfl))) ?_
          refine WpL_val rfl rfl (by decide) (r_eql (k := .i64) (a := if idxE ll r = 0 then clAt ll r else 0) (b := clAt ll r) rfl rfl) ?_
          refine WpL_val rfl rfl (by decide) (r_assign (v := (.bool (decide ((if idxE ll r = 0 then clAt ll r else 0 : Int) = clAt ll r)))) rfl) ?_
          refine WpL_nil ?_
          refine Wp_ret ?_
          refine fin_tmp Try.results8 (v := (.bool (decide ((if idxE ll r = 0 then clAt ll r else 0 : Int) = clAt ll r)))) rfl ?_
          exact ⟨bool_eq (decide_eq_true (by rw [if_pos hi0])), E⟩
end Go.Proofs
