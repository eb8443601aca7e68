/- Walks: the normal form, and the law RetreeNormKeeps. -/
import Derived.Test.YtiepeobnpmoghaaDoorW29
import Derived.Test.YtiepeobnpmoghaaDoorW12
import Derived.Test.YtiepeobnpmoghaaDoorW14
import Derived.Test.YtiepeobnpmoghaaDoorLk
import Derived.Test.YtiepeobnpmoghaaDoorDag
import Derived.Test.YtiepeobnpmoghaaDoorW15
namespace Go.Proofs
open Go Go.Eng
set_option maxRecDepth 100000

mutual
theorem ok_sets : ∀ (t : Re), okRe t → setsOk t
  | .mk k set args mn mx ng, h => by
    have h1 := okRe_node h
    have h2 := okRe_form h
    have h3 := okRe_args h
    simp only [setsOk]
    refine ⟨?_, oks_sets args h3⟩
    obtain ⟨ha, hb, hf⟩ := h2
    by_cases hk : k = 2
    · unfold nodeE at h1
      simp only [Re.kind] at ha hb
      rw [if_neg (by simp only [Re.kind]; omega), if_neg (by simp [hf]), if_pos (by simp only [Re.kind]; exact hk)] at h1
      split at h1
      · omega
      · rename_i hc
        simp only [Re.set] at hc
        unfold checkE at hc
        split at hc
        · omega
        · omega
    · simp only [formB, Bool.and_eq_true, Bool.or_eq_true, decide_eq_true_eq, Re.kind, Re.set] at hf
      have := hf.1.1.1.2.resolve_left (by simp [hk])
      simp at this
      rw [this]; simp
theorem oks_sets : ∀ (ts : List Re), okRes ts → setsOks ts
  | [], _ => by simp only [setsOks]
  | t :: ts, h => by simp only [okRes] at h; simp only [setsOks]; exact ⟨ok_sets t h.1, oks_sets ts h.2⟩
end

set_option maxHeartbeats 1000000 in
theorem normal_c (w0 : World) (t : Re) (vs : List Value) (ht : ReAt w0 t vs) :
    Ret Tryd.prog 26 #[.agg vs.toArray] w0 fun v w => ∃ us, v = .tuple #[.agg us.toArray, .int .i64 (fitsE t 40)] ∧ ReAt w (if fitsE t 40 = 0 then normT t else noneT) us ∧ Ext w0 w := by
  have ht0 := ht
  obtain ⟨sa, sc, aa, ac, rfl, _, _, _⟩ := ht.form
  refine Ret_of Tryd.func26 rfl Tryd.ntmps26 (Nat.le_of_ble_eq_true rfl) ?_
  have E : Chg none1 w0 w0 := Chg.refl _ _
  refine Wp_seq_region ?_
  refine s_box (v := (.agg #[(.int .i64 t.kind), (.slice sa t.set.length sc), (.slice aa t.args.length ac), (.int .i64 t.mn), (.int .i64 t.mx), (.bool t.neg)])) (c := #[(.int .i64 t.kind), (.slice sa t.set.length sc), (.slice aa t.args.length ac), (.int .i64 t.mn), (.int .i64 t.mx), (.bool t.neg)]) (by decide) rfl rfl ?_
  intro br wr Nr
  have Fr := Nr.ge E
  replace E := E.ext Nr.ext
  have Br := Nr.blk
  refine s_alloc (c := #[(.int .i64 0), (.slice none 0 0), (.slice none 0 0), (.int .i64 0), (.int .i64 0), (.bool false)]) (by decide) zer27 rfl ?_
  intro bo wo No
  have Fo := No.ge E
  have Oo_br := No.lt Br
  replace Br := No.keep Br
  replace E := E.ext No.ext
  have Bo := No.blk
  refine WpL_val rfl rfl (by decide) (r_assign (v := (.int .i64 0)) rfl) ?_
  refine WpL_nil ?_
  refine Wp_seq ?_
  refine Wp_seq_region ?_
  refine WpL_val rfl rfl (by decide) (r_loadAgg (vs := [(.int .i64 t.kind), (.slice sa t.set.length sc), (.slice aa t.args.length ac), (.int .i64 t.mn), (.int .i64 t.mx), (.bool t.neg)]) rfl agg27 siz27 rfl (Br.cells rfl)) ?_
  refine WpL_enter rfl rfl (by decide) (r_callF (vs := [(.agg #[(.int .i64 t.kind), (.slice sa t.set.length sc), (.slice aa t.args.length ac), (.int .i64 t.mn), (.int .i64 t.mx), (.bool t.neg)])]) Tryd.func52 nm52 bd52 rfl) (check_c _ t _ (ReAt.ext E t ht0)) ?_
  rintro _ w9 ⟨rfl, X9⟩
  replace Br := X9.keep Br
  replace Bo := X9.keep Bo
  replace E := E.ext X9
  refine WpL_val rfl rfl (by decide) (r_assign (v := (.int .i64 (fitsE t 40))) rfl) ?_
  refine WpL_nil ?_
  refine Wp_seq_region ?_
  refine WpL_val rfl rfl (by decide) (r_move (v := (.int .i64 (fitsE t 40))) rfl) ?_
  refine WpL_val rfl rfl (by decide) (r_neq (k := .i64) (a := fitsE t 40) (b := 0) rfl rfl) ?_
  refine WpL_nil ?_
  refine Wp_cond (b := decide ((fitsE t 40 : Int) ≠ 0)) rfl (fun hf => ?_) (fun hf => ?_)
  · have khf := hf
    replace hf := of_decide_eq_true hf
    refine Wp_seq_region ?_
    refine WpL_val rfl rfl (by decide) (r_build (ps := []) (v := (.agg #[(.int .i64 0), (.slice none 0 0), (.slice none 0 0), (.int .i64 0), (.int .i64 0), (.bool false)])) rfl (by kernel_rfl)) ?_
    refine WpL_val rfl rfl (by decide) (r_move (v := (.int .i64 (fitsE t 40))) rfl) ?_
    refine s_storeAgg (b := bo) (o := 0) (c' := #[(.int .i64 0), (.slice none 0 0), (.slice none 0 0), (.int .i64 0), (.int .i64 0), (.bool false)]) rfl rfl (by simp [Value.oneCell']) siz27 rfl Bo (by simp) rfl ?_
    intro w2 S2
    replace Br := S2.keep (by omega) Br
    replace E := S2.step E (by first | exact Or.inl (by omega) | exact Or.inr rfl | exact Or.inr (by assumption) | exact Or.inr (by simp) | exact Or.inr (by omega) | exact Or.inr (by dsimp only; omega))
    replace Bo := S2.blk
    refine WpL_val rfl rfl (by decide) (r_assign (v := (.int .i64 (fitsE t 40))) rfl) ?_
    refine WpL_nil ?_
    refine Wp_ret ?_
    refine thn_ret ?_
    refine fin_agg_tmp Tryd.results26 (vs := [(.int .i64 0), (.slice none 0 0), (.slice none 0 0), (.int .i64 0), (.int .i64 0), (.bool false)]) (b := bo) (v' := (.int .i64 (fitsE t 40))) rfl agg27 siz27 rfl (Bo.cells rfl) rfl ?_
    refine ⟨_, rfl, ?_, E⟩
    rw [if_neg hf]
    exact ReIn.at _ (re_empty (fun _ => True) _ 0)
  · have khf := hf
    replace hf := of_decide_eq_false hf
    have hf0 : fitsE t 40 = 0 := by omega
    obtain ⟨hok, hsz⟩ := (fitsE_zero (by decide) (by decide)).1 hf0
    refine Wp_skip ?_
    refine thn_normal ?_
    refine Wp_seq_region ?_
    refine WpL_val rfl rfl (by decide) (r_loadAgg (vs := [(.int .i64 t.kind), (.slice sa t.set.length sc), (.slice aa t.args.length ac), (.int .i64 t.mn), (.int .i64 t.mx), (.bool t.neg)]) rfl agg27 siz27 rfl (Br.cells rfl)) ?_
    obtain ⟨n1, hn1⟩ : ∃ n1, n1 = w9.heap.size := ⟨_, rfl⟩
    have hbo := Bo.lt
    refine WpL_enter rfl rfl (by decide) (r_callF (vs := [(.agg #[(.int .i64 t.kind), (.slice sa t.set.length sc), (.slice aa t.args.length ac), (.int .i64 t.mn), (.int .i64 t.mx), (.bool t.neg)])]) Tryd.func54 nm54 bd54 rfl) (copy_c t.size t _ _ (Nat.le_refl _) (by omega) (ok_sets t hok) (ReAt.ext E t ht0)) ?_
    rintro _ w19 ⟨⟨us, Z, L, rfl, hTr, hZL, hnew⟩, X19⟩
    replace Br := X19.keep Br
    replace Bo := X19.keep Bo
    replace E := E.ext X19
    have hs19 := X19.size
    rw [← hn1] at hnew
    refine WpL_enter rfl rfl (by decide) (r_callF (vs := [(.agg us.toArray)]) Tryd.func53 nm53 bd53 rfl) (norm_c t.size t _ _ Z L (Nat.le_refl _) (by omega) hok hTr hZL (fun y hy => (hnew y hy).2)) ?_
    rintro _ w29 ⟨⟨us2, rfl, hre⟩, C29⟩
    replace Br := C29.keep (fun h => by have := hnew _ (.inr h); omega) Br
    replace Bo := C29.keep (fun h => by have := hnew _ (.inr h); omega) Bo
    replace E := E.step C29 (fun y hy h => by have := hnew y (.inr h); omega)
    have hre0 := hre
    obtain ⟨zsa, zsc, zaa, zac, rfl, _, _, _⟩ := hre.form
    have hC9 : Chg (fun y => y = bo) (w29) (w29) := Chg.refl _ _
    refine s_storeAgg (b := bo) (o := 0) (c' := #[(.int .i64 ((normT t).kind)), (.slice zsa ((normT t).set.length) zsc), (.slice zaa ((normT t).args.length) zac), (.int .i64 ((normT t).mn)), (.int .i64 ((normT t).mx)), (.bool ((normT t).neg))]) rfl rfl (by simp [Value.oneCell']) siz27 rfl Bo (by simp) rfl ?_
    intro w3 S3
    replace hC9 := S3.chg
    replace Br := S3.keep (by omega) Br
    replace E := S3.step E (by first | exact Or.inl (by omega) | exact Or.inr rfl | exact Or.inr (by assumption) | exact Or.inr (by simp) | exact Or.inr (by omega) | exact Or.inr (by dsimp only; omega))
    replace Bo := S3.blk
    refine WpL_val rfl rfl (by decide) (r_assign (v := (.int .i64 0)) rfl) ?_
    refine WpL_nil ?_
    refine Wp_ret ?_
    refine fin_agg_tmp Tryd.results26 (vs := [(.int .i64 ((normT t).kind)), (.slice zsa ((normT t).set.length) zsc), (.slice zaa ((normT t).args.length) zac), (.int .i64 ((normT t).mn)), (.int .i64 ((normT t).mx)), (.bool ((normT t).neg))]) (b := bo) (v' := (.int .i64 0)) rfl agg27 siz27 rfl (Bo.cells rfl) rfl ?_
    refine ⟨_, by rw [hf0], ?_, E⟩
    rw [if_pos hf0]
    refine ReIn.at _ (ReIn.chg hC9 ?_ _ hre0)
    rintro y (h | h | h) he
    · have he' : y = bo := he
      have := hnew y (.inl h); omega
    · have he' : y = bo := he
      have := hnew y (.inr h); omega
    · have he' : y = bo := he
      omega

def intsF (l : List Int) : Fct := fun v w => ∃ b, v = .slice (some ⟨b, 0, none⟩) l.length l.length ∧ IntsAt w v l
theorem intsF_ext (l : List Int) : Stable (intsF l) := by
  rintro v w w' e ⟨b, h1, h2⟩
  exact ⟨b, h1, h2.ext e⟩
theorem Does_ints4 {N : Nat} {σ : Env} {w : World} {dst : Option Tmp} {ty : TypeId} {pos : String} {af : Array Edge} {g : Option (Nat × Bool)} {x y z u : Operand} {a b c d : Int} (hx : ev σ x = .int .i64 a) (hy : ev σ y = .int .i64 b) (hz : ev σ z = .int .i64 c) (hu : ev σ u = .int .i64 d) :
    Does Tryd.prog N ⟨dst, .buildSlice 77 4 #[(0, x), (1, y), (2, z), (3, u)], ty, pos, af, g⟩ (intsF [a, b, c, d]) σ w := by
  have hn := New.mk' w #[.int .i64 a, .int .i64 b, .int .i64 c, .int .i64 d] 38
  refine Does_val (run_buildSlice (parts := [(0, x), (1, y), (2, z), (3, u)]) (ps := [(0, .int .i64 a), (1, .int .i64 b), (2, .int .i64 c), (3, .int .i64 d)]) (by simp only [List.map, hx, hy, hz, hu]) Tryd.underlying77 siz38 zer38 (by decide) (by decide) (by kernel_rfl)) hn.ext ?_
  exact ⟨_, rfl, ints_of_blk [a, b, c, d] hn.blk (by simp) (by simp)⟩

theorem begun_norm : normT (catT (oneT 97) emptyT) = oneT 97 := by rfl
theorem begun_fits : fitsE (catT (oneT 97) emptyT) 40 = 0 := by decide +kernel
theorem one_d (w : World) (r : Int) : Ret Tryd.prog 34 #[.int .i64 r] w fun v w' => (Fact.re (oneT r)).In v w' ∧ Ext w w' :=
  (one_c w r).mono fun v w' ⟨b, h1, h2, h3⟩ => ⟨⟨_, h1, one_at h2⟩, h3⟩
theorem resame_d {w : World} {t u : Re} {us vs : List Value} (ht : ReAt w t us) (hu : ReAt w u vs) (h : t = u) :
    Ret Tryd.prog 28 #[.agg us.toArray, .agg vs.toArray] w fun v w' => (Fact.eq (.bool true)).In v w' ∧ Ext w w' :=
  (resame_c t.size t u w us vs (Nat.le_refl _) ht hu).mono fun v w' ⟨h1, h2⟩ => ⟨h1.trans (bool_eq ((sameT_iff t u).2 h)), h2⟩
set_option maxHeartbeats 1000000 in
theorem rbegun_c (w0 : World) : Ret Tryd.prog 24 #[] w0 fun v w => v = .bool true ∧ Ext w0 w := by
  refine Ret_of Tryd.func24 rfl Tryd.ntmps24 (Nat.le_of_ble_eq_true rfl) ?_
  have E : Chg none1 w0 w0 := Chg.refl _ _
  refine Wp_seq_region ?_
  refine WpL_val rfl rfl (by decide) (r_assign (v := (.bool false)) rfl) ?_
  refine WpL_nil ?_
  refine Wp_seq_region ?_
  refine WpL_enter rfl rfl (by decide) (r_callF (vs := [(.int .i64 97)]) Tryd.func34 nm34 bd34 rfl) (one_c _ 97) ?_
  rintro _ w9 ⟨b, rfl, hsp, X9⟩
  replace E := E.ext X9
  have hone := one_at hsp
  refine WpL_enter rfl rfl (by decide) (r_callF (vs := [(.int .i64 1), (.slice none 0 0)]) Tryd.func12 nm12 bd12 rfl) (re_c _ 1 none 0 0) ?_
  rintro _ w19 ⟨rfl, X19⟩
  replace hone := ReAt.ext X19 _ hone
  replace E := E.ext X19
  refine s_buildSlice (ps := [(0, (.agg #[(.int .i64 2), (.slice (some ⟨b, 0, none⟩) 1 1), (.slice none 0 0), (.int .i64 0), (.int .i64 0), (.bool false)])), (1, (.agg #[(.int .i64 1), (.slice none 0 0), (.slice none 0 0), (.int .i64 0), (.int .i64 0), (.bool false)]))]) (c := #[(.int .i64 2), (.slice (some ⟨b, 0, none⟩) 1 1), (.slice none 0 0), (.int .i64 0), (.int .i64 0), (.bool false), (.int .i64 1), (.slice none 0 0), (.slice none 0 0), (.int .i64 0), (.int .i64 0), (.bool false)]) (by decide) rfl Tryd.underlying25 siz27 zer27 (by decide) (by decide) (by kernel_rfl) ?_
  intro bs ws Ns
  have Fs := Ns.ge E
  replace hone := ReAt.ext Ns.ext _ hone
  replace E := E.ext Ns.ext
  have Bs := Ns.blk
  refine WpL_enter rfl rfl (by decide) (r_callF (vs := [(.int .i64 3), (.slice (some ⟨bs, 0, none⟩) 2 2)]) Tryd.func12 nm12 bd12 rfl) (re_c _ 3 (some ⟨bs, 0, none⟩) 2 2) ?_
  rintro _ w29 ⟨rfl, X29⟩
  replace Bs := X29.keep Bs
  replace hone := ReAt.ext X29 _ hone
  replace E := E.ext X29
  have hcat : ReAt w29 (catT (oneT 97) emptyT) [.int .i64 3, .slice none 0 0, .slice (some ⟨bs, 0, none⟩) 2 2, .int .i64 0, .int .i64 0, .bool false] := ReAt.of (set := []) (args := [oneT 97, emptyT]) (SlAt.nil _ _ _ _) (by simp) (.inr ⟨bs, 0, rfl, by simp only [ResAt]; exact ⟨⟨_, Bs.cells rfl, hone⟩, ⟨_, Bs.cells rfl, ReIn.at _ (re_empty (fun _ => True) _ 1)⟩, trivial⟩⟩)
  refine WpL_enter rfl rfl (by decide) (r_callF (vs := [(.agg #[(.int .i64 3), (.slice none 0 0), (.slice (some ⟨bs, 0, none⟩) 2 2), (.int .i64 0), (.int .i64 0), (.bool false)])]) Tryd.func26 nm26 bd26 rfl) ((normal_c _ _ _ hcat).mono (R' := fun v w => ∃ us, v = .tuple #[.agg us.toArray, .int .i64 0] ∧ ReAt w (oneT 97) us ∧ Ext w29 w) (by rintro v w ⟨us, h1, h2, h3⟩; rw [begun_fits] at h1 h2; rw [if_pos rfl, begun_norm] at h2; exact ⟨us, h1, h2, h3⟩)) ?_
  rintro _ w39 ⟨us, rfl, hre, X39⟩
  replace Bs := X39.keep Bs
  replace hone := ReAt.ext X39 _ hone
  replace E := E.ext X39
  have hre0 := hre
  obtain ⟨zsa, zsc, zaa, zac, rfl, _, _, _⟩ := hre.form
  refine WpL_val rfl rfl (by decide) (r_move (v := (.tuple #[(.agg #[(.int .i64 2), (.slice zsa 1 zsc), (.slice zaa 0 zac), (.int .i64 0), (.int .i64 0), (.bool false)]), (.int .i64 0)])) rfl) ?_
  refine WpL_val rfl rfl (by decide) (r_extract (vs := #[(.agg #[(.int .i64 2), (.slice zsa 1 zsc), (.slice zaa 0 zac), (.int .i64 0), (.int .i64 0), (.bool false)]), (.int .i64 0)]) (v := (.agg #[(.int .i64 2), (.slice zsa 1 zsc), (.slice zaa 0 zac), (.int .i64 0), (.int .i64 0), (.bool false)])) rfl rfl) ?_
  refine WpL_val rfl rfl (by decide) (r_extract (vs := #[(.agg #[(.int .i64 2), (.slice zsa 1 zsc), (.slice zaa 0 zac), (.int .i64 0), (.int .i64 0), (.bool false)]), (.int .i64 0)]) (v := (.int .i64 0)) rfl rfl) ?_
  refine s_allocStore (v := (.agg #[(.int .i64 2), (.slice zsa 1 zsc), (.slice zaa 0 zac), (.int .i64 0), (.int .i64 0), (.bool false)])) (c := #[(.int .i64 2), (.slice zsa 1 zsc), (.slice zaa 0 zac), (.int .i64 0), (.int .i64 0), (.bool false)]) (n := 6) (by decide) zer27 rfl siz27 rfl rfl rfl (by simp [Value.oneCell']) ?_
  intro bn wn Nn
  have Fn := Nn.ge E
  have On_bs := Nn.lt Bs
  replace Bs := Nn.keep Bs
  replace hone := ReAt.ext Nn.ext _ hone
  replace hre0 := ReAt.ext Nn.ext _ hre0
  replace E := E.ext Nn.ext
  have Bn := Nn.blk
  refine WpL_val rfl rfl (by decide) (r_assign (v := (.int .i64 0)) rfl) ?_
  refine WpL_nil ?_
  refine Wp_seq ?_
  obtain ⟨Fs1, hFs1⟩ : ∃ Fs : List Fact, Fs = [.eq (.int .i64 0), .eq (.bool true), .eq (.bool true), .re (oneT 97), .re (oneT 97), .eq (.bool true), .eq (.bool true), .eq (.bool true)] := ⟨_, rfl⟩
  refine Wp_dag [11, 12, 13, 14, 15, 16, 17, 0] [[], [0], [1], [2], [2], [2, 3, 4], [2, 5], [0, 1, 2, 3, 4, 5, 6]] Fs1 hFs1 mixed (by kernel_rfl) (by kernel_rfl) ?_ ?_
  · intro wd X0
    refine DagSteps.cons (fun s' w' X U H => Or.inl ⟨?_, ?_⟩) ?_
    · exact Guarded_none rfl
    · exact Does_val (r_move (v := (.int .i64 0)) (U 2 rfl)) (Ext.refl _) rfl
    refine DagSteps.cons (fun s' w' X U H => Or.inl ⟨?_, ?_⟩) ?_
    · exact Guarded_none rfl
    · have e11 : s' 11 = (.int .i64 0) := H 0 rfl 11 (.eq (.int .i64 0)) rfl (by rw [hFs1]; rfl)
      exact Does_val (r_eql (k := .i64) (a := 0) (b := 0) e11 rfl) (Ext.refl _) rfl
    refine DagSteps.cons (fun s' w' X U H => Or.inl ⟨?_, ?_⟩) ?_
    · exact Guarded_none rfl
    · have e12 : s' 12 = (.bool true) := H 1 rfl 12 (.eq (.bool true)) rfl (by rw [hFs1]; rfl)
      exact Does_val (r_move (v := (.bool true)) e12) (Ext.refl _) rfl
    refine DagSteps.cons (fun s' w' X U H => Or.inl ⟨?_, ?_⟩) ?_
    · exact Guarded_some rfl rfl (d := 13) (H 2 rfl 13 (.eq (.bool true)) rfl (by rw [hFs1]; rfl))
    · exact Does_val (r_loadAgg (vs := [(.int .i64 2), (.slice zsa 1 zsc), (.slice zaa 0 zac), (.int .i64 0), (.int .i64 0), (.bool false)]) (U 1 rfl) agg27 siz27 rfl ((X0.trans X).keep Bn |>.cells rfl)) (Ext.refl _) ⟨_, rfl, ReAt.ext (X0.trans X) _ hre0⟩
    refine DagSteps.cons (fun s' w' X U H => Or.inl ⟨?_, ?_⟩) ?_
    · exact Guarded_some rfl rfl (d := 13) (H 2 rfl 13 (.eq (.bool true)) rfl (by rw [hFs1]; rfl))
    · exact Does_enter (r_callF (vs := [(.int .i64 97)]) Tryd.func34 nm34 bd34 (lst1 rfl)) (one_d _ 97)
    refine DagSteps.cons (fun s' w' X U H => Or.inl ⟨?_, ?_⟩) ?_
    · exact Guarded_some rfl rfl (d := 13) (H 2 rfl 13 (.eq (.bool true)) rfl (by rw [hFs1]; rfl))
    · obtain ⟨v14, e14, r14⟩ : (Fact.re (oneT 97)).In (s' 14) w' := H 3 rfl 14 (.re (oneT 97)) rfl (by rw [hFs1]; rfl)
      obtain ⟨v15, e15, r15⟩ : (Fact.re (oneT 97)).In (s' 15) w' := H 4 rfl 15 (.re (oneT 97)) rfl (by rw [hFs1]; rfl)
      exact Does_enter (r_callF (vs := [(.agg v14.toArray), (.agg v15.toArray)]) Tryd.func28 nm28 bd28 (lst2 e14 e15)) (resame_d r14 r15 rfl)
    refine DagSteps.cons (fun s' w' X U H => Or.inl ⟨?_, ?_⟩) ?_
    · exact Guarded_none rfl
    · have e13 : s' 13 = (.bool true) := H 2 rfl 13 (.eq (.bool true)) rfl (by rw [hFs1]; rfl)
      have e16 : s' 16 = (.bool true) := H 5 rfl 16 (.eq (.bool true)) rfl (by rw [hFs1]; rfl)
      exact Does_val (r_pick (b := true) (v := (.bool true)) e13 e16) (Ext.refl _) rfl
    refine DagSteps.cons (fun s' w' X U H => Or.inl ⟨?_, ?_⟩) ?_
    · exact Guarded_none rfl
    · have e17 : s' 17 = (.bool true) := H 6 rfl 17 (.eq (.bool true)) rfl (by rw [hFs1]; rfl)
      exact Does_val (r_assign (v := (.bool true)) e17) (Ext.refl _) rfl
    exact DagSteps.nil
  · intro s' w1 X1 U H
    obtain ⟨j1, rfl⟩ := Fits.out (σ := s') (l := [(0, (.bool true))]) ⟨(show s' 0 = (.bool true) from H 7 0 (.eq (.bool true)) rfl (by rw [hFs1]; rfl)), trivial⟩
    clear U H
    replace Bs := X1.keep Bs
    replace Bn := X1.keep Bn
    replace hone := ReAt.ext X1 _ hone
    replace hre0 := ReAt.ext X1 _ hre0
    replace E := E.ext X1
    refine thn_normal ?_
    refine Wp_ret ?_
    refine fin_tmp Tryd.results24 (v := (.bool true)) rfl ?_
    exact ⟨rfl, E⟩

set_option maxHeartbeats 4000000 in
theorem normkeeps_c (w0 : World) (hT : TabOk w0) (va vt : Value) (l t : List Int) (hl : IntsAt w0 va l) (ht : IntsAt w0 vt t) :
    Ret Tryd.prog 6 #[va, vt] w0 fun v w => v = .bool true ∧ Ext w0 w := by
  refine Ret_of Tryd.func6 rfl Tryd.ntmps6 (Nat.le_of_ble_eq_true rfl) ?_
  have E : Chg none1 w0 w0 := Chg.refl _ _
  refine Wp_seq_region ?_
  refine WpL_val rfl rfl (by decide) (r_assign (v := (.bool false)) rfl) ?_
  refine WpL_nil ?_
  refine Wp_seq ?_
  refine Wp_seq_region ?_
  refine WpL_enter rfl rfl (by decide) (r_callF (vs := []) Tryd.func24 nm24 bd24 rfl) (rbegun_c _) ?_
  rintro _ w9 ⟨rfl, X9⟩
  replace E := E.ext X9
  refine WpL_val rfl rfl (by decide) (r_not (b := true) rfl) ?_
  refine WpL_val rfl rfl (by decide) (r_move (v := (.bool false)) rfl) ?_
  refine WpL_guard_yes (oj := _) rfl rfl (by decide) rfl ?_
  refine WpL_enter rfl rfl (by decide) (r_callF (vs := []) Tryd.func8 nm8 bd8 rfl) (begun_c _ (hT.ext E)) ?_
  rintro _ w19 ⟨rfl, X19⟩
  replace E := E.ext X19
  refine WpL_guard_yes (oj := _) rfl rfl (by decide) rfl ?_
  refine WpL_val rfl rfl (by decide) (r_not (b := true) rfl) ?_
  refine WpL_val rfl rfl (by decide) (r_pick (b := false) (v := (.bool false)) rfl rfl) ?_
  refine WpL_nil ?_
  refine Wp_cond_false rfl ?_
  refine Wp_skip ?_
  refine thn_normal ?_
  refine Wp_seq_region ?_
  refine WpL_val rfl rfl (by decide) (r_move (v := va) rfl) ?_
  refine WpL_enter rfl rfl (by decide) (r_callF (vs := [va]) Tryd.func25 nm25 bd25 rfl) (mkReAll_c _ _ l (hl.ext E)) ?_
  rintro _ wa ⟨a, us, rfl, ga, za, ha, Xa⟩
  replace E := E.ext Xa
  replace ha := ReIn.at _ ha
  have fa := ha
  obtain ⟨sa, sc, aa, ac, rfl, _⟩ := ha.form
  have oka := gen_ok a ga
  have oka2 := ok_normT a oka
  have hsz2 := size_normT a
  refine WpL_val rfl rfl (by decide) (r_move (v := vt) rfl) ?_
  refine WpL_enter rfl rfl (by decide) (r_callF (vs := [vt]) Tryd.func10 nm10 bd10 rfl) (text_c _ _ t (ht.ext E)) ?_
  rintro _ wt ⟨ta, tc, text, rfl, hx, hlen, hrb, Xt⟩
  replace fa := ReAt.ext Xt a fa
  replace E := E.ext Xt
  have htx : Txt text := ⟨by omega, hrb⟩
  have hfa : fitsE a 40 = 0 := (fitsE_zero (by decide) (by decide)).2 ⟨oka, by omega⟩
  have hfn : fitsE (normT a) 40 = 0 := (fitsE_zero (by decide) (by decide)).2 ⟨oka2, by omega⟩
  refine s_allocStore (v := (.agg #[(.int .i64 a.kind), (.slice sa a.set.length sc), (.slice aa a.args.length ac), (.int .i64 a.mn), (.int .i64 a.mx), (.bool a.neg)])) (c := #[(.int .i64 a.kind), (.slice sa a.set.length sc), (.slice aa a.args.length ac), (.int .i64 a.mn), (.int .i64 a.mx), (.bool a.neg)]) (n := 6) (by decide) zer27 rfl siz27 rfl rfl rfl (by simp [Value.oneCell']) ?_
  intro bp wp Np
  have Fp := Np.ge E
  replace fa := ReAt.ext Np.ext a fa
  replace hx := hx.ext Np.ext
  replace E := E.ext Np.ext
  have Bp := Np.blk
  refine WpL_val rfl rfl (by decide) (r_assign (v := (.slice ta text.length tc)) rfl) ?_
  refine WpL_nil ?_
  refine Wp_seq_region ?_
  refine WpL_val rfl rfl (by decide) (r_loadAgg (vs := [(.int .i64 a.kind), (.slice sa a.set.length sc), (.slice aa a.args.length ac), (.int .i64 a.mn), (.int .i64 a.mx), (.bool a.neg)]) rfl agg27 siz27 rfl (Bp.cells rfl)) ?_
  refine WpL_enter rfl rfl (by decide) (r_callF (vs := [(.agg #[(.int .i64 a.kind), (.slice sa a.set.length sc), (.slice aa a.args.length ac), (.int .i64 a.mn), (.int .i64 a.mx), (.bool a.neg)])]) Tryd.func26 nm26 bd26 rfl) ((normal_c _ a _ fa).mono (R' := fun v w => ∃ us, v = .tuple #[.agg us.toArray, .int .i64 0] ∧ ReAt w (normT a) us ∧ Ext wp w) (by rintro v w ⟨us, h1, h2, h3⟩; rw [hfa] at h1 h2; rw [if_pos rfl] at h2; exact ⟨us, h1, h2, h3⟩)) ?_
  rintro _ wn ⟨us, rfl, fn, Xn⟩
  replace Bp := Xn.keep Bp
  replace fa := ReAt.ext Xn a fa
  replace hx := hx.ext Xn
  replace E := E.ext Xn
  have fn0 := fn
  obtain ⟨na, nc, nb, nd, rfl, _⟩ := fn.form
  refine WpL_val rfl rfl (by decide) (r_move (v := (.tuple #[(.agg #[(.int .i64 ((normT a).kind)), (.slice na ((normT a).set.length) nc), (.slice nb ((normT a).args.length) nd), (.int .i64 ((normT a).mn)), (.int .i64 ((normT a).mx)), (.bool ((normT a).neg))]), (.int .i64 0)])) rfl) ?_
  refine WpL_val rfl rfl (by decide) (r_extract (vs := #[(.agg #[(.int .i64 ((normT a).kind)), (.slice na ((normT a).set.length) nc), (.slice nb ((normT a).args.length) nd), (.int .i64 ((normT a).mn)), (.int .i64 ((normT a).mx)), (.bool ((normT a).neg))]), (.int .i64 0)]) (v := (.agg #[(.int .i64 ((normT a).kind)), (.slice na ((normT a).set.length) nc), (.slice nb ((normT a).args.length) nd), (.int .i64 ((normT a).mn)), (.int .i64 ((normT a).mx)), (.bool ((normT a).neg))])) rfl rfl) ?_
  refine WpL_val rfl rfl (by decide) (r_extract (vs := #[(.agg #[(.int .i64 ((normT a).kind)), (.slice na ((normT a).set.length) nc), (.slice nb ((normT a).args.length) nd), (.int .i64 ((normT a).mn)), (.int .i64 ((normT a).mx)), (.bool ((normT a).neg))]), (.int .i64 0)]) (v := (.int .i64 0)) rfl rfl) ?_
  refine s_allocStore (v := (.agg #[(.int .i64 ((normT a).kind)), (.slice na ((normT a).set.length) nc), (.slice nb ((normT a).args.length) nd), (.int .i64 ((normT a).mn)), (.int .i64 ((normT a).mx)), (.bool ((normT a).neg))])) (c := #[(.int .i64 ((normT a).kind)), (.slice na ((normT a).set.length) nc), (.slice nb ((normT a).args.length) nd), (.int .i64 ((normT a).mn)), (.int .i64 ((normT a).mx)), (.bool ((normT a).neg))]) (n := 6) (by decide) zer27 rfl siz27 rfl rfl rfl (by simp [Value.oneCell']) ?_
  intro bq wq Nq
  have Fq := Nq.ge E
  have Oq_bp := Nq.lt Bp
  replace Bp := Nq.keep Bp
  replace fa := ReAt.ext Nq.ext a fa
  replace hx := hx.ext Nq.ext
  replace fn0 := ReAt.ext Nq.ext _ fn0
  replace E := E.ext Nq.ext
  have Bq := Nq.blk
  refine WpL_val rfl rfl (by decide) (r_assign (v := (.int .i64 0)) rfl) ?_
  refine WpL_nil ?_
  refine Wp_seq_region ?_
  refine WpL_val rfl rfl (by decide) (r_loadAgg (vs := [(.int .i64 ((normT a).kind)), (.slice na ((normT a).set.length) nc), (.slice nb ((normT a).args.length) nd), (.int .i64 ((normT a).mn)), (.int .i64 ((normT a).mx)), (.bool ((normT a).neg))]) rfl agg27 siz27 rfl (Bq.cells rfl)) ?_
  refine WpL_enter rfl rfl (by decide) (r_callF (vs := [(.agg #[(.int .i64 ((normT a).kind)), (.slice na ((normT a).set.length) nc), (.slice nb ((normT a).args.length) nd), (.int .i64 ((normT a).mn)), (.int .i64 ((normT a).mx)), (.bool ((normT a).neg))])]) Tryd.func26 nm26 bd26 rfl) ((normal_c _ (normT a) _ fn0).mono (R' := fun v w => ∃ us, v = .tuple #[.agg us.toArray, .int .i64 0] ∧ ReAt w (normT a) us ∧ Ext wq w) (by rintro v w ⟨us, h1, h2, h3⟩; rw [hfn] at h1 h2; rw [if_pos rfl, norm_norm] at h2; exact ⟨us, h1, h2, h3⟩)) ?_
  rintro _ wm ⟨us, rfl, fm, Xm⟩
  replace Bp := Xm.keep Bp
  replace Bq := Xm.keep Bq
  replace fa := ReAt.ext Xm a fa
  replace hx := hx.ext Xm
  replace fn0 := ReAt.ext Xm _ fn0
  replace E := E.ext Xm
  have fm0 := fm
  obtain ⟨ma, mc, mb, md, rfl, _⟩ := fm.form
  have hcx : checkP a text = 0 := check_zero oka (by omega) htx
  have hcy : checkP (normT a) text = 0 := check_zero oka2 (by omega) htx
  have hrel := rel_normT (text := text) (by omega) a oka
  refine WpL_val rfl rfl (by decide) (r_move (v := (.tuple #[(.agg #[(.int .i64 ((normT a).kind)), (.slice ma ((normT a).set.length) mc), (.slice mb ((normT a).args.length) md), (.int .i64 ((normT a).mn)), (.int .i64 ((normT a).mx)), (.bool ((normT a).neg))]), (.int .i64 0)])) rfl) ?_
  refine WpL_val rfl rfl (by decide) (r_extract (vs := #[(.agg #[(.int .i64 ((normT a).kind)), (.slice ma ((normT a).set.length) mc), (.slice mb ((normT a).args.length) md), (.int .i64 ((normT a).mn)), (.int .i64 ((normT a).mx)), (.bool ((normT a).neg))]), (.int .i64 0)]) (v := (.agg #[(.int .i64 ((normT a).kind)), (.slice ma ((normT a).set.length) mc), (.slice mb ((normT a).args.length) md), (.int .i64 ((normT a).mn)), (.int .i64 ((normT a).mx)), (.bool ((normT a).neg))])) rfl rfl) ?_
  refine WpL_val rfl rfl (by decide) (r_extract (vs := #[(.agg #[(.int .i64 ((normT a).kind)), (.slice ma ((normT a).set.length) mc), (.slice mb ((normT a).args.length) md), (.int .i64 ((normT a).mn)), (.int .i64 ((normT a).mx)), (.bool ((normT a).neg))]), (.int .i64 0)]) (v := (.int .i64 0)) rfl rfl) ?_
  refine s_allocStore (v := (.agg #[(.int .i64 ((normT a).kind)), (.slice ma ((normT a).set.length) mc), (.slice mb ((normT a).args.length) md), (.int .i64 ((normT a).mn)), (.int .i64 ((normT a).mx)), (.bool ((normT a).neg))])) (c := #[(.int .i64 ((normT a).kind)), (.slice ma ((normT a).set.length) mc), (.slice mb ((normT a).args.length) md), (.int .i64 ((normT a).mn)), (.int .i64 ((normT a).mx)), (.bool ((normT a).neg))]) (n := 6) (by decide) zer27 rfl siz27 rfl rfl rfl (by simp [Value.oneCell']) ?_
  intro br wr Nr
  have Fr := Nr.ge E
  have Or_bp := Nr.lt Bp
  have Or_bq := Nr.lt Bq
  replace Bp := Nr.keep Bp
  replace Bq := Nr.keep Bq
  replace fa := ReAt.ext Nr.ext a fa
  replace hx := hx.ext Nr.ext
  replace fn0 := ReAt.ext Nr.ext _ fn0
  replace fm0 := ReAt.ext Nr.ext _ fm0
  replace E := E.ext Nr.ext
  have Br := Nr.blk
  refine WpL_val rfl rfl (by decide) (r_assign (v := (.int .i64 0)) rfl) ?_
  refine WpL_nil ?_
  refine Wp_seq_region ?_
  refine WpL_val rfl rfl (by decide) (r_loadAgg (vs := [(.int .i64 a.kind), (.slice sa a.set.length sc), (.slice aa a.args.length ac), (.int .i64 a.mn), (.int .i64 a.mx), (.bool a.neg)]) rfl agg27 siz27 rfl (Bp.cells rfl)) ?_
  refine WpL_val rfl rfl (by decide) (r_move (v := (.slice ta text.length tc)) rfl) ?_
  refine WpL_enter rfl rfl (by decide) (r_callF (vs := [(.agg #[(.int .i64 a.kind), (.slice sa a.set.length sc), (.slice aa a.args.length ac), (.int .i64 a.mn), (.int .i64 a.mx), (.bool a.neg)]), (.slice ta text.length tc)]) Tryd.func16 nm16 bd16 rfl) ((pairs_c _ a _ _ text fa hx (hT.ext E)).mono (R' := fun v w => ∃ b c, v = .tuple #[.slice b (pairsL (relOf text a) (text.length + 1)).length c, .int .i64 0] ∧ PairsAt w (.slice b (pairsL (relOf text a) (text.length + 1)).length c) (pairsL (relOf text a) (text.length + 1)) ∧ Ext wr w) (by rintro v w ⟨b, c, h1, h2, h3⟩; rw [hcx] at h1; rw [if_pos rfl] at h1; rw [if_pos hcx] at h2; exact ⟨b, c, h1, h2, h3⟩)) ?_
  rintro _ wx ⟨xb, xc, rfl, hpx, Xx⟩
  replace Bp := Xx.keep Bp
  replace Bq := Xx.keep Bq
  replace Br := Xx.keep Br
  replace fa := ReAt.ext Xx a fa
  replace hx := hx.ext Xx
  replace fn0 := ReAt.ext Xx _ fn0
  replace fm0 := ReAt.ext Xx _ fm0
  replace E := E.ext Xx
  refine WpL_val rfl rfl (by decide) (r_move (v := (.tuple #[(.slice xb ((pairsL (relOf text a) (text.length + 1)).length) xc), (.int .i64 0)])) rfl) ?_
  refine WpL_val rfl rfl (by decide) (r_extract (vs := #[(.slice xb ((pairsL (relOf text a) (text.length + 1)).length) xc), (.int .i64 0)]) (v := (.slice xb ((pairsL (relOf text a) (text.length + 1)).length) xc)) rfl rfl) ?_
  refine WpL_val rfl rfl (by decide) (r_extract (vs := #[(.slice xb ((pairsL (relOf text a) (text.length + 1)).length) xc), (.int .i64 0)]) (v := (.int .i64 0)) rfl rfl) ?_
  refine WpL_val rfl rfl (by decide) (r_assign (v := (.slice xb ((pairsL (relOf text a) (text.length + 1)).length) xc)) rfl) ?_
  refine WpL_val rfl rfl (by decide) (r_assign (v := (.int .i64 0)) rfl) ?_
  refine WpL_nil ?_
  refine Wp_seq_region ?_
  refine WpL_val rfl rfl (by decide) (r_loadAgg (vs := [(.int .i64 ((normT a).kind)), (.slice na ((normT a).set.length) nc), (.slice nb ((normT a).args.length) nd), (.int .i64 ((normT a).mn)), (.int .i64 ((normT a).mx)), (.bool ((normT a).neg))]) rfl agg27 siz27 rfl (Bq.cells rfl)) ?_
  refine WpL_val rfl rfl (by decide) (r_move (v := (.slice ta text.length tc)) rfl) ?_
  refine WpL_enter rfl rfl (by decide) (r_callF (vs := [(.agg #[(.int .i64 ((normT a).kind)), (.slice na ((normT a).set.length) nc), (.slice nb ((normT a).args.length) nd), (.int .i64 ((normT a).mn)), (.int .i64 ((normT a).mx)), (.bool ((normT a).neg))]), (.slice ta text.length tc)]) Tryd.func16 nm16 bd16 rfl) ((pairs_c _ (normT a) _ _ text fn0 hx (hT.ext E)).mono (R' := fun v w => ∃ b c, v = .tuple #[.slice b (pairsL (relOf text a) (text.length + 1)).length c, .int .i64 0] ∧ PairsAt w (.slice b (pairsL (relOf text a) (text.length + 1)).length c) (pairsL (relOf text a) (text.length + 1)) ∧ Ext wx w) (by rintro v w ⟨b, c, h1, h2, h3⟩; rw [hcy] at h1; rw [if_pos rfl, hrel] at h1; rw [if_pos hcy, hrel] at h2; exact ⟨b, c, h1, h2, h3⟩)) ?_
  rintro _ wy ⟨yb, yc, rfl, hpy, Xy⟩
  replace Bp := Xy.keep Bp
  replace Bq := Xy.keep Bq
  replace Br := Xy.keep Br
  replace fa := ReAt.ext Xy a fa
  replace hx := hx.ext Xy
  replace fn0 := ReAt.ext Xy _ fn0
  replace fm0 := ReAt.ext Xy _ fm0
  replace hpx := SlAt.ext hpx Xy
  replace E := E.ext Xy
  have hle : (decide ((((normT a).size : Nat) : Int) ≤ ((a.size : Nat) : Int))) = true := by simpa using hsz2
  refine WpL_val rfl rfl (by decide) (r_move (v := (.tuple #[(.slice yb ((pairsL (relOf text a) (text.length + 1)).length) yc), (.int .i64 0)])) rfl) ?_
  refine WpL_val rfl rfl (by decide) (r_extract (vs := #[(.slice yb ((pairsL (relOf text a) (text.length + 1)).length) yc), (.int .i64 0)]) (v := (.slice yb ((pairsL (relOf text a) (text.length + 1)).length) yc)) rfl rfl) ?_
  refine WpL_val rfl rfl (by decide) (r_extract (vs := #[(.slice yb ((pairsL (relOf text a) (text.length + 1)).length) yc), (.int .i64 0)]) (v := (.int .i64 0)) rfl rfl) ?_
  refine WpL_val rfl rfl (by decide) (r_assign (v := (.slice yb ((pairsL (relOf text a) (text.length + 1)).length) yc)) rfl) ?_
  refine WpL_val rfl rfl (by decide) (r_assign (v := (.int .i64 0)) rfl) ?_
  refine WpL_nil ?_
  refine Wp_seq ?_
  obtain ⟨Fs1, hFs1⟩ : ∃ Fs : List Fact, Fs = [.eq (.int .i64 0), .eq (.int .i64 0), .eq (.int .i64 0), .eq (.int .i64 0), .gen (intsF [0, 0, 0, 0]) (intsF_ext _), .eq (.bool true), .eq (.bool true), .re (normT a), .re (normT a), .eq (.bool true), .eq (.bool true), .eq (.bool true), .re (normT a), .eq (.int .i64 (((normT a).size : Nat) : Int)), .re a, .eq (.int .i64 ((a.size : Nat) : Int)), .eq (.bool true), .eq (.bool true), .eq (.bool true), .eq (.slice xb ((pairsL (relOf text a) (text.length + 1)).length) xc), .eq (.slice yb ((pairsL (relOf text a) (text.length + 1)).length) yc), .eq (.bool true), .eq (.bool true), .eq (.bool true)] := ⟨_, rfl⟩
  refine Wp_dag [47, 48, 49, 50, 51, 52, 53, 54, 55, 56, 57, 58, 59, 60, 61, 62, 63, 64, 65, 66, 67, 68, 69, 4] [[], [], [], [], [0, 1, 2, 3], [4], [5], [6], [6], [6, 7, 8], [6, 9], [9, 10], [11], [11, 12], [11], [11, 13, 14], [11, 13, 15], [11, 16], [15, 17], [18], [18], [18, 19, 20], [18, 21], [0, 1, 2, 3, 4, 5, 6, 7, 8, 9, 10, 11, 12, 13, 14, 15, 16, 17, 18, 19, 20, 21, 22]] Fs1 hFs1 mixed (by kernel_rfl) (by kernel_rfl) ?_ ?_
  · intro wd X0
    refine DagSteps.cons (fun s' w' X U H => Or.inl ⟨?_, ?_⟩) ?_
    · exact Guarded_none rfl
    · exact Does_val (r_move (v := (.int .i64 0)) (U 8 rfl)) (Ext.refl _) rfl
    refine DagSteps.cons (fun s' w' X U H => Or.inl ⟨?_, ?_⟩) ?_
    · exact Guarded_none rfl
    · exact Does_val (r_move (v := (.int .i64 0)) (U 10 rfl)) (Ext.refl _) rfl
    refine DagSteps.cons (fun s' w' X U H => Or.inl ⟨?_, ?_⟩) ?_
    · exact Guarded_none rfl
    · exact Does_val (r_move (v := (.int .i64 0)) (U 12 rfl)) (Ext.refl _) rfl
    refine DagSteps.cons (fun s' w' X U H => Or.inl ⟨?_, ?_⟩) ?_
    · exact Guarded_none rfl
    · exact Does_val (r_move (v := (.int .i64 0)) (U 14 rfl)) (Ext.refl _) rfl
    refine DagSteps.cons (fun s' w' X U H => Or.inl ⟨?_, ?_⟩) ?_
    · exact Guarded_none rfl
    · have e47 : s' 47 = (.int .i64 0) := H 0 rfl 47 (.eq (.int .i64 0)) rfl (by rw [hFs1]; rfl)
      have e48 : s' 48 = (.int .i64 0) := H 1 rfl 48 (.eq (.int .i64 0)) rfl (by rw [hFs1]; rfl)
      have e49 : s' 49 = (.int .i64 0) := H 2 rfl 49 (.eq (.int .i64 0)) rfl (by rw [hFs1]; rfl)
      have e50 : s' 50 = (.int .i64 0) := H 3 rfl 50 (.eq (.int .i64 0)) rfl (by rw [hFs1]; rfl)
      exact Does_ints4 e47 e48 e49 e50
    refine DagSteps.cons (fun s' w' X U H => Or.inl ⟨?_, ?_⟩) ?_
    · exact Guarded_none rfl
    · obtain ⟨b51, e51, i51⟩ := H 4 rfl 51 (.gen (intsF [0, 0, 0, 0]) (intsF_ext _)) rfl (by rw [hFs1]; rfl)
      exact Does_enter (r_callF (vs := [(.slice (some ⟨b51, 0, none⟩) 4 4)]) Tryd.func27 nm27 bd27 (lst1 e51)) ((good_c _ _ [0, 0, 0, 0] (e51 ▸ i51)).mono (fun v w h => h))
    refine DagSteps.cons (fun s' w' X U H => Or.inl ⟨?_, ?_⟩) ?_
    · exact Guarded_none rfl
    · have e52 : s' 52 = (.bool true) := H 5 rfl 52 (.eq (.bool true)) rfl (by rw [hFs1]; rfl)
      exact Does_val (r_move (v := (.bool true)) e52) (Ext.refl _) rfl
    refine DagSteps.cons (fun s' w' X U H => Or.inl ⟨?_, ?_⟩) ?_
    · exact Guarded_some rfl rfl (d := 53) (H 6 rfl 53 (.eq (.bool true)) rfl (by rw [hFs1]; rfl))
    · exact Does_val (r_loadAgg (vs := [(.int .i64 ((normT a).kind)), (.slice na ((normT a).set.length) nc), (.slice nb ((normT a).args.length) nd), (.int .i64 ((normT a).mn)), (.int .i64 ((normT a).mx)), (.bool ((normT a).neg))]) (U 7 rfl) agg27 siz27 rfl ((X0.trans X).keep Bq |>.cells rfl)) (Ext.refl _) ⟨_, rfl, ReAt.ext (X0.trans X) _ fn0⟩
    refine DagSteps.cons (fun s' w' X U H => Or.inl ⟨?_, ?_⟩) ?_
    · exact Guarded_some rfl rfl (d := 53) (H 6 rfl 53 (.eq (.bool true)) rfl (by rw [hFs1]; rfl))
    · exact Does_val (r_loadAgg (vs := [(.int .i64 ((normT a).kind)), (.slice ma ((normT a).set.length) mc), (.slice mb ((normT a).args.length) md), (.int .i64 ((normT a).mn)), (.int .i64 ((normT a).mx)), (.bool ((normT a).neg))]) (U 9 rfl) agg27 siz27 rfl ((X0.trans X).keep Br |>.cells rfl)) (Ext.refl _) ⟨_, rfl, ReAt.ext (X0.trans X) _ fm0⟩
    refine DagSteps.cons (fun s' w' X U H => Or.inl ⟨?_, ?_⟩) ?_
    · exact Guarded_some rfl rfl (d := 53) (H 6 rfl 53 (.eq (.bool true)) rfl (by rw [hFs1]; rfl))
    · obtain ⟨v54, e54, r54⟩ : (Fact.re (normT a)).In (s' 54) w' := H 7 rfl 54 (.re (normT a)) rfl (by rw [hFs1]; rfl)
      obtain ⟨v55, e55, r55⟩ : (Fact.re (normT a)).In (s' 55) w' := H 8 rfl 55 (.re (normT a)) rfl (by rw [hFs1]; rfl)
      exact Does_enter (r_callF (vs := [(.agg v54.toArray), (.agg v55.toArray)]) Tryd.func28 nm28 bd28 (lst2 e54 e55)) (resame_d r54 r55 rfl)
    refine DagSteps.cons (fun s' w' X U H => Or.inl ⟨?_, ?_⟩) ?_
    · exact Guarded_none rfl
    · have e53 : s' 53 = (.bool true) := H 6 rfl 53 (.eq (.bool true)) rfl (by rw [hFs1]; rfl)
      have e56 : s' 56 = (.bool true) := H 9 rfl 56 (.eq (.bool true)) rfl (by rw [hFs1]; rfl)
      exact Does_val (r_pick (b := true) (v := (.bool true)) e53 e56) (Ext.refl _) rfl
    refine DagSteps.cons (fun s' w' X U H => Or.inl ⟨?_, ?_⟩) ?_
    · exact Guarded_none rfl
    · have e57 : s' 57 = (.bool true) := H 10 rfl 57 (.eq (.bool true)) rfl (by rw [hFs1]; rfl)
      exact Does_val (r_move (v := (.bool true)) e57) (Ext.refl _) rfl
    refine DagSteps.cons (fun s' w' X U H => Or.inl ⟨?_, ?_⟩) ?_
    · exact Guarded_some rfl rfl (d := 58) (H 11 rfl 58 (.eq (.bool true)) rfl (by rw [hFs1]; rfl))
    · exact Does_val (r_loadAgg (vs := [(.int .i64 ((normT a).kind)), (.slice na ((normT a).set.length) nc), (.slice nb ((normT a).args.length) nd), (.int .i64 ((normT a).mn)), (.int .i64 ((normT a).mx)), (.bool ((normT a).neg))]) (U 7 rfl) agg27 siz27 rfl ((X0.trans X).keep Bq |>.cells rfl)) (Ext.refl _) ⟨_, rfl, ReAt.ext (X0.trans X) _ fn0⟩
    refine DagSteps.cons (fun s' w' X U H => Or.inl ⟨?_, ?_⟩) ?_
    · exact Guarded_some rfl rfl (d := 58) (H 11 rfl 58 (.eq (.bool true)) rfl (by rw [hFs1]; rfl))
    · obtain ⟨v59, e59, r59⟩ : (Fact.re (normT a)).In (s' 59) w' := H 12 rfl 59 (.re (normT a)) rfl (by rw [hFs1]; rfl)
      exact Does_enter (r_callF (vs := [(.agg v59.toArray)]) Tryd.func11 nm11 bd11 (lst1 e59)) (size_d r59 (by omega))
    refine DagSteps.cons (fun s' w' X U H => Or.inl ⟨?_, ?_⟩) ?_
    · exact Guarded_some rfl rfl (d := 58) (H 11 rfl 58 (.eq (.bool true)) rfl (by rw [hFs1]; rfl))
    · exact Does_val (r_loadAgg (vs := [(.int .i64 a.kind), (.slice sa a.set.length sc), (.slice aa a.args.length ac), (.int .i64 a.mn), (.int .i64 a.mx), (.bool a.neg)]) (U 5 rfl) agg27 siz27 rfl ((X0.trans X).keep Bp |>.cells rfl)) (Ext.refl _) ⟨_, rfl, ReAt.ext (X0.trans X) _ fa⟩
    refine DagSteps.cons (fun s' w' X U H => Or.inl ⟨?_, ?_⟩) ?_
    · exact Guarded_some rfl rfl (d := 58) (H 11 rfl 58 (.eq (.bool true)) rfl (by rw [hFs1]; rfl))
    · obtain ⟨v61, e61, r61⟩ : (Fact.re a).In (s' 61) w' := H 14 rfl 61 (.re a) rfl (by rw [hFs1]; rfl)
      exact Does_enter (r_callF (vs := [(.agg v61.toArray)]) Tryd.func11 nm11 bd11 (lst1 e61)) (size_d r61 (by omega))
    refine DagSteps.cons (fun s' w' X U H => Or.inl ⟨?_, ?_⟩) ?_
    · exact Guarded_some rfl rfl (d := 58) (H 11 rfl 58 (.eq (.bool true)) rfl (by rw [hFs1]; rfl))
    · have e60 : s' 60 = (.int .i64 (((normT a).size : Nat) : Int)) := H 13 rfl 60 (.eq (.int .i64 (((normT a).size : Nat) : Int))) rfl (by rw [hFs1]; rfl)
      have e62 : s' 62 = (.int .i64 ((a.size : Nat) : Int)) := H 15 rfl 62 (.eq (.int .i64 ((a.size : Nat) : Int))) rfl (by rw [hFs1]; rfl)
      exact Does_val (Eq.trans (r_leq (k := .i64) (a := (((normT a).size : Nat) : Int)) (b := ((a.size : Nat) : Int)) e60 e62) (by rw [hle])) (Ext.refl _) rfl
    refine DagSteps.cons (fun s' w' X U H => Or.inl ⟨?_, ?_⟩) ?_
    · exact Guarded_none rfl
    · have e58 : s' 58 = (.bool true) := H 11 rfl 58 (.eq (.bool true)) rfl (by rw [hFs1]; rfl)
      have e63 : s' 63 = (.bool true) := H 16 rfl 63 (.eq (.bool true)) rfl (by rw [hFs1]; rfl)
      exact Does_val (r_pick (b := true) (v := (.bool true)) e58 e63) (Ext.refl _) rfl
    refine DagSteps.cons (fun s' w' X U H => Or.inl ⟨?_, ?_⟩) ?_
    · exact Guarded_none rfl
    · have e64 : s' 64 = (.bool true) := H 17 rfl 64 (.eq (.bool true)) rfl (by rw [hFs1]; rfl)
      exact Does_val (r_move (v := (.bool true)) e64) (Ext.refl _) rfl
    refine DagSteps.cons (fun s' w' X U H => Or.inl ⟨?_, ?_⟩) ?_
    · exact Guarded_some rfl rfl (d := 65) (H 18 rfl 65 (.eq (.bool true)) rfl (by rw [hFs1]; rfl))
    · exact Does_val (r_move (v := (.slice xb ((pairsL (relOf text a) (text.length + 1)).length) xc)) (U 11 rfl)) (Ext.refl _) rfl
    refine DagSteps.cons (fun s' w' X U H => Or.inl ⟨?_, ?_⟩) ?_
    · exact Guarded_some rfl rfl (d := 65) (H 18 rfl 65 (.eq (.bool true)) rfl (by rw [hFs1]; rfl))
    · exact Does_val (r_move (v := (.slice yb ((pairsL (relOf text a) (text.length + 1)).length) yc)) (U 13 rfl)) (Ext.refl _) rfl
    refine DagSteps.cons (fun s' w' X U H => Or.inl ⟨?_, ?_⟩) ?_
    · exact Guarded_some rfl rfl (d := 65) (H 18 rfl 65 (.eq (.bool true)) rfl (by rw [hFs1]; rfl))
    · have e66 : s' 66 = (.slice xb ((pairsL (relOf text a) (text.length + 1)).length) xc) := H 19 rfl 66 (.eq (.slice xb ((pairsL (relOf text a) (text.length + 1)).length) xc)) rfl (by rw [hFs1]; rfl)
      have e67 : s' 67 = (.slice yb ((pairsL (relOf text a) (text.length + 1)).length) yc) := H 20 rfl 67 (.eq (.slice yb ((pairsL (relOf text a) (text.length + 1)).length) yc)) rfl (by rw [hFs1]; rfl)
      exact Does_enter (r_callF (vs := [(.slice xb ((pairsL (relOf text a) (text.length + 1)).length) xc), (.slice yb ((pairsL (relOf text a) (text.length + 1)).length) yc)]) Tryd.func29 nm29 bd29 (lst2 e66 e67)) ((peq_c _ _ _ _ _ (SlAt.ext hpx (X0.trans X)) (SlAt.ext hpy (X0.trans X))).mono (fun v w h => ⟨h.1.trans (by simp), h.2⟩))
    refine DagSteps.cons (fun s' w' X U H => Or.inl ⟨?_, ?_⟩) ?_
    · exact Guarded_none rfl
    · have e65 : s' 65 = (.bool true) := H 18 rfl 65 (.eq (.bool true)) rfl (by rw [hFs1]; rfl)
      have e68 : s' 68 = (.bool true) := H 21 rfl 68 (.eq (.bool true)) rfl (by rw [hFs1]; rfl)
      exact Does_val (r_pick (b := true) (v := (.bool true)) e65 e68) (Ext.refl _) rfl
    refine DagSteps.cons (fun s' w' X U H => Or.inl ⟨?_, ?_⟩) ?_
    · exact Guarded_none rfl
    · have e69 : s' 69 = (.bool true) := H 22 rfl 69 (.eq (.bool true)) rfl (by rw [hFs1]; rfl)
      exact Does_val (r_assign (v := (.bool true)) e69) (Ext.refl _) rfl
    exact DagSteps.nil
  · intro s' w1 X1 U H
    obtain ⟨j1, rfl⟩ := Fits.out (σ := s') (l := [(4, (.bool true))]) ⟨(show s' 4 = (.bool true) from H 23 4 (.eq (.bool true)) rfl (by rw [hFs1]; rfl)), trivial⟩
    clear U H
    replace Bp := X1.keep Bp
    replace Bq := X1.keep Bq
    replace Br := X1.keep Br
    replace fa := ReAt.ext X1 a fa
    replace hx := hx.ext X1
    replace fn0 := ReAt.ext X1 _ fn0
    replace fm0 := ReAt.ext X1 _ fm0
    replace hpx := SlAt.ext hpx X1
    replace E := E.ext X1
    refine thn_normal ?_
    refine Wp_ret ?_
    refine fin_tmp Tryd.results6 (v := (.bool true)) rfl ?_
    exact ⟨rfl, E⟩
end Go.Proofs
