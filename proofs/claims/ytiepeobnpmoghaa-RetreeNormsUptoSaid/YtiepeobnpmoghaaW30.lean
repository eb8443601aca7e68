/- Walks: the normal form, and the law RetreeNormKeeps. -/
import Derived.Test.YtiepeobnpmoghaaW29
import Derived.Test.YtiepeobnpmoghaaW12
import Derived.Test.YtiepeobnpmoghaaW14
import Derived.Test.YtiepeobnpmoghaaLk
import Derived.Test.YtiepeobnpmoghaaDag
import Derived.Test.YtiepeobnpmoghaaW15
namespace Go.Proofs
open Go Go.Eng
set_option maxRecDepth 100000

mutual
theorem ok_sets : ∀ (t : Re), okRe t → setsOk t
  | .mk k set args mn mx ng, h => by
    have h1 := okRe_node h
    have h2 := okRe_form h
    have h3 := okRe_args h
    simp only [setsOk]
    refine ⟨?_, oks_sets args h3⟩
    obtain ⟨ha, hb, hf⟩ := h2
    by_cases hk : k = 2
    · unfold nodeE at h1
      simp only [Re.kind] at ha hb
      rw [if_neg (by simp only [Re.kind]; omega), if_neg (by simp [hf]), if_pos (by simp only [Re.kind]; exact hk)] at h1
      split at h1
      · omega
      · rename_i hc
        simp only [Re.set] at hc
        unfold checkE at hc
        split at hc
        · omega
        · omega
    · simp only [formB, Bool.and_eq_true, Bool.or_eq_true, decide_eq_true_eq, Re.kind, Re.set] at hf
      have := hf.1.1.1.2.resolve_left (by simp [hk])
      simp at this
      rw [this]; simp
theorem oks_sets : ∀ (ts : List Re), okRes ts → setsOks ts
  | [], _ => by simp only [setsOks]
  | t :: ts, h => by simp only [okRes] at h; simp only [setsOks]; exact ⟨ok_sets t h.1, oks_sets ts h.2⟩
end

set_option maxHeartbeats 1000000 in
theorem normal_c (w0 : World) (t : Re) (vs : List Value) (ht : ReAt w0 t vs) :
    Ret Try.prog 4 #[.agg vs.toArray] w0 fun v w => ∃ us, v = .tuple #[.agg us.toArray, .int .i64 (fitsE t 40)] ∧ ReAt w (if fitsE t 40 = 0 then normT t else noneT) us ∧ Ext w0 w := by
  have ht0 := ht
  obtain ⟨sa, sc, aa, ac, rfl, _, _, _⟩ := ht.form
  refine Ret_of Try.func4 rfl Try.ntmps4 (Nat.le_of_ble_eq_true rfl) ?_
  have E : Chg none1 w0 w0 := Chg.refl _ _
  refine Wp_seq_region ?_
  refine s_box (v := (.agg #[(.int .i64 t.kind), (.slice sa t.set.length sc), (.slice aa t.args.length ac), (.int .i64 t.mn), (.int .i64 t.mx), (.bool t.neg)])) (c := #[(.int .i64 t.kind), (.slice sa t.set.length sc), (.slice aa t.args.length ac), (.int .i64 t.mn), (.int .i64 t.mx), (.bool t.neg)]) (by decide) rfl rfl ?_
  intro br wr Nr
  have Fr := Nr.ge E
  replace E := E.ext Nr.ext
  have Br := Nr.blk
  refine s_alloc (c := #[(.int .i64 0), (.slice none 0 0), (.slice none 0 0), (.int .i64 0), (.int .i64 0), (.bool false)]) (by decide) zer25 rfl ?_
  intro bo wo No
  have Fo := No.ge E
  have Oo_br := No.lt Br
  replace Br := No.keep Br
  replace E := E.ext No.ext
  have Bo := No.blk
  refine WpL_val rfl rfl (by decide) (r_assign (v := (.int .i64 0)) rfl) ?_
  refine WpL_nil ?_
  refine Wp_seq ?_
  refine Wp_seq_region ?_
  refine WpL_val rfl rfl (by decide) (r_loadAgg (vs := [(.int .i64 t.kind), (.slice sa t.set.length sc), (.slice aa t.args.length ac), (.int .i64 t.mn), (.int .i64 t.mx), (.bool t.neg)]) rfl agg25 siz25 rfl (Br.cells rfl)) ?_
  refine WpL_enter rfl rfl (by decide) (r_callF (vs := [(.agg #[(.int .i64 t.kind), (.slice sa t.set.length sc), (.slice aa t.args.length ac), (.int .i64 t.mn), (.int .i64 t.mx), (.bool t.neg)])]) Try.func9 nm9 bd9 rfl) (check_c _ t _ (ReAt.ext E t ht0)) ?_
  rintro _ w9 ⟨rfl, X9⟩
  replace Br := X9.keep Br
  replace Bo := X9.keep Bo
  replace E := E.ext X9
  refine WpL_val rfl rfl (by decide) (r_assign (v := (.int .i64 (fitsE t 40))) rfl) ?_
  refine WpL_nil ?_
  refine Wp_seq_region ?_
  refine WpL_val rfl rfl (by decide) (r_move (v := (.int .i64 (fitsE t 40))) rfl) ?_
  refine WpL_val rfl rfl (by decide) (r_neq (k := .i64) (a := fitsE t 40) (b := 0) rfl rfl) ?_
  refine WpL_nil ?_
  refine Wp_cond (b := decide ((fitsE t 40 : Int) ≠ 0)) rfl (fun hf => ?_) (fun hf => ?_)
  · have khf := hf
    replace hf := of_decide_eq_true hf
    refine Wp_seq_region ?_
    refine WpL_val rfl rfl (by decide) (r_build (ps := []) (v := (.agg #[(.int .i64 0), (.slice none 0 0), (.slice none 0 0), (.int .i64 0), (.int .i64 0), (.bool false)])) rfl (by kernel_rfl)) ?_
    refine WpL_val rfl rfl (by decide) (r_move (v := (.int .i64 (fitsE t 40))) rfl) ?_
    refine s_storeAgg (b := bo) (o := 0) (c' := #[(.int .i64 0), (.slice none 0 0), (.slice none 0 0), (.int .i64 0), (.int .i64 0), (.bool false)]) rfl rfl (by simp [Value.oneCell']) siz25 rfl Bo (by simp) rfl ?_
    intro w2 S2
    replace Br := S2.keep (by omega) Br
    replace E := S2.step E (by first | exact Or.inl (by omega) | exact Or.inr rfl | exact Or.inr (by assumption) | exact Or.inr (by simp) | exact Or.inr (by omega) | exact Or.inr (by dsimp only; omega))
    replace Bo := S2.blk
    refine WpL_val rfl rfl (by decide) (r_assign (v := (.int .i64 (fitsE t 40))) rfl) ?_
    refine WpL_nil ?_
    refine Wp_ret ?_
    refine thn_ret ?_
    refine fin_agg_tmp Try.results4 (vs := [(.int .i64 0), (.slice none 0 0), (.slice none 0 0), (.int .i64 0), (.int .i64 0), (.bool false)]) (b := bo) (v' := (.int .i64 (fitsE t 40))) rfl agg25 siz25 rfl (Bo.cells rfl) rfl ?_
    refine ⟨_, rfl, ?_, E⟩
    rw [if_neg hf]
    exact ReIn.at _ (re_empty (fun _ => True) _ 0)
  · have khf := hf
    replace hf := of_decide_eq_false hf
    have hf0 : fitsE t 40 = 0 := by omega
    obtain ⟨hok, hsz⟩ := (fitsE_zero (by decide) (by decide)).1 hf0
    refine Wp_skip ?_
    refine thn_normal ?_
    refine Wp_seq_region ?_
    refine WpL_val rfl rfl (by decide) (r_loadAgg (vs := [(.int .i64 t.kind), (.slice sa t.set.length sc), (.slice aa t.args.length ac), (.int .i64 t.mn), (.int .i64 t.mx), (.bool t.neg)]) rfl agg25 siz25 rfl (Br.cells rfl)) ?_
    obtain ⟨n1, hn1⟩ : ∃ n1, n1 = w9.heap.size := ⟨_, rfl⟩
    have hbo := Bo.lt
    refine WpL_enter rfl rfl (by decide) (r_callF (vs := [(.agg #[(.int .i64 t.kind), (.slice sa t.set.length sc), (.slice aa t.args.length ac), (.int .i64 t.mn), (.int .i64 t.mx), (.bool t.neg)])]) Try.func11 nm11 bd11 rfl) (copy_c t.size t _ _ (Nat.le_refl _) (by omega) (ok_sets t hok) (ReAt.ext E t ht0)) ?_
    rintro _ w19 ⟨⟨us, Z, L, rfl, hTr, hZL, hnew⟩, X19⟩
    replace Br := X19.keep Br
    replace Bo := X19.keep Bo
    replace E := E.ext X19
    have hs19 := X19.size
    rw [← hn1] at hnew
    refine WpL_enter rfl rfl (by decide) (r_callF (vs := [(.agg us.toArray)]) Try.func10 nm10 bd10 rfl) (norm_c t.size t _ _ Z L (Nat.le_refl _) (by omega) hok hTr hZL (fun y hy => (hnew y hy).2)) ?_
    rintro _ w29 ⟨⟨us2, rfl, hre⟩, C29⟩
    replace Br := C29.keep (fun h => by have := hnew _ (.inr h); omega) Br
    replace Bo := C29.keep (fun h => by have := hnew _ (.inr h); omega) Bo
    replace E := E.step C29 (fun y hy h => by have := hnew y (.inr h); omega)
    have hre0 := hre
    obtain ⟨zsa, zsc, zaa, zac, rfl, _, _, _⟩ := hre.form
    have hC9 : Chg (fun y => y = bo) (w29) (w29) := Chg.refl _ _
    refine s_storeAgg (b := bo) (o := 0) (c' := #[(.int .i64 ((normT t).kind)), (.slice zsa ((normT t).set.length) zsc), (.slice zaa ((normT t).args.length) zac), (.int .i64 ((normT t).mn)), (.int .i64 ((normT t).mx)), (.bool ((normT t).neg))]) rfl rfl (by simp [Value.oneCell']) siz25 rfl Bo (by simp) rfl ?_
    intro w3 S3
    replace hC9 := S3.chg
    replace Br := S3.keep (by omega) Br
    replace E := S3.step E (by first | exact Or.inl (by omega) | exact Or.inr rfl | exact Or.inr (by assumption) | exact Or.inr (by simp) | exact Or.inr (by omega) | exact Or.inr (by dsimp only; omega))
    replace Bo := S3.blk
    refine WpL_val rfl rfl (by decide) (r_assign (v := (.int .i64 0)) rfl) ?_
    refine WpL_nil ?_
    refine Wp_ret ?_
    refine fin_agg_tmp Try.results4 (vs := [(.int .i64 ((normT t).kind)), (.slice zsa ((normT t).set.length) zsc), (.slice zaa ((normT t).args.length) zac), (.int .i64 ((normT t).mn)), (.int .i64 ((normT t).mx)), (.bool ((normT t).neg))]) (b := bo) (v' := (.int .i64 0)) rfl agg25 siz25 rfl (Bo.cells rfl) rfl ?_
    refine ⟨_, by rw [hf0], ?_, E⟩
    rw [if_pos hf0]
    refine ReIn.at _ (ReIn.chg hC9 ?_ _ hre0)
    rintro y (h | h | h) he
    · have he' : y = bo := he
      have := hnew y (.inl h); omega
    · have he' : y = bo := he
      have := hnew y (.inr h); omega
    · have he' : y = bo := he
      omega

def intsF (l : List Int) : Fct := fun v w => ∃ b, v = .slice (some ⟨b, 0, none⟩) l.length l.length ∧ IntsAt w v l
theorem intsF_ext (l : List Int) : Stable (intsF l) := by
  rintro v w w' e ⟨b, h1, h2⟩
  exact ⟨b, h1, h2.ext e⟩
theorem begun_norm : normT (catT (oneT 97) emptyT) = oneT 97 := by rfl
theorem begun_fits : fitsE (catT (oneT 97) emptyT) 40 = 0 := by decide +kernel
theorem resame_d {w : World} {t u : Re} {us vs : List Value} (ht : ReAt w t us) (hu : ReAt w u vs) (h : t = u) :
    Ret Try.prog 44 #[.agg us.toArray, .agg vs.toArray] w fun v w' => (Fact.eq (.bool true)).In v w' ∧ Ext w w' :=
  (resame_c t.size t u w us vs (Nat.le_refl _) ht hu).mono fun v w' ⟨h1, h2⟩ => ⟨h1.trans (bool_eq ((sameT_iff t u).2 h)), h2⟩
end Go.Proofs
