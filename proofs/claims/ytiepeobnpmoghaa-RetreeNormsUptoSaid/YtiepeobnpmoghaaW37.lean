/- Contracts of the reference: one rule, and the normal form. -/
import Derived.Test.YtiepeobnpmoghaaW36
namespace Go.Proofs
open Go Go.Eng
set_option maxRecDepth 100000

theorem rule_list {r : Re} {res : Option Re} (h : isL r.kind) (hm : ManyR r.kind r.args res) : RuleR r res := by unfold RuleR; rw [if_pos h]; exact hm
theorem rule_one {r y : Re} {res : Option Re} (h : ¬ isL r.kind) (hy : r.args = [y]) (hm : if r.kind = 5 ∨ r.kind = 6 then res = rep56 r.kind y r.mn r.mx
      else if r.kind = 8 then res = (if y.kind = 8 then some (y.args.headD noneT) else none)
      else if r.kind = 10 then res = (if y.kind ≤ 1 then (if (decide (y.kind = 1)) != r.neg then some emptyT else some noneT) else none)
      else res = none) : RuleR r res := by unfold RuleR; rw [if_neg h, hy]; exact hm
theorem rule_leaf {r : Re} (h : ¬ isL r.kind) (hk : r.kind ≠ 5 ∧ r.kind ≠ 6 ∧ r.kind ≠ 8 ∧ r.kind ≠ 10) : RuleR r none := by
  unfold RuleR; rw [if_neg h]
  split
  · rw [if_neg (by omega), if_neg (by omega), if_neg (by omega)]
  · rfl


set_option maxHeartbeats 4000000 in
theorem rule_c (w0 : World) (S : Nat → Prop) (t : Re) (vs : List Value) (ht : ReIn S w0 t vs) (hS : ∀ b, S b → b < w0.heap.size) (hM : t.size ≤ 300000) (hi : InvR t) :
    Ret Try.prog 20 #[.agg vs.toArray] w0 fun v w => ∃ res us, RuleR t res ∧ v = .tuple #[.agg us.toArray, .bool res.isSome] ∧ ReIn (fun b => S b ∨ w0.heap.size ≤ b) w (res.getD t) us ∧ Ext w0 w := by
  have ht0 := ht
  obtain ⟨hargs, hlist, hone, hleaf, hk0, hk1⟩ := hi
  obtain ⟨sa, sc, aa, ac, rfl, hset, hac, hta⟩ := ht.form
  refine Ret_of Try.func20 rfl Try.ntmps20 (Nat.le_of_ble_eq_true rfl) ?_
  have E : Chg none1 w0 w0 := Chg.refl _ _
  refine Wp_seq_region ?_
  refine s_box (v := (.agg #[(.int .i64 t.kind), (.slice sa t.set.length sc), (.slice aa t.args.length ac), (.int .i64 t.mn), (.int .i64 t.mx), (.bool t.neg)])) (c := #[(.int .i64 t.kind), (.slice sa t.set.length sc), (.slice aa t.args.length ac), (.int .i64 t.mn), (.int .i64 t.mx), (.bool t.neg)]) (by decide) rfl rfl ?_
  intro br wr Nr
  have Fr := Nr.ge E
  replace E := E.ext Nr.ext
  have Br := Nr.blk
  refine s_alloc (c := #[(.int .i64 0), (.slice none 0 0), (.slice none 0 0), (.int .i64 0), (.int .i64 0), (.bool false)]) (by decide) zer25 rfl ?_
  intro bo wo No
  have Fo := No.ge E
  have Oo_br := No.lt Br
  replace Br := No.keep Br
  replace E := E.ext No.ext
  have Bo := No.blk
  refine WpL_val rfl rfl (by decide) (r_assign (v := (.bool false)) rfl) ?_
  refine WpL_nil ?_
  refine Wp_seq ?_
  refine Wp_seq_region ?_
  refine WpL_val rfl rfl (by decide) (r_fieldAddr (b := br) (o := 0) (o' := 0) rfl Try.underlying25 rfl siz3 rfl) ?_
  refine WpL_val rfl rfl (by decide) (r_load (v := (.int .i64 t.kind)) rfl flat3 (Br.cell rfl)) ?_
  refine WpL_nil ?_
  refine Wp_block ?_
  refine Wp_seq ?_
  refine Wp_seq_region ?_
  refine WpL_val rfl rfl (by decide) (r_eql (k := .i64) (a := t.kind) (b := 3) rfl rfl) ?_
  refine WpL_val rfl rfl (by decide) (r_assign (v := (.bool (decide ((t.kind : Int) = 3)))) rfl) ?_
  refine WpL_nil ?_
  refine Wp_cond (b := decide ((t.kind : Int) = 3)) rfl (fun h3 => ?_) (fun h3 => ?_)
  · have kh3 := h3
    replace h3 := of_decide_eq_true h3
    obtain ⟨n1, hn1⟩ : ∃ n1, n1 = (wo).heap.size := ⟨_, rfl⟩
    have hz1 := E.size
    have hz2 := Bo.lt
    refine Wp_skip ?_
    refine thn_normal ?_
    refine Wp_cond_true (congrArg Value.bool kh3) ?_
    refine Wp_seq_region ?_
    refine WpL_val rfl rfl (by decide) (r_loadAgg (vs := [(.int .i64 t.kind), (.slice sa t.set.length sc), (.slice aa t.args.length ac), (.int .i64 t.mn), (.int .i64 t.mx), (.bool t.neg)]) rfl agg25 siz25 rfl (Br.cells rfl)) ?_
    refine WpL_enter rfl rfl (by decide) (r_callF (vs := [(.agg #[(.int .i64 t.kind), (.slice sa t.set.length sc), (.slice aa t.args.length ac), (.int .i64 t.mn), (.int .i64 t.mx), (.bool t.neg)])]) Try.func31 nm31 bd31 rfl) (rmany_c _ S t _ (ReIn.ext E t ht0) (fun y hy => by have := hS y hy; have := E.size; omega) hM (hlist (by unfold isL; omega)).2 (hlist (by unfold isL; omega)).1 (fun x hx he h => by have := okRe_two (hargs x hx).2 (by omega); rw [h] at this; simp at this)) ?_
    rintro _ w9 ⟨res, us9, hmr, rfl, hre9, X9⟩
    replace Br := X9.keep Br
    replace Bo := X9.keep Bo
    replace E := E.ext X9
    obtain ⟨r9, hr9⟩ : ∃ r9, r9 = res.getD t := ⟨_, rfl⟩
    rw [← hr9] at hre9
    have hre90 := hre9
    obtain ⟨sa9, sc9, aa9, ac9, rfl, _, _, _⟩ := hre9.form
    have hC9 : Chg (fun y => y = bo) (w9) (w9) := Chg.refl _ _
    refine WpL_val rfl rfl (by decide) (r_extract (vs := #[(.agg #[(.int .i64 r9.kind), (.slice sa9 r9.set.length sc9), (.slice aa9 r9.args.length ac9), (.int .i64 r9.mn), (.int .i64 r9.mx), (.bool r9.neg)]), (.bool res.isSome)]) (v := (.agg #[(.int .i64 r9.kind), (.slice sa9 r9.set.length sc9), (.slice aa9 r9.args.length ac9), (.int .i64 r9.mn), (.int .i64 r9.mx), (.bool r9.neg)])) rfl rfl) ?_
    refine WpL_val rfl rfl (by decide) (r_extract (vs := #[(.agg #[(.int .i64 r9.kind), (.slice sa9 r9.set.length sc9), (.slice aa9 r9.args.length ac9), (.int .i64 r9.mn), (.int .i64 r9.mx), (.bool r9.neg)]), (.bool res.isSome)]) (v := (.bool res.isSome)) rfl rfl) ?_
    refine s_storeAgg (b := bo) (o := 0) (c' := #[(.int .i64 r9.kind), (.slice sa9 r9.set.length sc9), (.slice aa9 r9.args.length ac9), (.int .i64 r9.mn), (.int .i64 r9.mx), (.bool r9.neg)]) rfl rfl (by simp [Value.oneCell']) siz25 rfl Bo (by simp) rfl ?_
    intro w2 S2
    replace hC9 := S2.chg
    replace Br := S2.keep (by omega) Br
    replace E := S2.step E (by first | exact Or.inl (by omega) | exact Or.inr rfl | exact Or.inr (by assumption) | exact Or.inr (by simp) | exact Or.inr (by omega) | exact Or.inr (by dsimp only; omega))
    replace Bo := S2.blk
    refine WpL_val rfl rfl (by decide) (r_assign (v := (.bool res.isSome)) rfl) ?_
    refine WpL_nil ?_
    refine Wp_ret ?_
    refine inB_ret ?_
    refine thn_ret ?_
    refine fin_agg_tmp Try.results20 (vs := [(.int .i64 r9.kind), (.slice sa9 r9.set.length sc9), (.slice aa9 r9.args.length ac9), (.int .i64 r9.mn), (.int .i64 r9.mx), (.bool r9.neg)]) (b := bo) (v' := (.bool res.isSome)) rfl agg25 siz25 rfl (Bo.cells rfl) rfl ?_
    refine ⟨res, _, rule_list (by unfold isL; omega) hmr, rfl, ?_, E⟩
    rw [← hr9]
    refine ReIn.mono (S := fun y => S y ∨ n1 ≤ y) (fun y hy => hy.imp id (fun h => by omega)) _ (ReIn.chg hC9 ?_ _ (ReIn.mono (fun y hy => hy.imp id (fun h => by have := hz1; omega)) _ hre90))
    rintro y (h | h) hy
    · have hy' : y = bo := hy
      have := hS y h; omega
    · have hy' : y = bo := hy
      omega
  · have kh3 := h3
    replace h3 := of_decide_eq_false h3
    refine Wp_seq_region ?_
    refine WpL_val rfl rfl (by decide) (r_eql (k := .i64) (a := t.kind) (b := 4) rfl rfl) ?_
    refine WpL_val rfl rfl (by decide) (r_assign (v := (.bool (decide ((t.kind : Int) = 4)))) rfl) ?_
    refine WpL_nil ?_
    refine Wp_cond (b := decide ((t.kind : Int) = 4)) rfl (fun h4 => ?_) (fun h4 => ?_)
    · have kh4 := h4
      replace h4 := of_decide_eq_true h4
      obtain ⟨n1, hn1⟩ : ∃ n1, n1 = (wo).heap.size := ⟨_, rfl⟩
      have hz1 := E.size
      have hz2 := Bo.lt
      refine Wp_skip ?_
      refine thn_normal ?_
      refine Wp_cond_true (congrArg Value.bool kh4) ?_
      refine Wp_seq_region ?_
      refine WpL_val rfl rfl (by decide) (r_loadAgg (vs := [(.int .i64 t.kind), (.slice sa t.set.length sc), (.slice aa t.args.length ac), (.int .i64 t.mn), (.int .i64 t.mx), (.bool t.neg)]) rfl agg25 siz25 rfl (Br.cells rfl)) ?_
      refine WpL_enter rfl rfl (by decide) (r_callF (vs := [(.agg #[(.int .i64 t.kind), (.slice sa t.set.length sc), (.slice aa t.args.length ac), (.int .i64 t.mn), (.int .i64 t.mx), (.bool t.neg)])]) Try.func31 nm31 bd31 rfl) (rmany_c _ S t _ (ReIn.ext E t ht0) (fun y hy => by have := hS y hy; have := E.size; omega) hM (hlist (by unfold isL; omega)).2 (hlist (by unfold isL; omega)).1 (fun x hx he h => by have := okRe_two (hargs x hx).2 (by omega); rw [h] at this; simp at this)) ?_
      rintro _ w9 ⟨res, us9, hmr, rfl, hre9, X9⟩
      replace Br := X9.keep Br
      replace Bo := X9.keep Bo
      replace E := E.ext X9
      obtain ⟨r9, hr9⟩ : ∃ r9, r9 = res.getD t := ⟨_, rfl⟩
      rw [← hr9] at hre9
      have hre90 := hre9
      obtain ⟨sa9, sc9, aa9, ac9, rfl, _, _, _⟩ := hre9.form
      have hC9 : Chg (fun y => y = bo) (w9) (w9) := Chg.refl _ _
      refine WpL_val rfl rfl (by decide) (r_extract (vs := #[(.agg #[(.int .i64 r9.kind), (.slice sa9 r9.set.length sc9), (.slice aa9 r9.args.length ac9), (.int .i64 r9.mn), (.int .i64 r9.mx), (.bool r9.neg)]), (.bool res.isSome)]) (v := (.agg #[(.int .i64 r9.kind), (.slice sa9 r9.set.length sc9), (.slice aa9 r9.args.length ac9), (.int .i64 r9.mn), (.int .i64 r9.mx), (.bool r9.neg)])) rfl rfl) ?_
      refine WpL_val rfl rfl (by decide) (r_extract (vs := #[(.agg #[(.int .i64 r9.kind), (.slice sa9 r9.set.length sc9), (.slice aa9 r9.args.length ac9), (.int .i64 r9.mn), (.int .i64 r9.mx), (.bool r9.neg)]), (.bool res.isSome)]) (v := (.bool res.isSome)) rfl rfl) ?_
      refine s_storeAgg (b := bo) (o := 0) (c' := #[(.int .i64 r9.kind), (.slice sa9 r9.set.length sc9), (.slice aa9 r9.args.length ac9), (.int .i64 r9.mn), (.int .i64 r9.mx), (.bool r9.neg)]) rfl rfl (by simp [Value.oneCell']) siz25 rfl Bo (by simp) rfl ?_
      intro w4 S4
      replace hC9 := S4.chg
      replace Br := S4.keep (by omega) Br
      replace E := S4.step E (by first | exact Or.inl (by omega) | exact Or.inr rfl | exact Or.inr (by assumption) | exact Or.inr (by simp) | exact Or.inr (by omega) | exact Or.inr (by dsimp only; omega))
      replace Bo := S4.blk
      refine WpL_val rfl rfl (by decide) (r_assign (v := (.bool res.isSome)) rfl) ?_
      refine WpL_nil ?_
      refine Wp_ret ?_
      refine inB_ret ?_
      refine thn_ret ?_
      refine fin_agg_tmp Try.results20 (vs := [(.int .i64 r9.kind), (.slice sa9 r9.set.length sc9), (.slice aa9 r9.args.length ac9), (.int .i64 r9.mn), (.int .i64 r9.mx), (.bool r9.neg)]) (b := bo) (v' := (.bool res.isSome)) rfl agg25 siz25 rfl (Bo.cells rfl) rfl ?_
      refine ⟨res, _, rule_list (by unfold isL; omega) hmr, rfl, ?_, E⟩
      rw [← hr9]
      refine ReIn.mono (S := fun y => S y ∨ n1 ≤ y) (fun y hy => hy.imp id (fun h => by omega)) _ (ReIn.chg hC9 ?_ _ (ReIn.mono (fun y hy => hy.imp id (fun h => by have := hz1; omega)) _ hre90))
      rintro y (h | h) hy
      · have hy' : y = bo := hy
        have := hS y h; omega
      · have hy' : y = bo := hy
        omega
    · have kh4 := h4
      replace h4 := of_decide_eq_false h4
      refine Wp_region ?_
      refine WpL_val rfl rfl (by decide) (r_eql (k := .i64) (a := t.kind) (b := 7) rfl rfl) ?_
      refine WpL_val rfl rfl (by decide) (r_assign (v := (.bool (decide ((t.kind : Int) = 7)))) rfl) ?_
      refine WpL_nil ?_
      refine thn_normal ?_
      refine Wp_cond (b := decide ((t.kind : Int) = 7)) rfl (fun h7 => ?_) (fun h7 => ?_)
      · have kh7 := h7
        replace h7 := of_decide_eq_true h7
        obtain ⟨n1, hn1⟩ : ∃ n1, n1 = (wo).heap.size := ⟨_, rfl⟩
        have hz1 := E.size
        have hz2 := Bo.lt
        refine Wp_seq_region ?_
        refine WpL_val rfl rfl (by decide) (r_loadAgg (vs := [(.int .i64 t.kind), (.slice sa t.set.length sc), (.slice aa t.args.length ac), (.int .i64 t.mn), (.int .i64 t.mx), (.bool t.neg)]) rfl agg25 siz25 rfl (Br.cells rfl)) ?_
        refine WpL_enter rfl rfl (by decide) (r_callF (vs := [(.agg #[(.int .i64 t.kind), (.slice sa t.set.length sc), (.slice aa t.args.length ac), (.int .i64 t.mn), (.int .i64 t.mx), (.bool t.neg)])]) Try.func31 nm31 bd31 rfl) (rmany_c _ S t _ (ReIn.ext E t ht0) (fun y hy => by have := hS y hy; have := E.size; omega) hM (hlist (by unfold isL; omega)).2 (hlist (by unfold isL; omega)).1 (fun x hx he h => by have := okRe_two (hargs x hx).2 (by omega); rw [h] at this; simp at this)) ?_
        rintro _ w9 ⟨res, us9, hmr, rfl, hre9, X9⟩
        replace Br := X9.keep Br
        replace Bo := X9.keep Bo
        replace E := E.ext X9
        obtain ⟨r9, hr9⟩ : ∃ r9, r9 = res.getD t := ⟨_, rfl⟩
        rw [← hr9] at hre9
        have hre90 := hre9
        obtain ⟨sa9, sc9, aa9, ac9, rfl, _, _, _⟩ := hre9.form
        have hC9 : Chg (fun y => y = bo) (w9) (w9) := Chg.refl _ _
        refine WpL_val rfl rfl (by decide) (r_extract (vs := #[(.agg #[(.int .i64 r9.kind), (.slice sa9 r9.set.length sc9), (.slice aa9 r9.args.length ac9), (.int .i64 r9.mn), (.int .i64 r9.mx), (.bool r9.neg)]), (.bool res.isSome)]) (v := (.agg #[(.int .i64 r9.kind), (.slice sa9 r9.set.length sc9), (.slice aa9 r9.args.length ac9), (.int .i64 r9.mn), (.int .i64 r9.mx), (.bool r9.neg)])) rfl rfl) ?_
        refine WpL_val rfl rfl (by decide) (r_extract (vs := #[(.agg #[(.int .i64 r9.kind), (.slice sa9 r9.set.length sc9), (.slice aa9 r9.args.length ac9), (.int .i64 r9.mn), (.int .i64 r9.mx), (.bool r9.neg)]), (.bool res.isSome)]) (v := (.bool res.isSome)) rfl rfl) ?_
        refine s_storeAgg (b := bo) (o := 0) (c' := #[(.int .i64 r9.kind), (.slice sa9 r9.set.length sc9), (.slice aa9 r9.args.length ac9), (.int .i64 r9.mn), (.int .i64 r9.mx), (.bool r9.neg)]) rfl rfl (by simp [Value.oneCell']) siz25 rfl Bo (by simp) rfl ?_
        intro w6 S6
        replace hC9 := S6.chg
        replace Br := S6.keep (by omega) Br
        replace E := S6.step E (by first | exact Or.inl (by omega) | exact Or.inr rfl | exact Or.inr (by assumption) | exact Or.inr (by simp) | exact Or.inr (by omega) | exact Or.inr (by dsimp only; omega))
        replace Bo := S6.blk
        refine WpL_val rfl rfl (by decide) (r_assign (v := (.bool res.isSome)) rfl) ?_
        refine WpL_nil ?_
        refine Wp_ret ?_
        refine inB_ret ?_
        refine thn_ret ?_
        refine fin_agg_tmp Try.results20 (vs := [(.int .i64 r9.kind), (.slice sa9 r9.set.length sc9), (.slice aa9 r9.args.length ac9), (.int .i64 r9.mn), (.int .i64 r9.mx), (.bool r9.neg)]) (b := bo) (v' := (.bool res.isSome)) rfl agg25 siz25 rfl (Bo.cells rfl) rfl ?_
        refine ⟨res, _, rule_list (by unfold isL; omega) hmr, rfl, ?_, E⟩
        rw [← hr9]
        refine ReIn.mono (S := fun y => S y ∨ n1 ≤ y) (fun y hy => hy.imp id (fun h => by omega)) _ (ReIn.chg hC9 ?_ _ (ReIn.mono (fun y hy => hy.imp id (fun h => by have := hz1; omega)) _ hre90))
        rintro y (h | h) hy
        · have hy' : y = bo := hy
          have := hS y h; omega
        · have hy' : y = bo := hy
          omega
      · have kh7 := h7
        replace h7 := of_decide_eq_false h7
        refine Wp_seq ?_
        refine Wp_seq_region ?_
        refine WpL_val rfl rfl (by decide) (r_eql (k := .i64) (a := t.kind) (b := 5) rfl rfl) ?_
        refine WpL_val rfl rfl (by decide) (r_assign (v := (.bool (decide ((t.kind : Int) = 5)))) rfl) ?_
        refine WpL_nil ?_
        refine Wp_cond (b := decide ((t.kind : Int) = 5)) rfl (fun h5 => ?_) (fun h5 => ?_)
        · have kh5 := h5
          replace h5 := of_decide_eq_true h5
          have hl1 := hone (by omega)
          obtain ⟨y, hy⟩ := List.length_eq_one_iff.1 hl1
          refine Wp_skip ?_
          refine thn_normal ?_
          refine Wp_cond_true (congrArg Value.bool kh5) ?_
          refine Wp_seq_region ?_
          refine WpL_val rfl rfl (by decide) (r_loadAgg (vs := [(.int .i64 t.kind), (.slice sa t.set.length sc), (.slice aa t.args.length ac), (.int .i64 t.mn), (.int .i64 t.mx), (.bool t.neg)]) rfl agg25 siz25 rfl (Br.cells rfl)) ?_
          refine WpL_enter rfl rfl (by decide) (r_callF (vs := [(.agg #[(.int .i64 t.kind), (.slice sa t.set.length sc), (.slice aa t.args.length ac), (.int .i64 t.mn), (.int .i64 t.mx), (.bool t.neg)])]) Try.func32 nm32 bd32 rfl) (rrep_c _ S t y _ (ReIn.ext E t ht0) (fun y hy => by have := hS y hy; have := E.size; omega) hy (by omega)) ?_
          rintro _ w9 ⟨us9, rfl, hre9, X9⟩
          replace Br := X9.keep Br
          replace Bo := X9.keep Bo
          replace E := E.ext X9
          obtain ⟨r9, hr9⟩ : ∃ r9, r9 = (rep56 t.kind y t.mn t.mx).getD t := ⟨_, rfl⟩
          rw [← hr9] at hre9
          have hre90 := hre9
          obtain ⟨sa9, sc9, aa9, ac9, rfl, _, _, _⟩ := hre9.form
          have hC9 : Chg (fun y => y = bo) (w9) (w9) := Chg.refl _ _
          refine WpL_val rfl rfl (by decide) (r_extract (vs := #[(.agg #[(.int .i64 r9.kind), (.slice sa9 r9.set.length sc9), (.slice aa9 r9.args.length ac9), (.int .i64 r9.mn), (.int .i64 r9.mx), (.bool r9.neg)]), (.bool ((rep56 t.kind y t.mn t.mx).isSome))]) (v := (.agg #[(.int .i64 r9.kind), (.slice sa9 r9.set.length sc9), (.slice aa9 r9.args.length ac9), (.int .i64 r9.mn), (.int .i64 r9.mx), (.bool r9.neg)])) rfl rfl) ?_
          refine WpL_val rfl rfl (by decide) (r_extract (vs := #[(.agg #[(.int .i64 r9.kind), (.slice sa9 r9.set.length sc9), (.slice aa9 r9.args.length ac9), (.int .i64 r9.mn), (.int .i64 r9.mx), (.bool r9.neg)]), (.bool ((rep56 t.kind y t.mn t.mx).isSome))]) (v := (.bool ((rep56 t.kind y t.mn t.mx).isSome))) rfl rfl) ?_
          refine s_storeAgg (b := bo) (o := 0) (c' := #[(.int .i64 r9.kind), (.slice sa9 r9.set.length sc9), (.slice aa9 r9.args.length ac9), (.int .i64 r9.mn), (.int .i64 r9.mx), (.bool r9.neg)]) rfl rfl (by simp [Value.oneCell']) siz25 rfl Bo (by simp) rfl ?_
          intro w8 S8
          replace hC9 := S8.chg
          replace Br := S8.keep (by omega) Br
          replace E := S8.step E (by first | exact Or.inl (by omega) | exact Or.inr rfl | exact Or.inr (by assumption) | exact Or.inr (by simp) | exact Or.inr (by omega) | exact Or.inr (by dsimp only; omega))
          replace Bo := S8.blk
          refine WpL_val rfl rfl (by decide) (r_assign (v := (.bool ((rep56 t.kind y t.mn t.mx).isSome))) rfl) ?_
          refine WpL_nil ?_
          refine Wp_ret ?_
          refine inB_ret ?_
          refine thn_ret ?_
          refine fin_agg_tmp Try.results20 (vs := [(.int .i64 r9.kind), (.slice sa9 r9.set.length sc9), (.slice aa9 r9.args.length ac9), (.int .i64 r9.mn), (.int .i64 r9.mx), (.bool r9.neg)]) (b := bo) (v' := (.bool ((rep56 t.kind y t.mn t.mx).isSome))) rfl agg25 siz25 rfl (Bo.cells rfl) rfl ?_
          refine ⟨rep56 t.kind y t.mn t.mx, _, rule_one (by unfold isL; omega) hy (by rw [if_pos (by omega)]), rfl, ?_, E⟩
          rw [← hr9]
          exact ReIn.mono (fun y hy => .inl hy) _ (ReIn.chg hC9 (fun y h hy => by have hy' : y = bo := hy; have := hS y h; omega) _ hre90)
        · have kh5 := h5
          replace h5 := of_decide_eq_false h5
          refine Wp_region ?_
          refine WpL_val rfl rfl (by decide) (r_eql (k := .i64) (a := t.kind) (b := 6) rfl rfl) ?_
          refine WpL_val rfl rfl (by decide) (r_assign (v := (.bool (decide ((t.kind : Int) = 6)))) rfl) ?_
          refine WpL_nil ?_
          refine thn_normal ?_
          refine Wp_cond (b := decide ((t.kind : Int) = 6)) rfl (fun h6 => ?_) (fun h6 => ?_)
          · have kh6 := h6
            replace h6 := of_decide_eq_true h6
            have hl1 := hone (by omega)
            obtain ⟨y, hy⟩ := List.length_eq_one_iff.1 hl1
            refine Wp_seq_region ?_
            refine WpL_val rfl rfl (by decide) (r_loadAgg (vs := [(.int .i64 t.kind), (.slice sa t.set.length sc), (.slice aa t.args.length ac), (.int .i64 t.mn), (.int .i64 t.mx), (.bool t.neg)]) rfl agg25 siz25 rfl (Br.cells rfl)) ?_
            refine WpL_enter rfl rfl (by decide) (r_callF (vs := [(.agg #[(.int .i64 t.kind), (.slice sa t.set.length sc), (.slice aa t.args.length ac), (.int .i64 t.mn), (.int .i64 t.mx), (.bool t.neg)])]) Try.func32 nm32 bd32 rfl) (rrep_c _ S t y _ (ReIn.ext E t ht0) (fun y hy => by have := hS y hy; have := E.size; omega) hy (by omega)) ?_
            rintro _ w9 ⟨us9, rfl, hre9, X9⟩
            replace Br := X9.keep Br
            replace Bo := X9.keep Bo
            replace E := E.ext X9
            obtain ⟨r9, hr9⟩ : ∃ r9, r9 = (rep56 t.kind y t.mn t.mx).getD t := ⟨_, rfl⟩
            rw [← hr9] at hre9
            have hre90 := hre9
            obtain ⟨sa9, sc9, aa9, ac9, rfl, _, _, _⟩ := hre9.form
            have hC9 : Chg (fun y => y = bo) (w9) (w9) := Chg.refl _ _
            refine WpL_val rfl rfl (by decide) (r_extract (vs := #[(.agg #[(.int .i64 r9.kind), (.slice sa9 r9.set.length sc9), (.slice aa9 r9.args.length ac9), (.int .i64 r9.mn), (.int .i64 r9.mx), (.bool r9.neg)]), (.bool ((rep56 t.kind y t.mn t.mx).isSome))]) (v := (.agg #[(.int .i64 r9.kind), (.slice sa9 r9.set.length sc9), (.slice aa9 r9.args.length ac9), (.int .i64 r9.mn), (.int .i64 r9.mx), (.bool r9.neg)])) rfl rfl) ?_
            refine WpL_val rfl rfl (by decide) (r_extract (vs := #[(.agg #[(.int .i64 r9.kind), (.slice sa9 r9.set.length sc9), (.slice aa9 r9.args.length ac9), (.int .i64 r9.mn), (.int .i64 r9.mx), (.bool r9.neg)]), (.bool ((rep56 t.kind y t.mn t.mx).isSome))]) (v := (.bool ((rep56 t.kind y t.mn t.mx).isSome))) rfl rfl) ?_
            refine s_storeAgg (b := bo) (o := 0) (c' := #[(.int .i64 r9.kind), (.slice sa9 r9.set.length sc9), (.slice aa9 r9.args.length ac9), (.int .i64 r9.mn), (.int .i64 r9.mx), (.bool r9.neg)]) rfl rfl (by simp [Value.oneCell']) siz25 rfl Bo (by simp) rfl ?_
            intro w10 S10
            replace hC9 := S10.chg
            replace Br := S10.keep (by omega) Br
            replace E := S10.step E (by first | exact Or.inl (by omega) | exact Or.inr rfl | exact Or.inr (by assumption) | exact Or.inr (by simp) | exact Or.inr (by omega) | exact Or.inr (by dsimp only; omega))
            replace Bo := S10.blk
            refine WpL_val rfl rfl (by decide) (r_assign (v := (.bool ((rep56 t.kind y t.mn t.mx).isSome))) rfl) ?_
            refine WpL_nil ?_
            refine Wp_ret ?_
            refine inB_ret ?_
            refine thn_ret ?_
            refine fin_agg_tmp Try.results20 (vs := [(.int .i64 r9.kind), (.slice sa9 r9.set.length sc9), (.slice aa9 r9.args.length ac9), (.int .i64 r9.mn), (.int .i64 r9.mx), (.bool r9.neg)]) (b := bo) (v' := (.bool ((rep56 t.kind y t.mn t.mx).isSome))) rfl agg25 siz25 rfl (Bo.cells rfl) rfl ?_
            refine ⟨rep56 t.kind y t.mn t.mx, _, rule_one (by unfold isL; omega) hy (by rw [if_pos (by omega)]), rfl, ?_, E⟩
            rw [← hr9]
            exact ReIn.mono (fun y hy => .inl hy) _ (ReIn.chg hC9 (fun y h hy => by have hy' : y = bo := hy; have := hS y h; omega) _ hre90)
          · have kh6 := h6
            replace h6 := of_decide_eq_false h6
            refine Wp_seq_region ?_
            refine WpL_val rfl rfl (by decide) (r_eql (k := .i64) (a := t.kind) (b := 8) rfl rfl) ?_
            refine WpL_val rfl rfl (by decide) (r_assign (v := (.bool (decide ((t.kind : Int) = 8)))) rfl) ?_
            refine WpL_nil ?_
            refine Wp_cond (b := decide ((t.kind : Int) = 8)) rfl (fun h8 => ?_) (fun h8 => ?_)
            · have kh8 := h8
              replace h8 := of_decide_eq_true h8
              have hl1 := hone (by omega)
              obtain ⟨y, hy⟩ := List.length_eq_one_iff.1 hl1
              have hym := hargs y (by rw [hy]; simp)
              obtain ⟨yb, yo, _, hyaa, hyr⟩ := hta.resolve_left (by rw [hy]; simp)
              subst hyaa
              obtain ⟨ys, hcy, hry⟩ := ResIn.get hyr (i := 0) (by rw [hy]; rfl)
              have hry0 := hry
              obtain ⟨ysa, ysc, yaa, yac, rfl, _, _, hya⟩ := hry.form
              refine Wp_seq_region ?_
              refine WpL_val rfl rfl (by decide) (r_fieldAddr (b := br) (o := 0) (o' := 2) rfl Try.underlying25 rfl siz23 rfl) ?_
              refine WpL_val rfl rfl (by decide) (r_load (v := (.slice (some ⟨yb, yo, none⟩) t.args.length ac)) rfl flat23 (Br.cell rfl)) ?_
              refine WpL_val rfl rfl (by decide) (r_indexSlice (b := yb) (o := yo) (len := t.args.length) (cap := ac) (i := 0) (o' := yo + 0 * 6) rfl rfl rfl Try.underlying23 siz25 (by omega) (by omega)) ?_
              refine WpL_val rfl rfl (by decide) (r_fieldAddr (b := yb) (o := yo + 0 * 6) (o' := yo + 0 * 6) rfl Try.underlying25 rfl siz3 rfl) ?_
              refine WpL_val rfl rfl (by decide) (r_load (v := (.int .i64 y.kind)) rfl flat3 ((hcy.ext E).at0)) ?_
              refine WpL_val rfl rfl (by decide) (r_eql (k := .i64) (a := y.kind) (b := 8) rfl rfl) ?_
              refine WpL_nil ?_
              refine Wp_cond (b := decide ((y.kind : Int) = 8)) rfl (fun c1 => ?_) (fun c1 => ?_)
              · have kc1 := c1
                replace c1 := of_decide_eq_true c1
                have hyl : y.args.length = 1 := okRe_one hym.2 (by omega)
                obtain ⟨zb, zo, _, hzaa, hzr⟩ := hya.resolve_left (fun h => by rw [h] at hyl; simp at hyl)
                subst hzaa
                obtain ⟨z, hzz⟩ := get_of_lt (l := y.args) (i := 0) (by omega)
                obtain ⟨zs, hcz, hrz⟩ := ResIn.get hzr hzz
                have hrz0 := hrz
                obtain ⟨zsa, zsc, zaa, zac, rfl, _, _, _⟩ := hrz.form
                refine Wp_seq_region ?_
                refine WpL_val rfl rfl (by decide) (r_fieldAddr (b := br) (o := 0) (o' := 2) rfl Try.underlying25 rfl siz23 rfl) ?_
                refine WpL_val rfl rfl (by decide) (r_load (v := (.slice (some ⟨yb, yo, none⟩) t.args.length ac)) rfl flat23 (Br.cell rfl)) ?_
                refine WpL_val rfl rfl (by decide) (r_indexSlice (b := yb) (o := yo) (len := t.args.length) (cap := ac) (i := 0) (o' := yo + 0 * 6) rfl rfl rfl Try.underlying23 siz25 (by omega) (by omega)) ?_
                refine WpL_val rfl rfl (by decide) (r_fieldAddr (b := yb) (o := yo + 0 * 6) (o' := yo + 0 * 6 + 2) rfl Try.underlying25 rfl siz23 rfl) ?_
                refine WpL_val rfl rfl (by decide) (r_load (v := (.slice (some ⟨zb, zo, none⟩) y.args.length yac)) rfl flat23 (hcy.ext E 2 _ rfl)) ?_
                refine WpL_val rfl rfl (by decide) (r_indexSlice (b := zb) (o := zo) (len := y.args.length) (cap := yac) (i := 0) (o' := zo + 0 * 6) rfl rfl rfl Try.underlying23 siz25 (by omega) (by omega)) ?_
                refine WpL_val rfl rfl (by decide) (r_loadAgg (vs := [(.int .i64 z.kind), (.slice zsa z.set.length zsc), (.slice zaa z.args.length zac), (.int .i64 z.mn), (.int .i64 z.mx), (.bool z.neg)]) rfl agg25 siz25 rfl (hcz.ext E)) ?_
                refine s_storeAgg (b := bo) (o := 0) (c' := #[(.int .i64 z.kind), (.slice zsa z.set.length zsc), (.slice zaa z.args.length zac), (.int .i64 z.mn), (.int .i64 z.mx), (.bool z.neg)]) rfl rfl (by simp [Value.oneCell']) siz25 rfl Bo (by simp) rfl ?_
                intro w13 S13
                replace Br := S13.keep (by omega) Br
                replace E := S13.step E (by first | exact Or.inl (by omega) | exact Or.inr rfl | exact Or.inr (by assumption) | exact Or.inr (by simp) | exact Or.inr (by omega) | exact Or.inr (by dsimp only; omega))
                replace Bo := S13.blk
                refine WpL_val rfl rfl (by decide) (r_assign (v := (.bool true)) rfl) ?_
                refine WpL_nil ?_
                refine Wp_ret ?_
                refine inB_ret ?_
                refine thn_ret ?_
                refine fin_agg_tmp Try.results20 (vs := [(.int .i64 z.kind), (.slice zsa z.set.length zsc), (.slice zaa z.args.length zac), (.int .i64 z.mn), (.int .i64 z.mx), (.bool z.neg)]) (b := bo) (v' := (.bool true)) rfl agg25 siz25 rfl (Bo.cells rfl) rfl ?_
                refine ⟨some z, _, rule_one (by unfold isL; omega) hy (by rw [if_neg (by omega), if_pos h8, if_pos c1, headD_get hzz]), rfl, ReIn.mono (fun y hy => .inl hy) z (ReIn.ext E z hrz0), E⟩
              · have kc1 := c1
                replace c1 := of_decide_eq_false c1
                refine Wp_skip ?_
                refine inB_normal ?_
                refine thn_normal ?_
                refine Wp_seq_region ?_
                refine WpL_val rfl rfl (by decide) (r_loadAgg (vs := [(.int .i64 t.kind), (.slice sa t.set.length sc), (.slice (some ⟨yb, yo, none⟩) t.args.length ac), (.int .i64 t.mn), (.int .i64 t.mx), (.bool t.neg)]) rfl agg25 siz25 rfl (Br.cells rfl)) ?_
                refine s_storeAgg (b := bo) (o := 0) (c' := #[(.int .i64 t.kind), (.slice sa t.set.length sc), (.slice (some ⟨yb, yo, none⟩) t.args.length ac), (.int .i64 t.mn), (.int .i64 t.mx), (.bool t.neg)]) rfl rfl (by simp [Value.oneCell']) siz25 rfl Bo (by simp) rfl ?_
                intro w14 S14
                replace Br := S14.keep (by omega) Br
                replace E := S14.step E (by first | exact Or.inl (by omega) | exact Or.inr rfl | exact Or.inr (by assumption) | exact Or.inr (by simp) | exact Or.inr (by omega) | exact Or.inr (by dsimp only; omega))
                replace Bo := S14.blk
                refine WpL_val rfl rfl (by decide) (r_assign (v := (.bool false)) rfl) ?_
                refine WpL_nil ?_
                refine Wp_ret ?_
                refine fin_agg_tmp Try.results20 (vs := [(.int .i64 t.kind), (.slice sa t.set.length sc), (.slice (some ⟨yb, yo, none⟩) t.args.length ac), (.int .i64 t.mn), (.int .i64 t.mx), (.bool t.neg)]) (b := bo) (v' := (.bool false)) rfl agg25 siz25 rfl (Bo.cells rfl) rfl ?_
                refine ⟨none, _, rule_one (by unfold isL; omega) hy (by rw [if_neg (by omega), if_pos h8, if_neg c1]), rfl, ReIn.mono (fun y hy => .inl hy) t (ReIn.ext E t ht0), E⟩
            · have kh8 := h8
              replace h8 := of_decide_eq_false h8
              refine Wp_seq_region ?_
              refine WpL_val rfl rfl (by decide) (r_eql (k := .i64) (a := t.kind) (b := 10) rfl rfl) ?_
              refine WpL_val rfl rfl (by decide) (r_assign (v := (.bool (decide ((t.kind : Int) = 10)))) rfl) ?_
              refine WpL_nil ?_
              refine Wp_cond (b := decide ((t.kind : Int) = 10)) rfl (fun h10 => ?_) (fun h10 => ?_)
              · have kh10 := h10
                replace h10 := of_decide_eq_true h10
                have hl1 := hone (by omega)
                obtain ⟨y, hy⟩ := List.length_eq_one_iff.1 hl1
                have hym := hargs y (by rw [hy]; simp)
                obtain ⟨yb, yo, _, hyaa, hyr⟩ := hta.resolve_left (by rw [hy]; simp)
                subst hyaa
                obtain ⟨ys, hcy, hry⟩ := ResIn.get hyr (i := 0) (by rw [hy]; rfl)
                have hry0 := hry
                obtain ⟨ysa, ysc, yaa, yac, rfl, _, _, hya⟩ := hry.form
                refine Wp_seq_region ?_
                refine WpL_val rfl rfl (by decide) (r_fieldAddr (b := br) (o := 0) (o' := 2) rfl Try.underlying25 rfl siz23 rfl) ?_
                refine WpL_val rfl rfl (by decide) (r_load (v := (.slice (some ⟨yb, yo, none⟩) t.args.length ac)) rfl flat23 (Br.cell rfl)) ?_
                refine WpL_val rfl rfl (by decide) (r_indexSlice (b := yb) (o := yo) (len := t.args.length) (cap := ac) (i := 0) (o' := yo + 0 * 6) rfl rfl rfl Try.underlying23 siz25 (by omega) (by omega)) ?_
                refine WpL_val rfl rfl (by decide) (r_fieldAddr (b := yb) (o := yo + 0 * 6) (o' := yo + 0 * 6) rfl Try.underlying25 rfl siz3 rfl) ?_
                refine WpL_val rfl rfl (by decide) (r_load (v := (.int .i64 y.kind)) rfl flat3 ((hcy.ext E).at0)) ?_
                refine WpL_val rfl rfl (by decide) (r_assign (v := (.int .i64 y.kind)) rfl) ?_
                refine WpL_nil ?_
                refine Wp_seq_region ?_
                refine WpL_val rfl rfl (by decide) (r_move (v := (.int .i64 y.kind)) rfl) ?_
                refine WpL_val rfl rfl (by decide) (r_leq (k := .i64) (a := y.kind) (b := 1) rfl rfl) ?_
                refine WpL_nil ?_
                refine Wp_cond (b := decide ((y.kind : Int) ≤ 1)) rfl (fun c1 => ?_) (fun c1 => ?_)
                · have kc1 := c1
                  replace c1 := of_decide_eq_true c1
                  refine Wp_seq ?_
                  refine Wp_seq_region ?_
                  refine WpL_val rfl rfl (by decide) (r_move (v := (.int .i64 y.kind)) rfl) ?_
                  refine WpL_val rfl rfl (by decide) (r_eql (k := .i64) (a := y.kind) (b := 1) rfl rfl) ?_
                  refine WpL_val rfl rfl (by decide) (r_fieldAddr (b := br) (o := 0) (o' := 5) rfl Try.underlying25 rfl siz4 rfl) ?_
                  refine WpL_val rfl rfl (by decide) (r_load (v := (.bool t.neg)) rfl flat4 (Br.cell rfl)) ?_
                  refine WpL_val rfl rfl (by decide) (r_neqB (p := decide ((y.kind : Int) = 1)) (q := t.neg) Try.underlying4 rfl rfl) ?_
                  refine WpL_nil ?_
                  refine Wp_cond (b := (decide ((y.kind : Int) = 1)) != t.neg) rfl (fun c2 => ?_) (fun c2 => ?_)
                  · have kc2 := c2
                    refine Wp_seq_region ?_
                    refine WpL_enter rfl rfl (by decide) (r_callF (vs := []) Try.func33 nm33 bd33 rfl) (rempty_c _) ?_
                    rintro _ w9 ⟨rfl, X9⟩
                    replace Br := X9.keep Br
                    replace Bo := X9.keep Bo
                    replace E := E.ext X9
                    refine s_storeAgg (b := bo) (o := 0) (c' := #[(.int .i64 1), (.slice none 0 0), (.slice none 0 0), (.int .i64 0), (.int .i64 0), (.bool false)]) rfl rfl (by simp [Value.oneCell']) siz25 rfl Bo (by simp) rfl ?_
                    intro w18 S18
                    replace Br := S18.keep (by omega) Br
                    replace E := S18.step E (by first | exact Or.inl (by omega) | exact Or.inr rfl | exact Or.inr (by assumption) | exact Or.inr (by simp) | exact Or.inr (by omega) | exact Or.inr (by dsimp only; omega))
                    replace Bo := S18.blk
                    refine WpL_val rfl rfl (by decide) (r_assign (v := (.bool true)) rfl) ?_
                    refine WpL_nil ?_
                    refine Wp_ret ?_
                    refine thn_ret ?_
                    refine inB_ret ?_
                    refine thn_ret ?_
                    refine fin_agg_tmp Try.results20 (vs := [(.int .i64 1), (.slice none 0 0), (.slice none 0 0), (.int .i64 0), (.int .i64 0), (.bool false)]) (b := bo) (v' := (.bool true)) rfl agg25 siz25 rfl (Bo.cells rfl) rfl ?_
                    exact ⟨some emptyT, _, rule_one (by unfold isL; omega) hy (by rw [if_neg (by omega), if_neg (by omega), if_pos h10, if_pos c1, if_pos c2]), rfl, re_empty _ _ _, E⟩
                  · have kc2 := c2
                    refine Wp_skip ?_
                    refine thn_normal ?_
                    refine Wp_seq_region ?_
                    refine WpL_enter rfl rfl (by decide) (r_callF (vs := []) Try.func34 nm34 bd34 rfl) (rnone_c _) ?_
                    rintro _ w9 ⟨rfl, X9⟩
                    replace Br := X9.keep Br
                    replace Bo := X9.keep Bo
                    replace E := E.ext X9
                    refine s_storeAgg (b := bo) (o := 0) (c' := #[(.int .i64 0), (.slice none 0 0), (.slice none 0 0), (.int .i64 0), (.int .i64 0), (.bool false)]) rfl rfl (by simp [Value.oneCell']) siz25 rfl Bo (by simp) rfl ?_
                    intro w19 S19
                    replace Br := S19.keep (by omega) Br
                    replace E := S19.step E (by first | exact Or.inl (by omega) | exact Or.inr rfl | exact Or.inr (by assumption) | exact Or.inr (by simp) | exact Or.inr (by omega) | exact Or.inr (by dsimp only; omega))
                    replace Bo := S19.blk
                    refine WpL_val rfl rfl (by decide) (r_assign (v := (.bool true)) rfl) ?_
                    refine WpL_nil ?_
                    refine Wp_ret ?_
                    refine inB_ret ?_
                    refine thn_ret ?_
                    refine fin_agg_tmp Try.results20 (vs := [(.int .i64 0), (.slice none 0 0), (.slice none 0 0), (.int .i64 0), (.int .i64 0), (.bool false)]) (b := bo) (v' := (.bool true)) rfl agg25 siz25 rfl (Bo.cells rfl) rfl ?_
                    exact ⟨some noneT, _, rule_one (by unfold isL; omega) hy (by rw [if_neg (by omega), if_neg (by omega), if_pos h10, if_pos c1, if_neg (by rw [c2]; simp)]), rfl, re_empty _ _ _, E⟩
                · have kc1 := c1
                  replace c1 := of_decide_eq_false c1
                  refine Wp_skip ?_
                  refine inB_normal ?_
                  refine thn_normal ?_
                  refine Wp_seq_region ?_
                  refine WpL_val rfl rfl (by decide) (r_loadAgg (vs := [(.int .i64 t.kind), (.slice sa t.set.length sc), (.slice (some ⟨yb, yo, none⟩) t.args.length ac), (.int .i64 t.mn), (.int .i64 t.mx), (.bool t.neg)]) rfl agg25 siz25 rfl (Br.cells rfl)) ?_
                  refine s_storeAgg (b := bo) (o := 0) (c' := #[(.int .i64 t.kind), (.slice sa t.set.length sc), (.slice (some ⟨yb, yo, none⟩) t.args.length ac), (.int .i64 t.mn), (.int .i64 t.mx), (.bool t.neg)]) rfl rfl (by simp [Value.oneCell']) siz25 rfl Bo (by simp) rfl ?_
                  intro w20 S20
                  replace Br := S20.keep (by omega) Br
                  replace E := S20.step E (by first | exact Or.inl (by omega) | exact Or.inr rfl | exact Or.inr (by assumption) | exact Or.inr (by simp) | exact Or.inr (by omega) | exact Or.inr (by dsimp only; omega))
                  replace Bo := S20.blk
                  refine WpL_val rfl rfl (by decide) (r_assign (v := (.bool false)) rfl) ?_
                  refine WpL_nil ?_
                  refine Wp_ret ?_
                  refine fin_agg_tmp Try.results20 (vs := [(.int .i64 t.kind), (.slice sa t.set.length sc), (.slice (some ⟨yb, yo, none⟩) t.args.length ac), (.int .i64 t.mn), (.int .i64 t.mx), (.bool t.neg)]) (b := bo) (v' := (.bool false)) rfl agg25 siz25 rfl (Bo.cells rfl) rfl ?_
                  refine ⟨none, _, rule_one (by unfold isL; omega) hy (by rw [if_neg (by omega), if_neg (by omega), if_pos h10, if_neg c1]), rfl, ReIn.mono (fun y hy => .inl hy) t (ReIn.ext E t ht0), E⟩
              · have kh10 := h10
                replace h10 := of_decide_eq_false h10
                refine Wp_skip ?_
                refine inB_normal ?_
                refine thn_normal ?_
                refine Wp_seq_region ?_
                refine WpL_val rfl rfl (by decide) (r_loadAgg (vs := [(.int .i64 t.kind), (.slice sa t.set.length sc), (.slice aa t.args.length ac), (.int .i64 t.mn), (.int .i64 t.mx), (.bool t.neg)]) rfl agg25 siz25 rfl (Br.cells rfl)) ?_
                refine s_storeAgg (b := bo) (o := 0) (c' := #[(.int .i64 t.kind), (.slice sa t.set.length sc), (.slice aa t.args.length ac), (.int .i64 t.mn), (.int .i64 t.mx), (.bool t.neg)]) rfl rfl (by simp [Value.oneCell']) siz25 rfl Bo (by simp) rfl ?_
                intro w21 S21
                replace Br := S21.keep (by omega) Br
                replace E := S21.step E (by first | exact Or.inl (by omega) | exact Or.inr rfl | exact Or.inr (by assumption) | exact Or.inr (by simp) | exact Or.inr (by omega) | exact Or.inr (by dsimp only; omega))
                replace Bo := S21.blk
                refine WpL_val rfl rfl (by decide) (r_assign (v := (.bool false)) rfl) ?_
                refine WpL_nil ?_
                refine Wp_ret ?_
                refine fin_agg_tmp Try.results20 (vs := [(.int .i64 t.kind), (.slice sa t.set.length sc), (.slice aa t.args.length ac), (.int .i64 t.mn), (.int .i64 t.mx), (.bool t.neg)]) (b := bo) (v' := (.bool false)) rfl agg25 siz25 rfl (Bo.cells rfl) rfl ?_
                exact ⟨none, _, rule_leaf (by unfold isL; omega) (by omega), rfl, ReIn.mono (fun y hy => .inl hy) t (ReIn.ext E t ht0), E⟩

set_option maxHeartbeats 4000000 in
theorem normre_c : ∀ (n : Nat) (t : Re) (w0 : World) (vs : List Value) (S : Nat → Prop), t.size ≤ n → t.size ≤ 300000 → okRe t → ReIn S w0 t vs → (∀ b, S b → b < w0.heap.size) →
    Ret Try.prog 8 #[.agg vs.toArray] w0 fun v w => ∃ us, v = .agg us.toArray ∧ ReIn (fun b => S b ∨ w0.heap.size ≤ b) w (normT t) us ∧ Ext w0 w := by
  intro n
  induction n with
  | zero => intro t w0 vs S hn; have := t.size_pos; omega
  | succ n ih =>
  intro t w0 vs S hn hM hok ht hS
  have ht0 := ht
  obtain ⟨sa, sc, aa, ac, rfl, hset, hac, hta⟩ := ht.form
  obtain ⟨r0, hr0⟩ : ∃ r0, r0 = Re.mk t.kind t.set (t.args.map normT) t.mn t.mx t.neg := ⟨_, rfl⟩
  have hok0 : okRe r0 := by
    rw [hr0]
    have h1 : okRe (.mk t.kind t.set t.args t.mn t.mx t.neg) := by cases t; exact hok
    refine ok_same h1 (by simp) (fun x hx => ?_)
    rw [← normTs_map] at hx
    exact ok_normTs t.args (okRe_args hok) x hx
  have hinv0 : InvR r0 := inv_ok hok0 (by rw [hr0]; intro x hx; exact nf_normTs t.args x (by rw [normTs_map]; exact hx))
  have hnode0 : nodeN r0 = normT t := by rw [hr0, normT_eq, normTs_map]; rfl
  have hsz0 : r0.size ≤ t.size := by
    rw [hr0, Re.size_eq, t.size_eq]
    have := size_normTs t.args
    rw [normTs_map] at this
    exact Nat.succ_le_succ this
  refine Ret_of Try.func8 rfl Try.ntmps8 (Nat.le_of_ble_eq_true rfl) ?_
  have E : Chg none1 w0 w0 := Chg.refl _ _
  refine Wp_seq_region ?_
  refine s_box (v := (.agg #[(.int .i64 t.kind), (.slice sa t.set.length sc), (.slice aa t.args.length ac), (.int .i64 t.mn), (.int .i64 t.mx), (.bool t.neg)])) (c := #[(.int .i64 t.kind), (.slice sa t.set.length sc), (.slice aa t.args.length ac), (.int .i64 t.mn), (.int .i64 t.mx), (.bool t.neg)]) (by decide) rfl rfl ?_
  intro br wr Nr
  have Fr := Nr.ge E
  replace E := E.ext Nr.ext
  have Br := Nr.blk
  refine s_alloc (c := #[(.int .i64 0), (.slice none 0 0), (.slice none 0 0), (.int .i64 0), (.int .i64 0), (.bool false)]) (by decide) zer25 rfl ?_
  intro bo wo No
  have Fo := No.ge E
  have Oo_br := No.lt Br
  replace Br := No.keep Br
  replace E := E.ext No.ext
  have Bo := No.blk
  refine WpL_nil ?_
  refine Wp_seq_region ?_
  refine WpL_val rfl rfl (by decide) (r_loadAgg (vs := [(.int .i64 t.kind), (.slice sa t.set.length sc), (.slice aa t.args.length ac), (.int .i64 t.mn), (.int .i64 t.mx), (.bool t.neg)]) rfl agg25 siz25 rfl (Br.cells rfl)) ?_
  obtain ⟨n1, hn1⟩ : ∃ n1, n1 = wo.heap.size := ⟨_, rfl⟩
  have hz1 : w0.heap.size ≤ n1 := by rw [hn1]; exact E.size
  have hbo : bo < n1 := by rw [hn1]; exact Bo.lt
  have hbr : br < n1 := by rw [hn1]; exact Br.lt
  have hS1 : ∀ y, S y ∨ n1 ≤ y → ¬ y = br ∧ ¬ y = bo := fun y hy => by rcases hy with h | h; have := hS y h; omega; omega
  refine WpL_enter rfl rfl (by decide) (r_callF (vs := [(.agg #[(.int .i64 t.kind), (.slice sa t.set.length sc), (.slice aa t.args.length ac), (.int .i64 t.mn), (.int .i64 t.mx), (.bool t.neg)]), (.func (.func 8) #[] #[])]) Try.func19 nm19 bd19 rfl) ((mapped_c _ S t _ _ normT (ReIn.ext E t ht0) (fun y hy => by have := hS y hy; omega) (by omega) (fun w x xs hE hx h => CallV.mk (first := #[]) (cap := #[]) Try.func8 nm8 bd8 rfl (by obtain ⟨i, hi⟩ := List.mem_iff_getElem?.1 hx; exact ih x w xs S (by have := Re.size_arg hi; omega) (by have := Re.size_arg hi; omega) (okRe_arg hok hi) h (fun y hy => by have := hS y hy; have := hE.size; omega))))) ?_
  rintro _ w9 ⟨us9, rfl, hre9, X9⟩
  replace Br := X9.keep Br
  replace Bo := X9.keep Bo
  replace E := E.ext X9
  rw [← hn1, ← hr0] at hre9
  obtain ⟨ka, kc, kaa, kac, hus9, _, _, _⟩ := hre9.form
  subst hus9
  have hsz9 : n1 ≤ (w9).heap.size := by rw [hn1]; exact X9.size
  refine s_storeAgg (b := br) (o := 0) (c' := #[(.int .i64 r0.kind), (.slice ka r0.set.length kc), (.slice kaa r0.args.length kac), (.int .i64 r0.mn), (.int .i64 r0.mx), (.bool r0.neg)]) rfl rfl (by simp [Value.oneCell']) siz25 rfl Br (by simp) rfl ?_
  intro w1 S1
  replace hre9 := ReIn.chg S1.chg (fun y hy h => (hS1 y hy).1 h) r0 hre9
  replace hsz9 := Nat.le_trans hsz9 S1.chg.size
  replace Bo := S1.keep (by omega) Bo
  replace E := S1.step E (by first | exact Or.inl (by omega) | exact Or.inr rfl | exact Or.inr (by assumption) | exact Or.inr (by simp) | exact Or.inr (by omega) | exact Or.inr (by dsimp only; omega))
  replace Br := S1.blk
  refine WpL_nil ?_
  refine Wp_block ?_
  refine Wp_loop (fun nn_ σ W2 => ∃ (q : Re) (ka : Option Addr) (kc : Nat) (kaa : Option Addr) (kac : Nat), (∃ jj_, σ = upds jj_ [(1, (.pointer (some ⟨br, 0, none⟩))), (2, (.pointer (some ⟨bo, 0, none⟩)))]) ∧ Chg none1 w0 W2 ∧ Blk W2 br (#[(.int .i64 q.kind), (.slice ka q.set.length kc), (.slice kaa q.args.length kac), (.int .i64 q.mn), (.int .i64 q.mx), (.bool q.neg)]) 25 ∧ Blk W2 bo #[(.int .i64 0), (.slice none 0 0), (.slice none 0 0), (.int .i64 0), (.int .i64 0), (.bool false)] 25 ∧ (InvR q) ∧ (nodeN q = normT t) ∧ (ReIn (fun y => S y ∨ n1 ≤ y) W2 q [.int .i64 q.kind, .slice ka q.set.length kc, .slice kaa q.args.length kac, .int .i64 q.mn, .int .i64 q.mx, .bool q.neg]) ∧ (q.size ≤ t.size) ∧ (n1 ≤ W2.heap.size) ∧ nn_ = q.size + 0) (n := r0.size + 0) ?_ ?_
  · exact ⟨r0, ka, kc, kaa, kac, Fits.out ⟨rfl, rfl, trivial⟩, E, Br, Bo, hinv0, hnode0, hre9, hsz0, hsz9, rfl⟩
  · clear E Br Bo
    rintro _ _ W2 ⟨q, ka, kc, kaa, kac, ⟨j2, rfl⟩, E, Br, Bo, hinv, hnode, hre, hqs, hszq, rfl⟩
    have hreq := hre
    have hlt0 := hszq
    refine Wp_block ?_
    refine Wp_seq_region ?_
    refine WpL_val rfl rfl (by decide) (r_loadAgg (vs := [(.int .i64 q.kind), (.slice ka q.set.length kc), (.slice kaa q.args.length kac), (.int .i64 q.mn), (.int .i64 q.mx), (.bool q.neg)]) rfl agg25 siz25 rfl (Br.cells rfl)) ?_
    have hlt9 := ReIn.lt q hreq
    refine WpL_enter rfl rfl (by decide) (r_callF (vs := [(.agg #[(.int .i64 q.kind), (.slice ka q.set.length kc), (.slice kaa q.args.length kac), (.int .i64 q.mn), (.int .i64 q.mx), (.bool q.neg)])]) Try.func20 nm20 bd20 rfl) (rule_c _ _ q _ hlt9 (fun y hy => hy.2) (by omega) hinv) ?_
    rintro _ w19 ⟨res, us, hrule, rfl, hres, X19⟩
    replace Br := X19.keep Br
    replace Bo := X19.keep Bo
    replace hreq := ReIn.ext X19 q hreq
    replace hszq := Nat.le_trans hszq X19.size
    replace E := E.ext X19
    have hstep := rule_step hinv hrule
    obtain ⟨r9, hr9⟩ : ∃ r9, r9 = res.getD q := ⟨_, rfl⟩
    rw [← hr9] at hres
    replace hres := ReIn.mono (S' := fun y => S y ∨ n1 ≤ y) (by rintro y (⟨h | h, _⟩ | h); exact .inl h; exact .inr h; exact .inr (by have := hlt0; omega)) r9 hres
    have hres0 := hres
    obtain ⟨sa9, sc9, aa9, ac9, rfl, _, _, _⟩ := hres.form
    refine WpL_val rfl rfl (by decide) (r_move (v := (.tuple #[(.agg #[(.int .i64 r9.kind), (.slice sa9 r9.set.length sc9), (.slice aa9 r9.args.length ac9), (.int .i64 r9.mn), (.int .i64 r9.mx), (.bool r9.neg)]), (.bool res.isSome)])) rfl) ?_
    refine WpL_val rfl rfl (by decide) (r_extract (vs := #[(.agg #[(.int .i64 r9.kind), (.slice sa9 r9.set.length sc9), (.slice aa9 r9.args.length ac9), (.int .i64 r9.mn), (.int .i64 r9.mx), (.bool r9.neg)]), (.bool res.isSome)]) (v := (.agg #[(.int .i64 r9.kind), (.slice sa9 r9.set.length sc9), (.slice aa9 r9.args.length ac9), (.int .i64 r9.mn), (.int .i64 r9.mx), (.bool r9.neg)])) rfl rfl) ?_
    refine WpL_val rfl rfl (by decide) (r_extract (vs := #[(.agg #[(.int .i64 r9.kind), (.slice sa9 r9.set.length sc9), (.slice aa9 r9.args.length ac9), (.int .i64 r9.mn), (.int .i64 r9.mx), (.bool r9.neg)]), (.bool res.isSome)]) (v := (.bool res.isSome)) rfl rfl) ?_
    refine s_allocStore (v := (.agg #[(.int .i64 r9.kind), (.slice sa9 r9.set.length sc9), (.slice aa9 r9.args.length ac9), (.int .i64 r9.mn), (.int .i64 r9.mx), (.bool r9.neg)])) (c := #[(.int .i64 r9.kind), (.slice sa9 r9.set.length sc9), (.slice aa9 r9.args.length ac9), (.int .i64 r9.mn), (.int .i64 r9.mx), (.bool r9.neg)]) (n := 6) (by decide) zer25 rfl siz25 rfl rfl rfl (by simp [Value.oneCell']) ?_
    intro bs ws Ns
    have Fs := Ns.ge E
    have Os_br := Ns.lt Br
    have Os_bo := Ns.lt Bo
    replace Br := Ns.keep Br
    replace Bo := Ns.keep Bo
    replace hreq := ReIn.ext Ns.ext q hreq
    replace hszq := Nat.le_trans hszq Ns.ext.size
    replace hres0 := ReIn.ext Ns.ext r9 hres0
    replace E := E.ext Ns.ext
    have Bs := Ns.blk
    refine WpL_val rfl rfl (by decide) (r_assign (v := (.bool res.isSome)) rfl) ?_
    refine WpL_nil ?_
    refine Wp_seq ?_
    refine Wp_seq_region ?_
    refine WpL_val rfl rfl (by decide) (r_move (v := (.bool res.isSome)) rfl) ?_
    refine WpL_val rfl rfl (by decide) (r_not (b := res.isSome) rfl) ?_
    refine WpL_nil ?_
    refine Wp_cond (b := !res.isSome) rfl (fun hs => ?_) (fun hs => ?_)
    · have khs := hs
      replace hs := by simpa using hs
      have hC9 : Chg (fun y => y = bo) (ws) (ws) := Chg.refl _ _
      refine Wp_seq_region ?_
      refine WpL_val rfl rfl (by decide) (r_loadAgg (vs := [(.int .i64 q.kind), (.slice ka q.set.length kc), (.slice kaa q.args.length kac), (.int .i64 q.mn), (.int .i64 q.mx), (.bool q.neg)]) rfl agg25 siz25 rfl (Br.cells rfl)) ?_
      refine s_storeAgg (b := bo) (o := 0) (c' := #[(.int .i64 q.kind), (.slice ka q.set.length kc), (.slice kaa q.args.length kac), (.int .i64 q.mn), (.int .i64 q.mx), (.bool q.neg)]) rfl rfl (by simp [Value.oneCell']) siz25 rfl Bo (by simp) rfl ?_
      intro w4 S4
      replace hC9 := S4.chg
      replace Br := S4.keep (by omega) Br
      replace Bs := S4.keep (by omega) Bs
      replace E := S4.step E (by first | exact Or.inl (by omega) | exact Or.inr rfl | exact Or.inr (by assumption) | exact Or.inr (by simp) | exact Or.inr (by omega) | exact Or.inr (by dsimp only; omega))
      replace Bo := S4.blk
      refine WpL_nil ?_
      refine Wp_ret ?_
      refine thn_ret ?_
      refine inB_ret ?_
      refine thn_ret ?_
      refine inB_ret ?_
      refine fin_agg Try.results8 (vs := [(.int .i64 q.kind), (.slice ka q.set.length kc), (.slice kaa q.args.length kac), (.int .i64 q.mn), (.int .i64 q.mx), (.bool q.neg)]) (b := bo) rfl agg25 siz25 rfl (Bo.cells rfl) ?_
      have hnone : res = none := by cases hq : res with | none => rfl | some x => rw [hq] at hs; cases hs
      subst hnone
      refine ⟨_, rfl, ?_, E⟩
      have hq : nodeN q = q := hstep
      rw [← hnode, hq]
      exact ReIn.mono (fun y hy => hy.imp id (fun h => by omega)) _ (ReIn.chg hC9 (fun y hy h => (hS1 y hy).2 h) _ hreq)
    · have khs := hs
      replace hs := by simpa using hs
      obtain ⟨x9, hx9⟩ : ∃ x9, res = some x9 := by cases hq : res with | none => rw [hq] at hs; cases hs | some x => exact ⟨x, rfl⟩
      have hr9x : r9 = x9 := by rw [hr9, hx9]; rfl
      rw [hx9] at hstep
      obtain ⟨hi9, hn9, hl9⟩ : InvR x9 ∧ nodeN x9 = nodeN q ∧ x9.size < q.size := hstep
      rw [← hr9x] at hi9 hn9 hl9
      refine Wp_skip ?_
      refine thn_normal ?_
      refine Wp_region ?_
      refine WpL_val rfl rfl (by decide) (r_loadAgg (vs := [(.int .i64 r9.kind), (.slice sa9 r9.set.length sc9), (.slice aa9 r9.args.length ac9), (.int .i64 r9.mn), (.int .i64 r9.mx), (.bool r9.neg)]) rfl agg25 siz25 rfl (Bs.cells rfl)) ?_
      refine s_storeAgg (b := br) (o := 0) (c' := #[(.int .i64 r9.kind), (.slice sa9 r9.set.length sc9), (.slice aa9 r9.args.length ac9), (.int .i64 r9.mn), (.int .i64 r9.mx), (.bool r9.neg)]) rfl rfl (by simp [Value.oneCell']) siz25 rfl Br (by simp) rfl ?_
      intro w5 S5
      replace hres0 := ReIn.chg S5.chg (fun y hy h => (hS1 y hy).1 h) r9 hres0
      replace hszq := Nat.le_trans hszq S5.chg.size
      replace Bo := S5.keep (by omega) Bo
      replace Bs := S5.keep (by omega) Bs
      replace E := S5.step E (by first | exact Or.inl (by omega) | exact Or.inr rfl | exact Or.inr (by assumption) | exact Or.inr (by simp) | exact Or.inr (by omega) | exact Or.inr (by dsimp only; omega))
      replace Br := S5.blk
      refine WpL_nil ?_
      refine inB_normal ?_
      refine thn_normal ?_
      exact ⟨r9.size + 0, by omega, r9, sa9, sc9, aa9, ac9, Fits.out ⟨rfl, rfl, trivial⟩, E, Br, Bo, hi9, hn9.trans hnode, hres0, (by omega), hszq, rfl⟩
end Go.Proofs
