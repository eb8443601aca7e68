/- The reference's CheckClasses, WordOf, SetsEqual; classes.Word. -/
import Derived.Test.YtpjamnekclkhhaaCd
namespace Go.Proofs
open Go Go.Eng Go.Sort
set_option maxRecDepth 100000

theorem sseq_c (w0 : World) (v1 v2 : Value) (l1 l2 : List (List Sp)) (h1 : SpssAt w0 v1 l1) (h2 : SpssAt w0 v2 l2) :
    Ret Try.prog 43 #[v1, v2] w0 fun v w => v = .bool (decide (l1 = l2)) ∧ Ext w0 w := by
  obtain ⟨a1, c1, rfl, _, hb1⟩ := h1.form
  obtain ⟨a2, c2, rfl, _, hb2⟩ := h2.form
  refine Ret_of Try.func43 rfl Try.ntmps43 (Nat.le_of_ble_eq_true rfl) ?_
  have E : Chg none1 w0 w0 := Chg.refl _ _
  refine Wp_seq_region ?_
  refine WpL_val rfl rfl (by decide) (r_assign (v := (.bool false)) rfl) ?_
  refine WpL_nil ?_
  refine Wp_seq ?_
  refine Wp_seq_region ?_
  refine WpL_val rfl rfl (by decide) (r_move (v := (.slice a1 l1.length c1)) rfl) ?_
  refine WpL_val rfl rfl (by decide) (r_lenSlice (ad := a1) (n := l1.length) (cap := c1) Try.underlying53 rfl) ?_
  refine WpL_val rfl rfl (by decide) (r_move (v := (.slice a2 l2.length c2)) rfl) ?_
  refine WpL_val rfl rfl (by decide) (r_lenSlice (ad := a2) (n := l2.length) (cap := c2) Try.underlying53 rfl) ?_
  refine WpL_val rfl rfl (by decide) (r_neq (k := .i64) (a := ((l1.length : Nat) : Int)) (b := ((l2.length : Nat) : Int)) rfl rfl) ?_
  refine WpL_nil ?_
  refine Wp_cond (b := decide ((((l1.length : Nat) : Int) : Int) ≠ ((l2.length : Nat) : Int))) rfl (fun hl => ?_) (fun hl => ?_)
  · have khl := hl
    replace hl := of_decide_eq_true hl
    refine Wp_seq_region ?_
    refine WpL_val rfl rfl (by decide) (r_assign (v := (.bool false)) rfl) ?_
    refine WpL_nil ?_
    refine Wp_ret ?_
    refine thn_ret ?_
    refine fin_tmp Try.results43 (v := (.bool false)) rfl ?_
    exact ⟨bool_eq (by symm; rw [decide_eq_false_iff_not]; intro h; rw [h] at hl; exact hl rfl), E⟩
  · have khl := hl
    replace hl := of_decide_eq_false hl
    refine Wp_skip ?_
    refine thn_normal ?_
    refine Wp_seq ?_
    refine Wp_seq_region ?_
    refine WpL_val rfl rfl (by decide) (r_move (v := (.slice a1 l1.length c1)) rfl) ?_
    refine WpL_val rfl rfl (by decide) (r_lenSlice (ad := a1) (n := l1.length) (cap := c1) Try.underlying53 rfl) ?_
    refine WpL_val rfl rfl (by decide) (r_move (v := (.int .i64 0)) rfl) ?_
    refine WpL_nil ?_
    refine Wp_block ?_
    refine Wp_loop (fun nn_ σ W2 => ∃ (k : Nat), (∃ jj_, σ = upds jj_ [(0, (.slice a1 l1.length c1)), (1, (.slice a2 l2.length c2)), (12, (.int .i64 ((l1.length : Nat) : Int))), (13, (.int .i64 ((k : Nat) : Int)))]) ∧ Chg none1 w0 W2 ∧ (k ≤ l1.length) ∧ (∀ (i : Nat), i < k → l1[i]? = l2[i]?) ∧ nn_ = l1.length - k) (n := l1.length - 0) ?_ ?_
    · exact ⟨0, Fits.out ⟨rfl, rfl, rfl, rfl, trivial⟩, E, Nat.zero_le _, (fun i h => absurd h (Nat.not_lt_zero _)), rfl⟩
    · clear E
      rintro _ _ W2 ⟨k, ⟨j2, rfl⟩, E, hk, heq, rfl⟩
      refine Wp_seq_region ?_
      refine WpL_val rfl rfl (by decide) (r_lss (k := .i64) (a := ((k : Nat) : Int)) (b := ((l1.length : Nat) : Int)) rfl rfl) ?_
      refine WpL_nil ?_
      refine Wp_seq ?_
      refine Wp_cond (b := decide ((((k : Nat) : Int) : Int) < ((l1.length : Nat) : Int))) rfl (fun hlt => ?_) (fun hlt => ?_)
      · have khlt := hlt
        replace hlt := of_decide_eq_true hlt
        obtain ⟨p, hp⟩ := get_of_lt (l := l1) (i := k) (by omega)
        obtain ⟨q, hq⟩ := get_of_lt (l := l2) (i := k) (by omega)
        obtain ⟨b1, o1, rfl, hc1⟩ := spss_cells h1 (by omega)
        obtain ⟨b2, o2, rfl, hc2⟩ := spss_cells h2 (by omega)
        obtain ⟨pa, pc, hpc, hp1⟩ := hc1 k p hp
        obtain ⟨qa, qc, hqc, hq1⟩ := hc2 k q hq
        refine Wp_skip ?_
        refine thn_normal ?_
        refine Wp_seq ?_
        refine Wp_block ?_
        refine Wp_seq_region ?_
        refine WpL_val rfl rfl (by decide) (r_move (v := (.int .i64 ((k : Nat) : Int))) rfl) ?_
        refine WpL_val rfl rfl (by decide) (r_assign (v := (.int .i64 ((k : Nat) : Int))) rfl) ?_
        refine WpL_nil ?_
        refine Wp_seq ?_
        obtain ⟨Fs4, hFs4⟩ : ∃ Fs : List Fact, Fs = [.eq (.slice (some ⟨b1, o1, none⟩) l1.length c1), .eq (.int .i64 ((k : Nat) : Int)), .eq (.pointer (some ⟨b1, o1 + k, none⟩)), .eq (.slice pa p.length pc), .eq (.slice (some ⟨b2, o2, none⟩) l2.length c2), .eq (.int .i64 ((k : Nat) : Int)), .eq (.pointer (some ⟨b2, o2 + k, none⟩)), .eq (.slice qa q.length qc), .eq (.bool (decide (p = q))), .eq (.bool (!(decide (p = q))))] := ⟨_, rfl⟩
        refine Wp_dag [16, 17, 18, 19, 20, 21, 22, 23, 24, 25] [[], [], [0, 1], [2], [], [], [4, 5], [6], [3, 7], [8]] Fs4 hFs4 mixed (by kernel_rfl) (by kernel_rfl) ?_ ?_
        · intro wd X0
          refine DagSteps.cons (fun s' w' X U H => Or.inl ⟨?_, ?_⟩) ?_
          · exact Guarded_none rfl
          · exact Does_val (r_move (v := (.slice (some ⟨b1, o1, none⟩) l1.length c1)) (U 0 rfl)) (Ext.refl _) rfl
          refine DagSteps.cons (fun s' w' X U H => Or.inl ⟨?_, ?_⟩) ?_
          · exact Guarded_none rfl
          · exact Does_val (r_move (v := (.int .i64 ((k : Nat) : Int))) (U 5 rfl)) (Ext.refl _) rfl
          refine DagSteps.cons (fun s' w' X U H => Or.inl ⟨?_, ?_⟩) ?_
          · exact Guarded_none rfl
          · have e16 : s' 16 = (.slice (some ⟨b1, o1, none⟩) l1.length c1) := H 0 rfl 16 (.eq (.slice (some ⟨b1, o1, none⟩) l1.length c1)) rfl (by rw [hFs4]; rfl)
            have e17 : s' 17 = (.int .i64 ((k : Nat) : Int)) := H 1 rfl 17 (.eq (.int .i64 ((k : Nat) : Int))) rfl (by rw [hFs4]; rfl)
            exact Does_val (r_indexSlice (b := b1) (o := o1) (len := l1.length) (cap := c1) (i := k) (o' := o1 + k) e16 e17 rfl Try.underlying53 siz23 (by omega) (by omega)) (Ext.refl _) rfl
          refine DagSteps.cons (fun s' w' X U H => Or.inl ⟨?_, ?_⟩) ?_
          · exact Guarded_none rfl
          · have e18 : s' 18 = (.pointer (some ⟨b1, o1 + k, none⟩)) := H 2 rfl 18 (.eq (.pointer (some ⟨b1, o1 + k, none⟩))) rfl (by rw [hFs4]; rfl)
            exact Does_val (r_load (v := (.slice pa p.length pc)) e18 flat23 ((Chg.ext E (X0.trans X)).cell (fun f => f) hpc)) (Ext.refl _) rfl
          refine DagSteps.cons (fun s' w' X U H => Or.inl ⟨?_, ?_⟩) ?_
          · exact Guarded_none rfl
          · exact Does_val (r_move (v := (.slice (some ⟨b2, o2, none⟩) l2.length c2)) (U 1 rfl)) (Ext.refl _) rfl
          refine DagSteps.cons (fun s' w' X U H => Or.inl ⟨?_, ?_⟩) ?_
          · exact Guarded_none rfl
          · exact Does_val (r_move (v := (.int .i64 ((k : Nat) : Int))) (U 5 rfl)) (Ext.refl _) rfl
          refine DagSteps.cons (fun s' w' X U H => Or.inl ⟨?_, ?_⟩) ?_
          · exact Guarded_none rfl
          · have e20 : s' 20 = (.slice (some ⟨b2, o2, none⟩) l2.length c2) := H 4 rfl 20 (.eq (.slice (some ⟨b2, o2, none⟩) l2.length c2)) rfl (by rw [hFs4]; rfl)
            have e21 : s' 21 = (.int .i64 ((k : Nat) : Int)) := H 5 rfl 21 (.eq (.int .i64 ((k : Nat) : Int))) rfl (by rw [hFs4]; rfl)
            exact Does_val (r_indexSlice (b := b2) (o := o2) (len := l2.length) (cap := c2) (i := k) (o' := o2 + k) e20 e21 rfl Try.underlying53 siz23 (by omega) (by omega)) (Ext.refl _) rfl
          refine DagSteps.cons (fun s' w' X U H => Or.inl ⟨?_, ?_⟩) ?_
          · exact Guarded_none rfl
          · have e22 : s' 22 = (.pointer (some ⟨b2, o2 + k, none⟩)) := H 6 rfl 22 (.eq (.pointer (some ⟨b2, o2 + k, none⟩))) rfl (by rw [hFs4]; rfl)
            exact Does_val (r_load (v := (.slice qa q.length qc)) e22 flat23 ((Chg.ext E (X0.trans X)).cell (fun f => f) hqc)) (Ext.refl _) rfl
          refine DagSteps.cons (fun s' w' X U H => Or.inl ⟨?_, ?_⟩) ?_
          · exact Guarded_none rfl
          · have e19 : s' 19 = (.slice pa p.length pc) := H 3 rfl 19 (.eq (.slice pa p.length pc)) rfl (by rw [hFs4]; rfl)
            have e23 : s' 23 = (.slice qa q.length qc) := H 7 rfl 23 (.eq (.slice qa q.length qc)) rfl (by rw [hFs4]; rfl)
            exact Does_enter (r_callF (vs := [(.slice pa p.length pc), (.slice qa q.length qc)]) Try.func30 nm30 bd30 (lst2 e19 e23)) (rspeq_c _ _ _ p q (hp1.ext (Chg.ext E (X0.trans X))) (hq1.ext (Chg.ext E (X0.trans X))))
          refine DagSteps.cons (fun s' w' X U H => Or.inl ⟨?_, ?_⟩) ?_
          · exact Guarded_none rfl
          · have e24 : s' 24 = (.bool (decide (p = q))) := H 8 rfl 24 (.eq (.bool (decide (p = q)))) rfl (by rw [hFs4]; rfl)
            exact Does_val (r_not (b := decide (p = q)) e24) (Ext.refl _) rfl
          exact DagSteps.nil
        · intro s' w4 X4 U H
          obtain ⟨j4, rfl⟩ := Fits.out (σ := s') (l := [(0, (.slice (some ⟨b1, o1, none⟩) l1.length c1)), (1, (.slice (some ⟨b2, o2, none⟩) l2.length c2)), (5, (.int .i64 ((k : Nat) : Int))), (12, (.int .i64 ((l1.length : Nat) : Int))), (13, (.int .i64 ((k : Nat) : Int))), (14, (.bool (decide ((((k : Nat) : Int) : Int) < ((l1.length : Nat) : Int))))), (15, (.int .i64 ((k : Nat) : Int))), (16, (.slice (some ⟨b1, o1, none⟩) l1.length c1)), (17, (.int .i64 ((k : Nat) : Int))), (18, (.pointer (some ⟨b1, o1 + k, none⟩))), (19, (.slice pa p.length pc)), (20, (.slice (some ⟨b2, o2, none⟩) l2.length c2)), (21, (.int .i64 ((k : Nat) : Int))), (22, (.pointer (some ⟨b2, o2 + k, none⟩))), (23, (.slice qa q.length qc)), (24, (.bool (decide (p = q)))), (25, (.bool (!(decide (p = q)))))]) ⟨U 0 rfl, U 1 rfl, U 5 rfl, U 12 rfl, U 13 rfl, U 14 rfl, U 15 rfl, (show s' 16 = (.slice (some ⟨b1, o1, none⟩) l1.length c1) from H 0 16 (.eq (.slice (some ⟨b1, o1, none⟩) l1.length c1)) rfl (by rw [hFs4]; rfl)), (show s' 17 = (.int .i64 ((k : Nat) : Int)) from H 1 17 (.eq (.int .i64 ((k : Nat) : Int))) rfl (by rw [hFs4]; rfl)), (show s' 18 = (.pointer (some ⟨b1, o1 + k, none⟩)) from H 2 18 (.eq (.pointer (some ⟨b1, o1 + k, none⟩))) rfl (by rw [hFs4]; rfl)), (show s' 19 = (.slice pa p.length pc) from H 3 19 (.eq (.slice pa p.length pc)) rfl (by rw [hFs4]; rfl)), (show s' 20 = (.slice (some ⟨b2, o2, none⟩) l2.length c2) from H 4 20 (.eq (.slice (some ⟨b2, o2, none⟩) l2.length c2)) rfl (by rw [hFs4]; rfl)), (show s' 21 = (.int .i64 ((k : Nat) : Int)) from H 5 21 (.eq (.int .i64 ((k : Nat) : Int))) rfl (by rw [hFs4]; rfl)), (show s' 22 = (.pointer (some ⟨b2, o2 + k, none⟩)) from H 6 22 (.eq (.pointer (some ⟨b2, o2 + k, none⟩))) rfl (by rw [hFs4]; rfl)), (show s' 23 = (.slice qa q.length qc) from H 7 23 (.eq (.slice qa q.length qc)) rfl (by rw [hFs4]; rfl)), (show s' 24 = (.bool (decide (p = q))) from H 8 24 (.eq (.bool (decide (p = q)))) rfl (by rw [hFs4]; rfl)), (show s' 25 = (.bool (!(decide (p = q)))) from H 9 25 (.eq (.bool (!(decide (p = q))))) rfl (by rw [hFs4]; rfl)), trivial⟩
          clear U H
          replace E := E.ext X4
          refine thn_normal ?_
          refine Wp_cond (b := !(decide (p = q))) rfl (fun hne => ?_) (fun hne => ?_)
          · have khne := hne
            replace hne := by simpa using hne
            refine Wp_seq_region ?_
            refine WpL_val rfl rfl (by decide) (r_assign (v := (.bool false)) rfl) ?_
            refine WpL_nil ?_
            refine Wp_ret ?_
            refine inB_ret ?_
            refine thn_ret ?_
            refine thn_ret ?_
            refine inB_ret ?_
            refine thn_ret ?_
            refine fin_tmp Try.results43 (v := (.bool false)) rfl ?_
            exact ⟨bool_eq (by symm; rw [decide_eq_false_iff_not]; intro h; subst h; rw [hp] at hq; cases hq; simp at hne), E⟩
          · have khne := hne
            replace hne := by simpa using hne
            refine Wp_skip ?_
            refine inB_normal ?_
            refine thn_normal ?_
            refine Wp_region ?_
            refine WpL_val rfl rfl (by decide) (r_add (k := .i64) (a := ((k : Nat) : Int)) (b := 1) (c := ((k : Nat) : Int) + 1) rfl rfl (wI64 (by omega))) ?_
            refine WpL_val rfl rfl (by decide) (r_move (v := (.int .i64 (((k : Nat) : Int) + 1))) rfl) ?_
            refine WpL_nil ?_
            refine thn_normal ?_
            exact ⟨l1.length - (k + 1), by omega, k + 1, Fits.out ⟨rfl, rfl, rfl, rfl, trivial⟩, E, (by omega), (fun i hi => by rcases Nat.lt_or_ge i k with h | h; exact heq i h; obtain rfl : i = k := (by omega); rw [hp, hq]; simpa using hne), rfl⟩
      · have khlt := hlt
        replace hlt := of_decide_eq_false hlt
        refine Wp_exit ?_
        refine thn_exit ?_
        refine thn_exit ?_
        refine inB_here ?_
        refine thn_normal ?_
        refine Wp_seq_region ?_
        refine WpL_val rfl rfl (by decide) (r_assign (v := (.bool true)) rfl) ?_
        refine WpL_nil ?_
        refine Wp_ret ?_
        refine fin_tmp Try.results43 (v := (.bool true)) rfl ?_
        exact ⟨bool_eq (by symm; rw [decide_eq_true_eq]; apply List.ext_getElem?; intro i; rcases Nat.lt_or_ge i l1.length with h | h; exact heq i (by omega); rw [List.getElem?_eq_none h, List.getElem?_eq_none (by omega)]), E⟩
set_option maxHeartbeats 1000000 in
theorem cck_c (w0 : World) (v : Value) (ll : List (List Sp)) (h : SpssAt w0 v ll) :
    Ret Try.prog 45 #[v] w0 fun r w => r = .int .i64 (partE ll) ∧ Ext w0 w := by
  obtain ⟨a, c, rfl, _, hle⟩ := h.form
  refine Ret_of Try.func45 rfl Try.ntmps45 (Nat.le_of_ble_eq_true rfl) ?_
  have E : Chg none1 w0 w0 := Chg.refl _ _
  refine Wp_seq_region ?_
  refine WpL_val rfl rfl (by decide) (r_assign (v := (.int .i64 0)) rfl) ?_
  refine WpL_nil ?_
  refine Wp_seq ?_
  refine Wp_seq_region ?_
  refine WpL_val rfl rfl (by decide) (r_move (v := (.slice a ll.length c)) rfl) ?_
  refine WpL_val rfl rfl (by decide) (r_lenSlice (ad := a) (n := ll.length) (cap := c) Try.underlying53 rfl) ?_
  refine WpL_val rfl rfl (by decide) (r_gtr (k := .i64) (a := ((ll.length : Nat) : Int)) (b := 16) rfl rfl) ?_
  refine WpL_nil ?_
  refine Wp_cond (b := decide ((16 : Int) < ((ll.length : Nat) : Int))) rfl (fun h16 => ?_) (fun h16 => ?_)
  · have kh16 := h16
    replace h16 := of_decide_eq_true h16
    refine Wp_seq_region ?_
    refine WpL_val rfl rfl (by decide) (r_assign (v := (.int .i64 2)) rfl) ?_
    refine WpL_nil ?_
    refine Wp_ret ?_
    refine thn_ret ?_
    refine fin_tmp Try.results45 (v := (.int .i64 2)) rfl ?_
    exact ⟨int_eq (partE_large (by omega)).symm, E⟩
  · have kh16 := h16
    replace h16 := of_decide_eq_false h16
    have h16' : ¬ 16 < ll.length := by omega
    refine Wp_skip ?_
    refine thn_normal ?_
    refine Wp_seq ?_
    refine Wp_seq_region ?_
    refine WpL_val rfl rfl (by decide) (r_move (v := (.slice a ll.length c)) rfl) ?_
    refine WpL_val rfl rfl (by decide) (r_lenSlice (ad := a) (n := ll.length) (cap := c) Try.underlying53 rfl) ?_
    refine WpL_val rfl rfl (by decide) (r_move (v := (.int .i64 0)) rfl) ?_
    refine WpL_nil ?_
    refine Wp_block ?_
    refine Wp_loop (fun nn_ σ W2 => ∃ (k : Nat), (∃ jj_, σ = upds jj_ [(0, (.slice a ll.length c)), (17, (.slice a ll.length c)), (18, (.int .i64 ((ll.length : Nat) : Int))), (19, (.int .i64 ((k : Nat) : Int)))]) ∧ Chg none1 w0 W2 ∧ (k ≤ ll.length) ∧ (∀ l ∈ ll.take k, checkE l = 0) ∧ nn_ = ll.length - k) (n := ll.length - 0) ?_ ?_
    · exact ⟨0, Fits.out ⟨rfl, rfl, rfl, rfl, trivial⟩, E, Nat.zero_le _, (by simp), rfl⟩
    · clear E
      rintro _ _ W2 ⟨k, ⟨j2, rfl⟩, E, hk, hz, rfl⟩
      refine Wp_seq_region ?_
      refine WpL_val rfl rfl (by decide) (r_lss (k := .i64) (a := ((k : Nat) : Int)) (b := ((ll.length : Nat) : Int)) rfl rfl) ?_
      refine WpL_nil ?_
      refine Wp_seq ?_
      refine Wp_cond (b := decide ((((k : Nat) : Int) : Int) < ((ll.length : Nat) : Int))) rfl (fun hlt => ?_) (fun hlt => ?_)
      · have khlt := hlt
        replace hlt := of_decide_eq_true hlt
        obtain ⟨l, hx⟩ := get_of_lt (l := ll) (i := k) (by omega)
        obtain ⟨b, o, rfl, hcl⟩ := spss_cells h (by omega)
        obtain ⟨ra, rc, hcell, hsp⟩ := hcl k l hx
        refine Wp_skip ?_
        refine thn_normal ?_
        refine Wp_seq ?_
        refine Wp_block ?_
        refine Wp_seq_region ?_
        refine WpL_val rfl rfl (by decide) (r_indexSlice (b := b) (o := o) (len := ll.length) (cap := c) (i := k) (o' := o + k) rfl rfl rfl Try.underlying53 siz23 (by omega) (by omega)) ?_
        refine WpL_val rfl rfl (by decide) (r_load (v := (.slice ra l.length rc)) rfl flat23 (E.cell (fun f => f) hcell)) ?_
        refine WpL_val rfl rfl (by decide) (r_assign (v := (.slice ra l.length rc)) rfl) ?_
        refine WpL_nil ?_
        refine Wp_seq_region ?_
        refine WpL_val rfl rfl (by decide) (r_move (v := (.slice ra l.length rc)) rfl) ?_
        refine WpL_enter rfl rfl (by decide) (r_callF (vs := [(.slice ra l.length rc)]) Try.func34 nm34 bd34 rfl) (cset_c _ _ l (hsp.ext E)) ?_
        rintro _ w9 ⟨rfl, X9⟩
        replace E := E.ext X9
        refine WpL_val rfl rfl (by decide) (r_assign (v := (.int .i64 (checkE l))) rfl) ?_
        refine WpL_nil ?_
        refine Wp_seq_region ?_
        refine WpL_val rfl rfl (by decide) (r_move (v := (.int .i64 (checkE l))) rfl) ?_
        refine WpL_val rfl rfl (by decide) (r_neq (k := .i64) (a := checkE l) (b := 0) rfl rfl) ?_
        refine WpL_nil ?_
        refine Wp_cond (b := decide ((checkE l : Int) ≠ 0)) rfl (fun hc => ?_) (fun hc => ?_)
        · have khc := hc
          replace hc := of_decide_eq_true hc
          refine Wp_seq_region ?_
          refine WpL_val rfl rfl (by decide) (r_move (v := (.int .i64 (checkE l))) rfl) ?_
          refine WpL_val rfl rfl (by decide) (r_assign (v := (.int .i64 (checkE l))) rfl) ?_
          refine WpL_nil ?_
          refine Wp_ret ?_
          refine inB_ret ?_
          refine thn_ret ?_
          refine thn_ret ?_
          refine inB_ret ?_
          refine thn_ret ?_
          refine fin_tmp Try.results45 (v := (.int .i64 (checkE l))) rfl ?_
          have hb := badE_at hz hx hc
          exact ⟨int_eq ((partE_bad h16' (by rw [hb]; exact hc)).trans hb).symm, E⟩
        · have khc := hc
          replace hc := of_decide_eq_false hc
          refine Wp_skip ?_
          refine inB_normal ?_
          refine thn_normal ?_
          refine Wp_region ?_
          refine WpL_val rfl rfl (by decide) (r_add (k := .i64) (a := ((k : Nat) : Int)) (b := 1) (c := ((k : Nat) : Int) + 1) rfl rfl (wI64 (by omega))) ?_
          refine WpL_val rfl rfl (by decide) (r_move (v := (.int .i64 (((k : Nat) : Int) + 1))) rfl) ?_
          refine WpL_nil ?_
          refine thn_normal ?_
          exact ⟨ll.length - (k + 1), by omega, k + 1, Fits.out ⟨rfl, rfl, rfl, rfl, trivial⟩, E, (by omega), (fun y hy => by rw [take_snoc hx] at hy; rcases List.mem_append.1 hy with h1 | h1; exact hz y h1; rw [List.mem_singleton] at h1; subst h1; omega), rfl⟩
      · have khlt := hlt
        replace hlt := of_decide_eq_false hlt
        have hkk : k = ll.length := by omega
        rw [hkk, List.take_length] at hz
        have hz0 := badE_zero hz
        have hcan : ∀ l ∈ ll, Canon l := fun l hl => (checkE_canon (hz l hl)).1
        have hok : ∀ s ∈ ll.flatten, vSp s := fun s hs => by obtain ⟨l, hl, hs⟩ := List.mem_flatten.1 hs; exact (hcan l hl).ok s hs
        have hf := flatLen hz
        refine Wp_exit ?_
        refine thn_exit ?_
        refine thn_exit ?_
        refine inB_here ?_
        refine thn_normal ?_
        refine Wp_seq_region ?_
        refine WpL_val rfl rfl (by decide) (r_assign (v := (.int .i64 (-1))) rfl) ?_
        refine WpL_nil ?_
        refine Wp_seq ?_
        refine Wp_seq_region ?_
        refine WpL_val rfl rfl (by decide) (r_move (v := (.slice a ll.length c)) rfl) ?_
        refine WpL_val rfl rfl (by decide) (r_lenSlice (ad := a) (n := ll.length) (cap := c) Try.underlying53 rfl) ?_
        refine WpL_val rfl rfl (by decide) (r_move (v := (.int .i64 0)) rfl) ?_
        refine WpL_nil ?_
        refine Wp_block ?_
        refine Wp_loop (fun nn_ σ W5 => ∃ (k2 : Nat) (la : Int), (∃ jj_, σ = upds jj_ [(0, (.slice a ll.length c)), (29, (.slice a ll.length c)), (30, (.int .i64 ((ll.length : Nat) : Int))), (31, (.int .i64 ((k2 : Nat) : Int))), (6, (.int .i64 la))]) ∧ Chg none1 w0 W5 ∧ (k2 ≤ ll.length) ∧ (∀ j, j < k2 → hdOk ll j) ∧ (la = lastLo ll k2) ∧ nn_ = ll.length - k2) (n := ll.length - 0) ?_ ?_
        · exact ⟨0, -1, Fits.out ⟨rfl, rfl, rfl, rfl, rfl, trivial⟩, E, Nat.zero_le _, (fun j h => absurd h (Nat.not_lt_zero _)), rfl, rfl⟩
        · clear E
          rintro _ _ W5 ⟨k2, la, ⟨j5, rfl⟩, E, hk2, hh, hla, rfl⟩
          refine Wp_seq_region ?_
          refine WpL_val rfl rfl (by decide) (r_lss (k := .i64) (a := ((k2 : Nat) : Int)) (b := ((ll.length : Nat) : Int)) rfl rfl) ?_
          refine WpL_nil ?_
          refine Wp_seq ?_
          refine Wp_cond (b := decide ((((k2 : Nat) : Int) : Int) < ((ll.length : Nat) : Int))) rfl (fun hlt2 => ?_) (fun hlt2 => ?_)
          · have khlt2 := hlt2
            replace hlt2 := of_decide_eq_true hlt2
            obtain ⟨l, hx⟩ := get_of_lt (l := ll) (i := k2) (by omega)
            obtain ⟨b, o, rfl, hcl⟩ := spss_cells h (by omega)
            obtain ⟨ra, rc, hcell, hsp⟩ := hcl k2 l hx
            have hgl := getD_get (d := []) hx
            refine Wp_skip ?_
            refine thn_normal ?_
            refine Wp_seq ?_
            refine Wp_block ?_
            refine Wp_seq_region ?_
            refine WpL_val rfl rfl (by decide) (r_indexSlice (b := b) (o := o) (len := ll.length) (cap := c) (i := k2) (o' := o + k2) rfl rfl rfl Try.underlying53 siz23 (by omega) (by omega)) ?_
            refine WpL_val rfl rfl (by decide) (r_load (v := (.slice ra l.length rc)) rfl flat23 (E.cell (fun f => f) hcell)) ?_
            refine WpL_val rfl rfl (by decide) (r_assign (v := (.slice ra l.length rc)) rfl) ?_
            refine WpL_nil ?_
            refine Wp_seq ?_
            refine Wp_seq_region ?_
            refine WpL_val rfl rfl (by decide) (r_move (v := (.slice ra l.length rc)) rfl) ?_
            refine WpL_val rfl rfl (by decide) (r_lenSlice (ad := ra) (n := l.length) (cap := rc) Try.underlying23 rfl) ?_
            refine WpL_val rfl rfl (by decide) (r_eql (k := .i64) (a := ((l.length : Nat) : Int)) (b := 0) rfl rfl) ?_
            refine WpL_val rfl rfl (by decide) (r_move (v := (.bool (decide ((((l.length : Nat) : Int) : Int) = 0)))) rfl) ?_
            rcases Bool.eq_false_or_eq_true (decide ((((l.length : Nat) : Int) : Int) = 0)) with hg0 | hg0
            · have khg0 := hg0
              replace khg0 := of_decide_eq_true khg0
              refine WpL_guard_no (oj := _) rfl rfl (by decide) (v := .bool true) (congrArg Value.bool hg0) (Or.inl rfl) ?_
              refine WpL_guard_no (oj := _) rfl rfl (by decide) (v := .bool true) (congrArg Value.bool hg0) (Or.inl rfl) ?_
              refine WpL_guard_no (oj := _) rfl rfl (by decide) (v := .bool true) (congrArg Value.bool hg0) (Or.inl rfl) ?_
              refine WpL_guard_no (oj := _) rfl rfl (by decide) (v := .bool true) (congrArg Value.bool hg0) (Or.inl rfl) ?_
              refine WpL_guard_no (oj := _) rfl rfl (by decide) (v := .bool true) (congrArg Value.bool hg0) (Or.inl rfl) ?_
              refine WpL_guard_no (oj := _) rfl rfl (by decide) (v := .bool true) (congrArg Value.bool hg0) (Or.inl rfl) ?_
              refine WpL_val rfl rfl (by decide) (r_pick (b := decide ((((l.length : Nat) : Int) : Int) = 0)) (v := (.bool true)) rfl (by rw [hg0]; rfl)) ?_
              refine WpL_nil ?_
              refine Wp_cond_true rfl ?_
              refine Wp_seq_region ?_
              refine WpL_val rfl rfl (by decide) (r_assign (v := (.int .i64 3)) rfl) ?_
              refine WpL_nil ?_
              refine Wp_ret ?_
              refine thn_ret ?_
              refine inB_ret ?_
              refine thn_ret ?_
              refine thn_ret ?_
              refine inB_ret ?_
              refine thn_ret ?_
              refine fin_tmp Try.results45 (v := (.int .i64 3)) rfl ?_
              exact ⟨int_eq (partE_form h16' hz0 (hd_no (k := k2) (by omega) fun hd => by have h1 := hd.1; rw [hgl] at h1; exact h1 (List.eq_nil_of_length_eq_zero (by omega)))).symm, E⟩
            · have khg0 := hg0
              replace khg0 := of_decide_eq_false khg0
              have hne : l ≠ [] := fun e => by subst e; exact khg0 rfl
              obtain ⟨s1, hs1, hl1⟩ := head_some hne
              obtain ⟨sb, so, rfl, hsc⟩ := spans_cells hsp (by cases l with | nil => exact absurd rfl hne | cons x y => simp)
              have hlpos : 0 < l.length := lt_of_get hs1
              refine WpL_guard_yes (oj := _) rfl rfl (by decide) (congrArg Value.bool hg0) ?_
              refine WpL_val rfl rfl (by decide) (r_move (v := (.slice (some ⟨sb, so, none⟩) l.length rc)) rfl) ?_
              refine WpL_guard_yes (oj := _) rfl rfl (by decide) (congrArg Value.bool hg0) ?_
              refine WpL_val rfl rfl (by decide) (r_indexSlice (b := sb) (o := so) (len := l.length) (cap := rc) (i := 0) (o' := so + 0 * 2) rfl rfl rfl Try.underlying23 siz37 (by omega) (by omega)) ?_
              refine WpL_guard_yes (oj := _) rfl rfl (by decide) (congrArg Value.bool hg0) ?_
              refine WpL_val rfl rfl (by decide) (r_fieldAddr (b := sb) (o := so + 0 * 2) (o' := so + 0 * 2) rfl Try.underlying37 rfl siz3 rfl) ?_
              refine WpL_guard_yes (oj := _) rfl rfl (by decide) (congrArg Value.bool hg0) ?_
              refine WpL_val rfl rfl (by decide) (r_load (v := (.int .i64 s1.1)) rfl flat3 (E.cell (fun f => f) (hsc 0 s1 hs1 0 _ rfl))) ?_
              refine WpL_guard_yes (oj := _) rfl rfl (by decide) (congrArg Value.bool hg0) ?_
              refine WpL_val rfl rfl (by decide) (r_move (v := (.int .i64 la)) rfl) ?_
              refine WpL_guard_yes (oj := _) rfl rfl (by decide) (congrArg Value.bool hg0) ?_
              refine WpL_val rfl rfl (by decide) (r_leq (k := .i64) (a := s1.1) (b := la) rfl rfl) ?_
              refine WpL_val rfl rfl (by decide) (r_pick (b := decide ((((l.length : Nat) : Int) : Int) = 0)) (v := (.bool (decide ((s1.1 : Int) ≤ la)))) rfl (by rw [hg0]; rfl)) ?_
              refine WpL_nil ?_
              refine Wp_cond (b := decide ((s1.1 : Int) ≤ la)) rfl (fun hge => ?_) (fun hge => ?_)
              · have khge := hge
                replace hge := of_decide_eq_true hge
                refine Wp_seq_region ?_
                refine WpL_val rfl rfl (by decide) (r_assign (v := (.int .i64 3)) rfl) ?_
                refine WpL_nil ?_
                refine Wp_ret ?_
                refine thn_ret ?_
                refine inB_ret ?_
                refine thn_ret ?_
                refine thn_ret ?_
                refine inB_ret ?_
                refine thn_ret ?_
                refine fin_tmp Try.results45 (v := (.int .i64 3)) rfl ?_
                exact ⟨int_eq (partE_form h16' hz0 (hd_no (k := k2) (by omega) fun hd => by have h1 := hd.2; rw [hgl, hl1, ← hla] at h1; omega)).symm, E⟩
              · have khge := hge
                replace hge := of_decide_eq_false hge
                refine Wp_skip ?_
                refine thn_normal ?_
                refine Wp_region ?_
                refine WpL_val rfl rfl (by decide) (r_move (v := (.slice (some ⟨sb, so, none⟩) l.length rc)) rfl) ?_
                refine WpL_val rfl rfl (by decide) (r_indexSlice (b := sb) (o := so) (len := l.length) (cap := rc) (i := 0) (o' := so + 0 * 2) rfl rfl rfl Try.underlying23 siz37 (by omega) (by omega)) ?_
                refine WpL_val rfl rfl (by decide) (r_fieldAddr (b := sb) (o := so + 0 * 2) (o' := so + 0 * 2) rfl Try.underlying37 rfl siz3 rfl) ?_
                refine WpL_val rfl rfl (by decide) (r_load (v := (.int .i64 s1.1)) rfl flat3 (E.cell (fun f => f) (hsc 0 s1 hs1 0 _ rfl))) ?_
                refine WpL_val rfl rfl (by decide) (r_assign (v := (.int .i64 s1.1)) rfl) ?_
                refine WpL_nil ?_
                refine inB_normal ?_
                refine thn_normal ?_
                refine Wp_region ?_
                refine WpL_val rfl rfl (by decide) (r_add (k := .i64) (a := ((k2 : Nat) : Int)) (b := 1) (c := ((k2 : Nat) : Int) + 1) rfl rfl (wI64 (by omega))) ?_
                refine WpL_val rfl rfl (by decide) (r_move (v := (.int .i64 (((k2 : Nat) : Int) + 1))) rfl) ?_
                refine WpL_nil ?_
                refine thn_normal ?_
                exact ⟨ll.length - (k2 + 1), by omega, k2 + 1, s1.1, Fits.out ⟨rfl, rfl, rfl, rfl, rfl, trivial⟩, E, (by omega), hd_step hh ⟨by rw [hgl]; exact hne, by rw [hgl, hl1, ← hla]; omega⟩, (by show s1.1 = headLo (ll.getD k2 []); rw [hgl, hl1]), rfl⟩
          · have khlt2 := hlt2
            replace hlt2 := of_decide_eq_false hlt2
            have hk22 : k2 = ll.length := by omega
            have hheads : headsP ll := fun j hj => hh j (by omega)
            refine Wp_exit ?_
            refine thn_exit ?_
            refine thn_exit ?_
            refine inB_here ?_
            refine thn_normal ?_
            refine Wp_seq ?_
            refine Wp_seq_region ?_
            refine WpL_val rfl rfl (by decide) (r_move (v := (.slice a ll.length c)) rfl) ?_
            refine WpL_enter rfl rfl (by decide) (r_callF (vs := [(.slice a ll.length c)]) Try.func84 nm84 bd84 rfl) (pieces_c _ _ ll (h.ext E) (by omega) hok) ?_
            rintro _ w9 ⟨⟨p, hP, ⟨pa, pc, rfl⟩, hp⟩, X9⟩
            replace E := E.ext X9
            have hpp := part_pcs hP hok
            have hpl : p.length ≤ 1114112 := pcs_len hP.1 (fun x hx => pcs_range hP hok hx)
            refine WpL_val rfl rfl (by decide) (r_lenSlice (ad := pa) (n := p.length) (cap := pc) Try.underlying22 rfl) ?_
            refine WpL_val rfl rfl (by decide) (r_move (v := (.int .i64 0)) rfl) ?_
            refine WpL_nil ?_
            refine Wp_block ?_
            refine Wp_loop (fun nn_ σ W9 => ∃ (i : Nat), (∃ jj_, σ = upds jj_ [(0, (.slice a ll.length c)), (52, (.slice pa p.length pc)), (53, (.int .i64 ((p.length : Nat) : Int))), (54, (.int .i64 ((i : Nat) : Int)))]) ∧ Chg none1 w0 W9 ∧ (i ≤ p.length) ∧ (∀ r ∈ p.take i, ll.countP (fun l => inS l r) = 1) ∧ (IntsAt W9 (.slice pa p.length pc) p) ∧ nn_ = p.length - i) (n := p.length - 0) ?_ ?_
            · exact ⟨0, Fits.out ⟨rfl, rfl, rfl, rfl, trivial⟩, E, Nat.zero_le _, (by simp), hp, rfl⟩
            · clear E
              rintro _ _ W9 ⟨i, ⟨j9, rfl⟩, E, hi, hall, hp, rfl⟩
              refine Wp_seq_region ?_
              refine WpL_val rfl rfl (by decide) (r_lss (k := .i64) (a := ((i : Nat) : Int)) (b := ((p.length : Nat) : Int)) rfl rfl) ?_
              refine WpL_nil ?_
              refine Wp_seq ?_
              refine Wp_cond (b := decide ((((i : Nat) : Int) : Int) < ((p.length : Nat) : Int))) rfl (fun hlt3 => ?_) (fun hlt3 => ?_)
              · have khlt3 := hlt3
                replace hlt3 := of_decide_eq_true hlt3
                obtain ⟨x, hx⟩ := get_of_lt (l := p) (i := i) (by omega)
                obtain ⟨pb, po, rfl, hpc⟩ := ints_cells (l := p) hp (by omega)
                refine Wp_skip ?_
                refine thn_normal ?_
                refine Wp_seq ?_
                refine Wp_block ?_
                refine Wp_seq_region ?_
                refine WpL_val rfl rfl (by decide) (r_indexSlice (b := pb) (o := po) (len := p.length) (cap := pc) (i := i) (o' := po + i) rfl rfl rfl Try.underlying22 siz3 (by omega) (by omega)) ?_
                refine WpL_val rfl rfl (by decide) (r_load (v := (.int .i64 x)) rfl flat3 (hpc i x hx)) ?_
                refine WpL_val rfl rfl (by decide) (r_assign (v := (.int .i64 x)) rfl) ?_
                refine WpL_nil ?_
                refine Wp_seq_region ?_
                refine WpL_val rfl rfl (by decide) (r_assign (v := (.int .i64 0)) rfl) ?_
                refine WpL_nil ?_
                refine Wp_seq ?_
                refine Wp_seq_region ?_
                refine WpL_val rfl rfl (by decide) (r_move (v := (.slice a ll.length c)) rfl) ?_
                refine WpL_val rfl rfl (by decide) (r_lenSlice (ad := a) (n := ll.length) (cap := c) Try.underlying53 rfl) ?_
                refine WpL_val rfl rfl (by decide) (r_move (v := (.int .i64 0)) rfl) ?_
                refine WpL_nil ?_
                refine Wp_block ?_
                refine Wp_loop (fun nn_ σ W11 => ∃ (k3 : Nat) (mn : Nat), (∃ jj_, σ = upds jj_ [(0, (.slice a ll.length c)), (10, (.int .i64 x)), (52, (.slice (some ⟨pb, po, none⟩) p.length pc)), (53, (.int .i64 ((p.length : Nat) : Int))), (54, (.int .i64 ((i : Nat) : Int))), (58, (.slice a ll.length c)), (59, (.int .i64 ((ll.length : Nat) : Int))), (60, (.int .i64 ((k3 : Nat) : Int))), (11, (.int .i64 ((mn : Nat) : Int)))]) ∧ Chg none1 w0 W11 ∧ (k3 ≤ ll.length) ∧ (mn = (ll.take k3).countP (fun l => inS l x)) ∧ (mn ≤ k3) ∧ (IntsAt W11 (.slice (some ⟨pb, po, none⟩) p.length pc) p) ∧ nn_ = ll.length - k3) (n := ll.length - 0) ?_ ?_
                · exact ⟨0, 0, Fits.out ⟨rfl, rfl, rfl, rfl, rfl, rfl, rfl, rfl, rfl, trivial⟩, E, Nat.zero_le _, rfl, Nat.le_refl _, hp, rfl⟩
                · clear E
                  rintro _ _ W11 ⟨k3, mn, ⟨j11, rfl⟩, E, hk3, hmn, hml, hp, rfl⟩
                  refine Wp_seq_region ?_
                  refine WpL_val rfl rfl (by decide) (r_lss (k := .i64) (a := ((k3 : Nat) : Int)) (b := ((ll.length : Nat) : Int)) rfl rfl) ?_
                  refine WpL_nil ?_
                  refine Wp_seq ?_
                  refine Wp_cond (b := decide ((((k3 : Nat) : Int) : Int) < ((ll.length : Nat) : Int))) rfl (fun hlt4 => ?_) (fun hlt4 => ?_)
                  · have khlt4 := hlt4
                    replace hlt4 := of_decide_eq_true hlt4
                    obtain ⟨l, hl⟩ := get_of_lt (l := ll) (i := k3) (by omega)
                    obtain ⟨b, o, rfl, hcl⟩ := spss_cells h (by omega)
                    obtain ⟨ra, rc, hcell, hsp⟩ := hcl k3 l hl
                    refine Wp_skip ?_
                    refine thn_normal ?_
                    refine Wp_seq ?_
                    refine Wp_block ?_
                    refine Wp_seq_region ?_
                    refine WpL_val rfl rfl (by decide) (r_indexSlice (b := b) (o := o) (len := ll.length) (cap := c) (i := k3) (o' := o + k3) rfl rfl rfl Try.underlying53 siz23 (by omega) (by omega)) ?_
                    refine WpL_val rfl rfl (by decide) (r_load (v := (.slice ra l.length rc)) rfl flat23 (E.cell (fun f => f) hcell)) ?_
                    refine WpL_val rfl rfl (by decide) (r_assign (v := (.slice ra l.length rc)) rfl) ?_
                    refine WpL_nil ?_
                    refine Wp_seq_region ?_
                    refine WpL_val rfl rfl (by decide) (r_move (v := (.slice ra l.length rc)) rfl) ?_
                    refine WpL_val rfl rfl (by decide) (r_move (v := (.int .i64 x)) rfl) ?_
                    refine WpL_enter rfl rfl (by decide) (r_callF (vs := [(.slice ra l.length rc), (.int .i64 x)]) Try.func39 nm39 bd39 rfl) (inset_c _ _ l x (hsp.ext E)) ?_
                    rintro _ w51 ⟨rfl, X51⟩
                    replace E := E.ext X51
                    refine WpL_nil ?_
                    refine Wp_cond (b := inS l x) rfl (fun hin => ?_) (fun hin => ?_)
                    · have khin := hin
                      refine Wp_region ?_
                      refine WpL_val rfl rfl (by decide) (r_move (v := (.int .i64 ((mn : Nat) : Int))) rfl) ?_
                      refine WpL_val rfl rfl (by decide) (r_add (k := .i64) (a := ((mn : Nat) : Int)) (b := 1) (c := ((mn + 1 : Nat) : Int)) rfl rfl ((wI64 (by omega)).trans (by omega))) ?_
                      refine WpL_val rfl rfl (by decide) (r_assign (v := (.int .i64 ((mn + 1 : Nat) : Int))) rfl) ?_
                      refine WpL_nil ?_
                      refine inB_normal ?_
                      refine thn_normal ?_
                      refine Wp_region ?_
                      refine WpL_val rfl rfl (by decide) (r_add (k := .i64) (a := ((k3 : Nat) : Int)) (b := 1) (c := ((k3 : Nat) : Int) + 1) rfl rfl (wI64 (by omega))) ?_
                      refine WpL_val rfl rfl (by decide) (r_move (v := (.int .i64 (((k3 : Nat) : Int) + 1))) rfl) ?_
                      refine WpL_nil ?_
                      refine thn_normal ?_
                      exact ⟨ll.length - (k3 + 1), by omega, k3 + 1, mn + 1, Fits.out ⟨rfl, rfl, rfl, rfl, rfl, rfl, rfl, rfl, rfl, trivial⟩, E, (by omega), (by rw [take_snoc hl, List.countP_append, hmn]; simp [hin]), (by omega), hp.ext X51, rfl⟩
                    · have khin := hin
                      refine Wp_skip ?_
                      refine inB_normal ?_
                      refine thn_normal ?_
                      refine Wp_region ?_
                      refine WpL_val rfl rfl (by decide) (r_add (k := .i64) (a := ((k3 : Nat) : Int)) (b := 1) (c := ((k3 : Nat) : Int) + 1) rfl rfl (wI64 (by omega))) ?_
                      refine WpL_val rfl rfl (by decide) (r_move (v := (.int .i64 (((k3 : Nat) : Int) + 1))) rfl) ?_
                      refine WpL_nil ?_
                      refine thn_normal ?_
                      exact ⟨ll.length - (k3 + 1), by omega, k3 + 1, mn, Fits.out ⟨rfl, rfl, rfl, rfl, rfl, rfl, rfl, rfl, rfl, trivial⟩, E, (by omega), (by rw [take_snoc hl, List.countP_append, hmn]; simp [hin]), (by omega), hp.ext X51, rfl⟩
                  · have khlt4 := hlt4
                    replace hlt4 := of_decide_eq_false hlt4
                    have hk33 : k3 = ll.length := by omega
                    rw [hk33, List.take_length] at hmn
                    refine Wp_exit ?_
                    refine thn_exit ?_
                    refine thn_exit ?_
                    refine inB_here ?_
                    refine thn_normal ?_
                    refine Wp_seq_region ?_
                    refine WpL_val rfl rfl (by decide) (r_move (v := (.int .i64 ((mn : Nat) : Int))) rfl) ?_
                    refine WpL_val rfl rfl (by decide) (r_neq (k := .i64) (a := ((mn : Nat) : Int)) (b := 1) rfl rfl) ?_
                    refine WpL_nil ?_
                    refine Wp_cond (b := decide ((((mn : Nat) : Int) : Int) ≠ 1)) rfl (fun hone => ?_) (fun hone => ?_)
                    · have khone := hone
                      replace hone := of_decide_eq_true hone
                      refine Wp_seq_region ?_
                      refine WpL_val rfl rfl (by decide) (r_assign (v := (.int .i64 3)) rfl) ?_
                      refine WpL_nil ?_
                      refine Wp_ret ?_
                      refine inB_ret ?_
                      refine thn_ret ?_
                      refine thn_ret ?_
                      refine inB_ret ?_
                      refine thn_ret ?_
                      refine fin_tmp Try.results45 (v := (.int .i64 3)) rfl ?_
                      exact ⟨int_eq (partE_form h16' hz0 fun hq => by have h1 := hpp.1 hq.2 x (List.mem_of_getElem? hx); omega).symm, E⟩
                    · have khone := hone
                      replace hone := of_decide_eq_false hone
                      refine Wp_skip ?_
                      refine inB_normal ?_
                      refine thn_normal ?_
                      refine Wp_region ?_
                      refine WpL_val rfl rfl (by decide) (r_add (k := .i64) (a := ((i : Nat) : Int)) (b := 1) (c := ((i : Nat) : Int) + 1) rfl rfl (wI64 (by omega))) ?_
                      refine WpL_val rfl rfl (by decide) (r_move (v := (.int .i64 (((i : Nat) : Int) + 1))) rfl) ?_
                      refine WpL_nil ?_
                      refine thn_normal ?_
                      exact ⟨p.length - (i + 1), by omega, i + 1, Fits.out ⟨rfl, rfl, rfl, rfl, trivial⟩, E, (by omega), (fun r hr => by rw [take_snoc hx] at hr; rcases List.mem_append.1 hr with h1 | h1; exact hall r h1; rw [List.mem_singleton] at h1; subst h1; omega), hp, rfl⟩
              · have khlt3 := hlt3
                replace hlt3 := of_decide_eq_false hlt3
                have hii : i = p.length := by omega
                rw [hii, List.take_length] at hall
                refine Wp_exit ?_
                refine thn_exit ?_
                refine thn_exit ?_
                refine inB_here ?_
                refine thn_normal ?_
                refine Wp_seq_region ?_
                refine WpL_val rfl rfl (by decide) (r_assign (v := (.int .i64 0)) rfl) ?_
                refine WpL_nil ?_
                refine Wp_ret ?_
                refine fin_tmp Try.results45 (v := (.int .i64 0)) rfl ?_
                exact ⟨int_eq (partE_ok h16' hz0 ⟨hheads, hpp.2 hall⟩).symm, E⟩
/-! Words. -/
def hitsL (ll : List (List Sp)) (x : Int) (k : Nat) : List Int := ((List.range k).filter fun j => inS (ll.getD j []) x).map fun j => ((j : Nat) : Int)
theorem hitsL_succ (ll : List (List Sp)) (x : Int) (k : Nat) : hitsL ll x (k + 1) = hitsL ll x k ++ (if inS (ll.getD k []) x then [((k : Nat) : Int)] else []) := by
  unfold hitsL
  rw [List.range_succ, List.filter_append, List.map_append]
  congr 1
  cases h : inS (ll.getD k []) x
  · rw [List.filter_cons_of_neg (by rw [h]; exact Bool.false_ne_true)]; rfl
  · rw [List.filter_cons_of_pos (p := fun j => inS (ll.getD j []) x) h]; rfl
theorem hitsL_one {ll : List (List Sp)} {x : Int} (h : ll.countP (fun l => inS l x) = 1) : hitsL ll x ll.length = [clAt ll x] := by
  have key : ∀ n, n ≤ ll.length → ((List.range n).filter fun j => inS (ll.getD j []) x).length = (ll.take n).countP (fun l => inS l x) := by
    intro n
    induction n with
    | zero => intro _; rfl
    | succ n ih =>
      intro hn
      obtain ⟨l, hl⟩ := get_of_lt (l := ll) (i := n) (by omega)
      rw [List.range_succ, List.filter_append, List.length_append, ih (by omega), take_snoc hl, List.countP_append]
      congr 1
      have : ll.getD n [] = l := by simp [List.getD, hl]
      cases h : inS l x <;> simp [h, this, hl]
  have h1 := key ll.length (Nat.le_refl _)
  rw [List.take_length, h] at h1
  obtain ⟨j, hj⟩ : ∃ j, ((List.range ll.length).filter fun j => inS (ll.getD j []) x) = [j] := by
    cases hh : ((List.range ll.length).filter fun j => inS (ll.getD j []) x) with
    | nil => rw [hh] at h1; cases h1
    | cons j t => cases t with
      | nil => exact ⟨j, rfl⟩
      | cons a b => rw [hh] at h1; simp at h1
  have hm : ∀ i, i ∈ ((List.range ll.length).filter fun j => inS (ll.getD j []) x) ↔ i < ll.length ∧ inS (ll.getD i []) x = true := fun i => by rw [List.mem_filter, List.mem_range]
  have hj2 := (hm j).1 (by rw [hj]; exact List.mem_cons_self)
  obtain ⟨l, hl⟩ := get_of_lt hj2.1
  have hgl : ll.getD j [] = l := by simp [List.getD, hl]
  have he : clAt ll x = ((j : Nat) : Int) := idx_hit hl (by rw [← hgl]; exact hj2.2) fun i y hi hy => by
    cases hc : inS y x with
    | false => rfl
    | true =>
      have := (hm i).2 ⟨by omega, by simp [List.getD, hy, hc]⟩
      rw [hj, List.mem_singleton] at this
      omega
  unfold hitsL
  rw [hj, he]; rfl
theorem hitsL_none {ll : List (List Sp)} {x : Int} (h : ∀ l ∈ ll, inS l x = false) (k : Nat) : hitsL ll x k = [] := by
  unfold hitsL
  rw [List.map_eq_nil_iff, List.filter_eq_nil_iff]
  intro j _ hj
  cases hg : ll[j]? with
  | none => simp [List.getD, hg, inS] at hj
  | some l => rw [show ll.getD j [] = l by simp [List.getD, hg], h l (List.mem_of_getElem? hg)] at hj; cases hj
theorem hitsL_len (ll : List (List Sp)) (x : Int) (k : Nat) : (hitsL ll x k).length ≤ k := by
  unfold hitsL
  rw [List.length_map]
  exact Nat.le_trans (List.length_filter_le _ _) (by simp)
theorem hitsL_mono (ll : List (List Sp)) (x : Int) : ∀ (d k : Nat), (hitsL ll x k).length ≤ (hitsL ll x (k + d)).length
  | 0, k => Nat.le_refl _
  | d + 1, k => by
    have h1 := hitsL_mono ll x d k
    have h2 := hitsL_succ ll x (k + d)
    rw [show k + (d + 1) = k + d + 1 by omega, h2, List.length_append]
    omega
theorem hitsL_le {ll : List (List Sp)} {x : Int} (h : isPart ll) (r0 : 0 ≤ x) (r1 : x ≤ 1114111) {k : Nat} (hk : k ≤ ll.length) : (hitsL ll x k).length ≤ 1 := by
  have h1 := hitsL_mono ll x (ll.length - k) k
  rw [show k + (ll.length - k) = ll.length by omega, hitsL_one (h x r0 r1)] at h1
  exact h1
theorem inS_range {l : List Sp} {r : Int} (h : Canon l) (hi : inS l r = true) : 0 ≤ r ∧ r ≤ 1114111 := by
  obtain ⟨s, hs, h1, h2⟩ := inS_iff.1 hi
  have hv := h.ok s hs
  unfold vSp at hv
  omega
theorem wordE_bad {ll : List (List Sp)} {t : List Int} (h : partE ll ≠ 0) : wordE ll t = partE ll ∧ wordL ll t = [] := by
  have e : wordE ll t = partE ll := by unfold wordE; rw [if_pos h]
  exact ⟨e, by unfold wordL; rw [e, if_neg h]⟩
theorem wordE_arg {ll : List (List Sp)} {t : List Int} (h : partE ll = 0) (ht : (t.any fun r => !runeB r) = true) : wordE ll t = 1 ∧ wordL ll t = [] := by
  have e : wordE ll t = 1 := by unfold wordE; rw [if_neg (by simp [h]), if_pos ht]
  exact ⟨e, by unfold wordL; rw [e]; rfl⟩
theorem wordE_ok {ll : List (List Sp)} {t : List Int} (h : partE ll = 0) (ht : (t.any fun r => !runeB r) = false) : wordE ll t = 0 ∧ wordL ll t = t.map (clAt ll) := by
  have e : wordE ll t = 0 := by unfold wordE; rw [if_neg (by simp [h]), if_neg (by simp [ht])]
  exact ⟨e, by unfold wordL; rw [if_pos e]⟩
set_option maxHeartbeats 1000000 in
theorem wof_c (w0 : World) (v u : Value) (ll : List (List Sp)) (t : List Int) (h : SpssAt w0 v ll) (ht : IntsAt w0 u t) (hb : t.length ≤ 17592186044415) :
    Ret Try.prog 50 #[v, u] w0 fun r w => IntRes w r (wordL ll t) (wordE ll t) ∧ Ext w0 w := by
  obtain ⟨a, c, rfl, _, hle⟩ := h.form
  obtain ⟨ta, tc, rfl⟩ := SlAt.form ht
  simp only [List.length_map] at ht ⊢
  obtain ⟨base, hbase⟩ : ∃ base, base = w0.heap.size := ⟨_, rfl⟩
  refine Ret_of Try.func50 rfl Try.ntmps50 (Nat.le_of_ble_eq_true rfl) ?_
  have E : Chg none1 w0 w0 := Chg.refl _ _
  refine Wp_seq_region ?_
  refine WpL_val rfl rfl (by decide) (r_assign (v := (.slice none 0 0)) rfl) ?_
  refine WpL_val rfl rfl (by decide) (r_assign (v := (.int .i64 0)) rfl) ?_
  refine WpL_nil ?_
  refine Wp_seq ?_
  refine Wp_seq_region ?_
  refine WpL_val rfl rfl (by decide) (r_move (v := (.slice a ll.length c)) rfl) ?_
  refine WpL_enter rfl rfl (by decide) (r_callF (vs := [(.slice a ll.length c)]) Try.func45 nm45 bd45 rfl) (cck_c _ _ ll h) ?_
  rintro _ w9 ⟨rfl, X9⟩
  replace E := E.ext X9
  refine WpL_val rfl rfl (by decide) (r_assign (v := (.int .i64 (partE ll))) rfl) ?_
  refine WpL_nil ?_
  refine Wp_seq_region ?_
  refine WpL_val rfl rfl (by decide) (r_move (v := (.int .i64 (partE ll))) rfl) ?_
  refine WpL_val rfl rfl (by decide) (r_neq (k := .i64) (a := partE ll) (b := 0) rfl rfl) ?_
  refine WpL_nil ?_
  refine Wp_cond (b := decide ((partE ll : Int) ≠ 0)) rfl (fun hp => ?_) (fun hp => ?_)
  · have khp := hp
    replace hp := of_decide_eq_true hp
    refine Wp_seq_region ?_
    refine WpL_val rfl rfl (by decide) (r_move (v := (.int .i64 (partE ll))) rfl) ?_
    refine WpL_val rfl rfl (by decide) (r_assign (v := (.slice none 0 0)) rfl) ?_
    refine WpL_val rfl rfl (by decide) (r_assign (v := (.int .i64 (partE ll))) rfl) ?_
    refine WpL_nil ?_
    refine Wp_ret ?_
    refine thn_ret ?_
    refine fin_tmp2 Try.results50 (v := (.slice none 0 0)) (v' := (.int .i64 (partE ll))) rfl rfl ?_
    obtain ⟨e1, e2⟩ := wordE_bad (t := t) hp
    rw [e1, e2]
    exact ⟨⟨none, 0, rfl, ints_nil _⟩, E⟩
  · have khp := hp
    replace hp := of_decide_eq_false hp
    have hp0 : partE ll = 0 := by omega
    obtain ⟨hl16, hb0, hheads, hpart⟩ := partE_zero hp0
    refine Wp_skip ?_
    refine thn_normal ?_
    refine Wp_seq_region ?_
    refine WpL_val rfl rfl (by decide) (r_assign (v := (.slice none 0 0)) rfl) ?_
    refine WpL_nil ?_
    refine Wp_seq ?_
    refine Wp_seq_region ?_
    refine WpL_val rfl rfl (by decide) (r_move (v := (.slice ta t.length tc)) rfl) ?_
    refine WpL_val rfl rfl (by decide) (r_lenSlice (ad := ta) (n := t.length) (cap := tc) Try.underlying22 rfl) ?_
    refine WpL_val rfl rfl (by decide) (r_move (v := (.int .i64 0)) rfl) ?_
    refine WpL_nil ?_
    refine Wp_block ?_
    refine Wp_loop (fun nn_ σ W2 => ∃ (i : Nat) (la : Option Addr) (lc n : Nat), (∃ jj_, σ = upds jj_ [(0, (.slice a ll.length c)), (17, (.slice ta t.length tc)), (18, (.int .i64 ((t.length : Nat) : Int))), (19, (.int .i64 ((i : Nat) : Int))), (7, (.slice la n lc))]) ∧ Chg none1 w0 W2 ∧ (i ≤ t.length) ∧ (∀ r ∈ t.take i, runeB r = true) ∧ (n = i) ∧ (W2.ownsRow base TInt 1 (.slice la n lc) n (((t.take i).map (clAt ll)).map (Value.int .i64))) ∧ (base ≤ W2.heap.size) ∧ nn_ = t.length - i) (n := t.length - 0) ?_ ?_
    · exact ⟨0, none, 0, 0, Fits.out ⟨rfl, rfl, rfl, rfl, rfl, trivial⟩, E, Nat.zero_le _, (by simp), rfl, World.ownsRow_nil _ _ _ _, (by have := E.size; omega), rfl⟩
    · clear E
      rintro _ _ W2 ⟨i, la, lc, n, ⟨j2, rfl⟩, E, hi, hgood, hn, hown, hbs, rfl⟩
      refine Wp_seq_region ?_
      refine WpL_val rfl rfl (by decide) (r_lss (k := .i64) (a := ((i : Nat) : Int)) (b := ((t.length : Nat) : Int)) rfl rfl) ?_
      refine WpL_nil ?_
      refine Wp_seq ?_
      refine Wp_cond (b := decide ((((i : Nat) : Int) : Int) < ((t.length : Nat) : Int))) rfl (fun hlt => ?_) (fun hlt => ?_)
      · have khlt := hlt
        replace hlt := of_decide_eq_true hlt
        obtain ⟨x, hx⟩ := get_of_lt (l := t) (i := i) (by omega)
        obtain ⟨tb, to, rfl, htc⟩ := ints_cells ht (by omega)
        refine Wp_skip ?_
        refine thn_normal ?_
        refine Wp_seq ?_
        refine Wp_block ?_
        refine Wp_seq_region ?_
        refine WpL_val rfl rfl (by decide) (r_indexSlice (b := tb) (o := to) (len := t.length) (cap := tc) (i := i) (o' := to + i) rfl rfl rfl Try.underlying22 siz3 (by omega) (by omega)) ?_
        refine WpL_val rfl rfl (by decide) (r_load (v := (.int .i64 x)) rfl flat3 (E.cell (fun f => f) (htc i x hx))) ?_
        refine WpL_val rfl rfl (by decide) (r_assign (v := (.int .i64 x)) rfl) ?_
        refine WpL_nil ?_
        refine Wp_seq ?_
        refine Wp_seq_region ?_
        refine WpL_val rfl rfl (by decide) (r_move (v := (.slice a ll.length c)) rfl) ?_
        refine WpL_val rfl rfl (by decide) (r_lenSlice (ad := a) (n := ll.length) (cap := c) Try.underlying53 rfl) ?_
        refine WpL_val rfl rfl (by decide) (r_move (v := (.int .i64 0)) rfl) ?_
        refine WpL_nil ?_
        refine Wp_block ?_
        refine Wp_loop (fun nn_ σ W4 => ∃ (k : Nat) (la2 : Option Addr) (lc2 n2 : Nat), (∃ jj_, σ = upds jj_ [(0, (.slice a ll.length c)), (9, (.int .i64 x)), (17, (.slice (some ⟨tb, to, none⟩) t.length tc)), (18, (.int .i64 ((t.length : Nat) : Int))), (19, (.int .i64 ((i : Nat) : Int))), (23, (.slice a ll.length c)), (24, (.int .i64 ((ll.length : Nat) : Int))), (25, (.int .i64 ((k : Nat) : Int))), (7, (.slice la2 n2 lc2))]) ∧ Chg none1 w0 W4 ∧ (k ≤ ll.length) ∧ (n2 = i + (hitsL ll x k).length) ∧ (W4.ownsRow base TInt 1 (.slice la2 n2 lc2) n2 (((t.take i).map (clAt ll) ++ hitsL ll x k).map (Value.int .i64))) ∧ (base ≤ W4.heap.size) ∧ nn_ = ll.length - k) (n := ll.length - 0) ?_ ?_
        · exact ⟨0, la, lc, n, Fits.out ⟨rfl, rfl, rfl, rfl, rfl, rfl, rfl, rfl, rfl, trivial⟩, E, Nat.zero_le _, (by rw [hn]; rfl), (by rw [show hitsL ll x 0 = [] from rfl, List.append_nil]; exact hown), hbs, rfl⟩
        · clear E
          rintro _ _ W4 ⟨k, la2, lc2, n2, ⟨j4, rfl⟩, E, hk, hn2, hown2, hbs2, rfl⟩
          refine Wp_seq_region ?_
          refine WpL_val rfl rfl (by decide) (r_lss (k := .i64) (a := ((k : Nat) : Int)) (b := ((ll.length : Nat) : Int)) rfl rfl) ?_
          refine WpL_nil ?_
          refine Wp_seq ?_
          refine Wp_cond (b := decide ((((k : Nat) : Int) : Int) < ((ll.length : Nat) : Int))) rfl (fun hlt2 => ?_) (fun hlt2 => ?_)
          · have khlt2 := hlt2
            replace hlt2 := of_decide_eq_true hlt2
            obtain ⟨l, hl⟩ := get_of_lt (l := ll) (i := k) (by omega)
            obtain ⟨b, o, rfl, hcl⟩ := spss_cells h (by omega)
            obtain ⟨ra, rc, hcell, hsp⟩ := hcl k l hl
            have hgl := getD_get (d := []) hl
            have hsu := hitsL_succ ll x k
            rw [hgl] at hsu
            have hhl := hitsL_len ll x k
            refine Wp_skip ?_
            refine thn_normal ?_
            refine Wp_seq ?_
            refine Wp_block ?_
            refine Wp_seq_region ?_
            refine WpL_val rfl rfl (by decide) (r_move (v := (.int .i64 ((k : Nat) : Int))) rfl) ?_
            refine WpL_val rfl rfl (by decide) (r_indexSlice (b := b) (o := o) (len := ll.length) (cap := c) (i := k) (o' := o + k) rfl rfl rfl Try.underlying53 siz23 (by omega) (by omega)) ?_
            refine WpL_val rfl rfl (by decide) (r_load (v := (.slice ra l.length rc)) rfl flat23 (E.cell (fun f => f) hcell)) ?_
            refine WpL_val rfl rfl (by decide) (r_assign (v := (.int .i64 ((k : Nat) : Int))) rfl) ?_
            refine WpL_val rfl rfl (by decide) (r_assign (v := (.slice ra l.length rc)) rfl) ?_
            refine WpL_nil ?_
            refine Wp_seq_region ?_
            refine WpL_val rfl rfl (by decide) (r_move (v := (.slice ra l.length rc)) rfl) ?_
            refine WpL_val rfl rfl (by decide) (r_move (v := (.int .i64 x)) rfl) ?_
            refine WpL_enter rfl rfl (by decide) (r_callF (vs := [(.slice ra l.length rc), (.int .i64 x)]) Try.func39 nm39 bd39 rfl) (inset_c _ _ l x (hsp.ext E)) ?_
            rintro _ w51 ⟨rfl, X51⟩
            replace hown2 := own_ext hown2 X51
            replace hbs2 := Nat.le_trans hbs2 X51.size
            replace E := E.ext X51
            refine WpL_nil ?_
            refine Wp_cond (b := inS l x) rfl (fun hin => ?_) (fun hin => ?_)
            · have khin := hin
              obtain ⟨xr0, xr1⟩ := inS_range (checkE_canon (badE_all hb0 l (List.mem_of_getElem? hl))).1 hin
              have hle1 := hitsL_le hpart xr0 xr1 (k := k + 1) (by omega)
              rw [hsu, hin, if_pos rfl, List.length_append] at hle1
              rw [List.length_singleton] at hle1
              refine Wp_region ?_
              refine WpL_val rfl rfl (by decide) (r_move (v := (.slice la2 n2 lc2)) rfl) ?_
              refine WpL_val rfl rfl (by decide) (r_move (v := (.int .i64 ((k : Nat) : Int))) rfl) ?_
              refine s_buildSlice (ps := [(0, (.int .i64 ((k : Nat) : Int)))]) (c := #[(.int .i64 ((k : Nat) : Int))]) (by decide) rfl Try.underlying22 siz3 zer3 (by decide) (by decide) (by kernel_rfl) ?_
              intro b7 w7 N7
              have F7 := N7.ge E
              replace hown2 := own_ext hown2 N7.ext
              replace hbs2 := Nat.le_trans hbs2 N7.ext.size
              replace E := E.ext N7.ext
              have B7 := N7.blk
              refine s_append (base := base) (n := n2) (m := 1) (xs := (((t.take i).map (clAt ll) ++ hitsL ll x k).map (Value.int .i64))) (news := [(.int .i64 ((k : Nat) : Int))]) (size := 1) (bytes := 8) (v := (.slice la2 n2 lc2)) (by decide) Try.underlying22 siz3 byt3 zer3 rfl (by decide) rfl hown2 rfl (rfl) (B7.cells rfl) (by simp [Value.oneCell']) (by unfold maxLen; omega) (by omega) (hbs2) ?_
              intro v7 w59 Ov7 Cv7 Dv7
              replace E := E.step Cv7 (fun x hx h => absurd (hown2.lt x h).1 (by omega))
              obtain ⟨la3, lc3, rfl⟩ := own_form Ov7
              refine WpL_val rfl rfl (by decide) (r_assign (v := (.slice la3 (n2 + 1) lc3)) rfl) ?_
              refine WpL_nil ?_
              refine inB_normal ?_
              refine thn_normal ?_
              refine Wp_region ?_
              refine WpL_val rfl rfl (by decide) (r_add (k := .i64) (a := ((k : Nat) : Int)) (b := 1) (c := ((k : Nat) : Int) + 1) rfl rfl (wI64 (by omega))) ?_
              refine WpL_val rfl rfl (by decide) (r_move (v := (.int .i64 (((k : Nat) : Int) + 1))) rfl) ?_
              refine WpL_nil ?_
              refine thn_normal ?_
              exact ⟨ll.length - (k + 1), by omega, k + 1, la3, lc3, n2 + 1, Fits.out ⟨rfl, rfl, rfl, rfl, rfl, rfl, rfl, rfl, rfl, trivial⟩, E, (by omega), (by rw [hsu, hin, if_pos rfl, List.length_append, hn2]; rfl), (by rw [hsu, hin, if_pos rfl, ← List.append_assoc, List.map_append]; exact Ov7), Nat.le_trans hbs2 Cv7.size, rfl⟩
            · have khin := hin
              refine Wp_skip ?_
              refine inB_normal ?_
              refine thn_normal ?_
              refine Wp_region ?_
              refine WpL_val rfl rfl (by decide) (r_add (k := .i64) (a := ((k : Nat) : Int)) (b := 1) (c := ((k : Nat) : Int) + 1) rfl rfl (wI64 (by omega))) ?_
              refine WpL_val rfl rfl (by decide) (r_move (v := (.int .i64 (((k : Nat) : Int) + 1))) rfl) ?_
              refine WpL_nil ?_
              refine thn_normal ?_
              exact ⟨ll.length - (k + 1), by omega, k + 1, la2, lc2, n2, Fits.out ⟨rfl, rfl, rfl, rfl, rfl, rfl, rfl, rfl, rfl, trivial⟩, E, (by omega), (by rw [hsu, hin, if_neg (by simp), List.append_nil, hn2]), (by rw [hsu, hin, if_neg (by simp), List.append_nil]; exact hown2), hbs2, rfl⟩
          · have khlt2 := hlt2
            replace hlt2 := of_decide_eq_false hlt2
            have hkk : k = ll.length := by omega
            rw [hkk] at hn2 hown2
            refine Wp_exit ?_
            refine thn_exit ?_
            refine thn_exit ?_
            refine inB_here ?_
            refine thn_normal ?_
            refine Wp_seq_region ?_
            refine WpL_val rfl rfl (by decide) (r_move (v := (.int .i64 x)) rfl) ?_
            refine WpL_val rfl rfl (by decide) (r_lss (k := .i64) (a := x) (b := 0) rfl rfl) ?_
            refine WpL_val rfl rfl (by decide) (r_move (v := (.bool (decide ((x : Int) < 0)))) rfl) ?_
            rcases Bool.eq_false_or_eq_true (decide ((x : Int) < 0)) with hneg | hneg
            · have khneg := hneg
              replace khneg := of_decide_eq_true khneg
              refine WpL_guard_no (oj := _) rfl rfl (by decide) (v := .bool true) (congrArg Value.bool hneg) (Or.inl rfl) ?_
              refine WpL_guard_no (oj := _) rfl rfl (by decide) (v := .bool true) (congrArg Value.bool hneg) (Or.inl rfl) ?_
              refine WpL_val rfl rfl (by decide) (r_pick (b := decide ((x : Int) < 0)) (v := (.bool true)) rfl (by rw [hneg]; rfl)) ?_
              refine WpL_nil ?_
              refine Wp_cond_true rfl ?_
              refine Wp_seq_region ?_
              refine WpL_val rfl rfl (by decide) (r_assign (v := (.slice none 0 0)) rfl) ?_
              refine WpL_val rfl rfl (by decide) (r_assign (v := (.int .i64 1)) rfl) ?_
              refine WpL_nil ?_
              refine Wp_ret ?_
              refine inB_ret ?_
              refine thn_ret ?_
              refine thn_ret ?_
              refine inB_ret ?_
              refine thn_ret ?_
              refine fin_tmp2 Try.results50 (v := (.slice none 0 0)) (v' := (.int .i64 1)) rfl rfl ?_
              obtain ⟨e1, e2⟩ := wordE_arg (t := t) hp0 (by rw [List.any_eq_true]; exact ⟨x, List.mem_of_getElem? hx, by unfold runeB; rw [decide_eq_false (by omega)]; rfl⟩)
              rw [e1, e2]
              exact ⟨⟨none, 0, rfl, ints_nil _⟩, E⟩
            · have khneg := hneg
              replace khneg := of_decide_eq_false khneg
              refine WpL_guard_yes (oj := _) rfl rfl (by decide) (congrArg Value.bool hneg) ?_
              refine WpL_val rfl rfl (by decide) (r_move (v := (.int .i64 x)) rfl) ?_
              refine WpL_guard_yes (oj := _) rfl rfl (by decide) (congrArg Value.bool hneg) ?_
              refine WpL_val rfl rfl (by decide) (r_gtr (k := .i64) (a := x) (b := 1114111) rfl rfl) ?_
              refine WpL_val rfl rfl (by decide) (r_pick (b := decide ((x : Int) < 0)) (v := (.bool (decide ((1114111 : Int) < x)))) rfl (by rw [hneg]; rfl)) ?_
              refine WpL_nil ?_
              refine Wp_cond (b := decide ((1114111 : Int) < x)) rfl (fun hbig => ?_) (fun hbig => ?_)
              · have khbig := hbig
                replace hbig := of_decide_eq_true hbig
                refine Wp_seq_region ?_
                refine WpL_val rfl rfl (by decide) (r_assign (v := (.slice none 0 0)) rfl) ?_
                refine WpL_val rfl rfl (by decide) (r_assign (v := (.int .i64 1)) rfl) ?_
                refine WpL_nil ?_
                refine Wp_ret ?_
                refine inB_ret ?_
                refine thn_ret ?_
                refine thn_ret ?_
                refine inB_ret ?_
                refine thn_ret ?_
                refine fin_tmp2 Try.results50 (v := (.slice none 0 0)) (v' := (.int .i64 1)) rfl rfl ?_
                obtain ⟨e1, e2⟩ := wordE_arg (t := t) hp0 (by rw [List.any_eq_true]; exact ⟨x, List.mem_of_getElem? hx, by unfold runeB; rw [decide_eq_false (show ¬ x ≤ 1114111 by omega), Bool.and_false]; rfl⟩)
                rw [e1, e2]
                exact ⟨⟨none, 0, rfl, ints_nil _⟩, E⟩
              · have khbig := hbig
                replace hbig := of_decide_eq_false hbig
                have hone := hitsL_one (hpart x (by omega) (by omega))
                rw [hone] at hn2 hown2
                refine Wp_skip ?_
                refine inB_normal ?_
                refine thn_normal ?_
                refine Wp_region ?_
                refine WpL_val rfl rfl (by decide) (r_add (k := .i64) (a := ((i : Nat) : Int)) (b := 1) (c := ((i : Nat) : Int) + 1) rfl rfl (wI64 (by omega))) ?_
                refine WpL_val rfl rfl (by decide) (r_move (v := (.int .i64 (((i : Nat) : Int) + 1))) rfl) ?_
                refine WpL_nil ?_
                refine thn_normal ?_
                exact ⟨t.length - (i + 1), by omega, i + 1, la2, lc2, n2, Fits.out ⟨rfl, rfl, rfl, rfl, rfl, trivial⟩, E, (by omega), (fun r hr => by rw [take_snoc hx] at hr; rcases List.mem_append.1 hr with h1 | h1; exact hgood r h1; rw [List.mem_singleton] at h1; rw [h1]; unfold runeB; rw [decide_eq_true (by omega), decide_eq_true (by omega)]; rfl), (by simpa using hn2), (by rw [take_snoc hx, List.map_append]; exact hown2), hbs2, rfl⟩
      · have khlt := hlt
        replace hlt := of_decide_eq_false hlt
        have hii : i = t.length := by omega
        rw [hii, List.take_length] at hgood hown
        refine Wp_exit ?_
        refine thn_exit ?_
        refine thn_exit ?_
        refine inB_here ?_
        refine thn_normal ?_
        refine Wp_seq_region ?_
        refine WpL_val rfl rfl (by decide) (r_move (v := (.slice la n lc)) rfl) ?_
        refine WpL_val rfl rfl (by decide) (r_assign (v := (.slice la n lc)) rfl) ?_
        refine WpL_val rfl rfl (by decide) (r_assign (v := (.int .i64 0)) rfl) ?_
        refine WpL_nil ?_
        refine Wp_ret ?_
        refine fin_tmp2 Try.results50 (v := (.slice la n lc)) (v' := (.int .i64 0)) rfl rfl ?_
        obtain ⟨e1, e2⟩ := wordE_ok (t := t) hp0 (by rw [List.any_eq_false]; intro r hr; rw [hgood r hr]; decide)
        have hO : OwnI _ base (.slice la n lc) (t.map (clAt ll)) := ⟨⟨la, lc, by rw [List.length_map]; congr 1; omega⟩, by rw [List.length_map, ← hii, ← hn]; exact hown⟩
        rw [e1, e2]
        exact ⟨⟨la, lc, by rw [List.length_map, ← hii, ← hn], by rw [List.length_map, ← hii, ← hn]; exact hO.at⟩, E⟩
theorem word_c (w0 : World) (v u : Value) (ll : List (List Sp)) (t : List Int) (h : SpssAt w0 v ll) (ht : IntsAt w0 u t) (hb : t.length ≤ 17592186044415) :
    Ret Try.prog 47 #[v, u] w0 fun r w => IntRes w r (wordL ll t) (wordE ll t) ∧ Ext w0 w := by
  obtain ⟨a, c, rfl, _, hle⟩ := h.form
  obtain ⟨ta, tc, rfl⟩ := SlAt.form ht
  simp only [List.length_map] at ht ⊢
  obtain ⟨base, hbase⟩ : ∃ base, base = w0.heap.size := ⟨_, rfl⟩
  refine Ret_of Try.func47 rfl Try.ntmps47 (Nat.le_of_ble_eq_true rfl) ?_
  have E : Chg none1 w0 w0 := Chg.refl _ _
  refine Wp_seq_region ?_
  refine WpL_val rfl rfl (by decide) (r_assign (v := (.slice none 0 0)) rfl) ?_
  refine WpL_val rfl rfl (by decide) (r_assign (v := (.int .i64 0)) rfl) ?_
  refine WpL_nil ?_
  refine Wp_seq ?_
  refine Wp_seq_region ?_
  refine WpL_val rfl rfl (by decide) (r_move (v := (.slice a ll.length c)) rfl) ?_
  refine WpL_enter rfl rfl (by decide) (r_callF (vs := [(.slice a ll.length c)]) Try.func49 nm49 bd49 rfl) (part_c _ _ ll h) ?_
  rintro _ w9 ⟨rfl, X9⟩
  replace E := E.ext X9
  refine WpL_val rfl rfl (by decide) (r_assign (v := (.int .i64 (partE ll))) rfl) ?_
  refine WpL_nil ?_
  refine Wp_seq_region ?_
  refine WpL_val rfl rfl (by decide) (r_move (v := (.int .i64 (partE ll))) rfl) ?_
  refine WpL_val rfl rfl (by decide) (r_neq (k := .i64) (a := partE ll) (b := 0) rfl rfl) ?_
  refine WpL_nil ?_
  refine Wp_cond (b := decide ((partE ll : Int) ≠ 0)) rfl (fun hp => ?_) (fun hp => ?_)
  · have khp := hp
    replace hp := of_decide_eq_true hp
    refine Wp_seq_region ?_
    refine WpL_val rfl rfl (by decide) (r_move (v := (.int .i64 (partE ll))) rfl) ?_
    refine WpL_val rfl rfl (by decide) (r_assign (v := (.slice none 0 0)) rfl) ?_
    refine WpL_val rfl rfl (by decide) (r_assign (v := (.int .i64 (partE ll))) rfl) ?_
    refine WpL_nil ?_
    refine Wp_ret ?_
    refine thn_ret ?_
    refine fin_tmp2 Try.results47 (v := (.slice none 0 0)) (v' := (.int .i64 (partE ll))) rfl rfl ?_
    obtain ⟨e1, e2⟩ := wordE_bad (t := t) hp
    rw [e1, e2]
    exact ⟨⟨none, 0, rfl, ints_nil _⟩, E⟩
  · have khp := hp
    replace hp := of_decide_eq_false hp
    have hp0 : partE ll = 0 := by omega
    refine Wp_skip ?_
    refine thn_normal ?_
    refine Wp_seq ?_
    refine Wp_seq_region ?_
    refine WpL_val rfl rfl (by decide) (r_move (v := (.slice ta t.length tc)) rfl) ?_
    refine WpL_enter rfl rfl (by decide) (r_callF (vs := [(.slice ta t.length tc)]) Try.func69 nm69 bd69 rfl) (runes_c _ _ t (ht.ext E)) ?_
    rintro _ w19 ⟨rfl, X19⟩
    replace E := E.ext X19
    refine WpL_val rfl rfl (by decide) (r_not (b := !(t.any fun r => !runeB r)) rfl) ?_
    refine WpL_nil ?_
    refine Wp_cond (b := !(!(t.any fun r => !runeB r))) rfl (fun hr => ?_) (fun hr => ?_)
    · have khr := hr
      replace hr := by simpa using hr
      replace hr := by simpa using hr
      refine Wp_seq_region ?_
      refine WpL_val rfl rfl (by decide) (r_assign (v := (.slice none 0 0)) rfl) ?_
      refine WpL_val rfl rfl (by decide) (r_assign (v := (.int .i64 1)) rfl) ?_
      refine WpL_nil ?_
      refine Wp_ret ?_
      refine thn_ret ?_
      refine fin_tmp2 Try.results47 (v := (.slice none 0 0)) (v' := (.int .i64 1)) rfl rfl ?_
      obtain ⟨e1, e2⟩ := wordE_arg (t := t) hp0 (by simpa using hr)
      rw [e1, e2]
      exact ⟨⟨none, 0, rfl, ints_nil _⟩, E⟩
    · have khr := hr
      replace hr := by simpa using hr
      replace hr := by simpa using hr
      refine Wp_skip ?_
      refine thn_normal ?_
      refine Wp_seq_region ?_
      refine WpL_val rfl rfl (by decide) (r_assign (v := (.slice none 0 0)) rfl) ?_
      refine WpL_nil ?_
      refine Wp_seq ?_
      refine Wp_seq_region ?_
      refine WpL_val rfl rfl (by decide) (r_move (v := (.slice ta t.length tc)) rfl) ?_
      refine WpL_val rfl rfl (by decide) (r_lenSlice (ad := ta) (n := t.length) (cap := tc) Try.underlying22 rfl) ?_
      refine WpL_val rfl rfl (by decide) (r_move (v := (.int .i64 0)) rfl) ?_
      refine WpL_nil ?_
      refine Wp_block ?_
      refine Wp_loop (fun nn_ σ W3 => ∃ (i : Nat) (la : Option Addr) (lc n : Nat), (∃ jj_, σ = upds jj_ [(0, (.slice a ll.length c)), (18, (.slice ta t.length tc)), (19, (.int .i64 ((t.length : Nat) : Int))), (20, (.int .i64 ((i : Nat) : Int))), (7, (.slice la n lc))]) ∧ Chg none1 w0 W3 ∧ (i ≤ t.length) ∧ (n = i) ∧ (W3.ownsRow base TInt 1 (.slice la n lc) n (((t.take i).map (clAt ll)).map (Value.int .i64))) ∧ (base ≤ W3.heap.size) ∧ nn_ = t.length - i) (n := t.length - 0) ?_ ?_
      · exact ⟨0, none, 0, 0, Fits.out ⟨rfl, rfl, rfl, rfl, rfl, trivial⟩, E, Nat.zero_le _, rfl, World.ownsRow_nil _ _ _ _, (by have := E.size; omega), rfl⟩
      · clear E
        rintro _ _ W3 ⟨i, la, lc, n, ⟨j3, rfl⟩, E, hi, hn, hown, hbs, rfl⟩
        refine Wp_seq_region ?_
        refine WpL_val rfl rfl (by decide) (r_lss (k := .i64) (a := ((i : Nat) : Int)) (b := ((t.length : Nat) : Int)) rfl rfl) ?_
        refine WpL_nil ?_
        refine Wp_seq ?_
        refine Wp_cond (b := decide ((((i : Nat) : Int) : Int) < ((t.length : Nat) : Int))) rfl (fun hlt => ?_) (fun hlt => ?_)
        · have khlt := hlt
          replace hlt := of_decide_eq_true hlt
          obtain ⟨x, hx⟩ := get_of_lt (l := t) (i := i) (by omega)
          obtain ⟨tb, to, rfl, htc⟩ := ints_cells ht (by omega)
          refine Wp_skip ?_
          refine thn_normal ?_
          refine Wp_seq ?_
          refine Wp_block ?_
          refine Wp_seq_region ?_
          refine WpL_val rfl rfl (by decide) (r_indexSlice (b := tb) (o := to) (len := t.length) (cap := tc) (i := i) (o' := to + i) rfl rfl rfl Try.underlying22 siz3 (by omega) (by omega)) ?_
          refine WpL_val rfl rfl (by decide) (r_load (v := (.int .i64 x)) rfl flat3 (E.cell (fun f => f) (htc i x hx))) ?_
          refine WpL_val rfl rfl (by decide) (r_assign (v := (.int .i64 x)) rfl) ?_
          refine WpL_nil ?_
          refine Wp_region ?_
          refine WpL_val rfl rfl (by decide) (r_move (v := (.slice la n lc)) rfl) ?_
          refine WpL_val rfl rfl (by decide) (r_move (v := (.slice a ll.length c)) rfl) ?_
          refine WpL_val rfl rfl (by decide) (r_move (v := (.int .i64 x)) rfl) ?_
          refine WpL_enter rfl rfl (by decide) (r_callF (vs := [(.slice a ll.length c), (.int .i64 x)]) Try.func88 nm88 bd88 rfl) (at_c _ _ ll x (h.ext E)) ?_
          rintro _ w51 ⟨rfl, X51⟩
          replace hown := own_ext hown X51
          replace hbs := Nat.le_trans hbs X51.size
          replace E := E.ext X51
          refine s_buildSlice (ps := [(0, (.int .i64 (clAt ll x)))]) (c := #[(.int .i64 (clAt ll x))]) (by decide) rfl Try.underlying22 siz3 zer3 (by decide) (by decide) (by kernel_rfl) ?_
          intro b5 w5 N5
          have F5 := N5.ge E
          replace hown := own_ext hown N5.ext
          replace hbs := Nat.le_trans hbs N5.ext.size
          replace E := E.ext N5.ext
          have B5 := N5.blk
          refine s_append (base := base) (n := n) (m := 1) (xs := (((t.take i).map (clAt ll)).map (Value.int .i64))) (news := [(.int .i64 (clAt ll x))]) (size := 1) (bytes := 8) (v := (.slice la n lc)) (by decide) Try.underlying22 siz3 byt3 zer3 rfl (by decide) rfl hown rfl (rfl) (B5.cells rfl) (by simp [Value.oneCell']) (by unfold maxLen; omega) (by omega) (hbs) ?_
          intro v7 w59 Ov7 Cv7 Dv7
          replace E := E.step Cv7 (fun x hx h => absurd (hown.lt x h).1 (by omega))
          obtain ⟨la3, lc3, rfl⟩ := own_form Ov7
          refine WpL_val rfl rfl (by decide) (r_assign (v := (.slice la3 (n + 1) lc3)) rfl) ?_
          refine WpL_nil ?_
          refine inB_normal ?_
          refine thn_normal ?_
          refine Wp_region ?_
          refine WpL_val rfl rfl (by decide) (r_add (k := .i64) (a := ((i : Nat) : Int)) (b := 1) (c := ((i : Nat) : Int) + 1) rfl rfl (wI64 (by omega))) ?_
          refine WpL_val rfl rfl (by decide) (r_move (v := (.int .i64 (((i : Nat) : Int) + 1))) rfl) ?_
          refine WpL_nil ?_
          refine thn_normal ?_
          exact ⟨t.length - (i + 1), by omega, i + 1, la3, lc3, n + 1, Fits.out ⟨rfl, rfl, rfl, rfl, rfl, trivial⟩, E, (by omega), (by omega), (by rw [take_snoc hx, List.map_append, List.map_append]; exact Ov7), Nat.le_trans hbs Cv7.size, rfl⟩
        · have khlt := hlt
          replace hlt := of_decide_eq_false hlt
          have hii : i = t.length := by omega
          rw [hii, List.take_length] at hown
          refine Wp_exit ?_
          refine thn_exit ?_
          refine thn_exit ?_
          refine inB_here ?_
          refine thn_normal ?_
          refine Wp_seq_region ?_
          refine WpL_val rfl rfl (by decide) (r_move (v := (.slice la n lc)) rfl) ?_
          refine WpL_val rfl rfl (by decide) (r_assign (v := (.slice la n lc)) rfl) ?_
          refine WpL_val rfl rfl (by decide) (r_assign (v := (.int .i64 0)) rfl) ?_
          refine WpL_nil ?_
          refine Wp_ret ?_
          refine fin_tmp2 Try.results47 (v := (.slice la n lc)) (v' := (.int .i64 0)) rfl rfl ?_
          obtain ⟨e1, e2⟩ := wordE_ok (t := t) hp0 (by simpa using hr)
          have hO : OwnI _ base (.slice la n lc) (t.map (clAt ll)) := ⟨⟨la, lc, by rw [List.length_map]; congr 1; omega⟩, by rw [List.length_map, ← hii, ← hn]; exact hown⟩
          rw [e1, e2]
          exact ⟨⟨la, lc, by rw [List.length_map, ← hii, ← hn], by rw [List.length_map, ← hii, ← hn]; exact hO.at⟩, E⟩
end Go.Proofs
