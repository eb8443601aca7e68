/- Contracts of the reference: comparing expressions, other arguments, what is left of a list, repetitions. -/
import Derived.Test.YtiepeobnpmoghaaW30
import Derived.Test.YtiepeobnpmoghaaLq
namespace Go.Proofs
open Go Go.Eng
set_option maxRecDepth 100000

set_option maxHeartbeats 400000 in
theorem rspeq_c (w0 : World) (v1 v2 : Value) (l1 l2 : List (Int × Int)) (h1 : SpansAt w0 v1 l1) (h2 : SpansAt w0 v2 l2) :
    Ret Try.prog 18 #[v1, v2] w0 fun v w => v = .bool (decide (l1 = l2)) ∧ Ext w0 w := by
  obtain ⟨a1, c1, rfl⟩ := SlAt.form h1
  obtain ⟨a2, c2, rfl⟩ := SlAt.form h2
  have hb1 : l1.length ≤ 9223372036854775807 := by simpa using SlAt.le h1
  simp only [List.length_map] at h1 h2 ⊢
  refine Ret_of Try.func18 rfl Try.ntmps18 (Nat.le_of_ble_eq_true rfl) ?_
  have E : Chg none1 w0 w0 := Chg.refl _ _
  refine Wp_seq_region ?_
  refine WpL_val rfl rfl (by decide) (r_assign (v := (.bool false)) rfl) ?_
  refine WpL_nil ?_
  refine Wp_seq ?_
  refine Wp_seq_region ?_
  refine WpL_val rfl rfl (by decide) (r_move (v := (.slice a1 l1.length c1)) rfl) ?_
  refine WpL_val rfl rfl (by decide) (r_lenSlice (ad := a1) (n := l1.length) (cap := c1) Try.underlying22 rfl) ?_
  refine WpL_val rfl rfl (by decide) (r_move (v := (.slice a2 l2.length c2)) rfl) ?_
  refine WpL_val rfl rfl (by decide) (r_lenSlice (ad := a2) (n := l2.length) (cap := c2) Try.underlying22 rfl) ?_
  refine WpL_val rfl rfl (by decide) (r_neq (k := .i64) (a := ((l1.length : Nat) : Int)) (b := ((l2.length : Nat) : Int)) rfl rfl) ?_
  refine WpL_nil ?_
  refine Wp_cond (b := decide ((((l1.length : Nat) : Int) : Int) ≠ ((l2.length : Nat) : Int))) rfl (fun hl => ?_) (fun hl => ?_)
  · have khl := hl
    replace hl := of_decide_eq_true hl
    refine Wp_seq_region ?_
    refine WpL_val rfl rfl (by decide) (r_assign (v := (.bool false)) rfl) ?_
    refine WpL_nil ?_
    refine Wp_ret ?_
    refine thn_ret ?_
    refine fin_tmp Try.results18 (v := (.bool false)) rfl ?_
    exact ⟨bool_eq (by symm; rw [decide_eq_false_iff_not]; intro h; rw [h] at hl; exact hl rfl), E⟩
  · have khl := hl
    replace hl := of_decide_eq_false hl
    refine Wp_skip ?_
    refine thn_normal ?_
    refine Wp_seq ?_
    refine Wp_seq_region ?_
    refine WpL_val rfl rfl (by decide) (r_move (v := (.slice a1 l1.length c1)) rfl) ?_
    refine WpL_val rfl rfl (by decide) (r_lenSlice (ad := a1) (n := l1.length) (cap := c1) Try.underlying22 rfl) ?_
    refine WpL_val rfl rfl (by decide) (r_move (v := (.int .i64 0)) rfl) ?_
    refine WpL_nil ?_
    refine Wp_block ?_
    refine Wp_loop (fun nn_ σ W2 => ∃ (k : Nat), (∃ jj_, σ = upds jj_ [(0, (.slice a1 l1.length c1)), (1, (.slice a2 l2.length c2)), (12, (.int .i64 ((l1.length : Nat) : Int))), (13, (.int .i64 ((k : Nat) : Int)))]) ∧ Chg none1 w0 W2 ∧ (k ≤ l1.length) ∧ (∀ (i : Nat), i < k → l1[i]? = l2[i]?) ∧ nn_ = l1.length - k) (n := l1.length - 0) ?_ ?_
    · exact ⟨0, Fits.out ⟨rfl, rfl, rfl, rfl, trivial⟩, E, Nat.zero_le _, (fun i h => absurd h (Nat.not_lt_zero _)), rfl⟩
    · clear E
      rintro _ _ W2 ⟨k, ⟨j2, rfl⟩, E, hk, heq, rfl⟩
      refine Wp_seq_region ?_
      refine WpL_val rfl rfl (by decide) (r_lss (k := .i64) (a := ((k : Nat) : Int)) (b := ((l1.length : Nat) : Int)) rfl rfl) ?_
      refine WpL_nil ?_
      refine Wp_seq ?_
      refine Wp_cond (b := decide ((((k : Nat) : Int) : Int) < ((l1.length : Nat) : Int))) rfl (fun hlt => ?_) (fun hlt => ?_)
      · have khlt := hlt
        replace hlt := of_decide_eq_true hlt
        obtain ⟨p, hp⟩ := get_of_lt (l := l1) (i := k) (by omega)
        obtain ⟨q, hq⟩ := get_of_lt (l := l2) (i := k) (by omega)
        obtain ⟨b1, o1, rfl, hc1⟩ := spans_cells h1 (by omega)
        obtain ⟨b2, o2, rfl, hc2⟩ := spans_cells h2 (by omega)
        refine Wp_skip ?_
        refine thn_normal ?_
        refine Wp_seq ?_
        refine Wp_block ?_
        refine Wp_seq_region ?_
        refine WpL_val rfl rfl (by decide) (r_move (v := (.int .i64 ((k : Nat) : Int))) rfl) ?_
        refine WpL_val rfl rfl (by decide) (r_assign (v := (.int .i64 ((k : Nat) : Int))) rfl) ?_
        refine WpL_nil ?_
        refine Wp_seq_draw 8 mixed (by kernel_rfl) ?_
        intro w4 X4 _
        replace E := E.ext X4
        refine WpT_val rfl rfl (by decide) (r_move (v := (.slice (some ⟨b1, o1, none⟩) l1.length c1)) rfl) ?_
        refine WpT_val rfl rfl (by decide) (r_move (v := (.int .i64 ((k : Nat) : Int))) rfl) ?_
        refine WpT_val rfl rfl (by decide) (r_indexSlice (b := b1) (o := o1) (len := l1.length) (cap := c1) (i := k) (o' := o1 + k * 2) rfl rfl rfl Try.underlying22 siz36 (by omega) (by omega)) ?_
        refine WpT_val rfl rfl (by decide) (r_loadAgg (vs := [(.int .i64 p.1), (.int .i64 p.2)]) rfl agg36 siz36 rfl ((hc1 k p hp).ext E)) ?_
        refine WpT_val rfl rfl (by decide) (r_move (v := (.slice (some ⟨b2, o2, none⟩) l2.length c2)) rfl) ?_
        refine WpT_val rfl rfl (by decide) (r_move (v := (.int .i64 ((k : Nat) : Int))) rfl) ?_
        refine WpT_val rfl rfl (by decide) (r_indexSlice (b := b2) (o := o2) (len := l2.length) (cap := c2) (i := k) (o' := o2 + k * 2) rfl rfl rfl Try.underlying22 siz36 (by omega) (by omega)) ?_
        refine WpT_val rfl rfl (by decide) (r_loadAgg (vs := [(.int .i64 q.1), (.int .i64 q.2)]) rfl agg36 siz36 rfl ((hc2 k q hq).ext E)) ?_
        refine WpT_zero ?_
        refine WpL_val (v := (.bool (!(decide (p.1 = q.1) && decide (p.2 = q.2))))) rfl rfl (by decide) (r_neqSpan stoodSpan Try.underlying36 (by decide) (by decide) rfl rfl rfl rfl Try.underlying3 flat3 eqgSpan rfl rfl) ?_
        refine WpL_nil ?_
        refine Wp_cond (b := !(decide (p.1 = q.1) && decide (p.2 = q.2))) rfl (fun hpq => ?_) (fun hpq => ?_)
        · have khpq := hpq
          replace hpq := by simpa using hpq
          refine Wp_seq_region ?_
          refine WpL_val rfl rfl (by decide) (r_assign (v := (.bool false)) rfl) ?_
          refine WpL_nil ?_
          refine Wp_ret ?_
          refine inB_ret ?_
          refine thn_ret ?_
          refine thn_ret ?_
          refine inB_ret ?_
          refine thn_ret ?_
          refine fin_tmp Try.results18 (v := (.bool false)) rfl ?_
          exact ⟨bool_eq (by symm; rw [decide_eq_false_iff_not]; intro h; subst h; rw [hp] at hq; cases hq; simp at hpq), E⟩
        · have khpq := hpq
          replace hpq := by simpa using hpq
          have hpq2 : p = q := by obtain ⟨p1, p2⟩ := p; obtain ⟨q1, q2⟩ := q; simp at hpq; simp; exact hpq
          refine Wp_skip ?_
          refine inB_normal ?_
          refine thn_normal ?_
          refine Wp_region ?_
          refine WpL_val rfl rfl (by decide) (r_add (k := .i64) (a := ((k : Nat) : Int)) (b := 1) (c := ((k : Nat) : Int) + 1) rfl rfl (wI64 (by omega))) ?_
          refine WpL_val rfl rfl (by decide) (r_move (v := (.int .i64 (((k : Nat) : Int) + 1))) rfl) ?_
          refine WpL_nil ?_
          refine thn_normal ?_
          exact ⟨l1.length - (k + 1), by omega, k + 1, Fits.out ⟨rfl, rfl, rfl, rfl, trivial⟩, E, (by omega), (fun i hi => by rcases Nat.lt_or_ge i k with h | h; exact heq i h; obtain rfl : i = k := (by omega); rw [hp, hq, hpq2]), rfl⟩
      · have khlt := hlt
        replace hlt := of_decide_eq_false hlt
        have hkk : k = l1.length := by omega
        refine Wp_exit ?_
        refine thn_exit ?_
        refine thn_exit ?_
        refine inB_here ?_
        refine thn_normal ?_
        refine Wp_seq_region ?_
        refine WpL_val rfl rfl (by decide) (r_assign (v := (.bool true)) rfl) ?_
        refine WpL_nil ?_
        refine Wp_ret ?_
        refine fin_tmp Try.results18 (v := (.bool true)) rfl ?_
        exact ⟨bool_eq (by symm; rw [decide_eq_true_eq]; exact get_ext (by omega) (fun i hi => heq i (by omega))), E⟩

set_option maxHeartbeats 2000000 in
theorem requal_c : ∀ (n : Nat) (t u : Re) (w0 : World) (vs us : List Value), t.size ≤ n → ReAt w0 t vs → ReAt w0 u us →
    Ret Try.prog 7 #[.agg vs.toArray, .agg us.toArray] w0 fun v w => v = .bool (sameT t u) ∧ Ext w0 w := by
  intro n
  induction n with
  | zero => intro t u w0 vs us hn; have := t.size_pos; omega
  | succ n ih =>
  intro t u w0 vs us hn ht hu
  have ht0 := ht
  have hu0 := hu
  obtain ⟨sa, sc, aa, ac, rfl, hts, hac, _⟩ := ht.form
  obtain ⟨sa2, sc2, aa2, ac2, rfl, hus, hac2, _⟩ := hu.form
  have hF : sameT t u = (decide (t.kind = u.kind) && decide (t.set = u.set) && decide (t.mn = u.mn) && decide (t.mx = u.mx) && decide (t.neg = u.neg) && sameTs t.args u.args) := sameT_eq t u
  refine Ret_of Try.func7 rfl Try.ntmps7 (Nat.le_of_ble_eq_true rfl) ?_
  have E : Chg none1 w0 w0 := Chg.refl _ _
  refine Wp_seq_region ?_
  refine s_box (v := (.agg #[(.int .i64 t.kind), (.slice sa t.set.length sc), (.slice aa t.args.length ac), (.int .i64 t.mn), (.int .i64 t.mx), (.bool t.neg)])) (c := #[(.int .i64 t.kind), (.slice sa t.set.length sc), (.slice aa t.args.length ac), (.int .i64 t.mn), (.int .i64 t.mx), (.bool t.neg)]) (by decide) rfl rfl ?_
  intro br wr Nr
  have Fr := Nr.ge E
  replace E := E.ext Nr.ext
  have Br := Nr.blk
  refine s_box (v := (.agg #[(.int .i64 u.kind), (.slice sa2 u.set.length sc2), (.slice aa2 u.args.length ac2), (.int .i64 u.mn), (.int .i64 u.mx), (.bool u.neg)])) (c := #[(.int .i64 u.kind), (.slice sa2 u.set.length sc2), (.slice aa2 u.args.length ac2), (.int .i64 u.mn), (.int .i64 u.mx), (.bool u.neg)]) (by decide) rfl rfl ?_
  intro bp wp Np
  have Fp := Np.ge E
  have Op_br := Np.lt Br
  replace Br := Np.keep Br
  replace E := E.ext Np.ext
  have Bp := Np.blk
  refine WpL_val rfl rfl (by decide) (r_assign (v := (.bool false)) rfl) ?_
  refine WpL_nil ?_
  refine Wp_seq ?_
  refine Wp_seq_region ?_
  refine WpL_val rfl rfl (by decide) (r_fieldAddr (b := br) (o := 0) (o' := 0) rfl Try.underlying25 rfl siz3 rfl) ?_
  refine WpL_val rfl rfl (by decide) (r_load (v := (.int .i64 t.kind)) rfl flat3 (Br.cell rfl)) ?_
  refine WpL_val rfl rfl (by decide) (r_fieldAddr (b := bp) (o := 0) (o' := 0) rfl Try.underlying25 rfl siz3 rfl) ?_
  refine WpL_val rfl rfl (by decide) (r_load (v := (.int .i64 u.kind)) rfl flat3 (Bp.cell rfl)) ?_
  refine WpL_val rfl rfl (by decide) (r_neq (k := .i64) (a := t.kind) (b := u.kind) rfl rfl) ?_
  refine WpL_val rfl rfl (by decide) (r_move (v := (.bool (decide ((t.kind : Int) ≠ u.kind)))) rfl) ?_
  rcases Bool.eq_false_or_eq_true (decide ((t.kind : Int) ≠ u.kind)) with g1 | g1
  · have kg1 := g1
    replace kg1 := of_decide_eq_true kg1
    refine WpL_guard_no (oj := _) rfl rfl (by decide) (v := .bool true) (congrArg Value.bool g1) (Or.inl rfl) ?_
    refine WpL_guard_no (oj := _) rfl rfl (by decide) (v := .bool true) (congrArg Value.bool g1) (Or.inl rfl) ?_
    refine WpL_guard_no (oj := _) rfl rfl (by decide) (v := .bool true) (congrArg Value.bool g1) (Or.inl rfl) ?_
    refine WpL_guard_no (oj := _) rfl rfl (by decide) (v := .bool true) (congrArg Value.bool g1) (Or.inl rfl) ?_
    refine WpL_guard_no (oj := _) rfl rfl (by decide) (v := .bool true) (congrArg Value.bool g1) (Or.inl rfl) ?_
    refine WpL_guard_no (oj := _) rfl rfl (by decide) (v := .bool true) (congrArg Value.bool g1) (Or.inl rfl) ?_
    refine WpL_val rfl rfl (by decide) (r_pick (b := decide ((t.kind : Int) ≠ u.kind)) (v := (.bool true)) rfl (by rw [g1]; rfl)) ?_
    refine WpL_val rfl rfl (by decide) (r_move (v := (.bool true)) rfl) ?_
    refine WpL_guard_no (oj := _) rfl rfl (by decide) (v := .bool true) rfl (Or.inl rfl) ?_
    refine WpL_guard_no (oj := _) rfl rfl (by decide) (v := .bool true) rfl (Or.inl rfl) ?_
    refine WpL_guard_no (oj := _) rfl rfl (by decide) (v := .bool true) rfl (Or.inl rfl) ?_
    refine WpL_guard_no (oj := _) rfl rfl (by decide) (v := .bool true) rfl (Or.inl rfl) ?_
    refine WpL_guard_no (oj := _) rfl rfl (by decide) (v := .bool true) rfl (Or.inl rfl) ?_
    refine WpL_guard_no (oj := _) rfl rfl (by decide) (v := .bool true) rfl (Or.inl rfl) ?_
    refine WpL_guard_no (oj := _) rfl rfl (by decide) (v := .bool true) rfl (Or.inl rfl) ?_
    refine WpL_val rfl rfl (by decide) (r_pick (b := true) (v := (.bool true)) rfl rfl) ?_
    refine WpL_val rfl rfl (by decide) (r_move (v := (.bool true)) rfl) ?_
    refine WpL_guard_no (oj := _) rfl rfl (by decide) (v := .bool true) rfl (Or.inl rfl) ?_
    refine WpL_guard_no (oj := _) rfl rfl (by decide) (v := .bool true) rfl (Or.inl rfl) ?_
    refine WpL_guard_no (oj := _) rfl rfl (by decide) (v := .bool true) rfl (Or.inl rfl) ?_
    refine WpL_guard_no (oj := _) rfl rfl (by decide) (v := .bool true) rfl (Or.inl rfl) ?_
    refine WpL_guard_no (oj := _) rfl rfl (by decide) (v := .bool true) rfl (Or.inl rfl) ?_
    refine WpL_val rfl rfl (by decide) (r_pick (b := true) (v := (.bool true)) rfl rfl) ?_
    refine WpL_val rfl rfl (by decide) (r_move (v := (.bool true)) rfl) ?_
    refine WpL_guard_no (oj := _) rfl rfl (by decide) (v := .bool true) rfl (Or.inl rfl) ?_
    refine WpL_guard_no (oj := _) rfl rfl (by decide) (v := .bool true) rfl (Or.inl rfl) ?_
    refine WpL_guard_no (oj := _) rfl rfl (by decide) (v := .bool true) rfl (Or.inl rfl) ?_
    refine WpL_guard_no (oj := _) rfl rfl (by decide) (v := .bool true) rfl (Or.inl rfl) ?_
    refine WpL_guard_no (oj := _) rfl rfl (by decide) (v := .bool true) rfl (Or.inl rfl) ?_
    refine WpL_val rfl rfl (by decide) (r_pick (b := true) (v := (.bool true)) rfl rfl) ?_
    refine WpL_val rfl rfl (by decide) (r_move (v := (.bool true)) rfl) ?_
    refine WpL_guard_no (oj := _) rfl rfl (by decide) (v := .bool true) rfl (Or.inl rfl) ?_
    refine WpL_guard_no (oj := _) rfl rfl (by decide) (v := .bool true) rfl (Or.inl rfl) ?_
    refine WpL_guard_no (oj := _) rfl rfl (by decide) (v := .bool true) rfl (Or.inl rfl) ?_
    refine WpL_guard_no (oj := _) rfl rfl (by decide) (v := .bool true) rfl (Or.inl rfl) ?_
    refine WpL_guard_no (oj := _) rfl rfl (by decide) (v := .bool true) rfl (Or.inl rfl) ?_
    refine WpL_val rfl rfl (by decide) (r_pick (b := true) (v := (.bool true)) rfl rfl) ?_
    refine WpL_nil ?_
    refine Wp_cond_true rfl ?_
    refine Wp_seq_region ?_
    refine WpL_val rfl rfl (by decide) (r_assign (v := (.bool false)) rfl) ?_
    refine WpL_nil ?_
    refine Wp_ret ?_
    refine thn_ret ?_
    refine fin_tmp Try.results7 (v := (.bool false)) rfl ?_
    exact ⟨bool_eq (by rw [hF]; simp at g1; simp [g1]), E⟩
  · have kg1 := g1
    replace kg1 := of_decide_eq_false kg1
    refine WpL_guard_yes (oj := _) rfl rfl (by decide) (congrArg Value.bool g1) ?_
    refine WpL_val rfl rfl (by decide) (r_fieldAddr (b := br) (o := 0) (o' := 1) rfl Try.underlying25 rfl siz22 rfl) ?_
    refine WpL_guard_yes (oj := _) rfl rfl (by decide) (congrArg Value.bool g1) ?_
    refine WpL_val rfl rfl (by decide) (r_load (v := (.slice sa t.set.length sc)) rfl flat22 (Br.cell rfl)) ?_
    refine WpL_guard_yes (oj := _) rfl rfl (by decide) (congrArg Value.bool g1) ?_
    refine WpL_val rfl rfl (by decide) (r_fieldAddr (b := bp) (o := 0) (o' := 1) rfl Try.underlying25 rfl siz22 rfl) ?_
    refine WpL_guard_yes (oj := _) rfl rfl (by decide) (congrArg Value.bool g1) ?_
    refine WpL_val rfl rfl (by decide) (r_load (v := (.slice sa2 u.set.length sc2)) rfl flat22 (Bp.cell rfl)) ?_
    refine WpL_guard_yes (oj := _) rfl rfl (by decide) (congrArg Value.bool g1) ?_
    refine WpL_enter rfl rfl (by decide) (r_callF (vs := [(.slice sa t.set.length sc), (.slice sa2 u.set.length sc2)]) Try.func18 nm18 bd18 rfl) (rspeq_c _ _ _ t.set u.set (SlAt.ext hts E) (SlAt.ext hus E)) ?_
    rintro _ w9 ⟨rfl, X9⟩
    replace Br := X9.keep Br
    replace Bp := X9.keep Bp
    replace E := E.ext X9
    refine WpL_guard_yes (oj := _) rfl rfl (by decide) (congrArg Value.bool g1) ?_
    refine WpL_val rfl rfl (by decide) (r_not (b := decide (t.set = u.set)) rfl) ?_
    refine WpL_val rfl rfl (by decide) (r_pick (b := decide ((t.kind : Int) ≠ u.kind)) (v := (.bool (!(decide (t.set = u.set))))) rfl (by rw [g1]; rfl)) ?_
    refine WpL_val rfl rfl (by decide) (r_move (v := (.bool (!(decide (t.set = u.set))))) rfl) ?_
    rcases Bool.eq_false_or_eq_true (!(decide (t.set = u.set))) with g2 | g2
    · have kg2 := g2
      refine WpL_guard_no (oj := _) rfl rfl (by decide) (v := .bool true) (congrArg Value.bool g2) (Or.inl rfl) ?_
      refine WpL_guard_no (oj := _) rfl rfl (by decide) (v := .bool true) (congrArg Value.bool g2) (Or.inl rfl) ?_
      refine WpL_guard_no (oj := _) rfl rfl (by decide) (v := .bool true) (congrArg Value.bool g2) (Or.inl rfl) ?_
      refine WpL_guard_no (oj := _) rfl rfl (by decide) (v := .bool true) (congrArg Value.bool g2) (Or.inl rfl) ?_
      refine WpL_guard_no (oj := _) rfl rfl (by decide) (v := .bool true) (congrArg Value.bool g2) (Or.inl rfl) ?_
      refine WpL_guard_no (oj := _) rfl rfl (by decide) (v := .bool true) (congrArg Value.bool g2) (Or.inl rfl) ?_
      refine WpL_guard_no (oj := _) rfl rfl (by decide) (v := .bool true) (congrArg Value.bool g2) (Or.inl rfl) ?_
      refine WpL_val rfl rfl (by decide) (r_pick (b := !(decide (t.set = u.set))) (v := (.bool true)) rfl (by rw [g2]; rfl)) ?_
      refine WpL_val rfl rfl (by decide) (r_move (v := (.bool true)) rfl) ?_
      refine WpL_guard_no (oj := _) rfl rfl (by decide) (v := .bool true) rfl (Or.inl rfl) ?_
      refine WpL_guard_no (oj := _) rfl rfl (by decide) (v := .bool true) rfl (Or.inl rfl) ?_
      refine WpL_guard_no (oj := _) rfl rfl (by decide) (v := .bool true) rfl (Or.inl rfl) ?_
      refine WpL_guard_no (oj := _) rfl rfl (by decide) (v := .bool true) rfl (Or.inl rfl) ?_
      refine WpL_guard_no (oj := _) rfl rfl (by decide) (v := .bool true) rfl (Or.inl rfl) ?_
      refine WpL_val rfl rfl (by decide) (r_pick (b := true) (v := (.bool true)) rfl rfl) ?_
      refine WpL_val rfl rfl (by decide) (r_move (v := (.bool true)) rfl) ?_
      refine WpL_guard_no (oj := _) rfl rfl (by decide) (v := .bool true) rfl (Or.inl rfl) ?_
      refine WpL_guard_no (oj := _) rfl rfl (by decide) (v := .bool true) rfl (Or.inl rfl) ?_
      refine WpL_guard_no (oj := _) rfl rfl (by decide) (v := .bool true) rfl (Or.inl rfl) ?_
      refine WpL_guard_no (oj := _) rfl rfl (by decide) (v := .bool true) rfl (Or.inl rfl) ?_
      refine WpL_guard_no (oj := _) rfl rfl (by decide) (v := .bool true) rfl (Or.inl rfl) ?_
      refine WpL_val rfl rfl (by decide) (r_pick (b := true) (v := (.bool true)) rfl rfl) ?_
      refine WpL_val rfl rfl (by decide) (r_move (v := (.bool true)) rfl) ?_
      refine WpL_guard_no (oj := _) rfl rfl (by decide) (v := .bool true) rfl (Or.inl rfl) ?_
      refine WpL_guard_no (oj := _) rfl rfl (by decide) (v := .bool true) rfl (Or.inl rfl) ?_
      refine WpL_guard_no (oj := _) rfl rfl (by decide) (v := .bool true) rfl (Or.inl rfl) ?_
      refine WpL_guard_no (oj := _) rfl rfl (by decide) (v := .bool true) rfl (Or.inl rfl) ?_
      refine WpL_guard_no (oj := _) rfl rfl (by decide) (v := .bool true) rfl (Or.inl rfl) ?_
      refine WpL_val rfl rfl (by decide) (r_pick (b := true) (v := (.bool true)) rfl rfl) ?_
      refine WpL_nil ?_
      refine Wp_cond_true rfl ?_
      refine Wp_seq_region ?_
      refine WpL_val rfl rfl (by decide) (r_assign (v := (.bool false)) rfl) ?_
      refine WpL_nil ?_
      refine Wp_ret ?_
      refine thn_ret ?_
      refine fin_tmp Try.results7 (v := (.bool false)) rfl ?_
      exact ⟨bool_eq (by rw [hF]; simp at g2; simp [g2]), E⟩
    · have kg2 := g2
      refine WpL_guard_yes (oj := _) rfl rfl (by decide) (congrArg Value.bool g2) ?_
      refine WpL_val rfl rfl (by decide) (r_fieldAddr (b := br) (o := 0) (o' := 2) rfl Try.underlying25 rfl siz23 rfl) ?_
      refine WpL_guard_yes (oj := _) rfl rfl (by decide) (congrArg Value.bool g2) ?_
      refine WpL_val rfl rfl (by decide) (r_load (v := (.slice aa t.args.length ac)) rfl flat23 (Br.cell rfl)) ?_
      refine WpL_guard_yes (oj := _) rfl rfl (by decide) (congrArg Value.bool g2) ?_
      refine WpL_val rfl rfl (by decide) (r_lenSlice (ad := aa) (n := t.args.length) (cap := ac) Try.underlying23 rfl) ?_
      refine WpL_guard_yes (oj := _) rfl rfl (by decide) (congrArg Value.bool g2) ?_
      refine WpL_val rfl rfl (by decide) (r_fieldAddr (b := bp) (o := 0) (o' := 2) rfl Try.underlying25 rfl siz23 rfl) ?_
      refine WpL_guard_yes (oj := _) rfl rfl (by decide) (congrArg Value.bool g2) ?_
      refine WpL_val rfl rfl (by decide) (r_load (v := (.slice aa2 u.args.length ac2)) rfl flat23 (Bp.cell rfl)) ?_
      refine WpL_guard_yes (oj := _) rfl rfl (by decide) (congrArg Value.bool g2) ?_
      refine WpL_val rfl rfl (by decide) (r_lenSlice (ad := aa2) (n := u.args.length) (cap := ac2) Try.underlying23 rfl) ?_
      refine WpL_guard_yes (oj := _) rfl rfl (by decide) (congrArg Value.bool g2) ?_
      refine WpL_val rfl rfl (by decide) (r_neq (k := .i64) (a := ((t.args.length : Nat) : Int)) (b := ((u.args.length : Nat) : Int)) rfl rfl) ?_
      refine WpL_val rfl rfl (by decide) (r_pick (b := !(decide (t.set = u.set))) (v := (.bool (decide ((((t.args.length : Nat) : Int) : Int) ≠ ((u.args.length : Nat) : Int))))) rfl (by rw [g2]; rfl)) ?_
      refine WpL_val rfl rfl (by decide) (r_move (v := (.bool (decide ((((t.args.length : Nat) : Int) : Int) ≠ ((u.args.length : Nat) : Int))))) rfl) ?_
      rcases Bool.eq_false_or_eq_true (decide ((((t.args.length : Nat) : Int) : Int) ≠ ((u.args.length : Nat) : Int))) with g3 | g3
      · have kg3 := g3
        replace kg3 := of_decide_eq_true kg3
        refine WpL_guard_no (oj := _) rfl rfl (by decide) (v := .bool true) (congrArg Value.bool g3) (Or.inl rfl) ?_
        refine WpL_guard_no (oj := _) rfl rfl (by decide) (v := .bool true) (congrArg Value.bool g3) (Or.inl rfl) ?_
        refine WpL_guard_no (oj := _) rfl rfl (by decide) (v := .bool true) (congrArg Value.bool g3) (Or.inl rfl) ?_
        refine WpL_guard_no (oj := _) rfl rfl (by decide) (v := .bool true) (congrArg Value.bool g3) (Or.inl rfl) ?_
        refine WpL_guard_no (oj := _) rfl rfl (by decide) (v := .bool true) (congrArg Value.bool g3) (Or.inl rfl) ?_
        refine WpL_val rfl rfl (by decide) (r_pick (b := decide ((((t.args.length : Nat) : Int) : Int) ≠ ((u.args.length : Nat) : Int))) (v := (.bool true)) rfl (by rw [g3]; rfl)) ?_
        refine WpL_val rfl rfl (by decide) (r_move (v := (.bool true)) rfl) ?_
        refine WpL_guard_no (oj := _) rfl rfl (by decide) (v := .bool true) rfl (Or.inl rfl) ?_
        refine WpL_guard_no (oj := _) rfl rfl (by decide) (v := .bool true) rfl (Or.inl rfl) ?_
        refine WpL_guard_no (oj := _) rfl rfl (by decide) (v := .bool true) rfl (Or.inl rfl) ?_
        refine WpL_guard_no (oj := _) rfl rfl (by decide) (v := .bool true) rfl (Or.inl rfl) ?_
        refine WpL_guard_no (oj := _) rfl rfl (by decide) (v := .bool true) rfl (Or.inl rfl) ?_
        refine WpL_val rfl rfl (by decide) (r_pick (b := true) (v := (.bool true)) rfl rfl) ?_
        refine WpL_val rfl rfl (by decide) (r_move (v := (.bool true)) rfl) ?_
        refine WpL_guard_no (oj := _) rfl rfl (by decide) (v := .bool true) rfl (Or.inl rfl) ?_
        refine WpL_guard_no (oj := _) rfl rfl (by decide) (v := .bool true) rfl (Or.inl rfl) ?_
        refine WpL_guard_no (oj := _) rfl rfl (by decide) (v := .bool true) rfl (Or.inl rfl) ?_
        refine WpL_guard_no (oj := _) rfl rfl (by decide) (v := .bool true) rfl (Or.inl rfl) ?_
        refine WpL_guard_no (oj := _) rfl rfl (by decide) (v := .bool true) rfl (Or.inl rfl) ?_
        refine WpL_val rfl rfl (by decide) (r_pick (b := true) (v := (.bool true)) rfl rfl) ?_
        refine WpL_nil ?_
        refine Wp_cond_true rfl ?_
        refine Wp_seq_region ?_
        refine WpL_val rfl rfl (by decide) (r_assign (v := (.bool false)) rfl) ?_
        refine WpL_nil ?_
        refine Wp_ret ?_
        refine thn_ret ?_
        refine fin_tmp Try.results7 (v := (.bool false)) rfl ?_
        exact ⟨bool_eq (by symm; rw [← Bool.not_eq_true, sameT_iff]; intro h; subst h; simp at g3), E⟩
      · have kg3 := g3
        replace kg3 := of_decide_eq_false kg3
        refine WpL_guard_yes (oj := _) rfl rfl (by decide) (congrArg Value.bool g3) ?_
        refine WpL_val rfl rfl (by decide) (r_fieldAddr (b := br) (o := 0) (o' := 3) rfl Try.underlying25 rfl siz3 rfl) ?_
        refine WpL_guard_yes (oj := _) rfl rfl (by decide) (congrArg Value.bool g3) ?_
        refine WpL_val rfl rfl (by decide) (r_load (v := (.int .i64 t.mn)) rfl flat3 (Br.cell rfl)) ?_
        refine WpL_guard_yes (oj := _) rfl rfl (by decide) (congrArg Value.bool g3) ?_
        refine WpL_val rfl rfl (by decide) (r_fieldAddr (b := bp) (o := 0) (o' := 3) rfl Try.underlying25 rfl siz3 rfl) ?_
        refine WpL_guard_yes (oj := _) rfl rfl (by decide) (congrArg Value.bool g3) ?_
        refine WpL_val rfl rfl (by decide) (r_load (v := (.int .i64 u.mn)) rfl flat3 (Bp.cell rfl)) ?_
        refine WpL_guard_yes (oj := _) rfl rfl (by decide) (congrArg Value.bool g3) ?_
        refine WpL_val rfl rfl (by decide) (r_neq (k := .i64) (a := t.mn) (b := u.mn) rfl rfl) ?_
        refine WpL_val rfl rfl (by decide) (r_pick (b := decide ((((t.args.length : Nat) : Int) : Int) ≠ ((u.args.length : Nat) : Int))) (v := (.bool (decide ((t.mn : Int) ≠ u.mn)))) rfl (by rw [g3]; rfl)) ?_
        refine WpL_val rfl rfl (by decide) (r_move (v := (.bool (decide ((t.mn : Int) ≠ u.mn)))) rfl) ?_
        rcases Bool.eq_false_or_eq_true (decide ((t.mn : Int) ≠ u.mn)) with g4 | g4
        · have kg4 := g4
          replace kg4 := of_decide_eq_true kg4
          refine WpL_guard_no (oj := _) rfl rfl (by decide) (v := .bool true) (congrArg Value.bool g4) (Or.inl rfl) ?_
          refine WpL_guard_no (oj := _) rfl rfl (by decide) (v := .bool true) (congrArg Value.bool g4) (Or.inl rfl) ?_
          refine WpL_guard_no (oj := _) rfl rfl (by decide) (v := .bool true) (congrArg Value.bool g4) (Or.inl rfl) ?_
          refine WpL_guard_no (oj := _) rfl rfl (by decide) (v := .bool true) (congrArg Value.bool g4) (Or.inl rfl) ?_
          refine WpL_guard_no (oj := _) rfl rfl (by decide) (v := .bool true) (congrArg Value.bool g4) (Or.inl rfl) ?_
          refine WpL_val rfl rfl (by decide) (r_pick (b := decide ((t.mn : Int) ≠ u.mn)) (v := (.bool true)) rfl (by rw [g4]; rfl)) ?_
          refine WpL_val rfl rfl (by decide) (r_move (v := (.bool true)) rfl) ?_
          refine WpL_guard_no (oj := _) rfl rfl (by decide) (v := .bool true) rfl (Or.inl rfl) ?_
          refine WpL_guard_no (oj := _) rfl rfl (by decide) (v := .bool true) rfl (Or.inl rfl) ?_
          refine WpL_guard_no (oj := _) rfl rfl (by decide) (v := .bool true) rfl (Or.inl rfl) ?_
          refine WpL_guard_no (oj := _) rfl rfl (by decide) (v := .bool true) rfl (Or.inl rfl) ?_
          refine WpL_guard_no (oj := _) rfl rfl (by decide) (v := .bool true) rfl (Or.inl rfl) ?_
          refine WpL_val rfl rfl (by decide) (r_pick (b := true) (v := (.bool true)) rfl rfl) ?_
          refine WpL_nil ?_
          refine Wp_cond_true rfl ?_
          refine Wp_seq_region ?_
          refine WpL_val rfl rfl (by decide) (r_assign (v := (.bool false)) rfl) ?_
          refine WpL_nil ?_
          refine Wp_ret ?_
          refine thn_ret ?_
          refine fin_tmp Try.results7 (v := (.bool false)) rfl ?_
          exact ⟨bool_eq (by rw [hF]; simp at g4; simp [g4]), E⟩
        · have kg4 := g4
          replace kg4 := of_decide_eq_false kg4
          refine WpL_guard_yes (oj := _) rfl rfl (by decide) (congrArg Value.bool g4) ?_
          refine WpL_val rfl rfl (by decide) (r_fieldAddr (b := br) (o := 0) (o' := 4) rfl Try.underlying25 rfl siz3 rfl) ?_
          refine WpL_guard_yes (oj := _) rfl rfl (by decide) (congrArg Value.bool g4) ?_
          refine WpL_val rfl rfl (by decide) (r_load (v := (.int .i64 t.mx)) rfl flat3 (Br.cell rfl)) ?_
          refine WpL_guard_yes (oj := _) rfl rfl (by decide) (congrArg Value.bool g4) ?_
          refine WpL_val rfl rfl (by decide) (r_fieldAddr (b := bp) (o := 0) (o' := 4) rfl Try.underlying25 rfl siz3 rfl) ?_
          refine WpL_guard_yes (oj := _) rfl rfl (by decide) (congrArg Value.bool g4) ?_
          refine WpL_val rfl rfl (by decide) (r_load (v := (.int .i64 u.mx)) rfl flat3 (Bp.cell rfl)) ?_
          refine WpL_guard_yes (oj := _) rfl rfl (by decide) (congrArg Value.bool g4) ?_
          refine WpL_val rfl rfl (by decide) (r_neq (k := .i64) (a := t.mx) (b := u.mx) rfl rfl) ?_
          refine WpL_val rfl rfl (by decide) (r_pick (b := decide ((t.mn : Int) ≠ u.mn)) (v := (.bool (decide ((t.mx : Int) ≠ u.mx)))) rfl (by rw [g4]; rfl)) ?_
          refine WpL_val rfl rfl (by decide) (r_move (v := (.bool (decide ((t.mx : Int) ≠ u.mx)))) rfl) ?_
          rcases Bool.eq_false_or_eq_true (decide ((t.mx : Int) ≠ u.mx)) with g5 | g5
          · have kg5 := g5
            replace kg5 := of_decide_eq_true kg5
            refine WpL_guard_no (oj := _) rfl rfl (by decide) (v := .bool true) (congrArg Value.bool g5) (Or.inl rfl) ?_
            refine WpL_guard_no (oj := _) rfl rfl (by decide) (v := .bool true) (congrArg Value.bool g5) (Or.inl rfl) ?_
            refine WpL_guard_no (oj := _) rfl rfl (by decide) (v := .bool true) (congrArg Value.bool g5) (Or.inl rfl) ?_
            refine WpL_guard_no (oj := _) rfl rfl (by decide) (v := .bool true) (congrArg Value.bool g5) (Or.inl rfl) ?_
            refine WpL_guard_no (oj := _) rfl rfl (by decide) (v := .bool true) (congrArg Value.bool g5) (Or.inl rfl) ?_
            refine WpL_val rfl rfl (by decide) (r_pick (b := decide ((t.mx : Int) ≠ u.mx)) (v := (.bool true)) rfl (by rw [g5]; rfl)) ?_
            refine WpL_nil ?_
            refine Wp_cond_true rfl ?_
            refine Wp_seq_region ?_
            refine WpL_val rfl rfl (by decide) (r_assign (v := (.bool false)) rfl) ?_
            refine WpL_nil ?_
            refine Wp_ret ?_
            refine thn_ret ?_
            refine fin_tmp Try.results7 (v := (.bool false)) rfl ?_
            exact ⟨bool_eq (by rw [hF]; simp at g5; simp [g5]), E⟩
          · have kg5 := g5
            replace kg5 := of_decide_eq_false kg5
            refine WpL_guard_yes (oj := _) rfl rfl (by decide) (congrArg Value.bool g5) ?_
            refine WpL_val rfl rfl (by decide) (r_fieldAddr (b := br) (o := 0) (o' := 5) rfl Try.underlying25 rfl siz4 rfl) ?_
            refine WpL_guard_yes (oj := _) rfl rfl (by decide) (congrArg Value.bool g5) ?_
            refine WpL_val rfl rfl (by decide) (r_load (v := (.bool t.neg)) rfl flat4 (Br.cell rfl)) ?_
            refine WpL_guard_yes (oj := _) rfl rfl (by decide) (congrArg Value.bool g5) ?_
            refine WpL_val rfl rfl (by decide) (r_fieldAddr (b := bp) (o := 0) (o' := 5) rfl Try.underlying25 rfl siz4 rfl) ?_
            refine WpL_guard_yes (oj := _) rfl rfl (by decide) (congrArg Value.bool g5) ?_
            refine WpL_val rfl rfl (by decide) (r_load (v := (.bool u.neg)) rfl flat4 (Bp.cell rfl)) ?_
            refine WpL_guard_yes (oj := _) rfl rfl (by decide) (congrArg Value.bool g5) ?_
            refine WpL_val rfl rfl (by decide) (r_neqB (p := t.neg) (q := u.neg) Try.underlying4 rfl rfl) ?_
            refine WpL_val rfl rfl (by decide) (r_pick (b := decide ((t.mx : Int) ≠ u.mx)) (v := (.bool (t.neg != u.neg))) rfl (by rw [g5]; rfl)) ?_
            refine WpL_nil ?_
            refine Wp_cond (b := t.neg != u.neg) rfl (fun g6 => ?_) (fun g6 => ?_)
            · have kg6 := g6
              refine Wp_seq_region ?_
              refine WpL_val rfl rfl (by decide) (r_assign (v := (.bool false)) rfl) ?_
              refine WpL_nil ?_
              refine Wp_ret ?_
              refine thn_ret ?_
              refine fin_tmp Try.results7 (v := (.bool false)) rfl ?_
              exact ⟨bool_eq (by rw [hF]; simp at g6; simp [g6]), E⟩
            · have kg6 := g6
              simp at g1 g2 g3 g4 g5 g6
              refine Wp_skip ?_
              refine thn_normal ?_
              refine Wp_seq ?_
              refine Wp_seq_region ?_
              refine WpL_val rfl rfl (by decide) (r_fieldAddr (b := br) (o := 0) (o' := 2) rfl Try.underlying25 rfl siz23 rfl) ?_
              refine WpL_val rfl rfl (by decide) (r_load (v := (.slice aa t.args.length ac)) rfl flat23 (Br.cell rfl)) ?_
              refine WpL_val rfl rfl (by decide) (r_lenSlice (ad := aa) (n := t.args.length) (cap := ac) Try.underlying23 rfl) ?_
              refine WpL_val rfl rfl (by decide) (r_move (v := (.int .i64 0)) rfl) ?_
              refine WpL_nil ?_
              refine Wp_block ?_
              refine Wp_loop (fun nn_ σ W7 => ∃ (k : Nat), (∃ jj_, σ = upds jj_ [(2, (.pointer (some ⟨br, 0, none⟩))), (3, (.pointer (some ⟨bp, 0, none⟩))), (51, (.int .i64 ((t.args.length : Nat) : Int))), (52, (.int .i64 ((k : Nat) : Int)))]) ∧ Chg none1 w0 W7 ∧ Blk W7 br #[(.int .i64 t.kind), (.slice sa t.set.length sc), (.slice aa t.args.length ac), (.int .i64 t.mn), (.int .i64 t.mx), (.bool t.neg)] 25 ∧ Blk W7 bp #[(.int .i64 u.kind), (.slice sa2 u.set.length sc2), (.slice aa2 u.args.length ac2), (.int .i64 u.mn), (.int .i64 u.mx), (.bool u.neg)] 25 ∧ (k ≤ t.args.length) ∧ (∀ (i : Nat), i < k → t.args[i]? = u.args[i]?) ∧ nn_ = t.args.length - k) (n := t.args.length - 0) ?_ ?_
              · exact ⟨0, Fits.out ⟨rfl, rfl, rfl, rfl, trivial⟩, E, Br, Bp, Nat.zero_le _, (fun i h => absurd h (Nat.not_lt_zero _)), rfl⟩
              · clear E Br Bp
                rintro _ _ W7 ⟨k, ⟨j7, rfl⟩, E, Br, Bp, hk, heq, rfl⟩
                refine Wp_seq_region ?_
                refine WpL_val rfl rfl (by decide) (r_lss (k := .i64) (a := ((k : Nat) : Int)) (b := ((t.args.length : Nat) : Int)) rfl rfl) ?_
                refine WpL_nil ?_
                refine Wp_seq ?_
                refine Wp_cond (b := decide ((((k : Nat) : Int) : Int) < ((t.args.length : Nat) : Int))) rfl (fun hlt => ?_) (fun hlt => ?_)
                · have khlt := hlt
                  replace hlt := of_decide_eq_true hlt
                  obtain ⟨x, hx⟩ := get_of_lt (l := t.args) (i := k) (by omega)
                  obtain ⟨y, hy⟩ := get_of_lt (l := u.args) (i := k) (by omega)
                  obtain ⟨b1, o1, rfl, hc1⟩ := (ReAt.rs ht0).cells (by omega)
                  obtain ⟨b2, o2, rfl, hc2⟩ := (ReAt.rs hu0).cells (by omega)
                  obtain ⟨xs, hcx, hxr⟩ := hc1 k x hx
                  obtain ⟨ys, hcy, hyr⟩ := hc2 k y hy
                  have hxr0 := hxr
                  have hyr0 := hyr
                  obtain ⟨xsa, xsc, xaa, xac, rfl, _, _, _⟩ := hxr.form
                  obtain ⟨ysa, ysc, yaa, yac, rfl, _, _, _⟩ := hyr.form
                  refine Wp_skip ?_
                  refine thn_normal ?_
                  refine Wp_seq ?_
                  refine Wp_block ?_
                  refine Wp_seq_region ?_
                  refine WpL_val rfl rfl (by decide) (r_move (v := (.int .i64 ((k : Nat) : Int))) rfl) ?_
                  refine WpL_val rfl rfl (by decide) (r_assign (v := (.int .i64 ((k : Nat) : Int))) rfl) ?_
                  refine WpL_nil ?_
                  refine Wp_seq ?_
                  obtain ⟨Fs9, hFs9⟩ : ∃ Fs : List Fact, Fs = [.eq (.pointer (some ⟨br, 2, none⟩)), .eq (.slice (some ⟨b1, o1, none⟩) t.args.length ac), .eq (.int .i64 ((k : Nat) : Int)), .eq (.pointer (some ⟨b1, o1 + k * 6, none⟩)), .eq (.agg #[(.int .i64 x.kind), (.slice xsa x.set.length xsc), (.slice xaa x.args.length xac), (.int .i64 x.mn), (.int .i64 x.mx), (.bool x.neg)]), .eq (.pointer (some ⟨bp, 2, none⟩)), .eq (.slice (some ⟨b2, o2, none⟩) u.args.length ac2), .eq (.int .i64 ((k : Nat) : Int)), .eq (.pointer (some ⟨b2, o2 + k * 6, none⟩)), .eq (.agg #[(.int .i64 y.kind), (.slice ysa y.set.length ysc), (.slice yaa y.args.length yac), (.int .i64 y.mn), (.int .i64 y.mx), (.bool y.neg)]), .eq (.bool (sameT x y)), .eq (.bool (!(sameT x y)))] := ⟨_, rfl⟩
                  refine Wp_dag [55, 56, 57, 58, 59, 60, 61, 62, 63, 64, 65, 66] [[], [0], [], [1, 2], [3], [], [5], [], [6, 7], [8], [4, 9], [10]] Fs9 hFs9 mixed (by kernel_rfl) (by kernel_rfl) ?_ ?_
                  · intro wd X0
                    refine DagSteps.cons (fun s' w' X U H => Or.inl ⟨?_, ?_⟩) ?_
                    · exact Guarded_none rfl
                    · exact Does_val (r_fieldAddr (b := br) (o := 0) (o' := 2) (U 2 rfl) Try.underlying25 rfl siz23 rfl) (Ext.refl _) rfl
                    refine DagSteps.cons (fun s' w' X U H => Or.inl ⟨?_, ?_⟩) ?_
                    · exact Guarded_none rfl
                    · have e55 : s' 55 = (.pointer (some ⟨br, 2, none⟩)) := H 0 rfl 55 (.eq (.pointer (some ⟨br, 2, none⟩))) rfl (by rw [hFs9]; rfl)
                      exact Does_val (r_load (v := (.slice (some ⟨b1, o1, none⟩) t.args.length ac)) e55 flat23 (((X0.trans X).keep Br).cell rfl)) (Ext.refl _) rfl
                    refine DagSteps.cons (fun s' w' X U H => Or.inl ⟨?_, ?_⟩) ?_
                    · exact Guarded_none rfl
                    · exact Does_val (r_move (v := (.int .i64 ((k : Nat) : Int))) (U 5 rfl)) (Ext.refl _) rfl
                    refine DagSteps.cons (fun s' w' X U H => Or.inl ⟨?_, ?_⟩) ?_
                    · exact Guarded_none rfl
                    · have e56 : s' 56 = (.slice (some ⟨b1, o1, none⟩) t.args.length ac) := H 1 rfl 56 (.eq (.slice (some ⟨b1, o1, none⟩) t.args.length ac)) rfl (by rw [hFs9]; rfl)
                      have e57 : s' 57 = (.int .i64 ((k : Nat) : Int)) := H 2 rfl 57 (.eq (.int .i64 ((k : Nat) : Int))) rfl (by rw [hFs9]; rfl)
                      exact Does_val (r_indexSlice (b := b1) (o := o1) (len := t.args.length) (cap := ac) (i := k) (o' := o1 + k * 6) e56 e57 rfl Try.underlying23 siz25 (by omega) (by omega)) (Ext.refl _) rfl
                    refine DagSteps.cons (fun s' w' X U H => Or.inl ⟨?_, ?_⟩) ?_
                    · exact Guarded_none rfl
                    · have e58 : s' 58 = (.pointer (some ⟨b1, o1 + k * 6, none⟩)) := H 3 rfl 58 (.eq (.pointer (some ⟨b1, o1 + k * 6, none⟩))) rfl (by rw [hFs9]; rfl)
                      exact Does_val (r_loadAgg (vs := [(.int .i64 x.kind), (.slice xsa x.set.length xsc), (.slice xaa x.args.length xac), (.int .i64 x.mn), (.int .i64 x.mx), (.bool x.neg)]) e58 agg25 siz25 rfl (hcx.ext (Ext.trans E (X0.trans X)))) (Ext.refl _) rfl
                    refine DagSteps.cons (fun s' w' X U H => Or.inl ⟨?_, ?_⟩) ?_
                    · exact Guarded_none rfl
                    · exact Does_val (r_fieldAddr (b := bp) (o := 0) (o' := 2) (U 3 rfl) Try.underlying25 rfl siz23 rfl) (Ext.refl _) rfl
                    refine DagSteps.cons (fun s' w' X U H => Or.inl ⟨?_, ?_⟩) ?_
                    · exact Guarded_none rfl
                    · have e60 : s' 60 = (.pointer (some ⟨bp, 2, none⟩)) := H 5 rfl 60 (.eq (.pointer (some ⟨bp, 2, none⟩))) rfl (by rw [hFs9]; rfl)
                      exact Does_val (r_load (v := (.slice (some ⟨b2, o2, none⟩) u.args.length ac2)) e60 flat23 (((X0.trans X).keep Bp).cell rfl)) (Ext.refl _) rfl
                    refine DagSteps.cons (fun s' w' X U H => Or.inl ⟨?_, ?_⟩) ?_
                    · exact Guarded_none rfl
                    · exact Does_val (r_move (v := (.int .i64 ((k : Nat) : Int))) (U 5 rfl)) (Ext.refl _) rfl
                    refine DagSteps.cons (fun s' w' X U H => Or.inl ⟨?_, ?_⟩) ?_
                    · exact Guarded_none rfl
                    · have e61 : s' 61 = (.slice (some ⟨b2, o2, none⟩) u.args.length ac2) := H 6 rfl 61 (.eq (.slice (some ⟨b2, o2, none⟩) u.args.length ac2)) rfl (by rw [hFs9]; rfl)
                      have e62 : s' 62 = (.int .i64 ((k : Nat) : Int)) := H 7 rfl 62 (.eq (.int .i64 ((k : Nat) : Int))) rfl (by rw [hFs9]; rfl)
                      exact Does_val (r_indexSlice (b := b2) (o := o2) (len := u.args.length) (cap := ac2) (i := k) (o' := o2 + k * 6) e61 e62 rfl Try.underlying23 siz25 (by omega) (by omega)) (Ext.refl _) rfl
                    refine DagSteps.cons (fun s' w' X U H => Or.inl ⟨?_, ?_⟩) ?_
                    · exact Guarded_none rfl
                    · have e63 : s' 63 = (.pointer (some ⟨b2, o2 + k * 6, none⟩)) := H 8 rfl 63 (.eq (.pointer (some ⟨b2, o2 + k * 6, none⟩))) rfl (by rw [hFs9]; rfl)
                      exact Does_val (r_loadAgg (vs := [(.int .i64 y.kind), (.slice ysa y.set.length ysc), (.slice yaa y.args.length yac), (.int .i64 y.mn), (.int .i64 y.mx), (.bool y.neg)]) e63 agg25 siz25 rfl (hcy.ext (Ext.trans E (X0.trans X)))) (Ext.refl _) rfl
                    refine DagSteps.cons (fun s' w' X U H => Or.inl ⟨?_, ?_⟩) ?_
                    · exact Guarded_none rfl
                    · have e59 : s' 59 = (.agg #[(.int .i64 x.kind), (.slice xsa x.set.length xsc), (.slice xaa x.args.length xac), (.int .i64 x.mn), (.int .i64 x.mx), (.bool x.neg)]) := H 4 rfl 59 (.eq (.agg #[(.int .i64 x.kind), (.slice xsa x.set.length xsc), (.slice xaa x.args.length xac), (.int .i64 x.mn), (.int .i64 x.mx), (.bool x.neg)])) rfl (by rw [hFs9]; rfl)
                      have e64 : s' 64 = (.agg #[(.int .i64 y.kind), (.slice ysa y.set.length ysc), (.slice yaa y.args.length yac), (.int .i64 y.mn), (.int .i64 y.mx), (.bool y.neg)]) := H 9 rfl 64 (.eq (.agg #[(.int .i64 y.kind), (.slice ysa y.set.length ysc), (.slice yaa y.args.length yac), (.int .i64 y.mn), (.int .i64 y.mx), (.bool y.neg)])) rfl (by rw [hFs9]; rfl)
                      exact Does_enter (r_callF (vs := [(.agg #[(.int .i64 x.kind), (.slice xsa x.set.length xsc), (.slice xaa x.args.length xac), (.int .i64 x.mn), (.int .i64 x.mx), (.bool x.neg)]), (.agg #[(.int .i64 y.kind), (.slice ysa y.set.length ysc), (.slice yaa y.args.length yac), (.int .i64 y.mn), (.int .i64 y.mx), (.bool y.neg)])]) Try.func7 nm7 bd7 (lst2 e59 e64)) (ih x y _ _ _ (by have := Re.size_arg hx; omega) (ReAt.ext (Ext.trans E (X0.trans X)) x hxr0) (ReAt.ext (Ext.trans E (X0.trans X)) y hyr0))
                    refine DagSteps.cons (fun s' w' X U H => Or.inl ⟨?_, ?_⟩) ?_
                    · exact Guarded_none rfl
                    · have e65 : s' 65 = (.bool (sameT x y)) := H 10 rfl 65 (.eq (.bool (sameT x y))) rfl (by rw [hFs9]; rfl)
                      exact Does_val (r_not (b := sameT x y) e65) (Ext.refl _) rfl
                    exact DagSteps.nil
                  · intro s' w9 X9 U H
                    obtain ⟨j9, rfl⟩ := Fits.out (σ := s') (l := [(2, (.pointer (some ⟨br, 0, none⟩))), (3, (.pointer (some ⟨bp, 0, none⟩))), (5, (.int .i64 ((k : Nat) : Int))), (51, (.int .i64 ((t.args.length : Nat) : Int))), (52, (.int .i64 ((k : Nat) : Int))), (53, (.bool (decide ((((k : Nat) : Int) : Int) < ((t.args.length : Nat) : Int))))), (54, (.int .i64 ((k : Nat) : Int))), (55, (.pointer (some ⟨br, 2, none⟩))), (56, (.slice (some ⟨b1, o1, none⟩) t.args.length ac)), (57, (.int .i64 ((k : Nat) : Int))), (58, (.pointer (some ⟨b1, o1 + k * 6, none⟩))), (59, (.agg #[(.int .i64 x.kind), (.slice xsa x.set.length xsc), (.slice xaa x.args.length xac), (.int .i64 x.mn), (.int .i64 x.mx), (.bool x.neg)])), (60, (.pointer (some ⟨bp, 2, none⟩))), (61, (.slice (some ⟨b2, o2, none⟩) u.args.length ac2)), (62, (.int .i64 ((k : Nat) : Int))), (63, (.pointer (some ⟨b2, o2 + k * 6, none⟩))), (64, (.agg #[(.int .i64 y.kind), (.slice ysa y.set.length ysc), (.slice yaa y.args.length yac), (.int .i64 y.mn), (.int .i64 y.mx), (.bool y.neg)])), (65, (.bool (sameT x y))), (66, (.bool (!(sameT x y))))]) ⟨U 2 rfl, U 3 rfl, U 5 rfl, U 51 rfl, U 52 rfl, U 53 rfl, U 54 rfl, (show s' 55 = (.pointer (some ⟨br, 2, none⟩)) from H 0 55 (.eq (.pointer (some ⟨br, 2, none⟩))) rfl (by rw [hFs9]; rfl)), (show s' 56 = (.slice (some ⟨b1, o1, none⟩) t.args.length ac) from H 1 56 (.eq (.slice (some ⟨b1, o1, none⟩) t.args.length ac)) rfl (by rw [hFs9]; rfl)), (show s' 57 = (.int .i64 ((k : Nat) : Int)) from H 2 57 (.eq (.int .i64 ((k : Nat) : Int))) rfl (by rw [hFs9]; rfl)), (show s' 58 = (.pointer (some ⟨b1, o1 + k * 6, none⟩)) from H 3 58 (.eq (.pointer (some ⟨b1, o1 + k * 6, none⟩))) rfl (by rw [hFs9]; rfl)), (show s' 59 = (.agg #[(.int .i64 x.kind), (.slice xsa x.set.length xsc), (.slice xaa x.args.length xac), (.int .i64 x.mn), (.int .i64 x.mx), (.bool x.neg)]) from H 4 59 (.eq (.agg #[(.int .i64 x.kind), (.slice xsa x.set.length xsc), (.slice xaa x.args.length xac), (.int .i64 x.mn), (.int .i64 x.mx), (.bool x.neg)])) rfl (by rw [hFs9]; rfl)), (show s' 60 = (.pointer (some ⟨bp, 2, none⟩)) from H 5 60 (.eq (.pointer (some ⟨bp, 2, none⟩))) rfl (by rw [hFs9]; rfl)), (show s' 61 = (.slice (some ⟨b2, o2, none⟩) u.args.length ac2) from H 6 61 (.eq (.slice (some ⟨b2, o2, none⟩) u.args.length ac2)) rfl (by rw [hFs9]; rfl)), (show s' 62 = (.int .i64 ((k : Nat) : Int)) from H 7 62 (.eq (.int .i64 ((k : Nat) : Int))) rfl (by rw [hFs9]; rfl)), (show s' 63 = (.pointer (some ⟨b2, o2 + k * 6, none⟩)) from H 8 63 (.eq (.pointer (some ⟨b2, o2 + k * 6, none⟩))) rfl (by rw [hFs9]; rfl)), (show s' 64 = (.agg #[(.int .i64 y.kind), (.slice ysa y.set.length ysc), (.slice yaa y.args.length yac), (.int .i64 y.mn), (.int .i64 y.mx), (.bool y.neg)]) from H 9 64 (.eq (.agg #[(.int .i64 y.kind), (.slice ysa y.set.length ysc), (.slice yaa y.args.length yac), (.int .i64 y.mn), (.int .i64 y.mx), (.bool y.neg)])) rfl (by rw [hFs9]; rfl)), (show s' 65 = (.bool (sameT x y)) from H 10 65 (.eq (.bool (sameT x y))) rfl (by rw [hFs9]; rfl)), (show s' 66 = (.bool (!(sameT x y))) from H 11 66 (.eq (.bool (!(sameT x y)))) rfl (by rw [hFs9]; rfl)), trivial⟩
                    clear U H
                    replace Br := X9.keep Br
                    replace Bp := X9.keep Bp
                    replace E := E.ext X9
                    refine thn_normal ?_
                    refine Wp_cond (b := !(sameT x y)) rfl (fun hpq => ?_) (fun hpq => ?_)
                    · have khpq := hpq
                      replace hpq := by simpa using hpq
                      refine Wp_seq_region ?_
                      refine WpL_val rfl rfl (by decide) (r_assign (v := (.bool false)) rfl) ?_
                      refine WpL_nil ?_
                      refine Wp_ret ?_
                      refine inB_ret ?_
                      refine thn_ret ?_
                      refine thn_ret ?_
                      refine inB_ret ?_
                      refine thn_ret ?_
                      refine fin_tmp Try.results7 (v := (.bool false)) rfl ?_
                      exact ⟨bool_eq (by symm; rw [← Bool.not_eq_true, sameT_iff]; intro h; subst h; rw [hx] at hy; cases hy; rw [(sameT_iff x x).2 rfl] at hpq; cases hpq), E⟩
                    · have khpq := hpq
                      replace hpq := by simpa using hpq
                      have hpq2 : x = y := (sameT_iff x y).1 (by simpa using hpq)
                      refine Wp_skip ?_
                      refine inB_normal ?_
                      refine thn_normal ?_
                      refine Wp_region ?_
                      refine WpL_val rfl rfl (by decide) (r_add (k := .i64) (a := ((k : Nat) : Int)) (b := 1) (c := ((k : Nat) : Int) + 1) rfl rfl (wI64 (by omega))) ?_
                      refine WpL_val rfl rfl (by decide) (r_move (v := (.int .i64 (((k : Nat) : Int) + 1))) rfl) ?_
                      refine WpL_nil ?_
                      refine thn_normal ?_
                      exact ⟨t.args.length - (k + 1), by omega, k + 1, Fits.out ⟨rfl, rfl, rfl, rfl, trivial⟩, E, Br, Bp, (by omega), (fun i hi => by rcases Nat.lt_or_ge i k with h | h; exact heq i h; obtain rfl : i = k := (by omega); rw [hx, hy, hpq2]), rfl⟩
                · have khlt := hlt
                  replace hlt := of_decide_eq_false hlt
                  have hkk : k = t.args.length := by omega
                  refine Wp_exit ?_
                  refine thn_exit ?_
                  refine thn_exit ?_
                  refine inB_here ?_
                  refine thn_normal ?_
                  refine Wp_seq_region ?_
                  refine WpL_val rfl rfl (by decide) (r_assign (v := (.bool true)) rfl) ?_
                  refine WpL_nil ?_
                  refine Wp_ret ?_
                  refine fin_tmp Try.results7 (v := (.bool true)) rfl ?_
                  exact ⟨bool_eq (by symm; rw [hF, (sameTs_iff t.args u.args).2 (get_ext (by omega) (fun i hi => heq i (by omega)))]; simp [g1, g2, g4, g5, g6]), E⟩

theorem rnone_c (w0 : World) : Ret Try.prog 34 #[] w0 fun v w => v = .agg #[.int .i64 0, .slice none 0 0, .slice none 0 0, .int .i64 0, .int .i64 0, .bool false] ∧ Ext w0 w := by
  refine Ret_of Try.func34 rfl Try.ntmps34 (Nat.le_of_ble_eq_true rfl) ?_
  have E : Chg none1 w0 w0 := Chg.refl _ _
  refine Wp_seq_region ?_
  refine s_alloc (c := #[(.int .i64 0), (.slice none 0 0), (.slice none 0 0), (.int .i64 0), (.int .i64 0), (.bool false)]) (by decide) zer25 rfl ?_
  intro b1 w1 N1
  have F1 := N1.ge E
  replace E := E.ext N1.ext
  have B1 := N1.blk
  refine WpL_nil ?_
  refine Wp_seq_region ?_
  refine WpL_val rfl rfl (by decide) (r_build (ps := []) (v := (.agg #[(.int .i64 0), (.slice none 0 0), (.slice none 0 0), (.int .i64 0), (.int .i64 0), (.bool false)])) rfl (by kernel_rfl)) ?_
  refine s_storeAgg (b := b1) (o := 0) (c' := #[(.int .i64 0), (.slice none 0 0), (.slice none 0 0), (.int .i64 0), (.int .i64 0), (.bool false)]) rfl rfl (by simp [Value.oneCell']) siz25 rfl B1 (by simp) rfl ?_
  intro w2 S2
  replace E := S2.step E (by first | exact Or.inl (by omega) | exact Or.inr rfl | exact Or.inr (by assumption) | exact Or.inr (by simp) | exact Or.inr (by omega) | exact Or.inr (by dsimp only; omega))
  replace B1 := S2.blk
  refine WpL_nil ?_
  refine Wp_ret ?_
  refine fin_agg Try.results34 (vs := [(.int .i64 0), (.slice none 0 0), (.slice none 0 0), (.int .i64 0), (.int .i64 0), (.bool false)]) (b := b1) rfl agg25 siz25 rfl (B1.cells rfl) ?_
  exact ⟨rfl, E⟩
theorem rempty_c (w0 : World) : Ret Try.prog 33 #[] w0 fun v w => v = .agg #[.int .i64 1, .slice none 0 0, .slice none 0 0, .int .i64 0, .int .i64 0, .bool false] ∧ Ext w0 w := by
  refine Ret_of Try.func33 rfl Try.ntmps33 (Nat.le_of_ble_eq_true rfl) ?_
  have E : Chg none1 w0 w0 := Chg.refl _ _
  refine Wp_seq_region ?_
  refine s_alloc (c := #[(.int .i64 0), (.slice none 0 0), (.slice none 0 0), (.int .i64 0), (.int .i64 0), (.bool false)]) (by decide) zer25 rfl ?_
  intro b1 w1 N1
  have F1 := N1.ge E
  replace E := E.ext N1.ext
  have B1 := N1.blk
  refine WpL_nil ?_
  refine Wp_seq_region ?_
  refine WpL_val rfl rfl (by decide) (r_build (ps := [(0, (.int .i64 1))]) (v := (.agg #[(.int .i64 1), (.slice none 0 0), (.slice none 0 0), (.int .i64 0), (.int .i64 0), (.bool false)])) rfl (by kernel_rfl)) ?_
  refine s_storeAgg (b := b1) (o := 0) (c' := #[(.int .i64 1), (.slice none 0 0), (.slice none 0 0), (.int .i64 0), (.int .i64 0), (.bool false)]) rfl rfl (by simp [Value.oneCell']) siz25 rfl B1 (by simp) rfl ?_
  intro w2 S2
  replace E := S2.step E (by first | exact Or.inl (by omega) | exact Or.inr rfl | exact Or.inr (by assumption) | exact Or.inr (by simp) | exact Or.inr (by omega) | exact Or.inr (by dsimp only; omega))
  replace B1 := S2.blk
  refine WpL_nil ?_
  refine Wp_ret ?_
  refine fin_agg Try.results33 (vs := [(.int .i64 1), (.slice none 0 0), (.slice none 0 0), (.int .i64 0), (.int .i64 0), (.bool false)]) (b := b1) rfl agg25 siz25 rfl (B1.cells rfl) ?_
  exact ⟨rfl, E⟩
theorem left_c (w0 : World) (S : Nat → Prop) (k : Int) (v : Value) (l : List Re) (h : RsIn S w0 v l) : Ret Try.prog 47 #[.int .i64 k, v] w0 fun r w => ∃ us, r = .agg us.toArray ∧ ReIn S w (leftT k l) us ∧ Ext w0 w := by
  have h0 := h
  obtain ⟨aa, ac, rfl, hac, hrs⟩ := h
  refine Ret_of Try.func47 rfl Try.ntmps47 (Nat.le_of_ble_eq_true rfl) ?_
  have E : Chg none1 w0 w0 := Chg.refl _ _
  refine Wp_seq_region ?_
  refine s_alloc (c := #[(.int .i64 0), (.slice none 0 0), (.slice none 0 0), (.int .i64 0), (.int .i64 0), (.bool false)]) (by decide) zer25 rfl ?_
  intro b1 w1 N1
  have F1 := N1.ge E
  replace E := E.ext N1.ext
  have B1 := N1.blk
  refine WpL_nil ?_
  refine Wp_seq ?_
  refine Wp_seq_region ?_
  refine WpL_val rfl rfl (by decide) (r_move (v := (.slice aa l.length ac)) rfl) ?_
  refine WpL_val rfl rfl (by decide) (r_lenSlice (ad := aa) (n := l.length) (cap := ac) Try.underlying23 rfl) ?_
  refine WpL_val rfl rfl (by decide) (r_gtr (k := .i64) (a := ((l.length : Nat) : Int)) (b := 0) rfl rfl) ?_
  refine WpL_nil ?_
  refine Wp_cond (b := decide ((0 : Int) < ((l.length : Nat) : Int))) rfl (fun h1 => ?_) (fun h1 => ?_)
  · have kh1 := h1
    replace h1 := of_decide_eq_true h1
    refine Wp_seq_region ?_
    refine WpL_val rfl rfl (by decide) (r_move (v := (.int .i64 k)) rfl) ?_
    refine WpL_val rfl rfl (by decide) (r_move (v := (.slice aa l.length ac)) rfl) ?_
    refine WpL_val rfl rfl (by decide) (r_build (ps := [(0, (.int .i64 k)), (2, (.slice aa l.length ac))]) (v := (.agg #[(.int .i64 k), (.slice none 0 0), (.slice aa l.length ac), (.int .i64 0), (.int .i64 0), (.bool false)])) rfl (by kernel_rfl)) ?_
    refine s_storeAgg (b := b1) (o := 0) (c' := #[(.int .i64 k), (.slice none 0 0), (.slice aa l.length ac), (.int .i64 0), (.int .i64 0), (.bool false)]) rfl rfl (by simp [Value.oneCell']) siz25 rfl B1 (by simp) rfl ?_
    intro w3 S3
    replace E := S3.step E (by first | exact Or.inl (by omega) | exact Or.inr rfl | exact Or.inr (by assumption) | exact Or.inr (by simp) | exact Or.inr (by omega) | exact Or.inr (by dsimp only; omega))
    replace B1 := S3.blk
    refine WpL_nil ?_
    refine Wp_ret ?_
    refine thn_ret ?_
    refine fin_agg Try.results47 (vs := [(.int .i64 k), (.slice none 0 0), (.slice aa l.length ac), (.int .i64 0), (.int .i64 0), (.bool false)]) (b := b1) rfl agg25 siz25 rfl (B1.cells rfl) ?_
    refine ⟨_, rfl, ?_, E⟩
    unfold leftT
    rw [if_pos (by omega)]
    obtain ⟨aa', ac', hv, h2, h3⟩ := h0.ext E
    simp only [Value.slice.injEq] at hv
    obtain ⟨rfl, _, rfl⟩ := hv
    exact ReIn.of (set := []) (SlIn.nil _ _ _ _ _) h2 h3
  · have kh1 := h1
    replace h1 := of_decide_eq_false h1
    refine Wp_skip ?_
    refine thn_normal ?_
    refine Wp_seq ?_
    refine Wp_seq_region ?_
    refine WpL_val rfl rfl (by decide) (r_move (v := (.int .i64 k)) rfl) ?_
    refine WpL_val rfl rfl (by decide) (r_eql (k := .i64) (a := k) (b := 3) rfl rfl) ?_
    refine WpL_nil ?_
    refine Wp_cond (b := decide ((k : Int) = 3)) rfl (fun h3 => ?_) (fun h3 => ?_)
    · have kh3 := h3
      replace h3 := of_decide_eq_true h3
      refine Wp_seq_region ?_
      refine WpL_enter rfl rfl (by decide) (r_callF (vs := []) Try.func33 nm33 bd33 rfl) (rempty_c _) ?_
      rintro _ w9 ⟨rfl, X9⟩
      replace B1 := X9.keep B1
      replace E := E.ext X9
      refine s_storeAgg (b := b1) (o := 0) (c' := #[(.int .i64 1), (.slice none 0 0), (.slice none 0 0), (.int .i64 0), (.int .i64 0), (.bool false)]) rfl rfl (by simp [Value.oneCell']) siz25 rfl B1 (by simp) rfl ?_
      intro w5 S5
      replace E := S5.step E (by first | exact Or.inl (by omega) | exact Or.inr rfl | exact Or.inr (by assumption) | exact Or.inr (by simp) | exact Or.inr (by omega) | exact Or.inr (by dsimp only; omega))
      replace B1 := S5.blk
      refine WpL_nil ?_
      refine Wp_ret ?_
      refine thn_ret ?_
      refine fin_agg Try.results47 (vs := [(.int .i64 1), (.slice none 0 0), (.slice none 0 0), (.int .i64 0), (.int .i64 0), (.bool false)]) (b := b1) rfl agg25 siz25 rfl (B1.cells rfl) ?_
      refine ⟨_, rfl, ?_, E⟩
      unfold leftT
      rw [if_neg (by omega), if_pos h3]
      exact re_empty _ _ _
    · have kh3 := h3
      replace h3 := of_decide_eq_false h3
      refine Wp_skip ?_
      refine thn_normal ?_
      refine Wp_seq_region ?_
      refine WpL_enter rfl rfl (by decide) (r_callF (vs := []) Try.func34 nm34 bd34 rfl) (rnone_c _) ?_
      rintro _ w9 ⟨rfl, X9⟩
      replace B1 := X9.keep B1
      replace E := E.ext X9
      refine s_storeAgg (b := b1) (o := 0) (c' := #[(.int .i64 0), (.slice none 0 0), (.slice none 0 0), (.int .i64 0), (.int .i64 0), (.bool false)]) rfl rfl (by simp [Value.oneCell']) siz25 rfl B1 (by simp) rfl ?_
      intro w6 S6
      replace E := S6.step E (by first | exact Or.inl (by omega) | exact Or.inr rfl | exact Or.inr (by assumption) | exact Or.inr (by simp) | exact Or.inr (by omega) | exact Or.inr (by dsimp only; omega))
      replace B1 := S6.blk
      refine WpL_nil ?_
      refine Wp_ret ?_
      refine fin_agg Try.results47 (vs := [(.int .i64 0), (.slice none 0 0), (.slice none 0 0), (.int .i64 0), (.int .i64 0), (.bool false)]) (b := b1) rfl agg25 siz25 rfl (B1.cells rfl) ?_
      refine ⟨_, rfl, ?_, E⟩
      unfold leftT
      rw [if_neg (by omega), if_neg h3]
      exact re_empty _ _ _

set_option maxHeartbeats 2000000 in
theorem rrep_c (w0 : World) (S : Nat → Prop) (t y : Re) (vs : List Value) (ht : ReIn S w0 t vs) (hS : ∀ b, S b → b < w0.heap.size) (hy : t.args = [y]) (hk : t.kind = 5 ∨ t.kind = 6) :
    Ret Try.prog 32 #[.agg vs.toArray] w0 fun v w => ∃ us, v = .tuple #[.agg us.toArray, .bool (rep56 t.kind y t.mn t.mx).isSome] ∧ ReIn S w ((rep56 t.kind y t.mn t.mx).getD t) us ∧ Ext w0 w := by
  have ht0 := ht
  obtain ⟨sa, sc, aa, ac, rfl, hset, hac, hta⟩ := ht.form
  obtain ⟨yb, yo, _, rfl, hyr⟩ := hta.resolve_left (by rw [hy]; simp)
  have hl1 : t.args.length = 1 := by rw [hy]; rfl
  obtain ⟨ys, hcy, hry⟩ := ResIn.get hyr (i := 0) (by rw [hy]; rfl)
  have hry0 := hry
  obtain ⟨ysa, ysc, yaa, yac, rfl, _, _, _⟩ := hry.form
  refine Ret_of Try.func32 rfl Try.ntmps32 (Nat.le_of_ble_eq_true rfl) ?_
  have E : Chg none1 w0 w0 := Chg.refl _ _
  refine Wp_seq_region ?_
  refine s_box (v := (.agg #[(.int .i64 t.kind), (.slice sa t.set.length sc), (.slice (some ⟨yb, yo, none⟩) t.args.length ac), (.int .i64 t.mn), (.int .i64 t.mx), (.bool t.neg)])) (c := #[(.int .i64 t.kind), (.slice sa t.set.length sc), (.slice (some ⟨yb, yo, none⟩) t.args.length ac), (.int .i64 t.mn), (.int .i64 t.mx), (.bool t.neg)]) (by decide) rfl rfl ?_
  intro br wr Nr
  have Fr := Nr.ge E
  replace E := E.ext Nr.ext
  have Br := Nr.blk
  refine s_alloc (c := #[(.int .i64 0), (.slice none 0 0), (.slice none 0 0), (.int .i64 0), (.int .i64 0), (.bool false)]) (by decide) zer25 rfl ?_
  intro bo wo No
  have Fo := No.ge E
  have Oo_br := No.lt Br
  replace Br := No.keep Br
  replace E := E.ext No.ext
  have Bo := No.blk
  refine WpL_val rfl rfl (by decide) (r_assign (v := (.bool false)) rfl) ?_
  refine WpL_nil ?_
  refine Wp_seq_region ?_
  refine WpL_val rfl rfl (by decide) (r_fieldAddr (b := br) (o := 0) (o' := 2) rfl Try.underlying25 rfl siz23 rfl) ?_
  refine WpL_val rfl rfl (by decide) (r_load (v := (.slice (some ⟨yb, yo, none⟩) t.args.length ac)) rfl flat23 (Br.cell rfl)) ?_
  refine WpL_val rfl rfl (by decide) (r_indexSlice (b := yb) (o := yo) (len := t.args.length) (cap := ac) (i := 0) (o' := yo + 0 * 6) rfl rfl rfl Try.underlying23 siz25 (by omega) (by omega)) ?_
  refine WpL_val rfl rfl (by decide) (r_loadAgg (vs := [(.int .i64 y.kind), (.slice ysa y.set.length ysc), (.slice yaa y.args.length yac), (.int .i64 y.mn), (.int .i64 y.mx), (.bool y.neg)]) rfl agg25 siz25 rfl (hcy.ext E)) ?_
  refine s_allocStore (v := (.agg #[(.int .i64 y.kind), (.slice ysa y.set.length ysc), (.slice yaa y.args.length yac), (.int .i64 y.mn), (.int .i64 y.mx), (.bool y.neg)])) (c := #[(.int .i64 y.kind), (.slice ysa y.set.length ysc), (.slice yaa y.args.length yac), (.int .i64 y.mn), (.int .i64 y.mx), (.bool y.neg)]) (n := 6) (by decide) zer25 rfl siz25 rfl rfl rfl (by simp [Value.oneCell']) ?_
  intro bq wq Nq
  have Fq := Nq.ge E
  have Oq_br := Nq.lt Br
  have Oq_bo := Nq.lt Bo
  replace Br := Nq.keep Br
  replace Bo := Nq.keep Bo
  replace E := E.ext Nq.ext
  have Bq := Nq.blk
  refine WpL_nil ?_
  refine Wp_seq ?_
  refine Wp_seq_region ?_
  refine WpL_val rfl rfl (by decide) (r_fieldAddr (b := br) (o := 0) (o' := 0) rfl Try.underlying25 rfl siz3 rfl) ?_
  refine WpL_val rfl rfl (by decide) (r_load (v := (.int .i64 t.kind)) rfl flat3 (Br.cell rfl)) ?_
  obtain ⟨e1, he1⟩ : ∃ e, (decide ((t.kind : Int) = 6)) = e := ⟨_, rfl⟩
  refine WpL_val rfl rfl (by decide) ((r_eql (k := .i64) (a := t.kind) (b := 6) rfl rfl).trans (by rw [he1]; try rfl)) ?_
  refine WpL_val rfl rfl (by decide) (r_move (v := (.bool e1)) rfl) ?_
  refine WpL_guard_any (oj := _) (gv := (.bool e1)) (u := (bif e1 then (.pointer (some ⟨br, 4, none⟩)) else undef)) rfl rfl (by decide) (by decide) rfl (by cases e1 <;> first | exact Or.inr ⟨Or.inl rfl, rfl⟩ | exact Or.inr ⟨Or.inr rfl, rfl⟩ | exact Or.inl ⟨rfl, r_fieldAddr (b := br) (o := 0) (o' := 4) rfl Try.underlying25 rfl siz3 rfl⟩) ?_
  refine WpL_guard_any (oj := _) (gv := (.bool e1)) (u := (bif e1 then (.int .i64 t.mx) else undef)) rfl rfl (by decide) (by decide) rfl (by cases e1 <;> first | exact Or.inr ⟨Or.inl rfl, rfl⟩ | exact Or.inr ⟨Or.inr rfl, rfl⟩ | exact Or.inl ⟨rfl, r_load (v := (.int .i64 t.mx)) rfl flat3 (Br.cell rfl)⟩) ?_
  obtain ⟨e2, he2⟩ : ∃ e, (decide ((t.mx : Int) = 0)) = e := ⟨_, rfl⟩
  refine WpL_guard_any (oj := _) (gv := (.bool e1)) (u := (bif e1 then (.bool e2) else undef)) rfl rfl (by decide) (by decide) rfl (by cases e1 <;> first | exact Or.inr ⟨Or.inl rfl, rfl⟩ | exact Or.inr ⟨Or.inr rfl, rfl⟩ | exact Or.inl ⟨rfl, (r_eql (k := .i64) (a := t.mx) (b := 0) rfl rfl).trans (by rw [he2]; try rfl)⟩) ?_
  obtain ⟨e3, he3⟩ : ∃ e, (e1 && e2) = e := ⟨_, rfl⟩
  refine WpL_val rfl rfl (by decide) (r_pick (b := e1) (v := .bool e3) rfl (by rw [← he3]; cases e1 <;> rfl)) ?_
  refine WpL_val rfl rfl (by decide) (r_move (v := (.bool e3)) rfl) ?_
  refine WpL_guard_any (oj := _) (gv := (.bool e3)) (u := (bif e3 then undef else (.pointer (some ⟨bq, 0, none⟩)))) rfl rfl (by decide) (by decide) rfl (by cases e3 <;> first | exact Or.inr ⟨Or.inl rfl, rfl⟩ | exact Or.inr ⟨Or.inr rfl, rfl⟩ | exact Or.inl ⟨rfl, r_fieldAddr (b := bq) (o := 0) (o' := 0) rfl Try.underlying25 rfl siz3 rfl⟩) ?_
  refine WpL_guard_any (oj := _) (gv := (.bool e3)) (u := (bif e3 then undef else (.int .i64 y.kind))) rfl rfl (by decide) (by decide) rfl (by cases e3 <;> first | exact Or.inr ⟨Or.inl rfl, rfl⟩ | exact Or.inr ⟨Or.inr rfl, rfl⟩ | exact Or.inl ⟨rfl, r_load (v := (.int .i64 y.kind)) rfl flat3 (Bq.cell rfl)⟩) ?_
  obtain ⟨e4, he4⟩ : ∃ e, (decide ((y.kind : Int) = 1)) = e := ⟨_, rfl⟩
  refine WpL_guard_any (oj := _) (gv := (.bool e3)) (u := (bif e3 then undef else (.bool e4))) rfl rfl (by decide) (by decide) rfl (by cases e3 <;> first | exact Or.inr ⟨Or.inl rfl, rfl⟩ | exact Or.inr ⟨Or.inr rfl, rfl⟩ | exact Or.inl ⟨rfl, (r_eql (k := .i64) (a := y.kind) (b := 1) rfl rfl).trans (by rw [he4]; try rfl)⟩) ?_
  obtain ⟨e5, he5⟩ : ∃ e, (e3 || e4) = e := ⟨_, rfl⟩
  refine WpL_val rfl rfl (by decide) (r_pick (b := e3) (v := .bool e5) rfl (by rw [← he5]; cases e3 <;> rfl)) ?_
  refine WpL_nil ?_
  subst he5
  subst he4
  subst he3
  subst he2
  subst he1
  refine Wp_cond (b := (((decide ((t.kind : Int) = 6)) && (decide ((t.mx : Int) = 0))) || (decide ((y.kind : Int) = 1)))) rfl (fun c1 => ?_) (fun c1 => ?_)
  · have kc1 := c1
    refine Wp_seq_region ?_
    refine WpL_enter rfl rfl (by decide) (r_callF (vs := []) Try.func33 nm33 bd33 rfl) (rempty_c _) ?_
    rintro _ w9 ⟨rfl, X9⟩
    replace Br := X9.keep Br
    replace Bo := X9.keep Bo
    replace Bq := X9.keep Bq
    replace E := E.ext X9
    refine s_storeAgg (b := bo) (o := 0) (c' := #[(.int .i64 1), (.slice none 0 0), (.slice none 0 0), (.int .i64 0), (.int .i64 0), (.bool false)]) rfl rfl (by simp [Value.oneCell']) siz25 rfl Bo (by simp) rfl ?_
    intro w7 S7
    replace Br := S7.keep (by omega) Br
    replace Bq := S7.keep (by omega) Bq
    replace E := S7.step E (by first | exact Or.inl (by omega) | exact Or.inr rfl | exact Or.inr (by assumption) | exact Or.inr (by simp) | exact Or.inr (by omega) | exact Or.inr (by dsimp only; omega))
    replace Bo := S7.blk
    refine WpL_val rfl rfl (by decide) (r_assign (v := (.bool true)) rfl) ?_
    refine WpL_nil ?_
    refine Wp_ret ?_
    refine thn_ret ?_
    refine fin_agg_tmp Try.results32 (vs := [(.int .i64 1), (.slice none 0 0), (.slice none 0 0), (.int .i64 0), (.int .i64 0), (.bool false)]) (b := bo) (v' := (.bool true)) rfl agg25 siz25 rfl (Bo.cells rfl) rfl ?_
    have hr : rep56 t.kind y t.mn t.mx = some emptyT := by unfold rep56; rw [if_pos (by simp at c1; omega)]
    exact ⟨_, by rw [hr]; rfl, by rw [hr]; exact re_empty _ _ _, E⟩
  · have kc1 := c1
    refine Wp_skip ?_
    refine thn_normal ?_
    refine Wp_seq ?_
    refine Wp_seq_region ?_
    refine WpL_val rfl rfl (by decide) (r_fieldAddr (b := bq) (o := 0) (o' := 0) rfl Try.underlying25 rfl siz3 rfl) ?_
    refine WpL_val rfl rfl (by decide) (r_load (v := (.int .i64 y.kind)) rfl flat3 (Bq.cell rfl)) ?_
    refine WpL_val rfl rfl (by decide) (r_eql (k := .i64) (a := y.kind) (b := 0) rfl rfl) ?_
    refine WpL_nil ?_
    refine Wp_cond (b := decide ((y.kind : Int) = 0)) rfl (fun c2 => ?_) (fun c2 => ?_)
    · have kc2 := c2
      replace c2 := of_decide_eq_true c2
      refine Wp_seq ?_
      refine Wp_seq_region ?_
      refine WpL_val rfl rfl (by decide) (r_fieldAddr (b := br) (o := 0) (o' := 0) rfl Try.underlying25 rfl siz3 rfl) ?_
      refine WpL_val rfl rfl (by decide) (r_load (v := (.int .i64 t.kind)) rfl flat3 (Br.cell rfl)) ?_
      obtain ⟨e9, he9⟩ : ∃ e, (decide ((t.kind : Int) = 5)) = e := ⟨_, rfl⟩
      refine WpL_val rfl rfl (by decide) ((r_eql (k := .i64) (a := t.kind) (b := 5) rfl rfl).trans (by rw [he9]; try rfl)) ?_
      refine WpL_val rfl rfl (by decide) (r_move (v := (.bool e9)) rfl) ?_
      refine WpL_guard_any (oj := _) (gv := (.bool e9)) (u := (bif e9 then undef else (.pointer (some ⟨br, 3, none⟩)))) rfl rfl (by decide) (by decide) rfl (by cases e9 <;> first | exact Or.inr ⟨Or.inl rfl, rfl⟩ | exact Or.inr ⟨Or.inr rfl, rfl⟩ | exact Or.inl ⟨rfl, r_fieldAddr (b := br) (o := 0) (o' := 3) rfl Try.underlying25 rfl siz3 rfl⟩) ?_
      refine WpL_guard_any (oj := _) (gv := (.bool e9)) (u := (bif e9 then undef else (.int .i64 t.mn))) rfl rfl (by decide) (by decide) rfl (by cases e9 <;> first | exact Or.inr ⟨Or.inl rfl, rfl⟩ | exact Or.inr ⟨Or.inr rfl, rfl⟩ | exact Or.inl ⟨rfl, r_load (v := (.int .i64 t.mn)) rfl flat3 (Br.cell rfl)⟩) ?_
      obtain ⟨e10, he10⟩ : ∃ e, (decide ((t.mn : Int) = 0)) = e := ⟨_, rfl⟩
      refine WpL_guard_any (oj := _) (gv := (.bool e9)) (u := (bif e9 then undef else (.bool e10))) rfl rfl (by decide) (by decide) rfl (by cases e9 <;> first | exact Or.inr ⟨Or.inl rfl, rfl⟩ | exact Or.inr ⟨Or.inr rfl, rfl⟩ | exact Or.inl ⟨rfl, (r_eql (k := .i64) (a := t.mn) (b := 0) rfl rfl).trans (by rw [he10]; try rfl)⟩) ?_
      obtain ⟨e11, he11⟩ : ∃ e, (e9 || e10) = e := ⟨_, rfl⟩
      refine WpL_val rfl rfl (by decide) (r_pick (b := e9) (v := .bool e11) rfl (by rw [← he11]; cases e9 <;> rfl)) ?_
      refine WpL_nil ?_
      subst he11
      subst he10
      subst he9
      refine Wp_cond (b := ((decide ((t.kind : Int) = 5)) || (decide ((t.mn : Int) = 0)))) rfl (fun c3 => ?_) (fun c3 => ?_)
      · have kc3 := c3
        refine Wp_seq_region ?_
        refine WpL_enter rfl rfl (by decide) (r_callF (vs := []) Try.func33 nm33 bd33 rfl) (rempty_c _) ?_
        rintro _ w9 ⟨rfl, X9⟩
        replace Br := X9.keep Br
        replace Bo := X9.keep Bo
        replace Bq := X9.keep Bq
        replace E := E.ext X9
        refine s_storeAgg (b := bo) (o := 0) (c' := #[(.int .i64 1), (.slice none 0 0), (.slice none 0 0), (.int .i64 0), (.int .i64 0), (.bool false)]) rfl rfl (by simp [Value.oneCell']) siz25 rfl Bo (by simp) rfl ?_
        intro w13 S13
        replace Br := S13.keep (by omega) Br
        replace Bq := S13.keep (by omega) Bq
        replace E := S13.step E (by first | exact Or.inl (by omega) | exact Or.inr rfl | exact Or.inr (by assumption) | exact Or.inr (by simp) | exact Or.inr (by omega) | exact Or.inr (by dsimp only; omega))
        replace Bo := S13.blk
        refine WpL_val rfl rfl (by decide) (r_assign (v := (.bool true)) rfl) ?_
        refine WpL_nil ?_
        refine Wp_ret ?_
        refine thn_ret ?_
        refine thn_ret ?_
        refine fin_agg_tmp Try.results32 (vs := [(.int .i64 1), (.slice none 0 0), (.slice none 0 0), (.int .i64 0), (.int .i64 0), (.bool false)]) (b := bo) (v' := (.bool true)) rfl agg25 siz25 rfl (Bo.cells rfl) rfl ?_
        have hr : rep56 t.kind y t.mn t.mx = some emptyT := by unfold rep56; rw [if_neg (by simp at c1; omega), if_pos c2, if_pos (by simp at c3; omega)]
        exact ⟨_, by rw [hr]; rfl, by rw [hr]; exact re_empty _ _ _, E⟩
      · have kc3 := c3
        refine Wp_skip ?_
        refine thn_normal ?_
        refine Wp_seq_region ?_
        refine WpL_enter rfl rfl (by decide) (r_callF (vs := []) Try.func34 nm34 bd34 rfl) (rnone_c _) ?_
        rintro _ w9 ⟨rfl, X9⟩
        replace Br := X9.keep Br
        replace Bo := X9.keep Bo
        replace Bq := X9.keep Bq
        replace E := E.ext X9
        refine s_storeAgg (b := bo) (o := 0) (c' := #[(.int .i64 0), (.slice none 0 0), (.slice none 0 0), (.int .i64 0), (.int .i64 0), (.bool false)]) rfl rfl (by simp [Value.oneCell']) siz25 rfl Bo (by simp) rfl ?_
        intro w14 S14
        replace Br := S14.keep (by omega) Br
        replace Bq := S14.keep (by omega) Bq
        replace E := S14.step E (by first | exact Or.inl (by omega) | exact Or.inr rfl | exact Or.inr (by assumption) | exact Or.inr (by simp) | exact Or.inr (by omega) | exact Or.inr (by dsimp only; omega))
        replace Bo := S14.blk
        refine WpL_val rfl rfl (by decide) (r_assign (v := (.bool true)) rfl) ?_
        refine WpL_nil ?_
        refine Wp_ret ?_
        refine thn_ret ?_
        refine fin_agg_tmp Try.results32 (vs := [(.int .i64 0), (.slice none 0 0), (.slice none 0 0), (.int .i64 0), (.int .i64 0), (.bool false)]) (b := bo) (v' := (.bool true)) rfl agg25 siz25 rfl (Bo.cells rfl) rfl ?_
        have hr : rep56 t.kind y t.mn t.mx = some noneT := by unfold rep56; rw [if_neg (by simp at c1; omega), if_pos c2, if_neg (by simp at c3; omega)]
        exact ⟨_, by rw [hr]; rfl, by rw [hr]; exact re_empty _ _ _, E⟩
    · have kc2 := c2
      replace c2 := of_decide_eq_false c2
      refine Wp_skip ?_
      refine thn_normal ?_
      refine Wp_seq ?_
      refine Wp_seq_region ?_
      refine WpL_val rfl rfl (by decide) (r_fieldAddr (b := bq) (o := 0) (o' := 0) rfl Try.underlying25 rfl siz3 rfl) ?_
      refine WpL_val rfl rfl (by decide) (r_load (v := (.int .i64 y.kind)) rfl flat3 (Bq.cell rfl)) ?_
      obtain ⟨e15, he15⟩ : ∃ e, (decide ((y.kind : Int) = 5)) = e := ⟨_, rfl⟩
      refine WpL_val rfl rfl (by decide) ((r_eql (k := .i64) (a := y.kind) (b := 5) rfl rfl).trans (by rw [he15]; try rfl)) ?_
      refine WpL_val rfl rfl (by decide) (r_move (v := (.bool e15)) rfl) ?_
      refine WpL_guard_any (oj := _) (gv := (.bool e15)) (u := (bif e15 then undef else (.pointer (some ⟨br, 0, none⟩)))) rfl rfl (by decide) (by decide) rfl (by cases e15 <;> first | exact Or.inr ⟨Or.inl rfl, rfl⟩ | exact Or.inr ⟨Or.inr rfl, rfl⟩ | exact Or.inl ⟨rfl, r_fieldAddr (b := br) (o := 0) (o' := 0) rfl Try.underlying25 rfl siz3 rfl⟩) ?_
      refine WpL_guard_any (oj := _) (gv := (.bool e15)) (u := (bif e15 then undef else (.int .i64 t.kind))) rfl rfl (by decide) (by decide) rfl (by cases e15 <;> first | exact Or.inr ⟨Or.inl rfl, rfl⟩ | exact Or.inr ⟨Or.inr rfl, rfl⟩ | exact Or.inl ⟨rfl, r_load (v := (.int .i64 t.kind)) rfl flat3 (Br.cell rfl)⟩) ?_
      obtain ⟨e16, he16⟩ : ∃ e, (decide ((t.kind : Int) = 6)) = e := ⟨_, rfl⟩
      refine WpL_guard_any (oj := _) (gv := (.bool e15)) (u := (bif e15 then undef else (.bool e16))) rfl rfl (by decide) (by decide) rfl (by cases e15 <;> first | exact Or.inr ⟨Or.inl rfl, rfl⟩ | exact Or.inr ⟨Or.inr rfl, rfl⟩ | exact Or.inl ⟨rfl, (r_eql (k := .i64) (a := t.kind) (b := 6) rfl rfl).trans (by rw [he16]; try rfl)⟩) ?_
      refine WpL_guard_any (oj := _) (gv := (.bool e15)) (u := (bif e15 then undef else (.bool e16))) rfl rfl (by decide) (by decide) rfl (by cases e15 <;> first | exact Or.inr ⟨Or.inl rfl, rfl⟩ | exact Or.inr ⟨Or.inr rfl, rfl⟩ | exact Or.inl ⟨rfl, r_move (v := (.bool e16)) rfl⟩) ?_
      refine WpL_guard_any (oj := _) (gv := (bif e15 then undef else (.bool e16))) (u := (bif e15 then undef else (bif e16 then (.pointer (some ⟨br, 3, none⟩)) else undef))) rfl rfl (by decide) (by decide) rfl (by cases e15 <;> cases e16 <;> first | exact Or.inr ⟨Or.inl rfl, rfl⟩ | exact Or.inr ⟨Or.inr rfl, rfl⟩ | exact Or.inl ⟨rfl, r_fieldAddr (b := br) (o := 0) (o' := 3) rfl Try.underlying25 rfl siz3 rfl⟩) ?_
      refine WpL_guard_any (oj := _) (gv := (bif e15 then undef else (.bool e16))) (u := (bif e15 then undef else (bif e16 then (.int .i64 t.mn) else undef))) rfl rfl (by decide) (by decide) rfl (by cases e15 <;> cases e16 <;> first | exact Or.inr ⟨Or.inl rfl, rfl⟩ | exact Or.inr ⟨Or.inr rfl, rfl⟩ | exact Or.inl ⟨rfl, r_load (v := (.int .i64 t.mn)) rfl flat3 (Br.cell rfl)⟩) ?_
      obtain ⟨e17, he17⟩ : ∃ e, (decide ((t.mn : Int) = 1)) = e := ⟨_, rfl⟩
      refine WpL_guard_any (oj := _) (gv := (bif e15 then undef else (.bool e16))) (u := (bif e15 then undef else (bif e16 then (.bool e17) else undef))) rfl rfl (by decide) (by decide) rfl (by cases e15 <;> cases e16 <;> first | exact Or.inr ⟨Or.inl rfl, rfl⟩ | exact Or.inr ⟨Or.inr rfl, rfl⟩ | exact Or.inl ⟨rfl, (r_eql (k := .i64) (a := t.mn) (b := 1) rfl rfl).trans (by rw [he17]; try rfl)⟩) ?_
      obtain ⟨e18, he18⟩ : ∃ e, (e16 && e17) = e := ⟨_, rfl⟩
      refine WpL_guard_any (oj := _) (gv := (.bool e15)) (u := (bif e15 then undef else (.bool e18))) rfl rfl (by decide) (by decide) rfl (by cases e15 <;> first | exact Or.inr ⟨Or.inl rfl, rfl⟩ | exact Or.inr ⟨Or.inr rfl, rfl⟩ | exact Or.inl ⟨rfl, r_pick (b := e16) (v := .bool e18) rfl (by rw [← he18]; cases e16 <;> rfl)⟩) ?_
      refine WpL_guard_any (oj := _) (gv := (.bool e15)) (u := (bif e15 then undef else (.bool e18))) rfl rfl (by decide) (by decide) rfl (by cases e15 <;> first | exact Or.inr ⟨Or.inl rfl, rfl⟩ | exact Or.inr ⟨Or.inr rfl, rfl⟩ | exact Or.inl ⟨rfl, r_move (v := (.bool e18)) rfl⟩) ?_
      refine WpL_guard_any (oj := _) (gv := (bif e15 then undef else (.bool e18))) (u := (bif e15 then undef else (bif e18 then (.pointer (some ⟨br, 4, none⟩)) else undef))) rfl rfl (by decide) (by decide) rfl (by cases e15 <;> cases e18 <;> first | exact Or.inr ⟨Or.inl rfl, rfl⟩ | exact Or.inr ⟨Or.inr rfl, rfl⟩ | exact Or.inl ⟨rfl, r_fieldAddr (b := br) (o := 0) (o' := 4) rfl Try.underlying25 rfl siz3 rfl⟩) ?_
      refine WpL_guard_any (oj := _) (gv := (bif e15 then undef else (.bool e18))) (u := (bif e15 then undef else (bif e18 then (.int .i64 t.mx) else undef))) rfl rfl (by decide) (by decide) rfl (by cases e15 <;> cases e18 <;> first | exact Or.inr ⟨Or.inl rfl, rfl⟩ | exact Or.inr ⟨Or.inr rfl, rfl⟩ | exact Or.inl ⟨rfl, r_load (v := (.int .i64 t.mx)) rfl flat3 (Br.cell rfl)⟩) ?_
      obtain ⟨e19, he19⟩ : ∃ e, (decide ((t.mx : Int) = 1)) = e := ⟨_, rfl⟩
      refine WpL_guard_any (oj := _) (gv := (bif e15 then undef else (.bool e18))) (u := (bif e15 then undef else (bif e18 then (.bool e19) else undef))) rfl rfl (by decide) (by decide) rfl (by cases e15 <;> cases e18 <;> first | exact Or.inr ⟨Or.inl rfl, rfl⟩ | exact Or.inr ⟨Or.inr rfl, rfl⟩ | exact Or.inl ⟨rfl, (r_eql (k := .i64) (a := t.mx) (b := 1) rfl rfl).trans (by rw [he19]; try rfl)⟩) ?_
      obtain ⟨e20, he20⟩ : ∃ e, (e18 && e19) = e := ⟨_, rfl⟩
      refine WpL_guard_any (oj := _) (gv := (.bool e15)) (u := (bif e15 then undef else (.bool e20))) rfl rfl (by decide) (by decide) rfl (by cases e15 <;> first | exact Or.inr ⟨Or.inl rfl, rfl⟩ | exact Or.inr ⟨Or.inr rfl, rfl⟩ | exact Or.inl ⟨rfl, r_pick (b := e18) (v := .bool e20) rfl (by rw [← he20]; cases e18 <;> rfl)⟩) ?_
      obtain ⟨e21, he21⟩ : ∃ e, (e15 || e20) = e := ⟨_, rfl⟩
      refine WpL_val rfl rfl (by decide) (r_pick (b := e15) (v := .bool e21) rfl (by rw [← he21]; cases e15 <;> rfl)) ?_
      refine WpL_nil ?_
      subst he21
      subst he20
      subst he19
      subst he18
      subst he17
      subst he16
      subst he15
      refine Wp_cond (b := ((decide ((y.kind : Int) = 5)) || (((decide ((t.kind : Int) = 6)) && (decide ((t.mn : Int) = 1))) && (decide ((t.mx : Int) = 1))))) rfl (fun c4 => ?_) (fun c4 => ?_)
      · have kc4 := c4
        refine Wp_seq_region ?_
        refine WpL_val rfl rfl (by decide) (r_loadAgg (vs := [(.int .i64 y.kind), (.slice ysa y.set.length ysc), (.slice yaa y.args.length yac), (.int .i64 y.mn), (.int .i64 y.mx), (.bool y.neg)]) rfl agg25 siz25 rfl (Bq.cells rfl)) ?_
        refine s_storeAgg (b := bo) (o := 0) (c' := #[(.int .i64 y.kind), (.slice ysa y.set.length ysc), (.slice yaa y.args.length yac), (.int .i64 y.mn), (.int .i64 y.mx), (.bool y.neg)]) rfl rfl (by simp [Value.oneCell']) siz25 rfl Bo (by simp) rfl ?_
        intro w23 S23
        replace Br := S23.keep (by omega) Br
        replace Bq := S23.keep (by omega) Bq
        replace E := S23.step E (by first | exact Or.inl (by omega) | exact Or.inr rfl | exact Or.inr (by assumption) | exact Or.inr (by simp) | exact Or.inr (by omega) | exact Or.inr (by dsimp only; omega))
        replace Bo := S23.blk
        refine WpL_val rfl rfl (by decide) (r_assign (v := (.bool true)) rfl) ?_
        refine WpL_nil ?_
        refine Wp_ret ?_
        refine thn_ret ?_
        refine fin_agg_tmp Try.results32 (vs := [(.int .i64 y.kind), (.slice ysa y.set.length ysc), (.slice yaa y.args.length yac), (.int .i64 y.mn), (.int .i64 y.mx), (.bool y.neg)]) (b := bo) (v' := (.bool true)) rfl agg25 siz25 rfl (Bo.cells rfl) rfl ?_
        have hr : rep56 t.kind y t.mn t.mx = some y := by unfold rep56; rw [if_neg (by simp at c1; omega), if_neg c2, if_pos (by simp at c4; omega)]
        exact ⟨_, by rw [hr]; rfl, by rw [hr]; exact ReIn.ext E y hry0, E⟩
      · have kc4 := c4
        refine Wp_skip ?_
        refine thn_normal ?_
        refine Wp_seq_region ?_
        refine WpL_val rfl rfl (by decide) (r_loadAgg (vs := [(.int .i64 t.kind), (.slice sa t.set.length sc), (.slice (some ⟨yb, yo, none⟩) t.args.length ac), (.int .i64 t.mn), (.int .i64 t.mx), (.bool t.neg)]) rfl agg25 siz25 rfl (Br.cells rfl)) ?_
        refine s_storeAgg (b := bo) (o := 0) (c' := #[(.int .i64 t.kind), (.slice sa t.set.length sc), (.slice (some ⟨yb, yo, none⟩) t.args.length ac), (.int .i64 t.mn), (.int .i64 t.mx), (.bool t.neg)]) rfl rfl (by simp [Value.oneCell']) siz25 rfl Bo (by simp) rfl ?_
        intro w24 S24
        replace Br := S24.keep (by omega) Br
        replace Bq := S24.keep (by omega) Bq
        replace E := S24.step E (by first | exact Or.inl (by omega) | exact Or.inr rfl | exact Or.inr (by assumption) | exact Or.inr (by simp) | exact Or.inr (by omega) | exact Or.inr (by dsimp only; omega))
        replace Bo := S24.blk
        refine WpL_val rfl rfl (by decide) (r_assign (v := (.bool false)) rfl) ?_
        refine WpL_nil ?_
        refine Wp_ret ?_
        refine fin_agg_tmp Try.results32 (vs := [(.int .i64 t.kind), (.slice sa t.set.length sc), (.slice (some ⟨yb, yo, none⟩) t.args.length ac), (.int .i64 t.mn), (.int .i64 t.mx), (.bool t.neg)]) (b := bo) (v' := (.bool false)) rfl agg25 siz25 rfl (Bo.cells rfl) rfl ?_
        have hr : rep56 t.kind y t.mn t.mx = none := by unfold rep56; rw [if_neg (by simp at c1; omega), if_neg c2, if_neg (by simp at c4; omega)]
        exact ⟨_, by rw [hr]; rfl, by rw [hr]; exact ReIn.ext E t ht0, E⟩
end Go.Proofs
