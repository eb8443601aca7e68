/- Contracts: joining lists of spans, and the functions of package runeset. -/
import Derived.Test.YtpjamnekclkhhaaSg
namespace Go.Proofs
open Go Go.Eng Go.Sort
set_option maxRecDepth 100000

def orL : List Int → Int
  | [] => 0
  | x :: r => if x ≠ 0 then x else orL r
theorem or_c (w0 : World) (v : Value) (l : List Int) (h : IntsAt w0 v l) : Ret Try.prog 117 #[v] w0 fun r w => r = .int .i64 (orL l) ∧ Ext w0 w := by
  obtain ⟨a, c, rfl⟩ := SlAt.form h
  have hlen : l.length ≤ 9223372036854775807 := by simpa using SlAt.le h
  simp only [List.length_map] at h ⊢
  refine Ret_of Try.func117 rfl Try.ntmps117 (Nat.le_of_ble_eq_true rfl) ?_
  have E : Chg none1 w0 w0 := Chg.refl _ _
  refine Wp_seq_region ?_
  refine WpL_val rfl rfl (by decide) (r_assign (v := (.int .i64 0)) rfl) ?_
  refine WpL_nil ?_
  refine Wp_seq_region ?_
  refine WpL_val rfl rfl (by decide) (r_assign (v := (.int .i64 0)) rfl) ?_
  refine WpL_nil ?_
  refine Wp_seq ?_
  refine Wp_seq_region ?_
  refine WpL_val rfl rfl (by decide) (r_move (v := (.slice a l.length c)) rfl) ?_
  refine WpL_val rfl rfl (by decide) (r_lenSlice (ad := a) (n := l.length) (cap := c) Try.underlying22 rfl) ?_
  refine WpL_val rfl rfl (by decide) (r_move (v := (.int .i64 0)) rfl) ?_
  refine WpL_nil ?_
  refine Wp_block ?_
  refine Wp_loop (fun nn_ σ W1 => ∃ (k : Nat), (∃ jj_, σ = upds jj_ [(3, (.int .i64 0)), (6, (.slice a l.length c)), (7, (.int .i64 ((l.length : Nat) : Int))), (8, (.int .i64 ((k : Nat) : Int)))]) ∧ Chg none1 w0 W1 ∧ (k ≤ l.length) ∧ (orL (l.drop k) = orL l) ∧ nn_ = l.length - k) (n := l.length - 0) ?_ ?_
  · exact ⟨0, Fits.out ⟨rfl, rfl, rfl, rfl, trivial⟩, E, Nat.zero_le _, rfl, rfl⟩
  · clear E
    rintro _ _ W1 ⟨k, ⟨j1, rfl⟩, E, hk, ho, rfl⟩
    refine Wp_seq_region ?_
    refine WpL_val rfl rfl (by decide) (r_lss (k := .i64) (a := ((k : Nat) : Int)) (b := ((l.length : Nat) : Int)) rfl rfl) ?_
    refine WpL_nil ?_
    refine Wp_seq ?_
    refine Wp_cond (b := decide ((((k : Nat) : Int) : Int) < ((l.length : Nat) : Int))) rfl (fun hlt => ?_) (fun hlt => ?_)
    · have khlt := hlt
      replace hlt := of_decide_eq_true hlt
      obtain ⟨x, hx⟩ := get_of_lt (l := l) (i := k) (by omega)
      obtain ⟨b, o, rfl, hcl⟩ := ints_cells h (by omega)
      rw [drop_cons hx] at ho
      refine Wp_skip ?_
      refine thn_normal ?_
      refine Wp_seq ?_
      refine Wp_block ?_
      refine Wp_seq_region ?_
      refine WpL_val rfl rfl (by decide) (r_indexSlice (b := b) (o := o) (len := l.length) (cap := c) (i := k) (o' := o + k) rfl rfl rfl Try.underlying22 siz3 (by omega) (by omega)) ?_
      refine WpL_val rfl rfl (by decide) (r_load (v := (.int .i64 x)) rfl flat3 (E.cell (fun f => f) (hcl k x hx))) ?_
      refine WpL_val rfl rfl (by decide) (r_assign (v := (.int .i64 x)) rfl) ?_
      refine WpL_nil ?_
      refine Wp_seq_region ?_
      refine WpL_val rfl rfl (by decide) (r_move (v := (.int .i64 x)) rfl) ?_
      refine WpL_val rfl rfl (by decide) (r_move (v := (.int .i64 0)) rfl) ?_
      refine WpL_val rfl rfl (by decide) (r_neq (k := .i64) (a := x) (b := 0) rfl rfl) ?_
      refine WpL_nil ?_
      refine Wp_cond (b := decide ((x : Int) ≠ 0)) rfl (fun hne => ?_) (fun hne => ?_)
      · have khne := hne
        replace hne := of_decide_eq_true hne
        refine Wp_seq_region ?_
        refine WpL_val rfl rfl (by decide) (r_move (v := (.int .i64 x)) rfl) ?_
        refine WpL_val rfl rfl (by decide) (r_assign (v := (.int .i64 x)) rfl) ?_
        refine WpL_nil ?_
        refine Wp_ret ?_
        refine inB_ret ?_
        refine thn_ret ?_
        refine thn_ret ?_
        refine inB_ret ?_
        refine thn_ret ?_
        refine fin_tmp Try.results117 (v := (.int .i64 x)) rfl ?_
        exact ⟨int_eq (by rw [← ho, orL, if_pos hne]), E⟩
      · have khne := hne
        replace hne := of_decide_eq_false hne
        refine Wp_skip ?_
        refine inB_normal ?_
        refine thn_normal ?_
        refine Wp_region ?_
        refine WpL_val rfl rfl (by decide) (r_add (k := .i64) (a := ((k : Nat) : Int)) (b := 1) (c := ((k : Nat) : Int) + 1) rfl rfl (wI64 (by omega))) ?_
        refine WpL_val rfl rfl (by decide) (r_move (v := (.int .i64 (((k : Nat) : Int) + 1))) rfl) ?_
        refine WpL_nil ?_
        refine thn_normal ?_
        exact ⟨l.length - (k + 1), by omega, k + 1, Fits.out ⟨rfl, rfl, rfl, rfl, trivial⟩, E, (by omega), (by rw [← ho, orL, if_neg hne]), rfl⟩
    · have khlt := hlt
      replace hlt := of_decide_eq_false hlt
      have hkk : k = l.length := by omega
      refine Wp_exit ?_
      refine thn_exit ?_
      refine thn_exit ?_
      refine inB_here ?_
      refine thn_normal ?_
      refine Wp_seq_region ?_
      refine WpL_val rfl rfl (by decide) (r_move (v := (.int .i64 0)) rfl) ?_
      refine WpL_val rfl rfl (by decide) (r_assign (v := (.int .i64 0)) rfl) ?_
      refine WpL_nil ?_
      refine Wp_ret ?_
      refine fin_tmp Try.results117 (v := (.int .i64 0)) rfl ?_
      exact ⟨int_eq (by rw [← ho, hkk, List.drop_length]; rfl), E⟩
def ints2F (a b : Int) : Fct := fun v w => ∃ bb, v = .slice (some ⟨bb, 0, none⟩) 2 2 ∧ IntsAt w v [a, b]
theorem ints2F_ext (a b : Int) : Stable (ints2F a b) := by
  rintro v w w' e ⟨bb, h1, h2⟩
  exact ⟨bb, h1, h2.ext e⟩
theorem Does_ints2 {N : Nat} {σ : Env} {w : World} {dst : Option Tmp} {ty : TypeId} {pos : String} {af : Array Edge} {g : Option (Nat × Bool)} {x y : Operand} {a b : Int} (hx : ev σ x = .int .i64 a) (hy : ev σ y = .int .i64 b) :
    Does Try.prog N ⟨dst, .buildSlice 22 2 #[(0, x), (1, y)], ty, pos, af, g⟩ (ints2F a b) σ w := by
  have hn := New.mk' w #[.int .i64 a, .int .i64 b] 3
  refine Does_val (run_buildSlice (parts := [(0, x), (1, y)]) (ps := [(0, .int .i64 a), (1, .int .i64 b)]) (by simp only [List.map, hx, hy]) Try.underlying22 siz3 zer3 (by decide) (by decide) (by kernel_rfl)) hn.ext ?_
  exact ⟨_, rfl, ints_of_blk [a, b] hn.blk (by simp) (by simp)⟩
def cfS (x y : VSp) : Int := orL [cmpI x.s.1 y.s.1, cmpI x.s.2 y.s.2]
theorem cfS_c (w0 : World) (x y : VSp) : Ret Try.prog 97 #[.agg #[.int .i64 x.s.1, .int .i64 x.s.2], .agg #[.int .i64 y.s.1, .int .i64 y.s.2]] w0 fun v w => v = .int .i64 (cfS x y) ∧ Ext w0 w := by
  refine Ret_of Try.func97 rfl Try.ntmps97 (Nat.le_of_ble_eq_true rfl) ?_
  have E : Chg none1 w0 w0 := Chg.refl _ _
  refine Wp_seq_region ?_
  refine s_box (v := (.agg #[(.int .i64 x.s.1), (.int .i64 x.s.2)])) (c := #[(.int .i64 x.s.1), (.int .i64 x.s.2)]) (by decide) rfl rfl ?_
  intro b1 w1 N1
  have F1 := N1.ge E
  replace E := E.ext N1.ext
  have B1 := N1.blk
  refine s_box (v := (.agg #[(.int .i64 y.s.1), (.int .i64 y.s.2)])) (c := #[(.int .i64 y.s.1), (.int .i64 y.s.2)]) (by decide) rfl rfl ?_
  intro b2 w2 N2
  have F2 := N2.ge E
  have O2_b1 := N2.lt B1
  replace B1 := N2.keep B1
  replace E := E.ext N2.ext
  have B2 := N2.blk
  refine WpL_val rfl rfl (by decide) (r_assign (v := (.int .i64 0)) rfl) ?_
  refine WpL_nil ?_
  refine Wp_seq ?_
  obtain ⟨Fs3, hFs3⟩ : ∃ Fs : List Fact, Fs = [.eq (.pointer (some ⟨b1, 0, none⟩)), .eq (.int .i64 x.s.1), .eq (.pointer (some ⟨b2, 0, none⟩)), .eq (.int .i64 y.s.1), .eq (.int .i64 (cmpI x.s.1 y.s.1)), .eq (.pointer (some ⟨b1, 1, none⟩)), .eq (.int .i64 x.s.2), .eq (.pointer (some ⟨b2, 1, none⟩)), .eq (.int .i64 y.s.2), .eq (.int .i64 (cmpI x.s.2 y.s.2)), .gen (ints2F (cmpI x.s.1 y.s.1) (cmpI x.s.2 y.s.2)) (ints2F_ext _ _), .eq (.int .i64 (cfS x y)), .eq (.int .i64 (cfS x y))] := ⟨_, rfl⟩
  refine Wp_dag [5, 6, 7, 8, 9, 10, 11, 12, 13, 14, 15, 16, 4] [[], [0], [], [2], [1, 3], [], [5], [], [7], [4, 6, 8], [4, 9], [9, 10], [0, 1, 2, 3, 4, 5, 6, 7, 8, 9, 10, 11]] Fs3 hFs3 mixed (by kernel_rfl) (by kernel_rfl) ?_ ?_
  · intro wd X0
    refine DagSteps.cons (fun s' w' X U H => Or.inl ⟨?_, ?_⟩) ?_
    · exact Guarded_none rfl
    · exact Does_val (r_fieldAddr (b := b1) (o := 0) (o' := 0) (U 2 rfl) Try.underlying37 rfl siz3 rfl) (Ext.refl _) rfl
    refine DagSteps.cons (fun s' w' X U H => Or.inl ⟨?_, ?_⟩) ?_
    · exact Guarded_none rfl
    · have e5 : s' 5 = (.pointer (some ⟨b1, 0, none⟩)) := H 0 rfl 5 (.eq (.pointer (some ⟨b1, 0, none⟩))) rfl (by rw [hFs3]; rfl)
      exact Does_val (r_load (v := (.int .i64 x.s.1)) e5 flat3 (((X0.trans X).keep B1).cell rfl)) (Ext.refl _) rfl
    refine DagSteps.cons (fun s' w' X U H => Or.inl ⟨?_, ?_⟩) ?_
    · exact Guarded_none rfl
    · exact Does_val (r_fieldAddr (b := b2) (o := 0) (o' := 0) (U 3 rfl) Try.underlying37 rfl siz3 rfl) (Ext.refl _) rfl
    refine DagSteps.cons (fun s' w' X U H => Or.inl ⟨?_, ?_⟩) ?_
    · exact Guarded_none rfl
    · have e7 : s' 7 = (.pointer (some ⟨b2, 0, none⟩)) := H 2 rfl 7 (.eq (.pointer (some ⟨b2, 0, none⟩))) rfl (by rw [hFs3]; rfl)
      exact Does_val (r_load (v := (.int .i64 y.s.1)) e7 flat3 (((X0.trans X).keep B2).cell rfl)) (Ext.refl _) rfl
    refine DagSteps.cons (fun s' w' X U H => Or.inl ⟨?_, ?_⟩) ?_
    · exact Guarded_none rfl
    · have e6 : s' 6 = (.int .i64 x.s.1) := H 1 rfl 6 (.eq (.int .i64 x.s.1)) rfl (by rw [hFs3]; rfl)
      have e8 : s' 8 = (.int .i64 y.s.1) := H 3 rfl 8 (.eq (.int .i64 y.s.1)) rfl (by rw [hFs3]; rfl)
      exact Does_enter (r_callF (vs := [(.int .i64 x.s.1), (.int .i64 y.s.1)]) Try.func90 nm90 bd90 (lst2 e6 e8)) (compare_c _ _ _)
    refine DagSteps.cons (fun s' w' X U H => Or.inl ⟨?_, ?_⟩) ?_
    · exact Guarded_none rfl
    · exact Does_val (r_fieldAddr (b := b1) (o := 0) (o' := 1) (U 2 rfl) Try.underlying37 rfl siz3 rfl) (Ext.refl _) rfl
    refine DagSteps.cons (fun s' w' X U H => Or.inl ⟨?_, ?_⟩) ?_
    · exact Guarded_none rfl
    · have e10 : s' 10 = (.pointer (some ⟨b1, 1, none⟩)) := H 5 rfl 10 (.eq (.pointer (some ⟨b1, 1, none⟩))) rfl (by rw [hFs3]; rfl)
      exact Does_val (r_load (v := (.int .i64 x.s.2)) e10 flat3 (((X0.trans X).keep B1).cell rfl)) (Ext.refl _) rfl
    refine DagSteps.cons (fun s' w' X U H => Or.inl ⟨?_, ?_⟩) ?_
    · exact Guarded_none rfl
    · exact Does_val (r_fieldAddr (b := b2) (o := 0) (o' := 1) (U 3 rfl) Try.underlying37 rfl siz3 rfl) (Ext.refl _) rfl
    refine DagSteps.cons (fun s' w' X U H => Or.inl ⟨?_, ?_⟩) ?_
    · exact Guarded_none rfl
    · have e12 : s' 12 = (.pointer (some ⟨b2, 1, none⟩)) := H 7 rfl 12 (.eq (.pointer (some ⟨b2, 1, none⟩))) rfl (by rw [hFs3]; rfl)
      exact Does_val (r_load (v := (.int .i64 y.s.2)) e12 flat3 (((X0.trans X).keep B2).cell rfl)) (Ext.refl _) rfl
    refine DagSteps.cons (fun s' w' X U H => Or.inl ⟨?_, ?_⟩) ?_
    · exact Guarded_none rfl
    · have e11 : s' 11 = (.int .i64 x.s.2) := H 6 rfl 11 (.eq (.int .i64 x.s.2)) rfl (by rw [hFs3]; rfl)
      have e13 : s' 13 = (.int .i64 y.s.2) := H 8 rfl 13 (.eq (.int .i64 y.s.2)) rfl (by rw [hFs3]; rfl)
      exact Does_enter (r_callF (vs := [(.int .i64 x.s.2), (.int .i64 y.s.2)]) Try.func90 nm90 bd90 (lst2 e11 e13)) (compare_c _ _ _)
    refine DagSteps.cons (fun s' w' X U H => Or.inl ⟨?_, ?_⟩) ?_
    · exact Guarded_none rfl
    · have e9 : s' 9 = (.int .i64 (cmpI x.s.1 y.s.1)) := H 4 rfl 9 (.eq (.int .i64 (cmpI x.s.1 y.s.1))) rfl (by rw [hFs3]; rfl)
      have e14 : s' 14 = (.int .i64 (cmpI x.s.2 y.s.2)) := H 9 rfl 14 (.eq (.int .i64 (cmpI x.s.2 y.s.2))) rfl (by rw [hFs3]; rfl)
      exact Does_ints2 e9 e14
    refine DagSteps.cons (fun s' w' X U H => Or.inl ⟨?_, ?_⟩) ?_
    · exact Guarded_none rfl
    · obtain ⟨b15, e15, i15⟩ := H 10 rfl 15 (.gen (ints2F (cmpI x.s.1 y.s.1) (cmpI x.s.2 y.s.2)) (ints2F_ext _ _)) rfl (by rw [hFs3]; rfl)
      exact Does_enter (r_callF (vs := [(.slice (some ⟨b15, 0, none⟩) 2 2)]) Try.func117 nm117 bd117 (lst1 e15)) (or_c _ _ _ (e15 ▸ i15))
    refine DagSteps.cons (fun s' w' X U H => Or.inl ⟨?_, ?_⟩) ?_
    · exact Guarded_none rfl
    · have e16 : s' 16 = (.int .i64 (cfS x y)) := H 11 rfl 16 (.eq (.int .i64 (cfS x y))) rfl (by rw [hFs3]; rfl)
      exact Does_val (r_assign (v := (.int .i64 (cfS x y))) e16) (Ext.refl _) rfl
    exact DagSteps.nil
  · intro s' w3 X3 U H
    obtain ⟨j3, rfl⟩ := Fits.out (σ := s') (l := [(4, (.int .i64 (cfS x y)))]) ⟨(show s' 4 = (.int .i64 (cfS x y)) from H 12 4 (.eq (.int .i64 (cfS x y))) rfl (by rw [hFs3]; rfl)), trivial⟩
    clear U H
    replace B1 := X3.keep B1
    replace B2 := X3.keep B2
    replace E := E.ext X3
    refine thn_normal ?_
    refine Wp_ret ?_
    refine fin_tmp Try.results97 (v := (.int .i64 (cfS x y))) rfl ?_
    exact ⟨rfl, E⟩
theorem cfS_lt (x y : VSp) : cfS x y < 0 ↔ x.s.1 < y.s.1 ∨ x.s.1 = y.s.1 ∧ x.s.2 < y.s.2 := by
  unfold cfS orL orL orL cmpI
  (repeat' split) <;> omega
theorem swoS : SWO (ltOf cfS) := by
  refine ⟨fun x => ?_, fun x y z => ?_, fun x y z => ?_⟩ <;> simp only [ltOf, decide_eq_true_eq, decide_eq_false_iff_not, cfS_lt] <;> omega
theorem sortC_c (w0 : World) (base : Nat) (v : Value) (l : List Sp) (h : OwnS w0 base v l) (hl : l.length ≤ 8796093022208) (hok : ∀ s ∈ l, vSp s) :
    Ret Try.prog 55 #[v, .func (.func 97) #[] #[]] w0 fun r w => r = .tuple #[] ∧ (∃ ls : List Sp, ls.Perm l ∧ ls.Pairwise (fun s t => s.1 ≤ t.1) ∧ SpansAt w v ls) ∧ Chg (fun x => v.ownBlock = some x) w0 w :=
  (sorts_c cfS swoS Try.func97 nm97 bd97 cfS_c w0 base v l h hl hok).mono fun r w ⟨h1, ⟨l', h2, h3, h4⟩, h5⟩ =>
    ⟨h1, ⟨_, h2, List.pairwise_map.2 (h3.imp fun {s t} hst => by rw [cfS_lt] at hst; omega), h4⟩, h5⟩
def cf1 (x y : VSp) : Int := x.s.1 - y.s.1
theorem cf1_c (w0 : World) (x y : VSp) : Ret Try.prog 56 #[.agg #[.int .i64 x.s.1, .int .i64 x.s.2], .agg #[.int .i64 y.s.1, .int .i64 y.s.2]] w0 fun v w => v = .int .i64 (cf1 x y) ∧ Ext w0 w := by
  have hx := x.ok
  have hy := y.ok
  unfold vSp at hx hy
  refine Ret_of Try.func56 rfl Try.ntmps56 (Nat.le_of_ble_eq_true rfl) ?_
  have E : Chg none1 w0 w0 := Chg.refl _ _
  refine Wp_seq_region ?_
  refine s_box (v := (.agg #[(.int .i64 x.s.1), (.int .i64 x.s.2)])) (c := #[(.int .i64 x.s.1), (.int .i64 x.s.2)]) (by decide) rfl rfl ?_
  intro b1 w1 N1
  have F1 := N1.ge E
  replace E := E.ext N1.ext
  have B1 := N1.blk
  refine s_box (v := (.agg #[(.int .i64 y.s.1), (.int .i64 y.s.2)])) (c := #[(.int .i64 y.s.1), (.int .i64 y.s.2)]) (by decide) rfl rfl ?_
  intro b2 w2 N2
  have F2 := N2.ge E
  have O2_b1 := N2.lt B1
  replace B1 := N2.keep B1
  replace E := E.ext N2.ext
  have B2 := N2.blk
  refine WpL_val rfl rfl (by decide) (r_assign (v := (.int .i64 0)) rfl) ?_
  refine WpL_nil ?_
  refine Wp_seq_region ?_
  refine WpL_val rfl rfl (by decide) (r_fieldAddr (b := b1) (o := 0) (o' := 0) rfl Try.underlying37 rfl siz3 rfl) ?_
  refine WpL_val rfl rfl (by decide) (r_load (v := (.int .i64 x.s.1)) rfl flat3 (B1.cell rfl)) ?_
  refine WpL_val rfl rfl (by decide) (r_fieldAddr (b := b2) (o := 0) (o' := 0) rfl Try.underlying37 rfl siz3 rfl) ?_
  refine WpL_val rfl rfl (by decide) (r_load (v := (.int .i64 y.s.1)) rfl flat3 (B2.cell rfl)) ?_
  refine WpL_val rfl rfl (by decide) (r_sub (k := .i64) (a := x.s.1) (b := y.s.1) (c := x.s.1 - y.s.1) rfl rfl (wI64 (by omega))) ?_
  refine WpL_val rfl rfl (by decide) (r_assign (v := (.int .i64 (x.s.1 - y.s.1))) rfl) ?_
  refine WpL_nil ?_
  refine Wp_ret ?_
  refine fin_tmp Try.results56 (v := (.int .i64 (x.s.1 - y.s.1))) rfl ?_
  exact ⟨rfl, E⟩
theorem cf1_lt (x y : VSp) : cf1 x y < 0 ↔ x.s.1 < y.s.1 := by unfold cf1; omega
theorem swo1 : SWO (ltOf cf1) := by
  refine ⟨fun x => ?_, fun x y z => ?_, fun x y z => ?_⟩ <;> simp only [ltOf, decide_eq_true_eq, decide_eq_false_iff_not, cf1_lt] <;> omega
theorem sort1_c (w0 : World) (base : Nat) (v : Value) (l : List Sp) (h : OwnS w0 base v l) (hl : l.length ≤ 8796093022208) (hok : ∀ s ∈ l, vSp s) :
    Ret Try.prog 55 #[v, .func (.func 56) #[] #[]] w0 fun r w => r = .tuple #[] ∧ (∃ ls : List Sp, ls.Perm l ∧ ls.Pairwise (fun s t => s.1 ≤ t.1) ∧ SpansAt w v ls) ∧ Chg (fun x => v.ownBlock = some x) w0 w :=
  (sorts_c cf1 swo1 Try.func56 nm56 bd56 cf1_c w0 base v l h hl hok).mono fun r w ⟨h1, ⟨l', h2, h3, h4⟩, h5⟩ =>
    ⟨h1, ⟨_, h2, List.pairwise_map.2 (h3.imp fun {s t} hst => by unfold cf1 at hst; omega), h4⟩, h5⟩

/-! A slice of one's own is written. -/
theorem own_write {w w' : World} {base e size n cap g i : Nat} {xs : List Value} {cur : Array Value} {v : Value} (h : w.ownsRow base e size (.slice (some ⟨g, 0, none⟩) n cap) n xs) (hB : Blk w g cur e) (hi : i < n * size) (hB' : Blk w' g (cur.setIfInBounds i v) e) : w'.ownsRow base e size (.slice (some ⟨g, 0, none⟩) n cap) n (xs.set i v) := by
  rcases h.2 with ⟨h1, _⟩ | ⟨g', cap', cur', hv, hbg, hg, hnc, hcm, hcs, htake⟩
  · simp at h1
  · simp only [Value.slice.injEq, Option.some.injEq, Addr.mk.injEq, and_true] at hv
    obtain ⟨rfl, _, rfl⟩ := hv
    unfold Blk at hB hB'
    rw [hB] at hg
    simp only [Option.some.injEq, Obj.cells.injEq, and_true] at hg
    obtain ⟨rfl, _⟩ := hg
    refine ⟨by simpa using h.1, .inr ⟨g, cap, _, rfl, hbg, hB', hnc, hcm, by simpa using hcs, ?_⟩⟩
    rw [← htake, Array.toList_setIfInBounds, List.take_set]
theorem own_blk {w : World} {base e size n cap g : Nat} {xs : List Value} (h : w.ownsRow base e size (.slice (some ⟨g, 0, none⟩) n cap) n xs) : ∃ cur, Blk w g cur e ∧ n * size ≤ cur.size := by
  rcases h.2 with ⟨h1, _⟩ | ⟨g', cap', cur', hv, hbg, hg, hnc, hcm, hcs, htake⟩
  · simp at h1
  · simp only [Value.slice.injEq, Option.some.injEq, Addr.mk.injEq, and_true] at hv
    obtain ⟨rfl, _, rfl⟩ := hv
    exact ⟨cur', hg, by rw [hcs]; exact Nat.mul_le_mul_right _ hnc⟩
theorem span_last (o : List Sp) (c : Sp) : ((o ++ [c]).map spanV).flatten[o.length * 2 + 1]? = some (.int .i64 c.2) := by
  rw [spanV_snoc, List.getElem?_append_right (by rw [spans_six]; omega), spans_six]
  rw [show o.length * 2 + 1 - o.length * 2 = 1 from by omega]; rfl
theorem span_set (o : List Sp) (c : Sp) (x : Int) : ((o ++ [c]).map spanV).flatten.set (o.length * 2 + 1) (.int .i64 x) = ((o ++ [(c.1, x)]).map spanV).flatten := by
  rw [spanV_snoc, spanV_snoc, List.set_append, if_neg (by rw [spans_six]; omega), spans_six, show o.length * 2 + 1 - o.length * 2 = 1 from by omega]; rfl

set_option maxHeartbeats 2000000 in
theorem join_c (w0 : World) (v : Value) (l : List Sp) (h : SpansAt w0 v l) (hl : l.length ≤ 8796093022208) (hok : ∀ s ∈ l, vSp s) :
    Ret Try.prog 64 #[v] w0 fun r w => (∃ out, JoinOf l out ∧ OwnS w w0.heap.size r out) ∧ Ext w0 w := by
  refine Ret_of Try.func64 rfl Try.ntmps64 (Nat.le_of_ble_eq_true rfl) ?_
  have E : Chg none1 w0 w0 := Chg.refl _ _
  refine Wp_seq_region ?_
  refine WpL_val rfl rfl (by decide) (r_assign (v := (.slice none 0 0)) rfl) ?_
  refine WpL_nil ?_
  refine Wp_seq_region ?_
  refine WpL_val rfl rfl (by decide) (r_move (v := v) rfl) ?_
  refine WpL_enter rfl rfl (by decide) (r_callF (vs := [v]) Try.func52 nm52 bd52 rfl) (clones_c _ v l h (by omega)) ?_
  rintro _ w9 ⟨⟨⟨a9, c9, rfl⟩, O9⟩, X9⟩
  replace E := E.ext X9
  refine WpL_val rfl rfl (by decide) (r_assign (v := (.slice a9 l.length c9)) rfl) ?_
  refine WpL_nil ?_
  refine Wp_seq_region ?_
  refine WpL_val rfl rfl (by decide) (r_move (v := (.slice a9 l.length c9)) rfl) ?_
  refine WpL_enter rfl rfl (by decide) (r_callF (vs := [(.slice a9 l.length c9), (.func (.func 97) #[] #[])]) Try.func55 nm55 bd55 rfl) (sortC_c _ w0.heap.size (.slice a9 l.length c9) l ⟨⟨_, _, rfl⟩, O9⟩ (by omega) hok) ?_
  rintro _ w10 ⟨rfl, ⟨ls, hperm, hsort, hat⟩, C10⟩
  replace E := E.step C10 (fun x hx hm => absurd (O9.lt x hm).1 (by omega))
  have hlen : ls.length = l.length := hperm.length_eq
  have hokl : ∀ s ∈ ls, vSp s := fun s hs => hok s (hperm.mem_iff.1 hs)
  have hsz0 : w0.heap.size ≤ w10.heap.size := E.size
  obtain ⟨base, hbase⟩ : ∃ base, base = w10.heap.size := ⟨_, rfl⟩
  have E2 : Chg none1 w10 w10 := Chg.refl _ _
  refine WpL_nil ?_
  refine Wp_seq_region ?_
  refine WpL_val rfl rfl (by decide) (r_assign (v := (.slice none 0 0)) rfl) ?_
  refine WpL_nil ?_
  refine Wp_seq ?_
  refine Wp_seq_region ?_
  refine WpL_val rfl rfl (by decide) (r_move (v := (.slice a9 l.length c9)) rfl) ?_
  refine WpL_val rfl rfl (by decide) (r_lenSlice (ad := a9) (n := l.length) (cap := c9) Try.underlying23 rfl) ?_
  refine WpL_val rfl rfl (by decide) (r_move (v := (.int .i64 0)) rfl) ?_
  refine WpL_nil ?_
  refine Wp_block ?_
  refine Wp_loop (fun nn_ σ W1 => ∃ (k : Nat) (la : Option Addr) (lc : Nat) (m : Nat) (ou : List Sp), (∃ jj_, σ = upds jj_ [(11, (.slice a9 l.length c9)), (12, (.int .i64 ((l.length : Nat) : Int))), (13, (.int .i64 ((k : Nat) : Int))), (3, (.slice la m lc))]) ∧ Chg none1 w0 W1 ∧ Chg none1 w10 W1 ∧ (k ≤ l.length) ∧ (m = ou.length) ∧ (m ≤ k) ∧ (∀ s ∈ ou, 0 ≤ s.2 ∧ s.2 ≤ 1114111) ∧ ((ls.drop k).foldl jstep ou = joinF ls) ∧ (W1.ownsRow base TSp 2 (.slice la m lc) m (ou.map spanV).flatten) ∧ (base ≤ W1.heap.size) ∧ nn_ = l.length - k) (n := l.length - 0) ?_ ?_
  · exact ⟨0, none, 0, 0, [], Fits.out ⟨rfl, rfl, rfl, rfl, trivial⟩, E, E2, Nat.zero_le _, rfl, Nat.le_refl _, (fun s hs => absurd hs List.not_mem_nil), rfl, World.ownsRow_nil _ _ _ _, (by omega), rfl⟩
  · clear E E2
    rintro _ _ W1 ⟨k, la, lc, m, ou, ⟨j1, rfl⟩, E, E2, hk, hm, hlo, hvo, hou, hown, hbs, rfl⟩
    refine Wp_seq_region ?_
    refine WpL_val rfl rfl (by decide) (r_lss (k := .i64) (a := ((k : Nat) : Int)) (b := ((l.length : Nat) : Int)) rfl rfl) ?_
    refine WpL_nil ?_
    refine Wp_seq ?_
    refine Wp_cond (b := decide ((((k : Nat) : Int) : Int) < ((l.length : Nat) : Int))) rfl (fun hlt => ?_) (fun hlt => ?_)
    · have khlt := hlt
      replace hlt := of_decide_eq_true hlt
      obtain ⟨s, hs⟩ := get_of_lt (l := ls) (i := k) (by omega)
      have hv := hokl s (List.mem_of_getElem? hs)
      unfold vSp at hv
      obtain ⟨b, o, hab, hcl⟩ := spans_cells hat (by omega)
      subst hab
      rw [drop_cons hs, List.foldl_cons] at hou
      have hown0 := hown
      refine Wp_skip ?_
      refine thn_normal ?_
      refine Wp_seq ?_
      refine Wp_block ?_
      refine Wp_seq_region ?_
      refine WpL_val rfl rfl (by decide) (r_indexSlice (b := b) (o := o) (len := l.length) (cap := c9) (i := k) (o' := o + k * 2) rfl rfl rfl Try.underlying23 siz37 (by omega) (by omega)) ?_
      refine WpL_val rfl rfl (by decide) (r_loadAgg (vs := [(.int .i64 s.1), (.int .i64 s.2)]) rfl agg37 siz37 rfl ((hcl k s hs).ext E2)) ?_
      refine s_allocStore (v := (.agg #[(.int .i64 s.1), (.int .i64 s.2)])) (c := #[(.int .i64 s.1), (.int .i64 s.2)]) (n := 2) (by decide) zer37 rfl siz37 rfl rfl rfl (by simp [Value.oneCell']) ?_
      intro bq wq Nq
      have Fq := Nq.ge E
      have Fq_E2 := Nq.ge E2
      replace hown := own_ext hown Nq.ext
      replace hbs := Nat.le_trans hbs Nq.ext.size
      replace E := E.ext Nq.ext
      have Bq := Nq.blk
      replace E2 := E2.ext Nq.ext
      refine WpL_nil ?_
      rcases Bool.eq_false_or_eq_true (decide ((0 : Int) < ((m : Nat) : Int))) with hm0 | hm0
      · have khm0 := hm0
        replace khm0 := of_decide_eq_true khm0
        obtain ⟨oo, cc, hoc⟩ : ∃ oo cc, ou = oo ++ [cc] := by rcases snoc_cases ou with rfl | h1; simp at hm; omega; exact h1
        subst hoc
        have hvc := hvo cc (by simp)
        have hmo : m = oo.length + 1 := by simpa using hm
        obtain ⟨g, rfl, hgb, hgc⟩ := own_cells hown (by omega)
        have hgn : g ≠ bq := fun h1 => by have := (hown0.lt g rfl).2; have := Nq.eq; omega
        refine Wp_seq_region ?_
        refine WpL_val rfl rfl (by decide) (r_move (v := (.slice (some ⟨g, 0, none⟩) m lc)) rfl) ?_
        refine WpL_val rfl rfl (by decide) (r_lenSlice (ad := some ⟨g, 0, none⟩) (n := m) (cap := lc) Try.underlying23 rfl) ?_
        refine WpL_val rfl rfl (by decide) (r_assign (v := (.int .i64 ((m : Nat) : Int))) rfl) ?_
        refine WpL_nil ?_
        refine Wp_seq_draw 13 mixed (by kernel_rfl) ?_
        intro w3 X3 _
        replace Bq := X3.keep Bq
        replace hown := own_ext hown X3
        replace hbs := Nat.le_trans hbs X3.size
        replace E := E.ext X3
        replace E2 := E2.ext X3
        refine WpT_val rfl rfl (by decide) (r_move (v := (.int .i64 ((m : Nat) : Int))) rfl) ?_
        refine WpT_val rfl rfl (by decide) (r_gtr (k := .i64) (a := ((m : Nat) : Int)) (b := 0) rfl rfl) ?_
        refine WpT_val rfl rfl (by decide) (r_move (v := (.bool (decide ((0 : Int) < ((m : Nat) : Int))))) rfl) ?_
        refine WpT_guard_yes (oj := _) rfl rfl (by decide) (congrArg Value.bool hm0) ?_
        refine WpT_val rfl rfl (by decide) (r_fieldAddr (b := bq) (o := 0) (o' := 0) rfl Try.underlying37 rfl siz3 rfl) ?_
        refine WpT_guard_yes (oj := _) rfl rfl (by decide) (congrArg Value.bool hm0) ?_
        refine WpT_val rfl rfl (by decide) (r_load (v := (.int .i64 s.1)) rfl flat3 (Bq.cell rfl)) ?_
        refine WpT_guard_yes (oj := _) rfl rfl (by decide) (congrArg Value.bool hm0) ?_
        refine WpT_val rfl rfl (by decide) (r_move (v := (.slice (some ⟨g, 0, none⟩) m lc)) rfl) ?_
        refine WpT_guard_yes (oj := _) rfl rfl (by decide) (congrArg Value.bool hm0) ?_
        refine WpT_val rfl rfl (by decide) (r_move (v := (.int .i64 ((m : Nat) : Int))) rfl) ?_
        refine WpT_guard_yes (oj := _) rfl rfl (by decide) (congrArg Value.bool hm0) ?_
        refine WpT_val rfl rfl (by decide) (r_sub (k := .i64) (a := ((m : Nat) : Int)) (b := 1) (c := ((m : Nat) : Int) - 1) rfl rfl (wI64 (by omega))) ?_
        refine WpT_guard_yes (oj := _) rfl rfl (by decide) (congrArg Value.bool hm0) ?_
        refine WpT_val rfl rfl (by decide) (r_indexSlice (b := g) (o := 0) (len := m) (cap := lc) (i := m - 1) (o' := 0 + (m - 1) * 2) rfl rfl (by omega) Try.underlying23 siz37 (by omega) (by omega)) ?_
        refine WpT_guard_yes (oj := _) rfl rfl (by decide) (congrArg Value.bool hm0) ?_
        refine WpT_val rfl rfl (by decide) (r_fieldAddr (b := g) (o := 0 + (m - 1) * 2) (o' := 0 + (m - 1) * 2 + 1) rfl Try.underlying37 rfl siz3 rfl) ?_
        refine WpT_guard_yes (oj := _) rfl rfl (by decide) (congrArg Value.bool hm0) ?_
        refine WpT_val rfl rfl (by decide) (r_load (v := (.int .i64 cc.2)) rfl flat3 ((by have h1 := (hown.cells (g := g) rfl) (oo.length * 2 + 1) _ (span_last oo cc); rwa [Addr.add_lit, show 0 + (oo.length * 2 + 1) = 0 + (m - 1) * 2 + 1 from by omega] at h1))) ?_
        refine WpT_guard_yes (oj := _) rfl rfl (by decide) (congrArg Value.bool hm0) ?_
        refine WpT_val rfl rfl (by decide) (r_add (k := .i64) (a := cc.2) (b := 1) (c := cc.2 + 1) rfl rfl (wI64 (by omega))) ?_
        refine WpT_guard_yes (oj := _) rfl rfl (by decide) (congrArg Value.bool hm0) ?_
        refine WpT_val rfl rfl (by decide) (r_leq (k := .i64) (a := s.1) (b := cc.2 + 1) rfl rfl) ?_
        refine WpT_zero ?_
        refine WpL_val rfl rfl (by decide) (r_pick (b := decide ((0 : Int) < ((m : Nat) : Int))) (v := (.bool (decide ((s.1 : Int) ≤ cc.2 + 1)))) rfl (by rw [hm0]; rfl)) ?_
        refine WpL_nil ?_
        refine Wp_cond (b := decide ((s.1 : Int) ≤ cc.2 + 1)) rfl (fun hj => ?_) (fun hj => ?_)
        · have khj := hj
          replace hj := of_decide_eq_true hj
          obtain ⟨cur, hB, hcs⟩ := own_blk hown
          refine Wp_draw 14 mixed (by kernel_rfl) ?_
          intro w5 X5 _
          replace Bq := X5.keep Bq
          replace hB := X5.keep hB
          replace hown := own_ext hown X5
          replace hbs := Nat.le_trans hbs X5.size
          replace E := E.ext X5
          replace E2 := E2.ext X5
          refine WpT_val rfl rfl (by decide) (r_move (v := (.slice (some ⟨g, 0, none⟩) m lc)) rfl) ?_
          refine WpT_val rfl rfl (by decide) (r_move (v := (.int .i64 ((m : Nat) : Int))) rfl) ?_
          refine WpT_val rfl rfl (by decide) (r_sub (k := .i64) (a := ((m : Nat) : Int)) (b := 1) (c := ((m : Nat) : Int) - 1) rfl rfl (wI64 (by omega))) ?_
          refine WpT_val rfl rfl (by decide) (r_move (v := (.slice (some ⟨g, 0, none⟩) m lc)) rfl) ?_
          refine WpT_val rfl rfl (by decide) (r_move (v := (.int .i64 ((m : Nat) : Int))) rfl) ?_
          refine WpT_val rfl rfl (by decide) (r_sub (k := .i64) (a := ((m : Nat) : Int)) (b := 1) (c := ((m : Nat) : Int) - 1) rfl rfl (wI64 (by omega))) ?_
          refine WpT_val rfl rfl (by decide) (r_indexSlice (b := g) (o := 0) (len := m) (cap := lc) (i := m - 1) (o' := 0 + (m - 1) * 2) rfl rfl (by omega) Try.underlying23 siz37 (by omega) (by omega)) ?_
          refine WpT_val rfl rfl (by decide) (r_fieldAddr (b := g) (o := 0 + (m - 1) * 2) (o' := 0 + (m - 1) * 2 + 1) rfl Try.underlying37 rfl siz3 rfl) ?_
          refine WpT_val rfl rfl (by decide) (r_load (v := (.int .i64 cc.2)) rfl flat3 ((by have h1 := (hown.cells (g := g) rfl) (oo.length * 2 + 1) _ (span_last oo cc); rwa [Addr.add_lit, show 0 + (oo.length * 2 + 1) = 0 + (m - 1) * 2 + 1 from by omega] at h1))) ?_
          refine WpT_val rfl rfl (by decide) (r_fieldAddr (b := bq) (o := 0) (o' := 1) rfl Try.underlying37 rfl siz3 rfl) ?_
          refine WpT_val rfl rfl (by decide) (r_load (v := (.int .i64 s.2)) rfl flat3 (Bq.cell rfl)) ?_
          refine WpT_val rfl rfl (by decide) (r_maxI rfl rfl rfl) ?_
          refine WpT_val rfl rfl (by decide) (r_indexSlice (b := g) (o := 0) (len := m) (cap := lc) (i := m - 1) (o' := 0 + (m - 1) * 2) rfl rfl (by omega) Try.underlying23 siz37 (by omega) (by omega)) ?_
          refine WpT_val rfl rfl (by decide) (r_fieldAddr (b := g) (o := 0 + (m - 1) * 2) (o' := 0 + (m - 1) * 2 + 1) rfl Try.underlying37 rfl siz3 rfl) ?_
          refine WpT_zero ?_
          have hB0 := hB
          refine s_store (b := g) (o := 0 + (m - 1) * 2 + 1) (c' := cur.setIfInBounds (0 + (m - 1) * 2 + 1) (.int .i64 (max cc.2 s.2))) (v := (.int .i64 (max cc.2 s.2))) rfl rfl rfl siz3 hB (by omega) (rfl) ?_
          intro w6 S6
          replace Bq := S6.keep (by omega) Bq
          replace E := S6.step E (by first | exact Or.inl (by omega) | exact Or.inr rfl | exact Or.inr (by assumption) | exact Or.inr (by simp) | exact Or.inr (by omega) | exact Or.inr (by dsimp only; omega))
          replace E2 := S6.step E2 (Or.inl (by omega))
          replace hB := S6.blk
          have hown1 := own_write hown hB0 (i := 0 + (m - 1) * 2 + 1) (by omega) hB
          refine WpL_nil ?_
          refine inB_normal ?_
          refine thn_normal ?_
          refine Wp_region ?_
          refine WpL_val rfl rfl (by decide) (r_add (k := .i64) (a := ((k : Nat) : Int)) (b := 1) (c := ((k : Nat) : Int) + 1) rfl rfl (wI64 (by omega))) ?_
          refine WpL_val rfl rfl (by decide) (r_move (v := (.int .i64 (((k : Nat) : Int) + 1))) rfl) ?_
          refine WpL_nil ?_
          refine thn_normal ?_
          exact ⟨l.length - (k + 1), by omega, k + 1, some ⟨g, 0, none⟩, lc, m, oo ++ [(cc.1, max cc.2 s.2)], Fits.out ⟨rfl, rfl, rfl, rfl, trivial⟩, E, E2, (by omega), (by simp [hmo]), (by omega), (fun u hu => by rcases List.mem_append.1 hu with hu | hu; exact hvo u (by simp [hu]); rw [List.mem_singleton] at hu; subst hu; simp only; omega), (by rw [← hou, jstep_snoc, if_pos hj]), (by rw [show 0 + (m - 1) * 2 + 1 = oo.length * 2 + 1 from by omega, span_set] at hown1; exact hown1), (by have := hown1.lt g rfl; omega), rfl⟩
        · have khj := hj
          replace hj := of_decide_eq_false hj
          refine Wp_region ?_
          refine WpL_val rfl rfl (by decide) (r_move (v := (.slice (some ⟨g, 0, none⟩) m lc)) rfl) ?_
          refine WpL_val rfl rfl (by decide) (r_loadAgg (vs := [(.int .i64 s.1), (.int .i64 s.2)]) rfl agg37 siz37 rfl (Bq.cells rfl)) ?_
          refine s_buildSlice (ps := [(0, (.agg #[(.int .i64 s.1), (.int .i64 s.2)]))]) (c := #[(.int .i64 s.1), (.int .i64 s.2)]) (by decide) rfl Try.underlying23 siz37 zer37 (by decide) (by decide) (by kernel_rfl) ?_
          intro br wr Nr
          have Fr := Nr.ge E
          have Fr_E2 := Nr.ge E2
          have Or_bq := Nr.lt Bq
          replace Bq := Nr.keep Bq
          replace hown := own_ext hown Nr.ext
          replace hbs := Nat.le_trans hbs Nr.ext.size
          replace E := E.ext Nr.ext
          have Br := Nr.blk
          replace E2 := E2.ext Nr.ext
          refine s_append (base := base) (n := m) (m := 1) (xs := ((oo ++ [cc]).map spanV).flatten) (news := [(.int .i64 s.1), (.int .i64 s.2)]) (size := 2) (bytes := 16) (v := (.slice (some ⟨g, 0, none⟩) m lc)) (by decide) Try.underlying23 siz37 byt37 zer37 rfl (by decide) rfl hown rfl (rfl) (Br.cells rfl) (by simp [Value.oneCell']) (by unfold maxLen; omega) (by omega) (hbs) ?_
          intro v9 w29 Ov9 Cv9 Dv9
          replace Bq := Cv9.keep (fun h => by have := (hown0.lt _ h).2; have := Nq.eq; omega) Bq
          replace E := E.step Cv9 (fun x hx h => absurd (hown.lt x h).1 (by omega))
          replace E2 := E2.step Cv9 (fun x hx h => absurd (hown.lt x h).1 (by omega))
          obtain ⟨la2, lc2, rfl⟩ := own_form Ov9
          refine WpL_val rfl rfl (by decide) (r_assign (v := (.slice la2 (m + 1) lc2)) rfl) ?_
          refine WpL_nil ?_
          refine inB_normal ?_
          refine thn_normal ?_
          refine Wp_region ?_
          refine WpL_val rfl rfl (by decide) (r_add (k := .i64) (a := ((k : Nat) : Int)) (b := 1) (c := ((k : Nat) : Int) + 1) rfl rfl (wI64 (by omega))) ?_
          refine WpL_val rfl rfl (by decide) (r_move (v := (.int .i64 (((k : Nat) : Int) + 1))) rfl) ?_
          refine WpL_nil ?_
          refine thn_normal ?_
          exact ⟨l.length - (k + 1), by omega, k + 1, la2, lc2, m + 1, oo ++ [cc] ++ [s], Fits.out ⟨rfl, rfl, rfl, rfl, trivial⟩, E, E2, (by omega), (by simp [hmo]), (by omega), (fun u hu => by rcases List.mem_append.1 hu with hu | hu; exact hvo u hu; rw [List.mem_singleton] at hu; subst hu; omega), (by rw [← hou, jstep_snoc, if_neg hj]), (by rw [spanV_snoc]; exact Ov9), Nat.le_trans hbs Cv9.size, rfl⟩
      · have khm0 := hm0
        replace khm0 := of_decide_eq_false khm0
        have hm1 : m = 0 := by omega
        have hou0 : ou = [] := List.eq_nil_of_length_eq_zero (by omega)
        subst hou0
        refine Wp_seq_region ?_
        refine WpL_val rfl rfl (by decide) (r_move (v := (.slice la m lc)) rfl) ?_
        refine WpL_val rfl rfl (by decide) (r_lenSlice (ad := la) (n := m) (cap := lc) Try.underlying23 rfl) ?_
        refine WpL_val rfl rfl (by decide) (r_assign (v := (.int .i64 ((m : Nat) : Int))) rfl) ?_
        refine WpL_nil ?_
        refine Wp_seq_draw 13 mixed (by kernel_rfl) ?_
        intro w7 X7 _
        replace Bq := X7.keep Bq
        replace hown := own_ext hown X7
        replace hbs := Nat.le_trans hbs X7.size
        replace E := E.ext X7
        replace E2 := E2.ext X7
        refine WpT_val rfl rfl (by decide) (r_move (v := (.int .i64 ((m : Nat) : Int))) rfl) ?_
        refine WpT_val rfl rfl (by decide) (r_gtr (k := .i64) (a := ((m : Nat) : Int)) (b := 0) rfl rfl) ?_
        refine WpT_val rfl rfl (by decide) (r_move (v := (.bool (decide ((0 : Int) < ((m : Nat) : Int))))) rfl) ?_
        refine WpT_guard_no (oj := _) rfl rfl (by decide) (v := .bool false) (congrArg Value.bool hm0) (Or.inl rfl) ?_
        refine WpT_guard_no (oj := _) rfl rfl (by decide) (v := .bool false) (congrArg Value.bool hm0) (Or.inl rfl) ?_
        refine WpT_guard_no (oj := _) rfl rfl (by decide) (v := .bool false) (congrArg Value.bool hm0) (Or.inl rfl) ?_
        refine WpT_guard_no (oj := _) rfl rfl (by decide) (v := .bool false) (congrArg Value.bool hm0) (Or.inl rfl) ?_
        refine WpT_guard_no (oj := _) rfl rfl (by decide) (v := .bool false) (congrArg Value.bool hm0) (Or.inl rfl) ?_
        refine WpT_guard_no (oj := _) rfl rfl (by decide) (v := .bool false) (congrArg Value.bool hm0) (Or.inl rfl) ?_
        refine WpT_guard_no (oj := _) rfl rfl (by decide) (v := .bool false) (congrArg Value.bool hm0) (Or.inl rfl) ?_
        refine WpT_guard_no (oj := _) rfl rfl (by decide) (v := .bool false) (congrArg Value.bool hm0) (Or.inl rfl) ?_
        refine WpT_guard_no (oj := _) rfl rfl (by decide) (v := .bool false) (congrArg Value.bool hm0) (Or.inl rfl) ?_
        refine WpT_guard_no (oj := _) rfl rfl (by decide) (v := .bool false) (congrArg Value.bool hm0) (Or.inl rfl) ?_
        refine WpT_zero ?_
        refine WpL_val rfl rfl (by decide) (r_pick (b := decide ((0 : Int) < ((m : Nat) : Int))) (v := (.bool false)) rfl (by rw [hm0]; rfl)) ?_
        refine WpL_nil ?_
        refine Wp_cond_false rfl ?_
        refine Wp_region ?_
        refine WpL_val rfl rfl (by decide) (r_move (v := (.slice la m lc)) rfl) ?_
        refine WpL_val rfl rfl (by decide) (r_loadAgg (vs := [(.int .i64 s.1), (.int .i64 s.2)]) rfl agg37 siz37 rfl (Bq.cells rfl)) ?_
        refine s_buildSlice (ps := [(0, (.agg #[(.int .i64 s.1), (.int .i64 s.2)]))]) (c := #[(.int .i64 s.1), (.int .i64 s.2)]) (by decide) rfl Try.underlying23 siz37 zer37 (by decide) (by decide) (by kernel_rfl) ?_
        intro b8 w8 N8
        have F8 := N8.ge E
        have F8_E2 := N8.ge E2
        have O8_bq := N8.lt Bq
        replace Bq := N8.keep Bq
        replace hown := own_ext hown N8.ext
        replace hbs := Nat.le_trans hbs N8.ext.size
        replace E := E.ext N8.ext
        have B8 := N8.blk
        replace E2 := E2.ext N8.ext
        refine s_append (base := base) (n := m) (m := 1) (xs := []) (news := [(.int .i64 s.1), (.int .i64 s.2)]) (size := 2) (bytes := 16) (v := (.slice la m lc)) (by decide) Try.underlying23 siz37 byt37 zer37 rfl (by decide) rfl hown rfl (rfl) (B8.cells rfl) (by simp [Value.oneCell']) (by unfold maxLen; omega) (by omega) (hbs) ?_
        intro v9 w29 Ov9 Cv9 Dv9
        replace Bq := Cv9.keep (fun h => by have := (hown0.lt _ h).2; have := Nq.eq; omega) Bq
        replace E := E.step Cv9 (fun x hx h => absurd (hown.lt x h).1 (by omega))
        replace E2 := E2.step Cv9 (fun x hx h => absurd (hown.lt x h).1 (by omega))
        obtain ⟨la2, lc2, rfl⟩ := own_form Ov9
        refine WpL_val rfl rfl (by decide) (r_assign (v := (.slice la2 (m + 1) lc2)) rfl) ?_
        refine WpL_nil ?_
        refine inB_normal ?_
        refine thn_normal ?_
        refine Wp_region ?_
        refine WpL_val rfl rfl (by decide) (r_add (k := .i64) (a := ((k : Nat) : Int)) (b := 1) (c := ((k : Nat) : Int) + 1) rfl rfl (wI64 (by omega))) ?_
        refine WpL_val rfl rfl (by decide) (r_move (v := (.int .i64 (((k : Nat) : Int) + 1))) rfl) ?_
        refine WpL_nil ?_
        refine thn_normal ?_
        exact ⟨l.length - (k + 1), by omega, k + 1, la2, lc2, m + 1, [s], Fits.out ⟨rfl, rfl, rfl, rfl, trivial⟩, E, E2, (by omega), (by simp [hm1]), (by omega), (fun u hu => by rw [List.mem_singleton] at hu; subst hu; omega), (by rw [← hou, jstep_nil]), (by simpa [spanV] using Ov9), Nat.le_trans hbs Cv9.size, rfl⟩
    · have khlt := hlt
      replace hlt := of_decide_eq_false hlt
      have hkk : ls.drop k = [] := List.drop_eq_nil_of_le (by omega)
      rw [hkk, List.foldl_nil] at hou
      refine Wp_exit ?_
      refine thn_exit ?_
      refine thn_exit ?_
      refine inB_here ?_
      refine thn_normal ?_
      refine Wp_seq_region ?_
      refine WpL_val rfl rfl (by decide) (r_move (v := (.slice la m lc)) rfl) ?_
      refine WpL_val rfl rfl (by decide) (r_assign (v := (.slice la m lc)) rfl) ?_
      refine WpL_nil ?_
      refine Wp_ret ?_
      refine fin_tmp Try.results64 (v := (.slice la m lc)) rfl ?_
      subst hou; subst hm
      exact ⟨⟨joinF ls, ⟨ls, hperm, hsort, rfl⟩, ⟨la, lc, rfl⟩, own_low hown (by omega)⟩, E⟩
/-! The functions of package runeset. -/
theorem checkL_ok : ∀ (l : List Sp) (p : Option Int), Canon l → (∀ h, p = some h → ∀ s ∈ l, h + 2 ≤ s.1) → checkL p l = 0
  | [], _, _, _ => rfl
  | s :: r, p, hc, hp => by
    have hv := hc.head
    unfold vSp at hv
    rw [checkL_cons, if_neg (by unfold validB; simp; omega)]
    rw [if_neg, checkL_ok r (some s.2) hc.tail (fun h he t ht => by cases he; exact hc.far t ht)]
    cases p with
    | none => simp
    | some h => have := hp h rfl s List.mem_cons_self; simp; omega
theorem checkL_canon : ∀ (l : List Sp) (p : Option Int), checkL p l = 0 → Canon l ∧ (∀ h, p = some h → ∀ s ∈ l, h + 2 ≤ s.1)
  | [], _, _ => ⟨Canon.nil, fun _ _ _ h => absurd h List.not_mem_nil⟩
  | s :: r, p, h0 => by
    rw [checkL_cons] at h0
    by_cases hv : validB s = false
    · rw [if_pos hv] at h0; cases h0
    rw [if_neg hv] at h0
    have hg : checkL (some s.2) r = 0 ∧ ∀ h, p = some h → h + 2 ≤ s.1 := by
      cases p with
      | none => exact ⟨by simpa using h0, fun _ he => by cases he⟩
      | some q =>
        by_cases hq : s.1 < q + 2
        · simp [hq] at h0
        · simp [hq] at h0; exact ⟨h0, fun h he => by cases he; omega⟩
    obtain ⟨h1, h2⟩ := checkL_canon r (some s.2) hg.1
    have hv2 : vSp s := by unfold vSp; unfold validB at hv; simp at hv; omega
    have h3 := h2 s.2 rfl
    refine ⟨Canon.cons hv2 h3 h1, fun h he t ht => ?_⟩
    have h4 := hg.2 h he
    rcases List.mem_cons.1 ht with rfl | ht
    · omega
    · have := h3 t ht; unfold vSp at hv2; omega
theorem checkE_ok {l : List Sp} (h : Canon l) (hl : l.length ≤ 16) : checkE l = 0 := by
  unfold checkE; rw [if_neg (by omega)]; exact checkL_ok l none h fun _ he => by cases he
theorem checkE_canon {l : List Sp} (h : checkE l = 0) : Canon l ∧ l.length ≤ 16 := by
  unfold checkE at h
  split at h
  · cases h
  · exact ⟨(checkL_canon l none h).1, by omega⟩
def IsSet (out : List Sp) (f : Int → Bool) : Prop := Canon out ∧ ∀ r, 0 ≤ r → r ≤ 1114111 → inS out r = f r
theorem IsSet.eq {a b : List Sp} {f g : Int → Bool} (ha : IsSet a f) (hb : IsSet b g) (h : ∀ r, 0 ≤ r → r ≤ 1114111 → f r = g r) : a = b :=
  canon_ext ha.1 hb.1 fun r h0 h1 => by rw [ha.2 r h0 h1, hb.2 r h0 h1, h r h0 h1]
def SetAt (w : World) (v : Value) (out : List Sp) : Prop := (∃ a c, v = .slice a out.length c) ∧ SpansAt w v out
theorem SetAt.ext {w w' : World} {v : Value} {l : List Sp} (h : SetAt w v l) (e : Ext w w') : SetAt w' v l := ⟨h.1, h.2.ext e⟩
theorem SetAt.nil (w : World) : SetAt w (.slice none 0 0) [] := ⟨⟨none, 0, rfl⟩, SlAt.nil _ _ _ _⟩
theorem OwnS.set {w : World} {base : Nat} {r : Value} {l : List Sp} (h : OwnS w base r l) : SetAt w r l := ⟨h.1, h.at⟩
def fitsP (j out : List Sp) (e : Int) : Prop := if 16 < j.length then e = 2 ∧ out = [] else e = 0 ∧ out = j
def SetRes (w : World) (v : Value) (out : List Sp) (e : Int) : Prop := ∃ a c, v = .tuple #[.slice a out.length c, .int .i64 e] ∧ SpansAt w (.slice a out.length c) out
theorem sfits_c (w0 : World) (v : Value) (j : List Sp) (h : SetAt w0 v j) : Ret Try.prog 61 #[v] w0 fun r w => (∃ out e, fitsP j out e ∧ SetRes w r out e) ∧ Ext w0 w := by
  obtain ⟨⟨a, c, rfl⟩, h⟩ := h
  refine Ret_of Try.func61 rfl Try.ntmps61 (Nat.le_of_ble_eq_true rfl) ?_
  have E : Chg none1 w0 w0 := Chg.refl _ _
  refine Wp_seq_region ?_
  refine WpL_val rfl rfl (by decide) (r_assign (v := (.slice none 0 0)) rfl) ?_
  refine WpL_val rfl rfl (by decide) (r_assign (v := (.int .i64 0)) rfl) ?_
  refine WpL_nil ?_
  refine Wp_seq ?_
  refine Wp_seq_region ?_
  refine WpL_val rfl rfl (by decide) (r_move (v := (.slice a j.length c)) rfl) ?_
  refine WpL_val rfl rfl (by decide) (r_lenSlice (ad := a) (n := j.length) (cap := c) Try.underlying23 rfl) ?_
  refine WpL_val rfl rfl (by decide) (r_gtr (k := .i64) (a := ((j.length : Nat) : Int)) (b := 16) rfl rfl) ?_
  refine WpL_nil ?_
  refine Wp_cond (b := decide ((16 : Int) < ((j.length : Nat) : Int))) rfl (fun hl => ?_) (fun hl => ?_)
  · have khl := hl
    replace hl := of_decide_eq_true hl
    refine Wp_seq_region ?_
    refine WpL_val rfl rfl (by decide) (r_assign (v := (.slice none 0 0)) rfl) ?_
    refine WpL_val rfl rfl (by decide) (r_assign (v := (.int .i64 2)) rfl) ?_
    refine WpL_nil ?_
    refine Wp_ret ?_
    refine thn_ret ?_
    refine fin_tmp2 Try.results61 (v := (.slice none 0 0)) (v' := (.int .i64 2)) rfl rfl ?_
    exact ⟨⟨[], 2, by unfold fitsP; rw [if_pos (by omega)]; exact ⟨rfl, rfl⟩, none, 0, rfl, SlAt.nil _ _ _ _⟩, E⟩
  · have khl := hl
    replace hl := of_decide_eq_false hl
    refine Wp_skip ?_
    refine thn_normal ?_
    refine Wp_seq_region ?_
    refine WpL_val rfl rfl (by decide) (r_move (v := (.slice a j.length c)) rfl) ?_
    refine WpL_val rfl rfl (by decide) (r_assign (v := (.slice a j.length c)) rfl) ?_
    refine WpL_val rfl rfl (by decide) (r_assign (v := (.int .i64 0)) rfl) ?_
    refine WpL_nil ?_
    refine Wp_ret ?_
    refine fin_tmp2 Try.results61 (v := (.slice a j.length c)) (v' := (.int .i64 0)) rfl rfl ?_
    exact ⟨⟨j, 0, by unfold fitsP; rw [if_neg (by omega)]; exact ⟨rfl, rfl⟩, a, c, rfl, h⟩, E⟩
def twoE (a b : List Sp) : Int := if checkE a ≠ 0 then checkE a else checkE b
theorem two_c (w0 : World) (u v : Value) (a b : List Sp) (ha : SpansAt w0 u a) (hb : SpansAt w0 v b) : Ret Try.prog 63 #[u, v] w0 fun r w => r = .int .i64 (twoE a b) ∧ Ext w0 w := by
  refine Ret_of Try.func63 rfl Try.ntmps63 (Nat.le_of_ble_eq_true rfl) ?_
  have E : Chg none1 w0 w0 := Chg.refl _ _
  refine Wp_seq_region ?_
  refine WpL_val rfl rfl (by decide) (r_assign (v := (.int .i64 0)) rfl) ?_
  refine WpL_nil ?_
  refine Wp_seq ?_
  refine Wp_seq_region ?_
  refine WpL_val rfl rfl (by decide) (r_move (v := u) rfl) ?_
  refine WpL_enter rfl rfl (by decide) (r_callF (vs := [u]) Try.func33 nm33 bd33 rfl) (rcheck_c _ u a ha) ?_
  rintro _ w9 ⟨rfl, X9⟩
  replace E := E.ext X9
  refine WpL_val rfl rfl (by decide) (r_assign (v := (.int .i64 (checkE a))) rfl) ?_
  refine WpL_nil ?_
  refine Wp_seq_region ?_
  refine WpL_val rfl rfl (by decide) (r_move (v := (.int .i64 (checkE a))) rfl) ?_
  refine WpL_val rfl rfl (by decide) (r_neq (k := .i64) (a := checkE a) (b := 0) rfl rfl) ?_
  refine WpL_nil ?_
  refine Wp_cond (b := decide ((checkE a : Int) ≠ 0)) rfl (fun h0 => ?_) (fun h0 => ?_)
  · have kh0 := h0
    replace h0 := of_decide_eq_true h0
    refine Wp_seq_region ?_
    refine WpL_val rfl rfl (by decide) (r_move (v := (.int .i64 (checkE a))) rfl) ?_
    refine WpL_val rfl rfl (by decide) (r_assign (v := (.int .i64 (checkE a))) rfl) ?_
    refine WpL_nil ?_
    refine Wp_ret ?_
    refine thn_ret ?_
    refine fin_tmp Try.results63 (v := (.int .i64 (checkE a))) rfl ?_
    exact ⟨int_eq (by unfold twoE; rw [if_pos h0]), E⟩
  · have kh0 := h0
    replace h0 := of_decide_eq_false h0
    refine Wp_skip ?_
    refine thn_normal ?_
    refine Wp_seq_region ?_
    refine WpL_val rfl rfl (by decide) (r_move (v := v) rfl) ?_
    refine WpL_enter rfl rfl (by decide) (r_callF (vs := [v]) Try.func33 nm33 bd33 rfl) (rcheck_c _ v b (hb.ext E)) ?_
    rintro _ w8 ⟨rfl, X8⟩
    replace E := E.ext X8
    refine WpL_val rfl rfl (by decide) (r_assign (v := (.int .i64 (checkE b))) rfl) ?_
    refine WpL_nil ?_
    refine Wp_ret ?_
    refine fin_tmp Try.results63 (v := (.int .i64 (checkE b))) rfl ?_
    exact ⟨int_eq (by unfold twoE; rw [if_neg h0]), E⟩
theorem twoE_ok {a b : List Sp} (ha : Canon a) (hb : Canon b) (la : a.length ≤ 16) (lb : b.length ≤ 16) : twoE a b = 0 := by
  unfold twoE; rw [checkE_ok ha la, checkE_ok hb lb]; rfl
theorem twoE_canon {a b : List Sp} (h : twoE a b = 0) : (Canon a ∧ a.length ≤ 16) ∧ (Canon b ∧ b.length ≤ 16) := by
  unfold twoE at h
  split at h
  · contradiction
  · rename_i h1
    exact ⟨checkE_canon (by omega), checkE_canon h⟩
theorem spss_two {w : World} {b : Nat} {x y : Value} {l m : List Sp} {T : Nat} (hB : Blk w b #[x, y] T) (hx : SpansAt w x l) (hy : SpansAt w y m) : SpssAt w (.slice (some ⟨b, 0, none⟩) 2 2) [l, m] := by
  refine ⟨[x, y], ⟨_, 2, rfl, by simp, by simp, .inr ⟨b, 0, rfl, fun i r hr j u hu => ?_⟩⟩, rfl, fun i u l' hu hl => ?_⟩
  · match i, hr with
    | 0, hr => simp at hr; subst hr; match j, hu with | 0, hu => simp at hu; subst hu; exact hB.cell rfl
    | 1, hr => simp at hr; subst hr; match j, hu with | 0, hu => simp at hu; subst hu; exact hB.cell rfl
  · match i, hu with
    | 0, hu => simp at hu hl; subst hu; subst hl; exact hx
    | 1, hu => simp at hu hl; subst hu; subst hl; exact hy
theorem IsSet.join {l out : List Sp} (h : JoinOf l out) (hv : ∀ s ∈ l, vSp s) : IsSet out (inS l) ∧ out.length ≤ l.length :=
  let ⟨h1, h2, h3⟩ := h.all hv
  ⟨⟨h1, fun r _ _ => h2 r⟩, h3⟩
theorem IsSet.rest {l : List Sp} {f : Int → Bool} (h : IsSet l f) : IsSet (notS l) (fun r => !f r) := ⟨notS_canon h.1, fun r h0 h1 => by rw [notS_mem h.1 h0 h1, h.2 r h0 h1]⟩
theorem IsSet.self {l : List Sp} (h : Canon l) : IsSet l (inS l) := ⟨h, fun _ _ _ => rfl⟩
def uniP (a b out : List Sp) (e : Int) : Prop := (twoE a b ≠ 0 ∧ e = twoE a b ∧ out = []) ∨ (twoE a b = 0 ∧ ∃ j, IsSet j (fun r => inS a r || inS b r) ∧ j.length ≤ a.length + b.length ∧ fitsP j out e)
theorem union_c (w0 : World) (u v : Value) (a b : List Sp) (ha : SpansAt w0 u a) (hb : SpansAt w0 v b) : Ret Try.prog 21 #[u, v] w0 fun r w => (∃ out e, uniP a b out e ∧ SetRes w r out e) ∧ Ext w0 w := by
  obtain ⟨aa, ac, rfl⟩ := SlAt.form ha
  obtain ⟨ba, bc, rfl⟩ := SlAt.form hb
  simp only [List.length_map] at ha hb ⊢
  refine Ret_of Try.func21 rfl Try.ntmps21 (Nat.le_of_ble_eq_true rfl) ?_
  have E : Chg none1 w0 w0 := Chg.refl _ _
  refine Wp_seq_region ?_
  refine WpL_val rfl rfl (by decide) (r_assign (v := (.slice none 0 0)) rfl) ?_
  refine WpL_val rfl rfl (by decide) (r_assign (v := (.int .i64 0)) rfl) ?_
  refine WpL_nil ?_
  refine Wp_seq ?_
  refine Wp_seq_region ?_
  refine WpL_val rfl rfl (by decide) (r_move (v := (.slice aa a.length ac)) rfl) ?_
  refine WpL_val rfl rfl (by decide) (r_move (v := (.slice ba b.length bc)) rfl) ?_
  refine WpL_enter rfl rfl (by decide) (r_callF (vs := [(.slice aa a.length ac), (.slice ba b.length bc)]) Try.func63 nm63 bd63 rfl) (two_c _ _ _ a b ha hb) ?_
  rintro _ w9 ⟨rfl, X9⟩
  replace E := E.ext X9
  refine WpL_val rfl rfl (by decide) (r_assign (v := (.int .i64 (twoE a b))) rfl) ?_
  refine WpL_nil ?_
  refine Wp_seq_region ?_
  refine WpL_val rfl rfl (by decide) (r_move (v := (.int .i64 (twoE a b))) rfl) ?_
  refine WpL_val rfl rfl (by decide) (r_neq (k := .i64) (a := twoE a b) (b := 0) rfl rfl) ?_
  refine WpL_nil ?_
  refine Wp_cond (b := decide ((twoE a b : Int) ≠ 0)) rfl (fun h0 => ?_) (fun h0 => ?_)
  · have kh0 := h0
    replace h0 := of_decide_eq_true h0
    refine Wp_seq_region ?_
    refine WpL_val rfl rfl (by decide) (r_move (v := (.int .i64 (twoE a b))) rfl) ?_
    refine WpL_val rfl rfl (by decide) (r_assign (v := (.slice none 0 0)) rfl) ?_
    refine WpL_val rfl rfl (by decide) (r_assign (v := (.int .i64 (twoE a b))) rfl) ?_
    refine WpL_nil ?_
    refine Wp_ret ?_
    refine thn_ret ?_
    refine fin_tmp2 Try.results21 (v := (.slice none 0 0)) (v' := (.int .i64 (twoE a b))) rfl rfl ?_
    exact ⟨⟨[], _, .inl ⟨h0, rfl, rfl⟩, none, 0, rfl, SlAt.nil _ _ _ _⟩, E⟩
  · have kh0 := h0
    replace h0 := of_decide_eq_false h0
    have h1 : twoE a b = 0 := by omega
    obtain ⟨⟨ca, la⟩, ⟨cb, lb⟩⟩ := twoE_canon h1
    refine Wp_skip ?_
    refine thn_normal ?_
    refine Wp_seq_region ?_
    refine WpL_val rfl rfl (by decide) (r_move (v := (.slice aa a.length ac)) rfl) ?_
    refine WpL_val rfl rfl (by decide) (r_move (v := (.slice ba b.length bc)) rfl) ?_
    refine s_buildSlice (ps := [(0, (.slice aa a.length ac)), (1, (.slice ba b.length bc))]) (c := #[(.slice aa a.length ac), (.slice ba b.length bc)]) (by decide) rfl Try.underlying53 siz23 zer23 (by decide) (by decide) (by kernel_rfl) ?_
    intro bq wq Nq
    have Fq := Nq.ge E
    replace E := E.ext Nq.ext
    have Bq := Nq.blk
    refine WpL_enter rfl rfl (by decide) (r_callF (vs := [(.slice (some ⟨bq, 0, none⟩) 2 2)]) Try.func65 nm65 bd65 rfl) (concat_c _ _ [a, b] (spss_two Bq (ha.ext E) (hb.ext E)) (by simp; omega)) ?_
    rintro _ w8 ⟨⟨⟨ja, jc, rfl⟩, O8⟩, X8⟩
    replace Bq := X8.keep Bq
    replace E := E.ext X8
    have hS : OwnS w8 wq.heap.size (.slice ja [a, b].flatten.length jc) [a, b].flatten := ⟨⟨_, _, rfl⟩, O8⟩
    have hv : ∀ s ∈ [a, b].flatten, vSp s := fun s hs => by simp at hs; rcases hs with hs | hs; exact ca.ok s hs; exact cb.ok s hs
    refine WpL_enter rfl rfl (by decide) (r_callF (vs := [(.slice ja ([a, b].flatten.length) jc)]) Try.func64 nm64 bd64 rfl) (join_c _ _ _ hS.at (by simp; omega) hv) ?_
    rintro _ w7 ⟨⟨j, hj, ⟨⟨ka, kc, rfl⟩, O7⟩⟩, X7⟩
    replace Bq := X7.keep Bq
    replace E := E.ext X7
    have hK : OwnS w7 w8.heap.size (.slice ka j.length kc) j := ⟨⟨_, _, rfl⟩, O7⟩
    refine WpL_enter rfl rfl (by decide) (r_callF (vs := [(.slice ka j.length kc)]) Try.func61 nm61 bd61 rfl) (sfits_c _ _ j hK.set) ?_
    rintro _ w6 ⟨⟨out, e, hf, fa, fc, rfl, hsp⟩, X6⟩
    replace Bq := X6.keep Bq
    replace E := E.ext X6
    obtain ⟨hj1, hj2⟩ := IsSet.join hj hv
    refine WpL_val rfl rfl (by decide) (r_extract (vs := #[(.slice fa out.length fc), (.int .i64 e)]) (v := (.slice fa out.length fc)) rfl rfl) ?_
    refine WpL_val rfl rfl (by decide) (r_extract (vs := #[(.slice fa out.length fc), (.int .i64 e)]) (v := (.int .i64 e)) rfl rfl) ?_
    refine WpL_val rfl rfl (by decide) (r_assign (v := (.slice fa out.length fc)) rfl) ?_
    refine WpL_val rfl rfl (by decide) (r_assign (v := (.int .i64 e)) rfl) ?_
    refine WpL_nil ?_
    refine Wp_ret ?_
    refine fin_tmp2 Try.results21 (v := (.slice fa out.length fc)) (v' := (.int .i64 e)) rfl rfl ?_
    exact ⟨⟨out, e, .inr ⟨h1, j, ⟨hj1.1, fun r h2 h3 => by rw [hj1.2 r h2 h3]; simp [inS_append]⟩, by simpa using hj2, hf⟩, fa, fc, rfl, hsp⟩, E⟩
theorem common_c (w0 : World) (u v : Value) (a b : List Sp) (ha : SpansAt w0 u a) (hb : SpansAt w0 v b) (ca : Canon a) (cb : Canon b) (la : a.length ≤ 1000) (lb : b.length ≤ 1000) :
    Ret Try.prog 66 #[u, v] w0 fun r w => (∃ out, IsSet out (fun r => inS a r && inS b r) ∧ out.length ≤ a.length + b.length + 3 ∧ SetAt w r out) ∧ Ext w0 w := by
  refine Ret_of Try.func66 rfl Try.ntmps66 (Nat.le_of_ble_eq_true rfl) ?_
  have E : Chg none1 w0 w0 := Chg.refl _ _
  refine Wp_seq_region ?_
  refine WpL_val rfl rfl (by decide) (r_assign (v := (.slice none 0 0)) rfl) ?_
  refine WpL_nil ?_
  refine Wp_seq_region ?_
  refine WpL_val rfl rfl (by decide) (r_move (v := u) rfl) ?_
  refine WpL_enter rfl rfl (by decide) (r_callF (vs := [u]) Try.func62 nm62 bd62 rfl) (rest_c _ u a ha (by omega) ca.ok) ?_
  rintro _ w9 ⟨⟨⟨xa, xc, rfl⟩, O9⟩, X9⟩
  replace E := E.ext X9
  have hA : OwnS w9 w0.heap.size (.slice xa (notS a).length xc) (notS a) := ⟨⟨_, _, rfl⟩, O9⟩
  refine WpL_val rfl rfl (by decide) (r_move (v := v) rfl) ?_
  refine WpL_enter rfl rfl (by decide) (r_callF (vs := [v]) Try.func62 nm62 bd62 rfl) (rest_c _ v b (hb.ext E) (by omega) cb.ok) ?_
  rintro _ w8 ⟨⟨⟨ya, yc, rfl⟩, O8⟩, X8⟩
  replace E := E.ext X8
  have hBb : OwnS w8 w9.heap.size (.slice ya (notS b).length yc) (notS b) := ⟨⟨_, _, rfl⟩, O8⟩
  have n1 := notS_len a
  have n2 := notS_len b
  refine s_buildSlice (ps := [(0, (.slice xa ((notS a).length) xc)), (1, (.slice ya ((notS b).length) yc))]) (c := #[(.slice xa ((notS a).length) xc), (.slice ya ((notS b).length) yc)]) (by decide) rfl Try.underlying53 siz23 zer23 (by decide) (by decide) (by kernel_rfl) ?_
  intro bq wq Nq
  have Fq := Nq.ge E
  replace E := E.ext Nq.ext
  have Bq := Nq.blk
  refine WpL_enter rfl rfl (by decide) (r_callF (vs := [(.slice (some ⟨bq, 0, none⟩) 2 2)]) Try.func65 nm65 bd65 rfl) (concat_c _ _ [notS a, notS b] (spss_two Bq ((hA.at.ext X8).ext Nq.ext) (hBb.at.ext Nq.ext)) (by simp; omega)) ?_
  rintro _ w7 ⟨⟨⟨ja, jc, rfl⟩, O7⟩, X7⟩
  replace Bq := X7.keep Bq
  replace E := E.ext X7
  have hS : OwnS w7 wq.heap.size (.slice ja [notS a, notS b].flatten.length jc) [notS a, notS b].flatten := ⟨⟨_, _, rfl⟩, O7⟩
  have hv : ∀ s ∈ [notS a, notS b].flatten, vSp s := fun s hs => by simp at hs; rcases hs with hs | hs; exact (notS_canon ca).ok s hs; exact (notS_canon cb).ok s hs
  refine WpL_enter rfl rfl (by decide) (r_callF (vs := [(.slice ja ([notS a, notS b].flatten.length) jc)]) Try.func64 nm64 bd64 rfl) (join_c _ _ _ hS.at (by simp; omega) hv) ?_
  rintro _ w6 ⟨⟨j, hj, ⟨⟨ka, kc, rfl⟩, O6⟩⟩, X6⟩
  replace Bq := X6.keep Bq
  replace E := E.ext X6
  have hK : OwnS w6 w7.heap.size (.slice ka j.length kc) j := ⟨⟨_, _, rfl⟩, O6⟩
  obtain ⟨hj1, hj2⟩ := IsSet.join hj hv
  have hj3 : j.length ≤ (notS a).length + (notS b).length := by simpa using hj2
  have n3 := notS_len j
  refine WpL_enter rfl rfl (by decide) (r_callF (vs := [(.slice ka j.length kc)]) Try.func62 nm62 bd62 rfl) (rest_c _ _ j hK.at (by omega) hj1.1.ok) ?_
  rintro v5 w5 ⟨O5, X5⟩
  replace Bq := X5.keep Bq
  replace E := E.ext X5
  refine WpL_val rfl rfl (by decide) (r_assign (v := v5) rfl) ?_
  refine WpL_nil ?_
  refine Wp_ret ?_
  refine fin_tmp Try.results66 (v := v5) rfl ?_
  exact ⟨⟨notS j, ⟨notS_canon hj1.1, fun r h2 h3 => by rw [notS_mem hj1.1 h2 h3, hj1.2 r h2 h3]; simp [inS_append, notS_mem ca h2 h3, notS_mem cb h2 h3]⟩, by omega, O5.set⟩, E⟩
def bothP (f : Int → Bool) (n : Nat) (a b out : List Sp) (e : Int) : Prop := (twoE a b ≠ 0 ∧ e = twoE a b ∧ out = []) ∨ (twoE a b = 0 ∧ ∃ j, IsSet j f ∧ j.length ≤ a.length + b.length + n ∧ fitsP j out e)
theorem both_c (w0 : World) (u v : Value) (a b : List Sp) (ha : SpansAt w0 u a) (hb : SpansAt w0 v b) : Ret Try.prog 22 #[u, v] w0 fun r w => (∃ out e, bothP (fun r => inS a r && inS b r) 3 a b out e ∧ SetRes w r out e) ∧ Ext w0 w := by
  refine Ret_of Try.func22 rfl Try.ntmps22 (Nat.le_of_ble_eq_true rfl) ?_
  have E : Chg none1 w0 w0 := Chg.refl _ _
  refine Wp_seq_region ?_
  refine WpL_val rfl rfl (by decide) (r_assign (v := (.slice none 0 0)) rfl) ?_
  refine WpL_val rfl rfl (by decide) (r_assign (v := (.int .i64 0)) rfl) ?_
  refine WpL_nil ?_
  refine Wp_seq ?_
  refine Wp_seq_region ?_
  refine WpL_val rfl rfl (by decide) (r_move (v := u) rfl) ?_
  refine WpL_val rfl rfl (by decide) (r_move (v := v) rfl) ?_
  refine WpL_enter rfl rfl (by decide) (r_callF (vs := [u, v]) Try.func63 nm63 bd63 rfl) (two_c _ _ _ a b ha hb) ?_
  rintro _ w9 ⟨rfl, X9⟩
  replace E := E.ext X9
  refine WpL_val rfl rfl (by decide) (r_assign (v := (.int .i64 (twoE a b))) rfl) ?_
  refine WpL_nil ?_
  refine Wp_seq_region ?_
  refine WpL_val rfl rfl (by decide) (r_move (v := (.int .i64 (twoE a b))) rfl) ?_
  refine WpL_val rfl rfl (by decide) (r_neq (k := .i64) (a := twoE a b) (b := 0) rfl rfl) ?_
  refine WpL_nil ?_
  refine Wp_cond (b := decide ((twoE a b : Int) ≠ 0)) rfl (fun h0 => ?_) (fun h0 => ?_)
  · have kh0 := h0
    replace h0 := of_decide_eq_true h0
    refine Wp_seq_region ?_
    refine WpL_val rfl rfl (by decide) (r_move (v := (.int .i64 (twoE a b))) rfl) ?_
    refine WpL_val rfl rfl (by decide) (r_assign (v := (.slice none 0 0)) rfl) ?_
    refine WpL_val rfl rfl (by decide) (r_assign (v := (.int .i64 (twoE a b))) rfl) ?_
    refine WpL_nil ?_
    refine Wp_ret ?_
    refine thn_ret ?_
    refine fin_tmp2 Try.results22 (v := (.slice none 0 0)) (v' := (.int .i64 (twoE a b))) rfl rfl ?_
    exact ⟨⟨[], _, .inl ⟨h0, rfl, rfl⟩, none, 0, rfl, SlAt.nil _ _ _ _⟩, E⟩
  · have kh0 := h0
    replace h0 := of_decide_eq_false h0
    have h1 : twoE a b = 0 := by omega
    obtain ⟨⟨ca, la⟩, ⟨cb, lb⟩⟩ := twoE_canon h1
    refine Wp_skip ?_
    refine thn_normal ?_
    refine Wp_seq_region ?_
    refine WpL_val rfl rfl (by decide) (r_move (v := u) rfl) ?_
    refine WpL_val rfl rfl (by decide) (r_move (v := v) rfl) ?_
    refine WpL_enter rfl rfl (by decide) (r_callF (vs := [u, v]) Try.func66 nm66 bd66 rfl) (common_c _ _ _ a b (ha.ext E) (hb.ext E) ca cb (by omega) (by omega)) ?_
    rintro _ w8 ⟨⟨j, hj, hjl, ⟨⟨ja, jc, rfl⟩, hja⟩⟩, X8⟩
    replace E := E.ext X8
    refine WpL_enter rfl rfl (by decide) (r_callF (vs := [(.slice ja j.length jc)]) Try.func61 nm61 bd61 rfl) (sfits_c _ _ j ⟨⟨_, _, rfl⟩, hja⟩) ?_
    rintro _ w6 ⟨⟨out, e, hf, fa, fc, rfl, hsp⟩, X6⟩
    replace E := E.ext X6
    refine WpL_val rfl rfl (by decide) (r_extract (vs := #[(.slice fa out.length fc), (.int .i64 e)]) (v := (.slice fa out.length fc)) rfl rfl) ?_
    refine WpL_val rfl rfl (by decide) (r_extract (vs := #[(.slice fa out.length fc), (.int .i64 e)]) (v := (.int .i64 e)) rfl rfl) ?_
    refine WpL_val rfl rfl (by decide) (r_assign (v := (.slice fa out.length fc)) rfl) ?_
    refine WpL_val rfl rfl (by decide) (r_assign (v := (.int .i64 e)) rfl) ?_
    refine WpL_nil ?_
    refine Wp_ret ?_
    refine fin_tmp2 Try.results22 (v := (.slice fa out.length fc)) (v' := (.int .i64 e)) rfl rfl ?_
    exact ⟨⟨out, e, .inr ⟨h1, j, hj, hjl, hf⟩, fa, fc, rfl, hsp⟩, E⟩
theorem minus_c (w0 : World) (u v : Value) (a b : List Sp) (ha : SpansAt w0 u a) (hb : SpansAt w0 v b) : Ret Try.prog 23 #[u, v] w0 fun r w => (∃ out e, bothP (fun r => inS a r && !inS b r) 4 a b out e ∧ SetRes w r out e) ∧ Ext w0 w := by
  refine Ret_of Try.func23 rfl Try.ntmps23 (Nat.le_of_ble_eq_true rfl) ?_
  have E : Chg none1 w0 w0 := Chg.refl _ _
  refine Wp_seq_region ?_
  refine WpL_val rfl rfl (by decide) (r_assign (v := (.slice none 0 0)) rfl) ?_
  refine WpL_val rfl rfl (by decide) (r_assign (v := (.int .i64 0)) rfl) ?_
  refine WpL_nil ?_
  refine Wp_seq ?_
  refine Wp_seq_region ?_
  refine WpL_val rfl rfl (by decide) (r_move (v := u) rfl) ?_
  refine WpL_val rfl rfl (by decide) (r_move (v := v) rfl) ?_
  refine WpL_enter rfl rfl (by decide) (r_callF (vs := [u, v]) Try.func63 nm63 bd63 rfl) (two_c _ _ _ a b ha hb) ?_
  rintro _ w9 ⟨rfl, X9⟩
  replace E := E.ext X9
  refine WpL_val rfl rfl (by decide) (r_assign (v := (.int .i64 (twoE a b))) rfl) ?_
  refine WpL_nil ?_
  refine Wp_seq_region ?_
  refine WpL_val rfl rfl (by decide) (r_move (v := (.int .i64 (twoE a b))) rfl) ?_
  refine WpL_val rfl rfl (by decide) (r_neq (k := .i64) (a := twoE a b) (b := 0) rfl rfl) ?_
  refine WpL_nil ?_
  refine Wp_cond (b := decide ((twoE a b : Int) ≠ 0)) rfl (fun h0 => ?_) (fun h0 => ?_)
  · have kh0 := h0
    replace h0 := of_decide_eq_true h0
    refine Wp_seq_region ?_
    refine WpL_val rfl rfl (by decide) (r_move (v := (.int .i64 (twoE a b))) rfl) ?_
    refine WpL_val rfl rfl (by decide) (r_assign (v := (.slice none 0 0)) rfl) ?_
    refine WpL_val rfl rfl (by decide) (r_assign (v := (.int .i64 (twoE a b))) rfl) ?_
    refine WpL_nil ?_
    refine Wp_ret ?_
    refine thn_ret ?_
    refine fin_tmp2 Try.results23 (v := (.slice none 0 0)) (v' := (.int .i64 (twoE a b))) rfl rfl ?_
    exact ⟨⟨[], _, .inl ⟨h0, rfl, rfl⟩, none, 0, rfl, SlAt.nil _ _ _ _⟩, E⟩
  · have kh0 := h0
    replace h0 := of_decide_eq_false h0
    have h1 : twoE a b = 0 := by omega
    obtain ⟨⟨ca, la⟩, ⟨cb, lb⟩⟩ := twoE_canon h1
    have n1 := notS_len b
    refine Wp_skip ?_
    refine thn_normal ?_
    refine Wp_seq_region ?_
    refine WpL_val rfl rfl (by decide) (r_move (v := u) rfl) ?_
    refine WpL_val rfl rfl (by decide) (r_move (v := v) rfl) ?_
    refine WpL_enter rfl rfl (by decide) (r_callF (vs := [v]) Try.func62 nm62 bd62 rfl) (rest_c _ v b (hb.ext E) (by omega) cb.ok) ?_
    rintro _ w7 ⟨⟨⟨xa, xc, rfl⟩, O7⟩, X7⟩
    replace E := E.ext X7
    have hA : OwnS w7 w9.heap.size (.slice xa (notS b).length xc) (notS b) := ⟨⟨_, _, rfl⟩, O7⟩
    refine WpL_enter rfl rfl (by decide) (r_callF (vs := [u, (.slice xa ((notS b).length) xc)]) Try.func66 nm66 bd66 rfl) (common_c _ _ _ a (notS b) (ha.ext E) hA.at ca (notS_canon cb) (by omega) (by omega)) ?_
    rintro _ w8 ⟨⟨j, hj, hjl, ⟨⟨ja, jc, rfl⟩, hja⟩⟩, X8⟩
    replace E := E.ext X8
    refine WpL_enter rfl rfl (by decide) (r_callF (vs := [(.slice ja j.length jc)]) Try.func61 nm61 bd61 rfl) (sfits_c _ _ j ⟨⟨_, _, rfl⟩, hja⟩) ?_
    rintro _ w6 ⟨⟨out, e, hf, fa, fc, rfl, hsp⟩, X6⟩
    replace E := E.ext X6
    refine WpL_val rfl rfl (by decide) (r_extract (vs := #[(.slice fa out.length fc), (.int .i64 e)]) (v := (.slice fa out.length fc)) rfl rfl) ?_
    refine WpL_val rfl rfl (by decide) (r_extract (vs := #[(.slice fa out.length fc), (.int .i64 e)]) (v := (.int .i64 e)) rfl rfl) ?_
    refine WpL_val rfl rfl (by decide) (r_assign (v := (.slice fa out.length fc)) rfl) ?_
    refine WpL_val rfl rfl (by decide) (r_assign (v := (.int .i64 e)) rfl) ?_
    refine WpL_nil ?_
    refine Wp_ret ?_
    refine fin_tmp2 Try.results23 (v := (.slice fa out.length fc)) (v' := (.int .i64 e)) rfl rfl ?_
    exact ⟨⟨out, e, .inr ⟨h1, j, ⟨hj.1, fun r h2 h3 => by rw [hj.2 r h2 h3]; show (inS a r && inS (notS b) r) = (inS a r && !inS b r); rw [notS_mem cb h2 h3]⟩, by omega, hf⟩, fa, fc, rfl, hsp⟩, E⟩
def notP (a out : List Sp) (e : Int) : Prop := (checkE a ≠ 0 ∧ e = checkE a ∧ out = []) ∨ (checkE a = 0 ∧ fitsP (notS a) out e)
theorem not_c (w0 : World) (u : Value) (a : List Sp) (ha : SpansAt w0 u a) : Ret Try.prog 20 #[u] w0 fun r w => (∃ out e, notP a out e ∧ SetRes w r out e) ∧ Ext w0 w := by
  refine Ret_of Try.func20 rfl Try.ntmps20 (Nat.le_of_ble_eq_true rfl) ?_
  have E : Chg none1 w0 w0 := Chg.refl _ _
  refine Wp_seq_region ?_
  refine WpL_val rfl rfl (by decide) (r_assign (v := (.slice none 0 0)) rfl) ?_
  refine WpL_val rfl rfl (by decide) (r_assign (v := (.int .i64 0)) rfl) ?_
  refine WpL_nil ?_
  refine Wp_seq ?_
  refine Wp_seq_region ?_
  refine WpL_val rfl rfl (by decide) (r_move (v := u) rfl) ?_
  refine WpL_enter rfl rfl (by decide) (r_callF (vs := [u]) Try.func33 nm33 bd33 rfl) (rcheck_c _ _ a ha) ?_
  rintro _ w9 ⟨rfl, X9⟩
  replace E := E.ext X9
  refine WpL_val rfl rfl (by decide) (r_assign (v := (.int .i64 (checkE a))) rfl) ?_
  refine WpL_nil ?_
  refine Wp_seq_region ?_
  refine WpL_val rfl rfl (by decide) (r_move (v := (.int .i64 (checkE a))) rfl) ?_
  refine WpL_val rfl rfl (by decide) (r_neq (k := .i64) (a := checkE a) (b := 0) rfl rfl) ?_
  refine WpL_nil ?_
  refine Wp_cond (b := decide ((checkE a : Int) ≠ 0)) rfl (fun h0 => ?_) (fun h0 => ?_)
  · have kh0 := h0
    replace h0 := of_decide_eq_true h0
    refine Wp_seq_region ?_
    refine WpL_val rfl rfl (by decide) (r_move (v := (.int .i64 (checkE a))) rfl) ?_
    refine WpL_val rfl rfl (by decide) (r_assign (v := (.slice none 0 0)) rfl) ?_
    refine WpL_val rfl rfl (by decide) (r_assign (v := (.int .i64 (checkE a))) rfl) ?_
    refine WpL_nil ?_
    refine Wp_ret ?_
    refine thn_ret ?_
    refine fin_tmp2 Try.results20 (v := (.slice none 0 0)) (v' := (.int .i64 (checkE a))) rfl rfl ?_
    exact ⟨⟨[], _, .inl ⟨h0, rfl, rfl⟩, none, 0, rfl, SlAt.nil _ _ _ _⟩, E⟩
  · have kh0 := h0
    replace h0 := of_decide_eq_false h0
    have h1 : checkE a = 0 := by omega
    obtain ⟨ca, la⟩ := checkE_canon h1
    refine Wp_skip ?_
    refine thn_normal ?_
    refine Wp_seq_region ?_
    refine WpL_val rfl rfl (by decide) (r_move (v := u) rfl) ?_
    refine WpL_enter rfl rfl (by decide) (r_callF (vs := [u]) Try.func62 nm62 bd62 rfl) (rest_c _ _ a (ha.ext E) (by omega) ca.ok) ?_
    rintro _ w7 ⟨⟨⟨xa, xc, rfl⟩, O7⟩, X7⟩
    replace E := E.ext X7
    have hA : OwnS w7 w9.heap.size (.slice xa (notS a).length xc) (notS a) := ⟨⟨_, _, rfl⟩, O7⟩
    refine WpL_enter rfl rfl (by decide) (r_callF (vs := [(.slice xa ((notS a).length) xc)]) Try.func61 nm61 bd61 rfl) (sfits_c _ _ (notS a) hA.set) ?_
    rintro _ w6 ⟨⟨out, e, hf, fa, fc, rfl, hsp⟩, X6⟩
    replace E := E.ext X6
    refine WpL_val rfl rfl (by decide) (r_extract (vs := #[(.slice fa out.length fc), (.int .i64 e)]) (v := (.slice fa out.length fc)) rfl rfl) ?_
    refine WpL_val rfl rfl (by decide) (r_extract (vs := #[(.slice fa out.length fc), (.int .i64 e)]) (v := (.int .i64 e)) rfl rfl) ?_
    refine WpL_val rfl rfl (by decide) (r_assign (v := (.slice fa out.length fc)) rfl) ?_
    refine WpL_val rfl rfl (by decide) (r_assign (v := (.int .i64 e)) rfl) ?_
    refine WpL_nil ?_
    refine Wp_ret ?_
    refine fin_tmp2 Try.results20 (v := (.slice fa out.length fc)) (v' := (.int .i64 e)) rfl rfl ?_
    exact ⟨⟨out, e, .inr ⟨h1, hf⟩, fa, fc, rfl, hsp⟩, E⟩
theorem norm1_c (s : Sp) (w0 : World) : Ret Try.prog 76 #[.agg #[.int .i64 s.1, .int .i64 s.2]] w0 fun u w => u = .bool (!validB s) ∧ Ext w0 w := by
  refine Ret_of Try.func76 rfl Try.ntmps76 (Nat.le_of_ble_eq_true rfl) ?_
  have E : Chg none1 w0 w0 := Chg.refl _ _
  refine Wp_seq_region ?_
  refine s_box (v := (.agg #[(.int .i64 s.1), (.int .i64 s.2)])) (c := #[(.int .i64 s.1), (.int .i64 s.2)]) (by decide) rfl rfl ?_
  intro b1 w1 N1
  have F1 := N1.ge E
  replace E := E.ext N1.ext
  have B1 := N1.blk
  refine WpL_val rfl rfl (by decide) (r_assign (v := (.bool false)) rfl) ?_
  refine WpL_nil ?_
  refine Wp_seq_region ?_
  refine WpL_val rfl rfl (by decide) (r_loadAgg (vs := [(.int .i64 s.1), (.int .i64 s.2)]) rfl agg37 siz37 rfl (B1.cells rfl)) ?_
  refine WpL_enter rfl rfl (by decide) (r_callF (vs := [(.agg #[(.int .i64 s.1), (.int .i64 s.2)])]) Try.func73 nm73 bd73 rfl) (valid_c s _) ?_
  rintro _ w9 ⟨rfl, X9⟩
  replace B1 := X9.keep B1
  replace E := E.ext X9
  refine WpL_val rfl rfl (by decide) (r_not (b := validB s) rfl) ?_
  refine WpL_val rfl rfl (by decide) (r_assign (v := (.bool (!(validB s)))) rfl) ?_
  refine WpL_nil ?_
  refine Wp_ret ?_
  refine fin_tmp Try.results76 (v := (.bool (!(validB s)))) rfl ?_
  exact ⟨rfl, E⟩
theorem validB_iff {s : Sp} : validB s = true ↔ vSp s := by unfold validB vSp; simp [and_assoc]
def normP (a out : List Sp) (e : Int) : Prop := ((∃ s ∈ a, ¬ vSp s) ∧ e = 1 ∧ out = []) ∨ ((∀ s ∈ a, vSp s) ∧ ∃ j, IsSet j (inS a) ∧ j.length ≤ a.length ∧ fitsP j out e)
theorem norm_c (w0 : World) (u : Value) (a : List Sp) (ha : SpansAt w0 u a) (hl : a.length ≤ 8796093022208) : Ret Try.prog 35 #[u] w0 fun r w => (∃ out e, normP a out e ∧ SetRes w r out e) ∧ Ext w0 w := by
  refine Ret_of Try.func35 rfl Try.ntmps35 (Nat.le_of_ble_eq_true rfl) ?_
  have E : Chg none1 w0 w0 := Chg.refl _ _
  refine Wp_seq_region ?_
  refine WpL_val rfl rfl (by decide) (r_assign (v := (.slice none 0 0)) rfl) ?_
  refine WpL_val rfl rfl (by decide) (r_assign (v := (.int .i64 0)) rfl) ?_
  refine WpL_nil ?_
  refine Wp_seq ?_
  refine Wp_seq_region ?_
  refine WpL_val rfl rfl (by decide) (r_move (v := u) rfl) ?_
  refine WpL_enter rfl rfl (by decide) (r_callF (vs := [u, (.func (.func 76) #[] #[])]) Try.func75 nm75 bd75 rfl) (spans_has_c _ u _ a (fun s => !validB s) ha (fun w x hE _ => CallV.mk (first := #[]) (cap := #[]) Try.func76 nm76 bd76 rfl (norm1_c x w))) ?_
  rintro _ w9 ⟨rfl, X9⟩
  replace E := E.ext X9
  refine WpL_nil ?_
  refine Wp_cond (b := (a.any fun s => !validB s)) rfl (fun h0 => ?_) (fun h0 => ?_)
  · have kh0 := h0
    obtain ⟨s, hs, hb⟩ := List.any_eq_true.1 h0
    refine Wp_seq_region ?_
    refine WpL_val rfl rfl (by decide) (r_assign (v := (.slice none 0 0)) rfl) ?_
    refine WpL_val rfl rfl (by decide) (r_assign (v := (.int .i64 1)) rfl) ?_
    refine WpL_nil ?_
    refine Wp_ret ?_
    refine thn_ret ?_
    refine fin_tmp2 Try.results35 (v := (.slice none 0 0)) (v' := (.int .i64 1)) rfl rfl ?_
    exact ⟨⟨[], 1, .inl ⟨⟨s, hs, fun h => by rw [validB_iff.2 h] at hb; cases hb⟩, rfl, rfl⟩, none, 0, rfl, SlAt.nil _ _ _ _⟩, E⟩
  · have kh0 := h0
    have hv : ∀ s ∈ a, vSp s := fun s hs => validB_iff.1 (by have := List.any_eq_false.1 h0 s hs; simpa using this)
    refine Wp_skip ?_
    refine thn_normal ?_
    refine Wp_seq_region ?_
    refine WpL_val rfl rfl (by decide) (r_move (v := u) rfl) ?_
    refine WpL_enter rfl rfl (by decide) (r_callF (vs := [u]) Try.func64 nm64 bd64 rfl) (join_c _ _ a (ha.ext E) hl hv) ?_
    rintro _ w7 ⟨⟨j, hj, ⟨⟨ka, kc, rfl⟩, O7⟩⟩, X7⟩
    replace E := E.ext X7
    have hK : OwnS w7 w9.heap.size (.slice ka j.length kc) j := ⟨⟨_, _, rfl⟩, O7⟩
    refine WpL_enter rfl rfl (by decide) (r_callF (vs := [(.slice ka j.length kc)]) Try.func61 nm61 bd61 rfl) (sfits_c _ _ j hK.set) ?_
    rintro _ w6 ⟨⟨out, e, hf, fa, fc, rfl, hsp⟩, X6⟩
    replace E := E.ext X6
    obtain ⟨hj1, hj2⟩ := IsSet.join hj hv
    refine WpL_val rfl rfl (by decide) (r_extract (vs := #[(.slice fa out.length fc), (.int .i64 e)]) (v := (.slice fa out.length fc)) rfl rfl) ?_
    refine WpL_val rfl rfl (by decide) (r_extract (vs := #[(.slice fa out.length fc), (.int .i64 e)]) (v := (.int .i64 e)) rfl rfl) ?_
    refine WpL_val rfl rfl (by decide) (r_assign (v := (.slice fa out.length fc)) rfl) ?_
    refine WpL_val rfl rfl (by decide) (r_assign (v := (.int .i64 e)) rfl) ?_
    refine WpL_nil ?_
    refine Wp_ret ?_
    refine fin_tmp2 Try.results35 (v := (.slice fa out.length fc)) (v' := (.int .i64 e)) rfl rfl ?_
    exact ⟨⟨out, e, .inr ⟨hv, j, hj1, hj2, hf⟩, fa, fc, rfl, hsp⟩, E⟩
def hasV (a : List Sp) (r : Int) : Bool × Int := if checkE a ≠ 0 then (false, checkE a) else if runeB r = false then (false, 1) else (inS a r, 0)
theorem has_c (w0 : World) (u : Value) (a : List Sp) (r : Int) (ha : SpansAt w0 u a) : Ret Try.prog 14 #[u, .int .i64 r] w0 fun v w => v = .tuple #[.bool (hasV a r).1, .int .i64 (hasV a r).2] ∧ Ext w0 w := by
  refine Ret_of Try.func14 rfl Try.ntmps14 (Nat.le_of_ble_eq_true rfl) ?_
  have E : Chg none1 w0 w0 := Chg.refl _ _
  refine Wp_seq_region ?_
  refine WpL_val rfl rfl (by decide) (r_assign (v := (.bool false)) rfl) ?_
  refine WpL_val rfl rfl (by decide) (r_assign (v := (.int .i64 0)) rfl) ?_
  refine WpL_nil ?_
  refine Wp_seq ?_
  refine Wp_seq_region ?_
  refine WpL_val rfl rfl (by decide) (r_move (v := u) rfl) ?_
  refine WpL_enter rfl rfl (by decide) (r_callF (vs := [u]) Try.func33 nm33 bd33 rfl) (rcheck_c _ _ a ha) ?_
  rintro _ w9 ⟨rfl, X9⟩
  replace E := E.ext X9
  refine WpL_val rfl rfl (by decide) (r_assign (v := (.int .i64 (checkE a))) rfl) ?_
  refine WpL_nil ?_
  refine Wp_seq_region ?_
  refine WpL_val rfl rfl (by decide) (r_move (v := (.int .i64 (checkE a))) rfl) ?_
  refine WpL_val rfl rfl (by decide) (r_neq (k := .i64) (a := checkE a) (b := 0) rfl rfl) ?_
  refine WpL_nil ?_
  refine Wp_cond (b := decide ((checkE a : Int) ≠ 0)) rfl (fun h0 => ?_) (fun h0 => ?_)
  · have kh0 := h0
    replace h0 := of_decide_eq_true h0
    refine Wp_seq_region ?_
    refine WpL_val rfl rfl (by decide) (r_move (v := (.int .i64 (checkE a))) rfl) ?_
    refine WpL_val rfl rfl (by decide) (r_assign (v := (.bool false)) rfl) ?_
    refine WpL_val rfl rfl (by decide) (r_assign (v := (.int .i64 (checkE a))) rfl) ?_
    refine WpL_nil ?_
    refine Wp_ret ?_
    refine thn_ret ?_
    refine fin_tmp2 Try.results14 (v := (.bool false)) (v' := (.int .i64 (checkE a))) rfl rfl ?_
    exact ⟨by unfold hasV; rw [if_pos h0], E⟩
  · have kh0 := h0
    replace h0 := of_decide_eq_false h0
    refine Wp_skip ?_
    refine thn_normal ?_
    refine Wp_seq ?_
    refine Wp_seq_region ?_
    refine WpL_val rfl rfl (by decide) (r_move (v := (.int .i64 r)) rfl) ?_
    refine WpL_enter rfl rfl (by decide) (r_callF (vs := [(.int .i64 r)]) Try.func57 nm57 bd57 rfl) (rune_c r _) ?_
    rintro _ w8 ⟨rfl, X8⟩
    replace E := E.ext X8
    refine WpL_val rfl rfl (by decide) (r_not (b := runeB r) rfl) ?_
    refine WpL_nil ?_
    refine Wp_cond (b := !(runeB r)) rfl (fun h1 => ?_) (fun h1 => ?_)
    · have kh1 := h1
      replace h1 := by simpa using h1
      refine Wp_seq_region ?_
      refine WpL_val rfl rfl (by decide) (r_assign (v := (.bool false)) rfl) ?_
      refine WpL_val rfl rfl (by decide) (r_assign (v := (.int .i64 1)) rfl) ?_
      refine WpL_nil ?_
      refine Wp_ret ?_
      refine thn_ret ?_
      refine fin_tmp2 Try.results14 (v := (.bool false)) (v' := (.int .i64 1)) rfl rfl ?_
      exact ⟨by unfold hasV; rw [if_neg h0, if_pos h1], E⟩
    · have kh1 := h1
      replace h1 := by simpa using h1
      refine Wp_skip ?_
      refine thn_normal ?_
      refine Wp_seq_region ?_
      refine WpL_val rfl rfl (by decide) (r_move (v := u) rfl) ?_
      refine WpL_val rfl rfl (by decide) (r_move (v := (.int .i64 r)) rfl) ?_
      refine WpL_enter rfl rfl (by decide) (r_callF (vs := [u, (.int .i64 r)]) Try.func53 nm53 bd53 rfl) (in_c _ u a r (ha.ext E)) ?_
      rintro _ w7 ⟨rfl, X7⟩
      replace E := E.ext X7
      refine WpL_val rfl rfl (by decide) (r_assign (v := (.bool (inS a r))) rfl) ?_
      refine WpL_val rfl rfl (by decide) (r_assign (v := (.int .i64 0)) rfl) ?_
      refine WpL_nil ?_
      refine Wp_ret ?_
      refine fin_tmp2 Try.results14 (v := (.bool (inS a r))) (v' := (.int .i64 0)) rfl rfl ?_
      exact ⟨by unfold hasV; rw [if_neg h0, if_neg (by simp [h1])], E⟩
def sizeV (a : List Sp) : Int × Int := if checkE a ≠ 0 then (0, checkE a) else (sizeL a, 0)
theorem sizeL_take {a : List Sp} {k : Nat} {s : Sp} (h : a[k]? = some s) : sizeL (a.take (k + 1)) = sizeL (a.take k) + (s.2 - s.1 + 1) := by
  unfold sizeL; rw [List.take_add_one, h]; simp
theorem sizeL_nn : ∀ {a : List Sp}, (∀ s ∈ a, vSp s) → 0 ≤ sizeL a ∧ sizeL a ≤ 1114112 * a.length
  | [], _ => by unfold sizeL; simp
  | s :: r, h => by
    have h1 := sizeL_nn (a := r) fun t ht => h t (List.mem_cons_of_mem _ ht)
    have h2 := h s List.mem_cons_self
    unfold vSp at h2
    have h3 : sizeL (s :: r) = (s.2 - s.1 + 1) + sizeL r := by unfold sizeL; simp
    rw [h3]; simp only [List.length_cons]; omega
theorem ssize_c (w0 : World) (u : Value) (a : List Sp) (ha : SpansAt w0 u a) : Ret Try.prog 24 #[u] w0 fun v w => v = .tuple #[.int .i64 (sizeV a).1, .int .i64 (sizeV a).2] ∧ Ext w0 w := by
  obtain ⟨aa, ac, rfl⟩ := SlAt.form ha
  simp only [List.length_map] at ha ⊢
  refine Ret_of Try.func24 rfl Try.ntmps24 (Nat.le_of_ble_eq_true rfl) ?_
  have E : Chg none1 w0 w0 := Chg.refl _ _
  refine Wp_seq_region ?_
  refine WpL_val rfl rfl (by decide) (r_assign (v := (.int .i64 0)) rfl) ?_
  refine WpL_val rfl rfl (by decide) (r_assign (v := (.int .i64 0)) rfl) ?_
  refine WpL_nil ?_
  refine Wp_seq ?_
  refine Wp_seq_region ?_
  refine WpL_val rfl rfl (by decide) (r_move (v := (.slice aa a.length ac)) rfl) ?_
  refine WpL_enter rfl rfl (by decide) (r_callF (vs := [(.slice aa a.length ac)]) Try.func33 nm33 bd33 rfl) (rcheck_c _ _ a ha) ?_
  rintro _ w9 ⟨rfl, X9⟩
  replace E := E.ext X9
  refine WpL_val rfl rfl (by decide) (r_assign (v := (.int .i64 (checkE a))) rfl) ?_
  refine WpL_nil ?_
  refine Wp_seq_region ?_
  refine WpL_val rfl rfl (by decide) (r_move (v := (.int .i64 (checkE a))) rfl) ?_
  refine WpL_val rfl rfl (by decide) (r_neq (k := .i64) (a := checkE a) (b := 0) rfl rfl) ?_
  refine WpL_nil ?_
  refine Wp_cond (b := decide ((checkE a : Int) ≠ 0)) rfl (fun h0 => ?_) (fun h0 => ?_)
  · have kh0 := h0
    replace h0 := of_decide_eq_true h0
    refine Wp_seq_region ?_
    refine WpL_val rfl rfl (by decide) (r_move (v := (.int .i64 (checkE a))) rfl) ?_
    refine WpL_val rfl rfl (by decide) (r_assign (v := (.int .i64 0)) rfl) ?_
    refine WpL_val rfl rfl (by decide) (r_assign (v := (.int .i64 (checkE a))) rfl) ?_
    refine WpL_nil ?_
    refine Wp_ret ?_
    refine thn_ret ?_
    refine fin_tmp2 Try.results24 (v := (.int .i64 0)) (v' := (.int .i64 (checkE a))) rfl rfl ?_
    exact ⟨by unfold sizeV; rw [if_pos h0], E⟩
  · have kh0 := h0
    replace h0 := of_decide_eq_false h0
    have h1 : checkE a = 0 := by omega
    obtain ⟨ca, la⟩ := checkE_canon h1
    refine Wp_skip ?_
    refine thn_normal ?_
    refine Wp_seq_region ?_
    refine WpL_val rfl rfl (by decide) (r_assign (v := (.int .i64 0)) rfl) ?_
    refine WpL_nil ?_
    refine Wp_seq ?_
    refine Wp_seq_region ?_
    refine WpL_val rfl rfl (by decide) (r_move (v := (.slice aa a.length ac)) rfl) ?_
    refine WpL_val rfl rfl (by decide) (r_lenSlice (ad := aa) (n := a.length) (cap := ac) Try.underlying23 rfl) ?_
    refine WpL_val rfl rfl (by decide) (r_move (v := (.int .i64 0)) rfl) ?_
    refine WpL_nil ?_
    refine Wp_block ?_
    refine Wp_loop (fun nn_ σ W2 => ∃ (k : Nat) (n : Int), (∃ jj_, σ = upds jj_ [(13, (.slice aa a.length ac)), (14, (.int .i64 ((a.length : Nat) : Int))), (15, (.int .i64 ((k : Nat) : Int))), (5, (.int .i64 n))]) ∧ Chg none1 w0 W2 ∧ (k ≤ a.length) ∧ (n = sizeL (a.take k)) ∧ nn_ = a.length - k) (n := a.length - 0) ?_ ?_
    · exact ⟨0, 0, Fits.out ⟨rfl, rfl, rfl, rfl, trivial⟩, E, Nat.zero_le _, rfl, rfl⟩
    · clear E
      rintro _ _ W2 ⟨k, n, ⟨j2, rfl⟩, E, hk, hn, rfl⟩
      refine Wp_seq_region ?_
      refine WpL_val rfl rfl (by decide) (r_lss (k := .i64) (a := ((k : Nat) : Int)) (b := ((a.length : Nat) : Int)) rfl rfl) ?_
      refine WpL_nil ?_
      refine Wp_seq ?_
      refine Wp_cond (b := decide ((((k : Nat) : Int) : Int) < ((a.length : Nat) : Int))) rfl (fun hlt => ?_) (fun hlt => ?_)
      · have khlt := hlt
        replace hlt := of_decide_eq_true hlt
        obtain ⟨s, hs⟩ := get_of_lt (l := a) (i := k) (by omega)
        have hv := ca.ok s (List.mem_of_getElem? hs)
        unfold vSp at hv
        have hnn := sizeL_nn (a := a.take k) fun t ht => ca.ok t (List.mem_of_mem_take ht)
        rw [List.length_take] at hnn
        obtain ⟨b, o, rfl, hcl⟩ := spans_cells ha (by omega)
        refine Wp_skip ?_
        refine thn_normal ?_
        refine Wp_seq ?_
        refine Wp_block ?_
        refine Wp_seq_region ?_
        refine WpL_val rfl rfl (by decide) (r_indexSlice (b := b) (o := o) (len := a.length) (cap := ac) (i := k) (o' := o + k * 2) rfl rfl rfl Try.underlying23 siz37 (by omega) (by omega)) ?_
        refine WpL_val rfl rfl (by decide) (r_loadAgg (vs := [(.int .i64 s.1), (.int .i64 s.2)]) rfl agg37 siz37 rfl ((hcl k s hs).ext E)) ?_
        refine s_allocStore (v := (.agg #[(.int .i64 s.1), (.int .i64 s.2)])) (c := #[(.int .i64 s.1), (.int .i64 s.2)]) (n := 2) (by decide) zer37 rfl siz37 rfl rfl rfl (by simp [Value.oneCell']) ?_
        intro b4 w4 N4
        have F4 := N4.ge E
        replace E := E.ext N4.ext
        have B4 := N4.blk
        refine WpL_nil ?_
        refine Wp_region ?_
        refine WpL_val rfl rfl (by decide) (r_move (v := (.int .i64 n)) rfl) ?_
        refine WpL_val rfl rfl (by decide) (r_fieldAddr (b := b4) (o := 0) (o' := 1) rfl Try.underlying37 rfl siz3 rfl) ?_
        refine WpL_val rfl rfl (by decide) (r_load (v := (.int .i64 s.2)) rfl flat3 (B4.cell rfl)) ?_
        refine WpL_val rfl rfl (by decide) (r_fieldAddr (b := b4) (o := 0) (o' := 0) rfl Try.underlying37 rfl siz3 rfl) ?_
        refine WpL_val rfl rfl (by decide) (r_load (v := (.int .i64 s.1)) rfl flat3 (B4.cell rfl)) ?_
        refine WpL_val rfl rfl (by decide) (r_sub (k := .i64) (a := s.2) (b := s.1) (c := s.2 - s.1) rfl rfl (wI64 (by omega))) ?_
        refine WpL_val rfl rfl (by decide) (r_add (k := .i64) (a := s.2 - s.1) (b := 1) (c := (s.2 - s.1) + 1) rfl rfl (wI64 (by omega))) ?_
        refine WpL_val rfl rfl (by decide) (r_add (k := .i64) (a := n) (b := (s.2 - s.1) + 1) (c := n + ((s.2 - s.1) + 1)) rfl rfl (wI64 (by omega))) ?_
        refine WpL_val rfl rfl (by decide) (r_assign (v := (.int .i64 (n + ((s.2 - s.1) + 1)))) rfl) ?_
        refine WpL_nil ?_
        refine inB_normal ?_
        refine thn_normal ?_
        refine Wp_region ?_
        refine WpL_val rfl rfl (by decide) (r_add (k := .i64) (a := ((k : Nat) : Int)) (b := 1) (c := ((k : Nat) : Int) + 1) rfl rfl (wI64 (by omega))) ?_
        refine WpL_val rfl rfl (by decide) (r_move (v := (.int .i64 (((k : Nat) : Int) + 1))) rfl) ?_
        refine WpL_nil ?_
        refine thn_normal ?_
        exact ⟨a.length - (k + 1), by omega, k + 1, n + (s.2 - s.1 + 1), Fits.out ⟨rfl, rfl, rfl, rfl, trivial⟩, E, (by omega), (by rw [sizeL_take hs, hn]), rfl⟩
      · have khlt := hlt
        replace hlt := of_decide_eq_false hlt
        have hkk : k = a.length := by omega
        refine Wp_exit ?_
        refine thn_exit ?_
        refine thn_exit ?_
        refine inB_here ?_
        refine thn_normal ?_
        refine Wp_seq_region ?_
        refine WpL_val rfl rfl (by decide) (r_move (v := (.int .i64 n)) rfl) ?_
        refine WpL_val rfl rfl (by decide) (r_assign (v := (.int .i64 n)) rfl) ?_
        refine WpL_val rfl rfl (by decide) (r_assign (v := (.int .i64 0)) rfl) ?_
        refine WpL_nil ?_
        refine Wp_ret ?_
        refine fin_tmp2 Try.results24 (v := (.int .i64 n)) (v' := (.int .i64 0)) rfl rfl ?_
        exact ⟨by unfold sizeV; rw [if_neg h0, hn, hkk, List.take_length], E⟩
theorem span_c (w0 : World) (lo hi : Int) : Ret Try.prog 11 #[.int .i64 lo, .int .i64 hi] w0 fun v w => (∃ b, v = .slice (some ⟨b, 0, none⟩) 1 1 ∧ SpansAt w v [(lo, hi)]) ∧ Ext w0 w := by
  refine Ret_of Try.func11 rfl Try.ntmps11 (Nat.le_of_ble_eq_true rfl) ?_
  have E : Chg none1 w0 w0 := Chg.refl _ _
  refine Wp_seq_region ?_
  refine WpL_val rfl rfl (by decide) (r_assign (v := (.slice none 0 0)) rfl) ?_
  refine WpL_nil ?_
  refine Wp_seq_region ?_
  refine WpL_val rfl rfl (by decide) (r_move (v := (.int .i64 lo)) rfl) ?_
  refine WpL_val rfl rfl (by decide) (r_move (v := (.int .i64 hi)) rfl) ?_
  refine WpL_val rfl rfl (by decide) (r_build (ps := [(0, (.int .i64 lo)), (1, (.int .i64 hi))]) (v := (.agg #[(.int .i64 lo), (.int .i64 hi)])) rfl (by kernel_rfl)) ?_
  refine s_buildSlice (ps := [(0, (.agg #[(.int .i64 lo), (.int .i64 hi)]))]) (c := #[(.int .i64 lo), (.int .i64 hi)]) (by decide) rfl Try.underlying23 siz37 zer37 (by decide) (by decide) (by kernel_rfl) ?_
  intro bq wq Nq
  have Fq := Nq.ge E
  replace E := E.ext Nq.ext
  have Bq := Nq.blk
  refine WpL_val rfl rfl (by decide) (r_assign (v := (.slice (some ⟨bq, 0, none⟩) 1 1)) rfl) ?_
  refine WpL_nil ?_
  refine Wp_ret ?_
  refine fin_tmp Try.results11 (v := (.slice (some ⟨bq, 0, none⟩) 1 1)) rfl ?_
  exact ⟨⟨bq, rfl, spans_of_blk [(lo, hi)] Bq (by simp) (by simp)⟩, E⟩
end Go.Proofs
