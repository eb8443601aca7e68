/- The law FoldTells, walked. -/
import Derived.Test.YtpjamnekclkhhaaSo3
namespace Go.Proofs
open Go Go.Eng Go.Sort
set_option maxRecDepth 100000

def hdO (r : Int) : Int := (orbitL r).headD 0
theorem orb_cons (r : Int) : ∃ t, orbitL r = hdO r :: t := by
  unfold hdO
  cases h : orbitL r with
  | nil => have := orb_self' r; rw [h] at this; cases this
  | cons x t => exact ⟨t, rfl⟩
def keyV (r : Int) : Int × Int := if runeB r = false then (0, 1) else (hdO r, 0)
theorem key_c (w0 : World) (r : Int) : Ret Try.prog 25 #[.int .i64 r] w0 fun v w => v = .tuple #[.int .i64 (keyV r).1, .int .i64 (keyV r).2] ∧ Ext w0 w := by
  refine Ret_of Try.func25 rfl Try.ntmps25 (Nat.le_of_ble_eq_true rfl) ?_
  have E : Chg none1 w0 w0 := Chg.refl _ _
  refine Wp_seq_region ?_
  refine WpL_val rfl rfl (by decide) (r_assign (v := (.int .i64 0)) rfl) ?_
  refine WpL_val rfl rfl (by decide) (r_assign (v := (.int .i64 0)) rfl) ?_
  refine WpL_nil ?_
  refine Wp_seq ?_
  refine Wp_seq_region ?_
  refine WpL_val rfl rfl (by decide) (r_move (v := (.int .i64 r)) rfl) ?_
  refine WpL_enter rfl rfl (by decide) (r_callF (vs := [(.int .i64 r)]) Try.func57 nm57 bd57 rfl) (rune_c r _) ?_
  rintro _ w8 ⟨rfl, X8⟩
  replace E := E.ext X8
  refine WpL_val rfl rfl (by decide) (r_not (b := runeB r) rfl) ?_
  refine WpL_nil ?_
  refine Wp_cond (b := !(runeB r)) rfl (fun h1 => ?_) (fun h1 => ?_)
  · have kh1 := h1
    replace h1 := by simpa using h1
    refine Wp_seq_region ?_
    refine WpL_val rfl rfl (by decide) (r_assign (v := (.int .i64 0)) rfl) ?_
    refine WpL_val rfl rfl (by decide) (r_assign (v := (.int .i64 1)) rfl) ?_
    refine WpL_nil ?_
    refine Wp_ret ?_
    refine thn_ret ?_
    refine fin_tmp2 Try.results25 (v := (.int .i64 0)) (v' := (.int .i64 1)) rfl rfl ?_
    unfold keyV; rw [if_pos h1]; exact ⟨rfl, E⟩
  · have kh1 := h1
    replace h1 := by simpa using h1
    have hr : 0 ≤ r ∧ r ≤ 1114111 := by unfold runeB at h1; simp at h1; omega
    obtain ⟨t, ht⟩ := orb_cons r
    refine Wp_skip ?_
    refine thn_normal ?_
    refine Wp_seq_region ?_
    refine WpL_val rfl rfl (by decide) (r_move (v := (.int .i64 r)) rfl) ?_
    refine WpL_enter rfl rfl (by decide) (r_callF (vs := [(.int .i64 r)]) Try.func54 nm54 bd54 rfl) ((orbit_c _ r hr).mono (fun v w h => (by rw [ht] at h; exact ⟨h.1.1, h.1.at, h.2⟩ : (∃ a c, v = .slice a (hdO r :: t).length c) ∧ IntsAt w v (hdO r :: t) ∧ Ext _ w))) ?_
    rintro _ w6 ⟨⟨oa, oc, rfl⟩, hor, X6⟩
    replace E := E.ext X6
    obtain ⟨b, o, hab, hcl⟩ := ints_cells hor (by simp)
    subst hab
    refine WpL_val rfl rfl (by decide) (r_indexSlice (b := b) (o := o) (len := (hdO r :: t).length) (cap := oc) (i := 0) (o' := o + 0) rfl rfl rfl Try.underlying22 siz3 (by simp) (by omega)) ?_
    refine WpL_val rfl rfl (by decide) (r_load (v := (.int .i64 (hdO r))) rfl flat3 (hcl 0 _ rfl)) ?_
    refine WpL_val rfl rfl (by decide) (r_assign (v := (.int .i64 (hdO r))) rfl) ?_
    refine WpL_val rfl rfl (by decide) (r_assign (v := (.int .i64 0)) rfl) ?_
    refine WpL_nil ?_
    refine Wp_ret ?_
    refine fin_tmp2 Try.results25 (v := (.int .i64 (hdO r))) (v' := (.int .i64 0)) rfl rfl ?_
    unfold keyV; rw [if_neg (by simp [h1])]; exact ⟨rfl, E⟩
def headF (x : Int) : Fct := fun v w => ∃ b o c m, v = .slice (some ⟨b, o, none⟩) (m + 1) c ∧ w.cell? ⟨b, o, none⟩ = some (.int .i64 x)
theorem headF_ext (x : Int) : Stable (headF x) := by
  rintro v w w' e ⟨b, o, c, m, h1, h2⟩
  exact ⟨b, o, c, m, h1, e.cell h2⟩
def ptrF (x : Int) : Fct := fun v w => ∃ b o, v = .pointer (some ⟨b, o, none⟩) ∧ w.cell? ⟨b, o, none⟩ = some (.int .i64 x)
theorem ptrF_ext (x : Int) : Stable (ptrF x) := by
  rintro v w w' e ⟨b, o, h1, h2⟩
  exact ⟨b, o, h1, e.cell h2⟩
theorem Does_idx0 {N : Nat} {σ : Env} {w : World} {dst : Option Tmp} {ty : TypeId} {pos : String} {af : Array Edge} {g : Option (Nat × Bool)} {x : Operand} {b o c m : Nat} {z : Int} (hx : ev σ x = .slice (some ⟨b, o, none⟩) (m + 1) c) (hc : w.cell? ⟨b, o, none⟩ = some (.int .i64 z)) :
    Does Try.prog N ⟨dst, .indexAddr 22 x (.const (.int .i64 0)), ty, pos, af, g⟩ (ptrF z) σ w :=
  Does_val (r_indexSlice (b := b) (o := o) (len := m + 1) (cap := c) (i := 0) (o' := o) hx rfl rfl Try.underlying22 siz3 (by omega) (by omega)) (Ext.refl _) ⟨b, o, rfl, hc⟩
theorem Does_ld {N : Nat} {σ : Env} {w : World} {dst : Option Tmp} {ty : TypeId} {pos : String} {af : Array Edge} {g : Option (Nat × Bool)} {x : Operand} {b o : Nat} {z : Int} (hx : ev σ x = .pointer (some ⟨b, o, none⟩)) (hc : w.cell? ⟨b, o, none⟩ = some (.int .i64 z)) :
    Does Try.prog N ⟨dst, .load 3 x, ty, pos, af, g⟩ (Fact.eq (.int .i64 z)).In σ w :=
  Does_val (r_load (v := .int .i64 z) hx flat3 hc) (Ext.refl _) rfl
theorem ints_head {w : World} {v : Value} {x : Int} {t : List Int} (h : IntsAt w v (x :: t)) : headF x v w := by
  obtain ⟨a, c, rfl⟩ := SlAt.form h
  simp only [List.length_map] at h ⊢
  obtain ⟨b, o, rfl, hcl⟩ := ints_cells h (by simp)
  exact ⟨b, o, c, t.length, rfl, hcl 0 x rfl⟩
theorem orbit_h (w0 : World) (r : Int) (hr : 0 ≤ r ∧ r ≤ 1114111) : Ret Try.prog 54 #[.int .i64 r] w0 fun v w => headF (hdO r) v w ∧ Ext w0 w :=
  (orbit_c w0 r hr).mono fun v w h => by
    obtain ⟨t, ht⟩ := orb_cons r
    have := h.1.at
    rw [ht] at this
    exact ⟨ints_head this, h.2⟩
theorem rorbit_h (w0 : World) (r : Int) : Ret Try.prog 27 #[.int .i64 r] w0 fun v w => headF (hdO r) v w ∧ Ext w0 w :=
  (rorbit_c w0 r).mono fun v w h => by
    obtain ⟨t, ht⟩ := orb_cons r
    have := h.1.at
    rw [ht] at this
    exact ⟨ints_head this, h.2⟩
theorem same1_c (w0 : World) (x y : Int) (hx : 0 ≤ x ∧ x ≤ 1114111) (hy : 0 ≤ y ∧ y ≤ 1114111) : Ret Try.prog 71 #[.int .i64 x, .int .i64 y] w0 fun v w => v = .bool (decide (hdO x = hdO y)) ∧ Ext w0 w := by
  refine Ret_of Try.func71 rfl Try.ntmps71 (Nat.le_of_ble_eq_true rfl) ?_
  have E : Chg none1 w0 w0 := Chg.refl _ _
  refine Wp_seq_region ?_
  refine WpL_val rfl rfl (by decide) (r_assign (v := (.bool false)) rfl) ?_
  refine WpL_nil ?_
  refine Wp_seq ?_
  obtain ⟨Fs1, hFs1⟩ : ∃ Fs : List Fact, Fs = [.eq (.int .i64 x), .gen (headF (hdO x)) (headF_ext _), .gen (ptrF (hdO x)) (ptrF_ext _), .eq (.int .i64 (hdO x)), .eq (.int .i64 y), .gen (headF (hdO y)) (headF_ext _), .gen (ptrF (hdO y)) (ptrF_ext _), .eq (.int .i64 (hdO y)), .eq (.bool (decide (hdO x = hdO y))), .eq (.bool (decide (hdO x = hdO y)))] := ⟨_, rfl⟩
  refine Wp_dag [5, 6, 7, 8, 9, 10, 11, 12, 13, 4] [[], [0], [1], [2], [], [1, 4], [5], [6], [3, 7], [0, 1, 2, 3, 4, 5, 6, 7, 8]] Fs1 hFs1 mixed (by kernel_rfl) (by kernel_rfl) ?_ ?_
  · intro wd X0
    refine DagSteps.cons (fun s' w' X U H => Or.inl ⟨?_, ?_⟩) ?_
    · exact Guarded_none rfl
    · exact Does_val (r_move (v := (.int .i64 x)) (U 0 rfl)) (Ext.refl _) rfl
    refine DagSteps.cons (fun s' w' X U H => Or.inl ⟨?_, ?_⟩) ?_
    · exact Guarded_none rfl
    · have e5 : s' 5 = (.int .i64 x) := H 0 rfl 5 (.eq (.int .i64 x)) rfl (by rw [hFs1]; rfl)
      exact Does_enter (r_callF (vs := [(.int .i64 x)]) Try.func54 nm54 bd54 (lst1 e5)) (orbit_h _ x hx)
    refine DagSteps.cons (fun s' w' X U H => Or.inl ⟨?_, ?_⟩) ?_
    · exact Guarded_none rfl
    · obtain ⟨b6, o6, c6, m6, e6, h6⟩ := H 1 rfl 6 (.gen (headF (hdO x)) (headF_ext _)) rfl (by rw [hFs1]; rfl)
      exact Does_idx0 e6 h6
    refine DagSteps.cons (fun s' w' X U H => Or.inl ⟨?_, ?_⟩) ?_
    · exact Guarded_none rfl
    · obtain ⟨b7, o7, e7, h7⟩ := H 2 rfl 7 (.gen (ptrF (hdO x)) (ptrF_ext _)) rfl (by rw [hFs1]; rfl)
      exact Does_ld e7 h7
    refine DagSteps.cons (fun s' w' X U H => Or.inl ⟨?_, ?_⟩) ?_
    · exact Guarded_none rfl
    · exact Does_val (r_move (v := (.int .i64 y)) (U 1 rfl)) (Ext.refl _) rfl
    refine DagSteps.cons (fun s' w' X U H => Or.inl ⟨?_, ?_⟩) ?_
    · exact Guarded_none rfl
    · have e9 : s' 9 = (.int .i64 y) := H 4 rfl 9 (.eq (.int .i64 y)) rfl (by rw [hFs1]; rfl)
      exact Does_enter (r_callF (vs := [(.int .i64 y)]) Try.func54 nm54 bd54 (lst1 e9)) (orbit_h _ y hy)
    refine DagSteps.cons (fun s' w' X U H => Or.inl ⟨?_, ?_⟩) ?_
    · exact Guarded_none rfl
    · obtain ⟨b10, o10, c10, m10, e10, h10⟩ := H 5 rfl 10 (.gen (headF (hdO y)) (headF_ext _)) rfl (by rw [hFs1]; rfl)
      exact Does_idx0 e10 h10
    refine DagSteps.cons (fun s' w' X U H => Or.inl ⟨?_, ?_⟩) ?_
    · exact Guarded_none rfl
    · obtain ⟨b11, o11, e11, h11⟩ := H 6 rfl 11 (.gen (ptrF (hdO y)) (ptrF_ext _)) rfl (by rw [hFs1]; rfl)
      exact Does_ld e11 h11
    refine DagSteps.cons (fun s' w' X U H => Or.inl ⟨?_, ?_⟩) ?_
    · exact Guarded_none rfl
    · have e8 : s' 8 = (.int .i64 (hdO x)) := H 3 rfl 8 (.eq (.int .i64 (hdO x))) rfl (by rw [hFs1]; rfl)
      have e12 : s' 12 = (.int .i64 (hdO y)) := H 7 rfl 12 (.eq (.int .i64 (hdO y))) rfl (by rw [hFs1]; rfl)
      exact Does_val (r_eql (k := .i64) (a := hdO x) (b := hdO y) e8 e12) (Ext.refl _) rfl
    refine DagSteps.cons (fun s' w' X U H => Or.inl ⟨?_, ?_⟩) ?_
    · exact Guarded_none rfl
    · have e13 : s' 13 = (.bool (decide (hdO x = hdO y))) := H 8 rfl 13 (.eq (.bool (decide (hdO x = hdO y)))) rfl (by rw [hFs1]; rfl)
      exact Does_val (r_assign (v := (.bool (decide (hdO x = hdO y)))) e13) (Ext.refl _) rfl
    exact DagSteps.nil
  · intro s' w1 X1 U H
    obtain ⟨j1, rfl⟩ := Fits.out (σ := s') (l := [(4, (.bool (decide (hdO x = hdO y))))]) ⟨(show s' 4 = (.bool (decide (hdO x = hdO y))) from H 9 4 (.eq (.bool (decide (hdO x = hdO y)))) rfl (by rw [hFs1]; rfl)), trivial⟩
    clear U H
    replace E := E.ext X1
    refine thn_normal ?_
    refine Wp_ret ?_
    refine fin_tmp Try.results71 (v := (.bool (decide (hdO x = hdO y)))) rfl ?_
    exact ⟨rfl, E⟩
theorem eqfi_c (w0 : World) (v1 v2 fv : Value) (l1 l2 : List Int) (g : Int → Int) (h1 : IntsAt w0 v1 l1) (h2 : IntsAt w0 v2 l2)
    (hf : ∀ (w : World) (x y : Int), Ext w0 w → x ∈ l1 → y ∈ l2 → CallV Try.prog fv #[.int .i64 x, .int .i64 y] w fun r w' => r = .bool (decide (g x = g y)) ∧ Ext w w') :
    Ret Try.prog 70 #[v1, v2, fv] w0 fun v w => v = .bool (decide (l1.map g = l2.map g)) ∧ Ext w0 w := by
  obtain ⟨a1, c1, rfl⟩ := SlAt.form h1
  obtain ⟨a2, c2, rfl⟩ := SlAt.form h2
  have hb1 : l1.length ≤ 9223372036854775807 := by simpa using SlAt.le h1
  simp only [List.length_map] at h1 h2 ⊢
  refine Ret_of Try.func70 rfl Try.ntmps70 (Nat.le_of_ble_eq_true rfl) ?_
  have E : Chg none1 w0 w0 := Chg.refl _ _
  refine Wp_seq_region ?_
  refine WpL_val rfl rfl (by decide) (r_assign (v := (.bool false)) rfl) ?_
  refine WpL_nil ?_
  refine Wp_seq ?_
  refine Wp_seq_region ?_
  refine WpL_val rfl rfl (by decide) (r_move (v := (.slice a1 l1.length c1)) rfl) ?_
  refine WpL_val rfl rfl (by decide) (r_lenSlice (ad := a1) (n := l1.length) (cap := c1) Try.underlying22 rfl) ?_
  refine WpL_val rfl rfl (by decide) (r_move (v := (.slice a2 l2.length c2)) rfl) ?_
  refine WpL_val rfl rfl (by decide) (r_lenSlice (ad := a2) (n := l2.length) (cap := c2) Try.underlying22 rfl) ?_
  refine WpL_val rfl rfl (by decide) (r_neq (k := .i64) (a := ((l1.length : Nat) : Int)) (b := ((l2.length : Nat) : Int)) rfl rfl) ?_
  refine WpL_nil ?_
  refine Wp_cond (b := decide ((((l1.length : Nat) : Int) : Int) ≠ ((l2.length : Nat) : Int))) rfl (fun hl => ?_) (fun hl => ?_)
  · have khl := hl
    replace hl := of_decide_eq_true hl
    refine Wp_seq_region ?_
    refine WpL_val rfl rfl (by decide) (r_assign (v := (.bool false)) rfl) ?_
    refine WpL_nil ?_
    refine Wp_ret ?_
    refine thn_ret ?_
    refine fin_tmp Try.results70 (v := (.bool false)) rfl ?_
    exact ⟨bool_eq (by symm; rw [decide_eq_false_iff_not]; intro h; have := congrArg List.length h; simp at this; omega), E⟩
  · have khl := hl
    replace hl := of_decide_eq_false hl
    refine Wp_skip ?_
    refine thn_normal ?_
    refine Wp_seq ?_
    refine Wp_seq_region ?_
    refine WpL_val rfl rfl (by decide) (r_move (v := (.slice a1 l1.length c1)) rfl) ?_
    refine WpL_val rfl rfl (by decide) (r_lenSlice (ad := a1) (n := l1.length) (cap := c1) Try.underlying22 rfl) ?_
    refine WpL_val rfl rfl (by decide) (r_move (v := (.int .i64 0)) rfl) ?_
    refine WpL_nil ?_
    refine Wp_block ?_
    refine Wp_loop (fun nn_ σ W2 => ∃ (k : Nat), (∃ jj_, σ = upds jj_ [(1, (.slice a2 l2.length c2)), (2, fv), (15, (.slice a1 l1.length c1)), (16, (.int .i64 ((l1.length : Nat) : Int))), (17, (.int .i64 ((k : Nat) : Int)))]) ∧ Chg none1 w0 W2 ∧ (k ≤ l1.length) ∧ (∀ (i : Nat), i < k → (l1[i]?).map g = (l2[i]?).map g) ∧ nn_ = l1.length - k) (n := l1.length - 0) ?_ ?_
    · exact ⟨0, Fits.out ⟨rfl, rfl, rfl, rfl, rfl, trivial⟩, E, Nat.zero_le _, (fun i h => absurd h (Nat.not_lt_zero _)), rfl⟩
    · clear E
      rintro _ _ W2 ⟨k, ⟨j2, rfl⟩, E, hk, heq, rfl⟩
      refine Wp_seq_region ?_
      refine WpL_val rfl rfl (by decide) (r_lss (k := .i64) (a := ((k : Nat) : Int)) (b := ((l1.length : Nat) : Int)) rfl rfl) ?_
      refine WpL_nil ?_
      refine Wp_seq ?_
      refine Wp_cond (b := decide ((((k : Nat) : Int) : Int) < ((l1.length : Nat) : Int))) rfl (fun hlt => ?_) (fun hlt => ?_)
      · have khlt := hlt
        replace hlt := of_decide_eq_true hlt
        obtain ⟨p, hp⟩ := get_of_lt (l := l1) (i := k) (by omega)
        obtain ⟨q, hq⟩ := get_of_lt (l := l2) (i := k) (by omega)
        obtain ⟨b1, o1, rfl, hc1⟩ := ints_cells h1 (by omega)
        obtain ⟨b2, o2, rfl, hc2⟩ := ints_cells h2 (by omega)
        refine Wp_skip ?_
        refine thn_normal ?_
        refine Wp_seq ?_
        refine Wp_block ?_
        refine Wp_seq_region ?_
        refine WpL_val rfl rfl (by decide) (r_move (v := (.int .i64 ((k : Nat) : Int))) rfl) ?_
        refine WpL_val rfl rfl (by decide) (r_indexSlice (b := b1) (o := o1) (len := l1.length) (cap := c1) (i := k) (o' := o1 + k) rfl rfl rfl Try.underlying22 siz3 (by omega) (by omega)) ?_
        refine WpL_val rfl rfl (by decide) (r_load (v := (.int .i64 p)) rfl flat3 (E.cell (fun f => f) (hc1 k p hp))) ?_
        refine WpL_val rfl rfl (by decide) (r_assign (v := (.int .i64 ((k : Nat) : Int))) rfl) ?_
        refine WpL_val rfl rfl (by decide) (r_assign (v := (.int .i64 p)) rfl) ?_
        refine WpL_nil ?_
        refine Wp_seq_region ?_
        refine WpL_val rfl rfl (by decide) (r_move (v := (.slice (some ⟨b2, o2, none⟩) l2.length c2)) rfl) ?_
        refine WpL_val rfl rfl (by decide) (r_move (v := (.int .i64 ((k : Nat) : Int))) rfl) ?_
        refine WpL_val rfl rfl (by decide) (r_indexSlice (b := b2) (o := o2) (len := l2.length) (cap := c2) (i := k) (o' := o2 + k) rfl rfl rfl Try.underlying22 siz3 (by omega) (by omega)) ?_
        refine WpL_val rfl rfl (by decide) (r_load (v := (.int .i64 q)) rfl flat3 (E.cell (fun f => f) (hc2 k q hq))) ?_
        refine WpL_val rfl rfl (by decide) (r_assign (v := (.int .i64 q)) rfl) ?_
        refine WpL_nil ?_
        refine Wp_seq_region ?_
        refine WpL_val rfl rfl (by decide) (r_move (v := fv) rfl) ?_
        refine WpL_val rfl rfl (by decide) (r_move (v := (.int .i64 p)) rfl) ?_
        refine WpL_val rfl rfl (by decide) (r_move (v := (.int .i64 q)) rfl) ?_
        refine WpL_callV (fv := fv) (vs := [(.int .i64 p), (.int .i64 q)]) (by decide) rfl rfl (hf _ p q E (List.mem_of_getElem? hp) (List.mem_of_getElem? hq)) ?_
        rintro _ w9 ⟨rfl, X9⟩
        replace E := E.ext X9
        refine WpL_val rfl rfl (by decide) (r_not (b := decide (g p = g q)) rfl) ?_
        refine WpL_nil ?_
        refine Wp_cond (b := !(decide (g p = g q))) rfl (fun hpq => ?_) (fun hpq => ?_)
        · have khpq := hpq
          replace hpq := by simpa using hpq
          refine Wp_seq_region ?_
          refine WpL_val rfl rfl (by decide) (r_assign (v := (.bool false)) rfl) ?_
          refine WpL_nil ?_
          refine Wp_ret ?_
          refine inB_ret ?_
          refine thn_ret ?_
          refine thn_ret ?_
          refine inB_ret ?_
          refine thn_ret ?_
          refine fin_tmp Try.results70 (v := (.bool false)) rfl ?_
          exact ⟨bool_eq (by symm; rw [decide_eq_false_iff_not]; intro h; have := congrArg (fun l => l[k]?) h; simp [hp, hq] at this; simp [this] at hpq), E⟩
        · have khpq := hpq
          replace hpq := by simpa using hpq
          have hpq2 : g p = g q := by simpa using hpq
          refine Wp_skip ?_
          refine inB_normal ?_
          refine thn_normal ?_
          refine Wp_region ?_
          refine WpL_val rfl rfl (by decide) (r_add (k := .i64) (a := ((k : Nat) : Int)) (b := 1) (c := ((k : Nat) : Int) + 1) rfl rfl (wI64 (by omega))) ?_
          refine WpL_val rfl rfl (by decide) (r_move (v := (.int .i64 (((k : Nat) : Int) + 1))) rfl) ?_
          refine WpL_nil ?_
          refine thn_normal ?_
          exact ⟨l1.length - (k + 1), by omega, k + 1, Fits.out ⟨rfl, rfl, rfl, rfl, rfl, trivial⟩, E, (by omega), (fun i hi => by rcases Nat.lt_or_ge i k with h | h; exact heq i h; obtain rfl : i = k := (by omega); rw [hp, hq]; simp [hpq2]), rfl⟩
      · have khlt := hlt
        replace hlt := of_decide_eq_false hlt
        have hkk : k = l1.length := by omega
        refine Wp_exit ?_
        refine thn_exit ?_
        refine thn_exit ?_
        refine inB_here ?_
        refine thn_normal ?_
        refine Wp_seq_region ?_
        refine WpL_val rfl rfl (by decide) (r_assign (v := (.bool true)) rfl) ?_
        refine WpL_nil ?_
        refine Wp_ret ?_
        refine fin_tmp Try.results70 (v := (.bool true)) rfl ?_
        exact ⟨bool_eq (by symm; rw [decide_eq_true_eq]; exact get_ext (by simp; omega) (fun i hi => by rw [List.getElem?_map, List.getElem?_map]; exact heq i (by simp at hi; omega))), E⟩
def badB (l : List Int) : Bool := l.any fun r => !runeB r
theorem bad_ok {l : List Int} (h : badB l = false) : ∀ x ∈ l, 0 ≤ x ∧ x ≤ 1114111 := fun x hx => by
  have := List.any_eq_false.1 h x hx
  unfold runeB at this
  simp at this
  omega
def sameV (a b : List Int) : Bool × Int := if 1000 < a.length ∨ 1000 < b.length then (false, 2) else if (badB a || badB b) = true then (false, 1) else (decide (a.map hdO = b.map hdO), 0)
theorem same_c' (w0 : World) (u v : Value) (a b : List Int) (ha : IntsAt w0 u a) (hb : IntsAt w0 v b) : Ret Try.prog 31 #[u, v] w0 fun r w => r = .tuple #[.bool (sameV a b).1, .int .i64 (sameV a b).2] ∧ Ext w0 w := by
  obtain ⟨aa, ac, rfl⟩ := SlAt.form ha
  obtain ⟨ba, bc, rfl⟩ := SlAt.form hb
  simp only [List.length_map] at ha hb ⊢
  refine Ret_of Try.func31 rfl Try.ntmps31 (Nat.le_of_ble_eq_true rfl) ?_
  have E : Chg none1 w0 w0 := Chg.refl _ _
  refine Wp_seq_region ?_
  refine WpL_val rfl rfl (by decide) (r_assign (v := (.bool false)) rfl) ?_
  refine WpL_val rfl rfl (by decide) (r_assign (v := (.int .i64 0)) rfl) ?_
  refine WpL_nil ?_
  refine Wp_seq ?_
  refine Wp_seq_region ?_
  refine WpL_val rfl rfl (by decide) (r_move (v := (.slice aa a.length ac)) rfl) ?_
  refine WpL_val rfl rfl (by decide) (r_lenSlice (ad := aa) (n := a.length) (cap := ac) Try.underlying22 rfl) ?_
  obtain ⟨e1, he1⟩ : ∃ e, (decide ((1000 : Int) < ((a.length : Nat) : Int))) = e := ⟨_, rfl⟩
  refine WpL_val rfl rfl (by decide) ((r_gtr (k := .i64) (a := ((a.length : Nat) : Int)) (b := 1000) rfl rfl).trans (by rw [he1]; try rfl)) ?_
  refine WpL_val rfl rfl (by decide) (r_move (v := (.bool e1)) rfl) ?_
  refine WpL_guard_any (oj := _) (gv := (.bool e1)) (u := (bif e1 then undef else (.slice ba b.length bc))) rfl rfl (by decide) (by decide) rfl (by cases e1 <;> first | exact Or.inr ⟨Or.inl rfl, rfl⟩ | exact Or.inr ⟨Or.inr rfl, rfl⟩ | exact Or.inl ⟨rfl, r_move (v := (.slice ba b.length bc)) rfl⟩) ?_
  refine WpL_guard_any (oj := _) (gv := (.bool e1)) (u := (bif e1 then undef else (.int .i64 ((b.length : Nat) : Int)))) rfl rfl (by decide) (by decide) rfl (by cases e1 <;> first | exact Or.inr ⟨Or.inl rfl, rfl⟩ | exact Or.inr ⟨Or.inr rfl, rfl⟩ | exact Or.inl ⟨rfl, r_lenSlice (ad := ba) (n := b.length) (cap := bc) Try.underlying22 rfl⟩) ?_
  obtain ⟨e2, he2⟩ : ∃ e, (decide ((1000 : Int) < ((b.length : Nat) : Int))) = e := ⟨_, rfl⟩
  refine WpL_guard_any (oj := _) (gv := (.bool e1)) (u := (bif e1 then undef else (.bool e2))) rfl rfl (by decide) (by decide) rfl (by cases e1 <;> first | exact Or.inr ⟨Or.inl rfl, rfl⟩ | exact Or.inr ⟨Or.inr rfl, rfl⟩ | exact Or.inl ⟨rfl, (r_gtr (k := .i64) (a := ((b.length : Nat) : Int)) (b := 1000) rfl rfl).trans (by rw [he2]; try rfl)⟩) ?_
  obtain ⟨e3, he3⟩ : ∃ e, (e1 || e2) = e := ⟨_, rfl⟩
  refine WpL_val rfl rfl (by decide) (r_pick (b := e1) (v := .bool e3) rfl (by rw [← he3]; cases e1 <;> rfl)) ?_
  refine WpL_nil ?_
  subst he3
  subst he2
  subst he1
  refine Wp_cond (b := ((decide ((1000 : Int) < ((a.length : Nat) : Int))) || (decide ((1000 : Int) < ((b.length : Nat) : Int))))) rfl (fun hl => ?_) (fun hl => ?_)
  · have khl := hl
    refine Wp_seq_region ?_
    refine WpL_val rfl rfl (by decide) (r_assign (v := (.bool false)) rfl) ?_
    refine WpL_val rfl rfl (by decide) (r_assign (v := (.int .i64 2)) rfl) ?_
    refine WpL_nil ?_
    refine Wp_ret ?_
    refine thn_ret ?_
    refine fin_tmp2 Try.results31 (v := (.bool false)) (v' := (.int .i64 2)) rfl rfl ?_
    unfold sameV; rw [if_pos (by simp at hl; omega)]; exact ⟨rfl, E⟩
  · have khl := hl
    have hl2 : ¬ (1000 < a.length ∨ 1000 < b.length) := by simp at hl; omega
    refine Wp_skip ?_
    refine thn_normal ?_
    refine Wp_seq ?_
    refine Wp_seq_region ?_
    refine WpL_val rfl rfl (by decide) (r_move (v := (.slice aa a.length ac)) rfl) ?_
    refine WpL_enter rfl rfl (by decide) (r_callF (vs := [(.slice aa a.length ac)]) Try.func69 nm69 bd69 rfl) (runes_c _ _ a ha) ?_
    rintro _ w9 ⟨rfl, X9⟩
    replace E := E.ext X9
    refine WpL_val rfl rfl (by decide) (r_not (b := !badB a) rfl) ?_
    refine WpL_val rfl rfl (by decide) (r_move (v := (.bool (!(!badB a)))) rfl) ?_
    rcases Bool.eq_false_or_eq_true (!(!badB a)) with hg | hg
    · have khg := hg
      refine WpL_guard_no (oj := _) rfl rfl (by decide) (v := .bool true) (congrArg Value.bool hg) (Or.inl rfl) ?_
      refine WpL_guard_no (oj := _) rfl rfl (by decide) (v := .bool true) (congrArg Value.bool hg) (Or.inl rfl) ?_
      refine WpL_guard_no (oj := _) rfl rfl (by decide) (v := .bool true) (congrArg Value.bool hg) (Or.inl rfl) ?_
      refine WpL_val rfl rfl (by decide) (r_pick (b := !(!badB a)) (v := (.bool true)) rfl (by rw [hg]; rfl)) ?_
      refine WpL_nil ?_
      refine Wp_cond_true rfl ?_
      refine Wp_seq_region ?_
      refine WpL_val rfl rfl (by decide) (r_assign (v := (.bool false)) rfl) ?_
      refine WpL_val rfl rfl (by decide) (r_assign (v := (.int .i64 1)) rfl) ?_
      refine WpL_nil ?_
      refine Wp_ret ?_
      refine thn_ret ?_
      refine fin_tmp2 Try.results31 (v := (.bool false)) (v' := (.int .i64 1)) rfl rfl ?_
      unfold sameV; rw [if_neg hl2, if_pos (by have : badB a = true := (by simpa using hg); simp [this])]; exact ⟨rfl, E⟩
    · have khg := hg
      refine WpL_guard_yes (oj := _) rfl rfl (by decide) (congrArg Value.bool hg) ?_
      refine WpL_val rfl rfl (by decide) (r_move (v := (.slice ba b.length bc)) rfl) ?_
      refine WpL_guard_yes (oj := _) rfl rfl (by decide) (congrArg Value.bool hg) ?_
      refine WpL_enter rfl rfl (by decide) (r_callF (vs := [(.slice ba b.length bc)]) Try.func69 nm69 bd69 rfl) (runes_c _ _ b (hb.ext E)) ?_
      rintro _ w8 ⟨rfl, X8⟩
      replace E := E.ext X8
      refine WpL_guard_yes (oj := _) rfl rfl (by decide) (congrArg Value.bool hg) ?_
      refine WpL_val rfl rfl (by decide) (r_not (b := !badB b) rfl) ?_
      refine WpL_val rfl rfl (by decide) (r_pick (b := !(!badB a)) (v := (.bool (!(!badB b)))) rfl (by rw [hg]; rfl)) ?_
      refine WpL_nil ?_
      refine Wp_cond (b := !(!badB b)) rfl (fun hg2 => ?_) (fun hg2 => ?_)
      · have khg2 := hg2
        replace hg2 := by simpa using hg2
        replace hg2 := by simpa using hg2
        refine Wp_seq_region ?_
        refine WpL_val rfl rfl (by decide) (r_assign (v := (.bool false)) rfl) ?_
        refine WpL_val rfl rfl (by decide) (r_assign (v := (.int .i64 1)) rfl) ?_
        refine WpL_nil ?_
        refine Wp_ret ?_
        refine thn_ret ?_
        refine fin_tmp2 Try.results31 (v := (.bool false)) (v' := (.int .i64 1)) rfl rfl ?_
        unfold sameV; rw [if_neg hl2, if_pos (by simp [hg2])]; exact ⟨rfl, E⟩
      · have khg2 := hg2
        replace hg2 := by simpa using hg2
        replace hg2 := by simpa using hg2
        have hva : ∀ x ∈ a, 0 ≤ x ∧ x ≤ 1114111 := bad_ok (by simpa using hg)
        have hvb : ∀ x ∈ b, 0 ≤ x ∧ x ≤ 1114111 := bad_ok (by simpa using hg2)
        refine Wp_skip ?_
        refine thn_normal ?_
        refine Wp_seq_region ?_
        refine WpL_val rfl rfl (by decide) (r_move (v := (.slice aa a.length ac)) rfl) ?_
        refine WpL_val rfl rfl (by decide) (r_move (v := (.slice ba b.length bc)) rfl) ?_
        refine WpL_enter rfl rfl (by decide) (r_callF (vs := [(.slice aa a.length ac), (.slice ba b.length bc), (.func (.func 71) #[] #[])]) Try.func70 nm70 bd70 rfl) (eqfi_c _ _ _ _ a b hdO (ha.ext E) (hb.ext E) (fun w x y hE hx hy => CallV.mk (first := #[]) (cap := #[]) Try.func71 nm71 bd71 rfl (same1_c w x y (hva x hx) (hvb y hy)))) ?_
        rintro _ w7 ⟨rfl, X7⟩
        replace E := E.ext X7
        refine WpL_val rfl rfl (by decide) (r_assign (v := (.bool (decide (a.map hdO = b.map hdO)))) rfl) ?_
        refine WpL_val rfl rfl (by decide) (r_assign (v := (.int .i64 0)) rfl) ?_
        refine WpL_nil ?_
        refine Wp_ret ?_
        refine fin_tmp2 Try.results31 (v := (.bool (decide (a.map hdO = b.map hdO)))) (v' := (.int .i64 0)) rfl rfl ?_
        unfold sameV; rw [if_neg hl2, if_neg (by simp at hg hg2; simp [hg, hg2])]; exact ⟨rfl, E⟩
end Go.Proofs
