/- Contracts: checking a table and reading it, where the table is good. -/
import Derived.Test.YtcbkbogcaglcoaaWr
namespace Go.Proofs
open Go Go.Eng
set_option maxRecDepth 100000

structure Tab where
  start : Int
  cols : Nat
  acc : List Int
  bs : List Nat
  ow : List Int
  nx : List Int
def TabAt (w : World) (t : Tab) (vs : List Value) : Prop := ∃ aa ac ba bc oa oc na nc, vs = [.int .i64 t.start, .int .i64 ((t.cols : Nat) : Int), .slice aa t.acc.length ac, .slice ba t.bs.length bc, .slice oa t.ow.length oc, .slice na t.nx.length nc] ∧
  IntsAt w (.slice aa t.acc.length ac) t.acc ∧ IntsAt w (.slice ba t.bs.length bc) (natV t.bs) ∧ IntsAt w (.slice oa t.ow.length oc) t.ow ∧ IntsAt w (.slice na t.nx.length nc) t.nx
theorem TabAt.ext {w w' : World} {t : Tab} {vs : List Value} (h : TabAt w t vs) (e : Ext w w') : TabAt w' t vs := by
  obtain ⟨aa, ac, ba, bc, oa, oc, na, nc, h1, h2, h3, h4, h5⟩ := h
  exact ⟨aa, ac, ba, bc, oa, oc, na, nc, h1, h2.ext e, h3.ext e, h4.ext e, h5.ext e⟩
structure GoodT (t : Tab) : Prop where
  n1 : 1 ≤ t.bs.length
  n2 : t.bs.length ≤ 200
  c1 : 1 ≤ t.cols
  c2 : t.cols ≤ 16
  ol : t.ow.length ≤ 3200
  nl : t.nx.length = t.ow.length
  al : t.acc.length = t.bs.length
  st : 0 ≤ t.start ∧ t.start < t.bs.length
  am : ∀ x ∈ t.acc, -1 ≤ x
  bm : ∀ b ∈ t.bs, b < 3200
  sl : ∀ (i : Nat) (o x : Int), t.ow[i]? = some o → t.nx[i]? = some x → (-1 ≤ o ∧ o < t.bs.length) ∧ (-1 ≤ x ∧ x < t.bs.length) ∧ (o < 0 ↔ x < 0) ∧ (0 ≤ o → ∀ b, t.bs[o.toNat]? = some b → b ≤ i ∧ i < b + t.cols)
theorem natV_len (l : List Nat) : (natV l).length = l.length := by simp [natV]
set_option maxHeartbeats 4000000 in
theorem tcheck_c (w0 : World) (t : Tab) (vs : List Value) (h : TabAt w0 t vs) (hg : GoodT t) : Ret Try.prog 21 #[.agg vs.toArray] w0 fun r w => r = .int .i64 0 ∧ Ext w0 w := by
  obtain ⟨aa, ac, ba, bc, oa, oc, na, nc, rfl, ha, hb, ho, hn⟩ := h
  have g1 := hg.n1; have g2 := hg.n2; have g3 := hg.c1; have g4 := hg.c2; have g5 := hg.ol; have g6 := hg.nl; have g7 := hg.al; have g8 := hg.st
  have hane : t.acc ≠ [] := fun he => by rw [he] at g7; simp at g7; omega
  have hbne : natV t.bs ≠ [] := fun he => by have h9 := congrArg List.length he; rw [natV_len] at h9; rw [List.length_nil] at h9; omega
  have hmin := (minL_lt hane (z := -1)).2 hg.am
  have hbmin := (minL_lt hbne (z := 0)).2 (fun x hx => by obtain ⟨b, _, rfl⟩ := natV_mem hx; omega)
  have hbmax := (maxL_lt hbne (z := 3200)).2 (fun x hx => by obtain ⟨b, hb, rfl⟩ := natV_mem hx; have := hg.bm b hb; omega)
  obtain ⟨bb, bo, rfl, hbcl⟩ := ints_cells hb (by omega)
  refine Ret_of Try.func21 rfl Try.ntmps21 (Nat.le_of_ble_eq_true rfl) ?_
  have E : Chg none1 w0 w0 := Chg.refl _ _
  refine Wp_seq_region ?_
  refine s_box (v := (.agg #[(.int .i64 t.start), (.int .i64 ((t.cols : Nat) : Int)), (.slice aa t.acc.length ac), (.slice (some ⟨bb, bo, none⟩) t.bs.length bc), (.slice oa t.ow.length oc), (.slice na t.nx.length nc)])) (c := #[(.int .i64 t.start), (.int .i64 ((t.cols : Nat) : Int)), (.slice aa t.acc.length ac), (.slice (some ⟨bb, bo, none⟩) t.bs.length bc), (.slice oa t.ow.length oc), (.slice na t.nx.length nc)]) (by decide) rfl rfl ?_
  intro bt wt Nt
  have Ft := Nt.ge E
  replace E := E.ext Nt.ext
  have Bt := Nt.blk
  refine WpL_val rfl rfl (by decide) (r_assign (v := (.int .i64 0)) rfl) ?_
  refine WpL_nil ?_
  refine Wp_seq_region ?_
  refine WpL_val rfl rfl (by decide) (r_fieldAddr (b := bt) (o := 0) (o' := 3) rfl Try.underlying24 rfl siz22 rfl) ?_
  refine WpL_val rfl rfl (by decide) (r_load (v := (.slice (some ⟨bb, bo, none⟩) t.bs.length bc)) rfl flat22 (Bt.cell rfl)) ?_
  refine WpL_val rfl rfl (by decide) (r_lenSlice (ad := some ⟨bb, bo, none⟩) (n := t.bs.length) (cap := bc) Try.underlying22 rfl) ?_
  refine WpL_val rfl rfl (by decide) (r_assign (v := (.int .i64 ((t.bs.length : Nat) : Int))) rfl) ?_
  refine WpL_nil ?_
  refine Wp_seq ?_
  refine Wp_block ?_
  refine Wp_seq_region ?_
  refine WpL_val rfl rfl (by decide) (r_move (v := (.int .i64 ((t.bs.length : Nat) : Int))) rfl) ?_
  refine WpL_val rfl rfl (by decide) (r_gtr (k := .i64) (a := ((t.bs.length : Nat) : Int)) (b := 200) rfl rfl) ?_
  refine WpL_val rfl rfl (by decide) (r_move (v := (.bool (decide ((200 : Int) < ((t.bs.length : Nat) : Int))))) rfl) ?_
  have hg1 : (decide ((200 : Int) < ((t.bs.length : Nat) : Int))) = false := decide_eq_false (by omega)
  refine WpL_guard_yes (oj := _) rfl rfl (by decide) (congrArg Value.bool hg1) ?_
  refine WpL_val rfl rfl (by decide) (r_fieldAddr (b := bt) (o := 0) (o' := 1) rfl Try.underlying24 rfl siz3 rfl) ?_
  refine WpL_guard_yes (oj := _) rfl rfl (by decide) (congrArg Value.bool hg1) ?_
  refine WpL_val rfl rfl (by decide) (r_load (v := (.int .i64 ((t.cols : Nat) : Int))) rfl flat3 (Bt.cell rfl)) ?_
  refine WpL_guard_yes (oj := _) rfl rfl (by decide) (congrArg Value.bool hg1) ?_
  refine WpL_val rfl rfl (by decide) (r_gtr (k := .i64) (a := ((t.cols : Nat) : Int)) (b := 16) rfl rfl) ?_
  refine WpL_val rfl rfl (by decide) (r_pick (b := decide ((200 : Int) < ((t.bs.length : Nat) : Int))) (v := (.bool (decide ((16 : Int) < ((t.cols : Nat) : Int))))) rfl (by rw [hg1]; rfl)) ?_
  refine WpL_val rfl rfl (by decide) (r_move (v := (.bool (decide ((16 : Int) < ((t.cols : Nat) : Int))))) rfl) ?_
  have hg2 : (decide ((16 : Int) < ((t.cols : Nat) : Int))) = false := decide_eq_false (by omega)
  refine WpL_guard_yes (oj := _) rfl rfl (by decide) (congrArg Value.bool hg2) ?_
  refine WpL_val rfl rfl (by decide) (r_fieldAddr (b := bt) (o := 0) (o' := 4) rfl Try.underlying24 rfl siz22 rfl) ?_
  refine WpL_guard_yes (oj := _) rfl rfl (by decide) (congrArg Value.bool hg2) ?_
  refine WpL_val rfl rfl (by decide) (r_load (v := (.slice oa t.ow.length oc)) rfl flat22 (Bt.cell rfl)) ?_
  refine WpL_guard_yes (oj := _) rfl rfl (by decide) (congrArg Value.bool hg2) ?_
  refine WpL_val rfl rfl (by decide) (r_lenSlice (ad := oa) (n := t.ow.length) (cap := oc) Try.underlying22 rfl) ?_
  refine WpL_guard_yes (oj := _) rfl rfl (by decide) (congrArg Value.bool hg2) ?_
  refine WpL_val rfl rfl (by decide) (r_fieldAddr (b := bt) (o := 0) (o' := 5) rfl Try.underlying24 rfl siz22 rfl) ?_
  refine WpL_guard_yes (oj := _) rfl rfl (by decide) (congrArg Value.bool hg2) ?_
  refine WpL_val rfl rfl (by decide) (r_load (v := (.slice na t.nx.length nc)) rfl flat22 (Bt.cell rfl)) ?_
  refine WpL_guard_yes (oj := _) rfl rfl (by decide) (congrArg Value.bool hg2) ?_
  refine WpL_val rfl rfl (by decide) (r_lenSlice (ad := na) (n := t.nx.length) (cap := nc) Try.underlying22 rfl) ?_
  refine WpL_guard_yes (oj := _) rfl rfl (by decide) (congrArg Value.bool hg2) ?_
  refine WpL_val rfl rfl (by decide) (r_maxI rfl rfl rfl) ?_
  refine WpL_guard_yes (oj := _) rfl rfl (by decide) (congrArg Value.bool hg2) ?_
  refine WpL_val rfl rfl (by decide) (r_gtr (k := .i64) (a := max ((t.ow.length : Nat) : Int) ((t.nx.length : Nat) : Int)) (b := 3200) rfl rfl) ?_
  refine WpL_val rfl rfl (by decide) (r_pick (b := decide ((16 : Int) < ((t.cols : Nat) : Int))) (v := (.bool (decide ((3200 : Int) < max ((t.ow.length : Nat) : Int) ((t.nx.length : Nat) : Int))))) rfl (by rw [hg2]; rfl)) ?_
  refine WpL_val rfl rfl (by decide) (r_assign (v := (.bool (decide ((3200 : Int) < max ((t.ow.length : Nat) : Int) ((t.nx.length : Nat) : Int))))) rfl) ?_
  refine WpL_nil ?_
  have hc3 : (decide ((3200 : Int) < max ((t.ow.length : Nat) : Int) ((t.nx.length : Nat) : Int))) = false := decide_eq_false (by omega)
  refine Wp_cond_false (congrArg Value.bool hc3) ?_
  refine Wp_seq_region ?_
  refine WpL_val rfl rfl (by decide) (r_move (v := (.int .i64 ((t.bs.length : Nat) : Int))) rfl) ?_
  obtain ⟨e4, he4⟩ : ∃ e, (decide ((((t.bs.length : Nat) : Int) : Int) = 0)) = e := ⟨_, rfl⟩
  refine WpL_val rfl rfl (by decide) ((r_eql (k := .i64) (a := ((t.bs.length : Nat) : Int)) (b := 0) rfl rfl).trans (by rw [he4]; try rfl)) ?_
  refine WpL_val rfl rfl (by decide) (r_move (v := (.bool e4)) rfl) ?_
  refine WpL_guard_any (oj := _) (gv := (.bool e4)) (u := (bif e4 then undef else (.pointer (some ⟨bt, 1, none⟩)))) rfl rfl (by decide) (by decide) rfl (by cases e4 <;> first | exact Or.inr ⟨Or.inl rfl, rfl⟩ | exact Or.inr ⟨Or.inr rfl, rfl⟩ | exact Or.inl ⟨rfl, r_fieldAddr (b := bt) (o := 0) (o' := 1) rfl Try.underlying24 rfl siz3 rfl⟩) ?_
  refine WpL_guard_any (oj := _) (gv := (.bool e4)) (u := (bif e4 then undef else (.int .i64 ((t.cols : Nat) : Int)))) rfl rfl (by decide) (by decide) rfl (by cases e4 <;> first | exact Or.inr ⟨Or.inl rfl, rfl⟩ | exact Or.inr ⟨Or.inr rfl, rfl⟩ | exact Or.inl ⟨rfl, r_load (v := (.int .i64 ((t.cols : Nat) : Int))) rfl flat3 (Bt.cell rfl)⟩) ?_
  obtain ⟨e5, he5⟩ : ∃ e, (decide ((((t.cols : Nat) : Int) : Int) < 1)) = e := ⟨_, rfl⟩
  refine WpL_guard_any (oj := _) (gv := (.bool e4)) (u := (bif e4 then undef else (.bool e5))) rfl rfl (by decide) (by decide) rfl (by cases e4 <;> first | exact Or.inr ⟨Or.inl rfl, rfl⟩ | exact Or.inr ⟨Or.inr rfl, rfl⟩ | exact Or.inl ⟨rfl, (r_lss (k := .i64) (a := ((t.cols : Nat) : Int)) (b := 1) rfl rfl).trans (by rw [he5]; try rfl)⟩) ?_
  obtain ⟨e6, he6⟩ : ∃ e, (e4 || e5) = e := ⟨_, rfl⟩
  refine WpL_val rfl rfl (by decide) (r_pick (b := e4) (v := .bool e6) rfl (by rw [← he6]; cases e4 <;> rfl)) ?_
  refine WpL_val rfl rfl (by decide) (r_move (v := (.bool e6)) rfl) ?_
  refine WpL_guard_any (oj := _) (gv := (.bool e6)) (u := (bif e6 then undef else (.pointer (some ⟨bt, 2, none⟩)))) rfl rfl (by decide) (by decide) rfl (by cases e6 <;> first | exact Or.inr ⟨Or.inl rfl, rfl⟩ | exact Or.inr ⟨Or.inr rfl, rfl⟩ | exact Or.inl ⟨rfl, r_fieldAddr (b := bt) (o := 0) (o' := 2) rfl Try.underlying24 rfl siz22 rfl⟩) ?_
  refine WpL_guard_any (oj := _) (gv := (.bool e6)) (u := (bif e6 then undef else (.slice aa t.acc.length ac))) rfl rfl (by decide) (by decide) rfl (by cases e6 <;> first | exact Or.inr ⟨Or.inl rfl, rfl⟩ | exact Or.inr ⟨Or.inr rfl, rfl⟩ | exact Or.inl ⟨rfl, r_load (v := (.slice aa t.acc.length ac)) rfl flat22 (Bt.cell rfl)⟩) ?_
  refine WpL_guard_any (oj := _) (gv := (.bool e6)) (u := (bif e6 then undef else (.int .i64 ((t.acc.length : Nat) : Int)))) rfl rfl (by decide) (by decide) rfl (by cases e6 <;> first | exact Or.inr ⟨Or.inl rfl, rfl⟩ | exact Or.inr ⟨Or.inr rfl, rfl⟩ | exact Or.inl ⟨rfl, r_lenSlice (ad := aa) (n := t.acc.length) (cap := ac) Try.underlying22 rfl⟩) ?_
  refine WpL_guard_any (oj := _) (gv := (.bool e6)) (u := (bif e6 then undef else (.int .i64 ((t.bs.length : Nat) : Int)))) rfl rfl (by decide) (by decide) rfl (by cases e6 <;> first | exact Or.inr ⟨Or.inl rfl, rfl⟩ | exact Or.inr ⟨Or.inr rfl, rfl⟩ | exact Or.inl ⟨rfl, r_move (v := (.int .i64 ((t.bs.length : Nat) : Int))) rfl⟩) ?_
  obtain ⟨e7, he7⟩ : ∃ e, (decide ((((t.acc.length : Nat) : Int) : Int) ≠ ((t.bs.length : Nat) : Int))) = e := ⟨_, rfl⟩
  refine WpL_guard_any (oj := _) (gv := (.bool e6)) (u := (bif e6 then undef else (.bool e7))) rfl rfl (by decide) (by decide) rfl (by cases e6 <;> first | exact Or.inr ⟨Or.inl rfl, rfl⟩ | exact Or.inr ⟨Or.inr rfl, rfl⟩ | exact Or.inl ⟨rfl, (r_neq (k := .i64) (a := ((t.acc.length : Nat) : Int)) (b := ((t.bs.length : Nat) : Int)) rfl rfl).trans (by rw [he7]; try rfl)⟩) ?_
  obtain ⟨e8, he8⟩ : ∃ e, (e6 || e7) = e := ⟨_, rfl⟩
  refine WpL_val rfl rfl (by decide) (r_pick (b := e6) (v := .bool e8) rfl (by rw [← he8]; cases e6 <;> rfl)) ?_
  refine WpL_val rfl rfl (by decide) (r_move (v := (.bool e8)) rfl) ?_
  refine WpL_guard_any (oj := _) (gv := (.bool e8)) (u := (bif e8 then undef else (.pointer (some ⟨bt, 4, none⟩)))) rfl rfl (by decide) (by decide) rfl (by cases e8 <;> first | exact Or.inr ⟨Or.inl rfl, rfl⟩ | exact Or.inr ⟨Or.inr rfl, rfl⟩ | exact Or.inl ⟨rfl, r_fieldAddr (b := bt) (o := 0) (o' := 4) rfl Try.underlying24 rfl siz22 rfl⟩) ?_
  refine WpL_guard_any (oj := _) (gv := (.bool e8)) (u := (bif e8 then undef else (.slice oa t.ow.length oc))) rfl rfl (by decide) (by decide) rfl (by cases e8 <;> first | exact Or.inr ⟨Or.inl rfl, rfl⟩ | exact Or.inr ⟨Or.inr rfl, rfl⟩ | exact Or.inl ⟨rfl, r_load (v := (.slice oa t.ow.length oc)) rfl flat22 (Bt.cell rfl)⟩) ?_
  refine WpL_guard_any (oj := _) (gv := (.bool e8)) (u := (bif e8 then undef else (.int .i64 ((t.ow.length : Nat) : Int)))) rfl rfl (by decide) (by decide) rfl (by cases e8 <;> first | exact Or.inr ⟨Or.inl rfl, rfl⟩ | exact Or.inr ⟨Or.inr rfl, rfl⟩ | exact Or.inl ⟨rfl, r_lenSlice (ad := oa) (n := t.ow.length) (cap := oc) Try.underlying22 rfl⟩) ?_
  refine WpL_guard_any (oj := _) (gv := (.bool e8)) (u := (bif e8 then undef else (.pointer (some ⟨bt, 5, none⟩)))) rfl rfl (by decide) (by decide) rfl (by cases e8 <;> first | exact Or.inr ⟨Or.inl rfl, rfl⟩ | exact Or.inr ⟨Or.inr rfl, rfl⟩ | exact Or.inl ⟨rfl, r_fieldAddr (b := bt) (o := 0) (o' := 5) rfl Try.underlying24 rfl siz22 rfl⟩) ?_
  refine WpL_guard_any (oj := _) (gv := (.bool e8)) (u := (bif e8 then undef else (.slice na t.nx.length nc))) rfl rfl (by decide) (by decide) rfl (by cases e8 <;> first | exact Or.inr ⟨Or.inl rfl, rfl⟩ | exact Or.inr ⟨Or.inr rfl, rfl⟩ | exact Or.inl ⟨rfl, r_load (v := (.slice na t.nx.length nc)) rfl flat22 (Bt.cell rfl)⟩) ?_
  refine WpL_guard_any (oj := _) (gv := (.bool e8)) (u := (bif e8 then undef else (.int .i64 ((t.nx.length : Nat) : Int)))) rfl rfl (by decide) (by decide) rfl (by cases e8 <;> first | exact Or.inr ⟨Or.inl rfl, rfl⟩ | exact Or.inr ⟨Or.inr rfl, rfl⟩ | exact Or.inl ⟨rfl, r_lenSlice (ad := na) (n := t.nx.length) (cap := nc) Try.underlying22 rfl⟩) ?_
  obtain ⟨e9, he9⟩ : ∃ e, (decide ((((t.ow.length : Nat) : Int) : Int) ≠ ((t.nx.length : Nat) : Int))) = e := ⟨_, rfl⟩
  refine WpL_guard_any (oj := _) (gv := (.bool e8)) (u := (bif e8 then undef else (.bool e9))) rfl rfl (by decide) (by decide) rfl (by cases e8 <;> first | exact Or.inr ⟨Or.inl rfl, rfl⟩ | exact Or.inr ⟨Or.inr rfl, rfl⟩ | exact Or.inl ⟨rfl, (r_neq (k := .i64) (a := ((t.ow.length : Nat) : Int)) (b := ((t.nx.length : Nat) : Int)) rfl rfl).trans (by rw [he9]; try rfl)⟩) ?_
  obtain ⟨e10, he10⟩ : ∃ e, (e8 || e9) = e := ⟨_, rfl⟩
  refine WpL_val rfl rfl (by decide) (r_pick (b := e8) (v := .bool e10) rfl (by rw [← he10]; cases e8 <;> rfl)) ?_
  refine WpL_val rfl rfl (by decide) (r_assign (v := (.bool e10)) rfl) ?_
  refine WpL_nil ?_
  subst he10
  subst he9
  subst he8
  subst he7
  subst he6
  subst he5
  subst he4
  have hc11 : (((((decide ((((t.bs.length : Nat) : Int) : Int) = 0)) || (decide ((((t.cols : Nat) : Int) : Int) < 1))) || (decide ((((t.acc.length : Nat) : Int) : Int) ≠ ((t.bs.length : Nat) : Int)))) || (decide ((((t.ow.length : Nat) : Int) : Int) ≠ ((t.nx.length : Nat) : Int))))) = false := by simp only [Bool.or_eq_false_iff, decide_eq_false_iff_not]; omega
  refine Wp_cond_false (congrArg Value.bool hc11) ?_
  refine Wp_seq_region ?_
  refine WpL_val rfl rfl (by decide) (r_fieldAddr (b := bt) (o := 0) (o' := 0) rfl Try.underlying24 rfl siz3 rfl) ?_
  refine WpL_val rfl rfl (by decide) (r_load (v := (.int .i64 t.start)) rfl flat3 (Bt.cell rfl)) ?_
  refine WpL_val rfl rfl (by decide) (r_lss (k := .i64) (a := t.start) (b := 0) rfl rfl) ?_
  refine WpL_val rfl rfl (by decide) (r_move (v := (.bool (decide ((t.start : Int) < 0)))) rfl) ?_
  have hg12 : (decide ((t.start : Int) < 0)) = false := decide_eq_false (by omega)
  refine WpL_guard_yes (oj := _) rfl rfl (by decide) (congrArg Value.bool hg12) ?_
  refine WpL_val rfl rfl (by decide) (r_fieldAddr (b := bt) (o := 0) (o' := 0) rfl Try.underlying24 rfl siz3 rfl) ?_
  refine WpL_guard_yes (oj := _) rfl rfl (by decide) (congrArg Value.bool hg12) ?_
  refine WpL_val rfl rfl (by decide) (r_load (v := (.int .i64 t.start)) rfl flat3 (Bt.cell rfl)) ?_
  refine WpL_guard_yes (oj := _) rfl rfl (by decide) (congrArg Value.bool hg12) ?_
  refine WpL_val rfl rfl (by decide) (r_move (v := (.int .i64 ((t.bs.length : Nat) : Int))) rfl) ?_
  refine WpL_guard_yes (oj := _) rfl rfl (by decide) (congrArg Value.bool hg12) ?_
  refine WpL_val rfl rfl (by decide) (r_geq (k := .i64) (a := t.start) (b := ((t.bs.length : Nat) : Int)) rfl rfl) ?_
  refine WpL_val rfl rfl (by decide) (r_pick (b := decide ((t.start : Int) < 0)) (v := (.bool (decide ((((t.bs.length : Nat) : Int) : Int) ≤ t.start)))) rfl (by rw [hg12]; rfl)) ?_
  refine WpL_val rfl rfl (by decide) (r_move (v := (.bool (decide ((((t.bs.length : Nat) : Int) : Int) ≤ t.start)))) rfl) ?_
  have hg13 : (decide ((((t.bs.length : Nat) : Int) : Int) ≤ t.start)) = false := decide_eq_false (by omega)
  refine WpL_guard_yes (oj := _) rfl rfl (by decide) (congrArg Value.bool hg13) ?_
  refine WpL_val rfl rfl (by decide) (r_fieldAddr (b := bt) (o := 0) (o' := 2) rfl Try.underlying24 rfl siz22 rfl) ?_
  refine WpL_guard_yes (oj := _) rfl rfl (by decide) (congrArg Value.bool hg13) ?_
  refine WpL_val rfl rfl (by decide) (r_load (v := (.slice aa t.acc.length ac)) rfl flat22 (Bt.cell rfl)) ?_
  refine WpL_guard_yes (oj := _) rfl rfl (by decide) (congrArg Value.bool hg13) ?_
  refine WpL_enter rfl rfl (by decide) (r_callF (vs := [(.slice aa t.acc.length ac)]) Try.func43 nm43 bd43 rfl) (min_c _ _ t.acc (ha.ext E) hane) ?_
  rintro _ w9 ⟨rfl, X9⟩
  replace Bt := X9.keep Bt
  replace E := E.ext X9
  refine WpL_guard_yes (oj := _) rfl rfl (by decide) (congrArg Value.bool hg13) ?_
  refine WpL_val rfl rfl (by decide) (r_lss (k := .i64) (a := minL t.acc) (b := (-1)) rfl rfl) ?_
  refine WpL_val rfl rfl (by decide) (r_pick (b := decide ((((t.bs.length : Nat) : Int) : Int) ≤ t.start)) (v := (.bool (decide ((minL t.acc : Int) < (-1))))) rfl (by rw [hg13]; rfl)) ?_
  refine WpL_val rfl rfl (by decide) (r_move (v := (.bool (decide ((minL t.acc : Int) < (-1))))) rfl) ?_
  have hg14 : (decide ((minL t.acc : Int) < (-1))) = false := decide_eq_false (by omega)
  refine WpL_guard_yes (oj := _) rfl rfl (by decide) (congrArg Value.bool hg14) ?_
  refine WpL_val rfl rfl (by decide) (r_fieldAddr (b := bt) (o := 0) (o' := 3) rfl Try.underlying24 rfl siz22 rfl) ?_
  refine WpL_guard_yes (oj := _) rfl rfl (by decide) (congrArg Value.bool hg14) ?_
  refine WpL_val rfl rfl (by decide) (r_load (v := (.slice (some ⟨bb, bo, none⟩) t.bs.length bc)) rfl flat22 (Bt.cell rfl)) ?_
  refine WpL_guard_yes (oj := _) rfl rfl (by decide) (congrArg Value.bool hg14) ?_
  refine WpL_enter rfl rfl (by decide) (r_callF (vs := [(.slice (some ⟨bb, bo, none⟩) t.bs.length bc)]) Try.func43 nm43 bd43 rfl) (min_c _ _ (natV t.bs) (hb.ext E) hbne) ?_
  rintro _ w19 ⟨rfl, X19⟩
  replace Bt := X19.keep Bt
  replace E := E.ext X19
  refine WpL_guard_yes (oj := _) rfl rfl (by decide) (congrArg Value.bool hg14) ?_
  refine WpL_val rfl rfl (by decide) (r_lss (k := .i64) (a := minL (natV t.bs)) (b := 0) rfl rfl) ?_
  refine WpL_val rfl rfl (by decide) (r_pick (b := decide ((minL t.acc : Int) < (-1))) (v := (.bool (decide ((minL (natV t.bs) : Int) < 0)))) rfl (by rw [hg14]; rfl)) ?_
  refine WpL_val rfl rfl (by decide) (r_move (v := (.bool (decide ((minL (natV t.bs) : Int) < 0)))) rfl) ?_
  have hg15 : (decide ((minL (natV t.bs) : Int) < 0)) = false := decide_eq_false (by omega)
  refine WpL_guard_yes (oj := _) rfl rfl (by decide) (congrArg Value.bool hg15) ?_
  refine WpL_val rfl rfl (by decide) (r_fieldAddr (b := bt) (o := 0) (o' := 3) rfl Try.underlying24 rfl siz22 rfl) ?_
  refine WpL_guard_yes (oj := _) rfl rfl (by decide) (congrArg Value.bool hg15) ?_
  refine WpL_val rfl rfl (by decide) (r_load (v := (.slice (some ⟨bb, bo, none⟩) t.bs.length bc)) rfl flat22 (Bt.cell rfl)) ?_
  refine WpL_guard_yes (oj := _) rfl rfl (by decide) (congrArg Value.bool hg15) ?_
  refine WpL_enter rfl rfl (by decide) (r_callF (vs := [(.slice (some ⟨bb, bo, none⟩) t.bs.length bc)]) Try.func44 nm44 bd44 rfl) (max_c _ _ (natV t.bs) (hb.ext E) hbne) ?_
  rintro _ w29 ⟨rfl, X29⟩
  replace Bt := X29.keep Bt
  replace E := E.ext X29
  refine WpL_guard_yes (oj := _) rfl rfl (by decide) (congrArg Value.bool hg15) ?_
  refine WpL_val rfl rfl (by decide) (r_geq (k := .i64) (a := maxL (natV t.bs)) (b := 3200) rfl rfl) ?_
  refine WpL_val rfl rfl (by decide) (r_pick (b := decide ((minL (natV t.bs) : Int) < 0)) (v := (.bool (decide ((3200 : Int) ≤ maxL (natV t.bs))))) rfl (by rw [hg15]; rfl)) ?_
  refine WpL_val rfl rfl (by decide) (r_assign (v := (.bool (decide ((3200 : Int) ≤ maxL (natV t.bs))))) rfl) ?_
  refine WpL_nil ?_
  have hc16 : (decide ((3200 : Int) ≤ maxL (natV t.bs))) = false := decide_eq_false (by omega)
  refine Wp_cond_false (congrArg Value.bool hc16) ?_
  refine Wp_skip ?_
  refine inB_normal ?_
  refine thn_normal ?_
  refine Wp_seq ?_
  refine Wp_seq_region ?_
  refine WpL_val rfl rfl (by decide) (r_fieldAddr (b := bt) (o := 0) (o' := 4) rfl Try.underlying24 rfl siz22 rfl) ?_
  refine WpL_val rfl rfl (by decide) (r_load (v := (.slice oa t.ow.length oc)) rfl flat22 (Bt.cell rfl)) ?_
  refine WpL_val rfl rfl (by decide) (r_lenSlice (ad := oa) (n := t.ow.length) (cap := oc) Try.underlying22 rfl) ?_
  refine WpL_val rfl rfl (by decide) (r_move (v := (.int .i64 0)) rfl) ?_
  refine WpL_nil ?_
  refine Wp_block ?_
  refine Wp_loop (fun nn_ σ W17 => ∃ (i : Nat), (∃ jj_, σ = upds jj_ [(1, (.pointer (some ⟨bt, 0, none⟩))), (3, (.int .i64 ((t.bs.length : Nat) : Int))), (81, (.slice oa t.ow.length oc)), (82, (.int .i64 ((t.ow.length : Nat) : Int))), (83, (.int .i64 ((i : Nat) : Int)))]) ∧ Chg none1 w0 W17 ∧ Blk W17 bt #[(.int .i64 t.start), (.int .i64 ((t.cols : Nat) : Int)), (.slice aa t.acc.length ac), (.slice (some ⟨bb, bo, none⟩) t.bs.length bc), (.slice oa t.ow.length oc), (.slice na t.nx.length nc)] 24 ∧ (i ≤ t.ow.length) ∧ nn_ = t.ow.length - i) (n := t.ow.length - 0) ?_ ?_
  · exact ⟨0, Fits.out ⟨rfl, rfl, rfl, rfl, rfl, trivial⟩, E, Bt, Nat.zero_le _, rfl⟩
  · clear E Bt
    rintro _ _ W17 ⟨i, ⟨j17, rfl⟩, E, Bt, hi, rfl⟩
    refine Wp_seq_region ?_
    refine WpL_val rfl rfl (by decide) (r_lss (k := .i64) (a := ((i : Nat) : Int)) (b := ((t.ow.length : Nat) : Int)) rfl rfl) ?_
    refine WpL_nil ?_
    refine Wp_seq ?_
    refine Wp_cond (b := decide ((((i : Nat) : Int) : Int) < ((t.ow.length : Nat) : Int))) rfl (fun hlt => ?_) (fun hlt => ?_)
    · have khlt := hlt
      replace hlt := of_decide_eq_true hlt
      obtain ⟨o, hoo⟩ := get_of_lt (l := t.ow) (i := i) (by omega)
      obtain ⟨x, hxx⟩ := get_of_lt (l := t.nx) (i := i) (by omega)
      obtain ⟨ob, oo, hoa, hocl⟩ := ints_cells ho (by omega)
      subst hoa
      obtain ⟨nb, no, hna, hncl⟩ := ints_cells hn (by omega)
      subst hna
      obtain ⟨⟨q1, q2⟩, ⟨q3, q4⟩, q5, q6⟩ := hg.sl i o x hoo hxx
      refine Wp_skip ?_
      refine thn_normal ?_
      refine Wp_seq ?_
      refine Wp_block ?_
      refine Wp_seq_region ?_
      refine WpL_val rfl rfl (by decide) (r_move (v := (.int .i64 ((i : Nat) : Int))) rfl) ?_
      refine WpL_val rfl rfl (by decide) (r_indexSlice (b := ob) (o := oo) (len := t.ow.length) (cap := oc) (i := i) (o' := oo + i) rfl rfl rfl Try.underlying22 siz3 (by omega) (by omega)) ?_
      refine WpL_val rfl rfl (by decide) (r_load (v := (.int .i64 o)) rfl flat3 (E.cell (fun f => f) (hocl i o hoo))) ?_
      refine WpL_val rfl rfl (by decide) (r_assign (v := (.int .i64 ((i : Nat) : Int))) rfl) ?_
      refine WpL_val rfl rfl (by decide) (r_assign (v := (.int .i64 o)) rfl) ?_
      refine WpL_nil ?_
      refine Wp_seq_region ?_
      refine WpL_val rfl rfl (by decide) (r_fieldAddr (b := bt) (o := 0) (o' := 5) rfl Try.underlying24 rfl siz22 rfl) ?_
      refine WpL_val rfl rfl (by decide) (r_load (v := (.slice (some ⟨nb, no, none⟩) t.nx.length nc)) rfl flat22 (Bt.cell rfl)) ?_
      refine WpL_val rfl rfl (by decide) (r_move (v := (.int .i64 ((i : Nat) : Int))) rfl) ?_
      refine WpL_val rfl rfl (by decide) (r_indexSlice (b := nb) (o := no) (len := t.nx.length) (cap := nc) (i := i) (o' := no + i) rfl rfl rfl Try.underlying22 siz3 (by omega) (by omega)) ?_
      refine WpL_val rfl rfl (by decide) (r_load (v := (.int .i64 x)) rfl flat3 (E.cell (fun f => f) (hncl i x hxx))) ?_
      refine WpL_val rfl rfl (by decide) (r_assign (v := (.int .i64 x)) rfl) ?_
      refine WpL_nil ?_
      refine Wp_seq ?_
      refine Wp_seq_region ?_
      refine WpL_val rfl rfl (by decide) (r_move (v := (.int .i64 o)) rfl) ?_
      obtain ⟨e19, he19⟩ : ∃ e, (decide ((o : Int) < (-1))) = e := ⟨_, rfl⟩
      refine WpL_val rfl rfl (by decide) ((r_lss (k := .i64) (a := o) (b := (-1)) rfl rfl).trans (by rw [he19]; try rfl)) ?_
      refine WpL_val rfl rfl (by decide) (r_move (v := (.bool e19)) rfl) ?_
      refine WpL_guard_any (oj := _) (gv := (.bool e19)) (u := (bif e19 then undef else (.int .i64 o))) rfl rfl (by decide) (by decide) rfl (by cases e19 <;> first | exact Or.inr ⟨Or.inl rfl, rfl⟩ | exact Or.inr ⟨Or.inr rfl, rfl⟩ | exact Or.inl ⟨rfl, r_move (v := (.int .i64 o)) rfl⟩) ?_
      refine WpL_guard_any (oj := _) (gv := (.bool e19)) (u := (bif e19 then undef else (.int .i64 ((t.bs.length : Nat) : Int)))) rfl rfl (by decide) (by decide) rfl (by cases e19 <;> first | exact Or.inr ⟨Or.inl rfl, rfl⟩ | exact Or.inr ⟨Or.inr rfl, rfl⟩ | exact Or.inl ⟨rfl, r_move (v := (.int .i64 ((t.bs.length : Nat) : Int))) rfl⟩) ?_
      obtain ⟨e20, he20⟩ : ∃ e, (decide ((((t.bs.length : Nat) : Int) : Int) ≤ o)) = e := ⟨_, rfl⟩
      refine WpL_guard_any (oj := _) (gv := (.bool e19)) (u := (bif e19 then undef else (.bool e20))) rfl rfl (by decide) (by decide) rfl (by cases e19 <;> first | exact Or.inr ⟨Or.inl rfl, rfl⟩ | exact Or.inr ⟨Or.inr rfl, rfl⟩ | exact Or.inl ⟨rfl, (r_geq (k := .i64) (a := o) (b := ((t.bs.length : Nat) : Int)) rfl rfl).trans (by rw [he20]; try rfl)⟩) ?_
      obtain ⟨e21, he21⟩ : ∃ e, (e19 || e20) = e := ⟨_, rfl⟩
      refine WpL_val rfl rfl (by decide) (r_pick (b := e19) (v := .bool e21) rfl (by rw [← he21]; cases e19 <;> rfl)) ?_
      refine WpL_val rfl rfl (by decide) (r_move (v := (.bool e21)) rfl) ?_
      refine WpL_guard_any (oj := _) (gv := (.bool e21)) (u := (bif e21 then undef else (.int .i64 x))) rfl rfl (by decide) (by decide) rfl (by cases e21 <;> first | exact Or.inr ⟨Or.inl rfl, rfl⟩ | exact Or.inr ⟨Or.inr rfl, rfl⟩ | exact Or.inl ⟨rfl, r_move (v := (.int .i64 x)) rfl⟩) ?_
      obtain ⟨e22, he22⟩ : ∃ e, (decide ((x : Int) < (-1))) = e := ⟨_, rfl⟩
      refine WpL_guard_any (oj := _) (gv := (.bool e21)) (u := (bif e21 then undef else (.bool e22))) rfl rfl (by decide) (by decide) rfl (by cases e21 <;> first | exact Or.inr ⟨Or.inl rfl, rfl⟩ | exact Or.inr ⟨Or.inr rfl, rfl⟩ | exact Or.inl ⟨rfl, (r_lss (k := .i64) (a := x) (b := (-1)) rfl rfl).trans (by rw [he22]; try rfl)⟩) ?_
      obtain ⟨e23, he23⟩ : ∃ e, (e21 || e22) = e := ⟨_, rfl⟩
      refine WpL_val rfl rfl (by decide) (r_pick (b := e21) (v := .bool e23) rfl (by rw [← he23]; cases e21 <;> rfl)) ?_
      refine WpL_val rfl rfl (by decide) (r_move (v := (.bool e23)) rfl) ?_
      refine WpL_guard_any (oj := _) (gv := (.bool e23)) (u := (bif e23 then undef else (.int .i64 x))) rfl rfl (by decide) (by decide) rfl (by cases e23 <;> first | exact Or.inr ⟨Or.inl rfl, rfl⟩ | exact Or.inr ⟨Or.inr rfl, rfl⟩ | exact Or.inl ⟨rfl, r_move (v := (.int .i64 x)) rfl⟩) ?_
      refine WpL_guard_any (oj := _) (gv := (.bool e23)) (u := (bif e23 then undef else (.int .i64 ((t.bs.length : Nat) : Int)))) rfl rfl (by decide) (by decide) rfl (by cases e23 <;> first | exact Or.inr ⟨Or.inl rfl, rfl⟩ | exact Or.inr ⟨Or.inr rfl, rfl⟩ | exact Or.inl ⟨rfl, r_move (v := (.int .i64 ((t.bs.length : Nat) : Int))) rfl⟩) ?_
      obtain ⟨e24, he24⟩ : ∃ e, (decide ((((t.bs.length : Nat) : Int) : Int) ≤ x)) = e := ⟨_, rfl⟩
      refine WpL_guard_any (oj := _) (gv := (.bool e23)) (u := (bif e23 then undef else (.bool e24))) rfl rfl (by decide) (by decide) rfl (by cases e23 <;> first | exact Or.inr ⟨Or.inl rfl, rfl⟩ | exact Or.inr ⟨Or.inr rfl, rfl⟩ | exact Or.inl ⟨rfl, (r_geq (k := .i64) (a := x) (b := ((t.bs.length : Nat) : Int)) rfl rfl).trans (by rw [he24]; try rfl)⟩) ?_
      obtain ⟨e25, he25⟩ : ∃ e, (e23 || e24) = e := ⟨_, rfl⟩
      refine WpL_val rfl rfl (by decide) (r_pick (b := e23) (v := .bool e25) rfl (by rw [← he25]; cases e23 <;> rfl)) ?_
      refine WpL_nil ?_
      subst he25
      subst he24
      subst he23
      subst he22
      subst he21
      subst he20
      subst he19
      have hc26 : (((((decide ((o : Int) < (-1))) || (decide ((((t.bs.length : Nat) : Int) : Int) ≤ o))) || (decide ((x : Int) < (-1)))) || (decide ((((t.bs.length : Nat) : Int) : Int) ≤ x)))) = false := by simp only [Bool.or_eq_false_iff, decide_eq_false_iff_not]; omega
      refine Wp_cond_false (congrArg Value.bool hc26) ?_
      rcases Bool.eq_false_or_eq_true (decide (o < 0)) with hs0 | hs0
      · have khs0 := hs0
        replace khs0 := of_decide_eq_true khs0
        have hx1 : decide (x < 0) = true := decide_eq_true (q5.1 khs0)
        have hx2 : decide (0 ≤ o) = false := decide_eq_false (by omega)
        refine Wp_skip ?_
        refine thn_normal ?_
        refine Wp_seq ?_
        obtain ⟨Fs27, hFs27⟩ : ∃ Fs : List Fact, Fs = [.eq (.int .i64 o), .eq (.bool true), .eq (.int .i64 x), .eq (.bool true), .eq (.bool false), .eq (.bool false), .eq (.int .i64 o), .eq (.bool false), .eq (.bool false), .eq undef, .eq undef, .eq undef, .eq undef, .eq undef, .eq undef, .eq undef, .eq undef, .eq undef, .eq undef, .eq undef, .eq undef, .eq undef, .eq undef, .eq undef, .eq undef, .eq undef, .eq undef, .eq undef, .eq (.bool false), .eq (.bool false)] := ⟨_, rfl⟩
        refine Wp_dag [109, 110, 111, 112, 113, 114, 115, 116, 117, 118, 119, 120, 121, 122, 123, 124, 125, 126, 127, 128, 129, 130, 131, 132, 133, 134, 135, 136, 137, 138] [[], [0], [], [2], [1, 3], [4], [5], [5, 6], [5, 7], [8], [8], [8, 10], [8], [8, 11, 12], [8, 13], [8, 9, 14], [8, 15], [16], [16], [16, 18], [16], [16, 19, 20], [16, 21], [16], [16, 23], [16, 22, 24], [16, 17, 25], [8, 16, 26], [5, 8, 27], [5, 28]] Fs27 hFs27 mixed (by kernel_rfl) (by kernel_rfl) ?_ ?_
        · intro wd X0
          refine DagSteps.cons (fun s' w' X U H => Or.inl ⟨?_, ?_⟩) ?_
          · exact Guarded_none rfl
          · exact Does_val (r_move (v := (.int .i64 o)) (U 5 rfl)) (Ext.refl _) rfl
          refine DagSteps.cons (fun s' w' X U H => Or.inl ⟨?_, ?_⟩) ?_
          · exact Guarded_none rfl
          · have e109 : s' 109 = (.int .i64 o) := H 0 rfl 109 (.eq (.int .i64 o)) rfl (by rw [hFs27]; rfl)
            exact Does_val (Eq.trans (r_lss (k := .i64) (a := o) (b := 0) e109 rfl) (by rw [hs0])) (Ext.refl _) rfl
          refine DagSteps.cons (fun s' w' X U H => Or.inl ⟨?_, ?_⟩) ?_
          · exact Guarded_none rfl
          · exact Does_val (r_move (v := (.int .i64 x)) (U 6 rfl)) (Ext.refl _) rfl
          refine DagSteps.cons (fun s' w' X U H => Or.inl ⟨?_, ?_⟩) ?_
          · exact Guarded_none rfl
          · have e111 : s' 111 = (.int .i64 x) := H 2 rfl 111 (.eq (.int .i64 x)) rfl (by rw [hFs27]; rfl)
            exact Does_val (Eq.trans (r_lss (k := .i64) (a := x) (b := 0) e111 rfl) (by rw [hx1])) (Ext.refl _) rfl
          refine DagSteps.cons (fun s' w' X U H => Or.inl ⟨?_, ?_⟩) ?_
          · exact Guarded_none rfl
          · have e110 : s' 110 = (.bool true) := H 1 rfl 110 (.eq (.bool true)) rfl (by rw [hFs27]; rfl)
            have e112 : s' 112 = (.bool true) := H 3 rfl 112 (.eq (.bool true)) rfl (by rw [hFs27]; rfl)
            exact Does_val (r_neqB (p := true) (q := true) Try.underlying4 e110 e112) (Ext.refl _) rfl
          refine DagSteps.cons (fun s' w' X U H => Or.inl ⟨?_, ?_⟩) ?_
          · exact Guarded_none rfl
          · have e113 : s' 113 = (.bool false) := H 4 rfl 113 (.eq (.bool false)) rfl (by rw [hFs27]; rfl)
            exact Does_val (r_move (v := (.bool false)) e113) (Ext.refl _) rfl
          refine DagSteps.cons (fun s' w' X U H => Or.inl ⟨?_, ?_⟩) ?_
          · exact Guarded_some rfl rfl (d := 114) (H 5 rfl 114 (.eq (.bool false)) rfl (by rw [hFs27]; rfl))
          · exact Does_val (r_move (v := (.int .i64 o)) (U 5 rfl)) (Ext.refl _) rfl
          refine DagSteps.cons (fun s' w' X U H => Or.inl ⟨?_, ?_⟩) ?_
          · exact Guarded_some rfl rfl (d := 114) (H 5 rfl 114 (.eq (.bool false)) rfl (by rw [hFs27]; rfl))
          · have e115 : s' 115 = (.int .i64 o) := H 6 rfl 115 (.eq (.int .i64 o)) rfl (by rw [hFs27]; rfl)
            exact Does_val (Eq.trans (r_geq (k := .i64) (a := o) (b := 0) e115 rfl) (by rw [hx2])) (Ext.refl _) rfl
          refine DagSteps.cons (fun s' w' X U H => Or.inl ⟨?_, ?_⟩) ?_
          · exact Guarded_some rfl rfl (d := 114) (H 5 rfl 114 (.eq (.bool false)) rfl (by rw [hFs27]; rfl))
          · have e116 : s' 116 = (.bool false) := H 7 rfl 116 (.eq (.bool false)) rfl (by rw [hFs27]; rfl)
            exact Does_val (r_move (v := (.bool false)) e116) (Ext.refl _) rfl
          refine DagSteps.cons (fun s' w' X U H => Or.inr ⟨?_, rfl⟩) ?_
          · exact Unmet_mk rfl rfl (d := 117) (Or.inl (H 8 rfl 117 (.eq (.bool false)) rfl (by rw [hFs27]; rfl)))
          refine DagSteps.cons (fun s' w' X U H => Or.inr ⟨?_, rfl⟩) ?_
          · exact Unmet_mk rfl rfl (d := 117) (Or.inl (H 8 rfl 117 (.eq (.bool false)) rfl (by rw [hFs27]; rfl)))
          refine DagSteps.cons (fun s' w' X U H => Or.inr ⟨?_, rfl⟩) ?_
          · exact Unmet_mk rfl rfl (d := 117) (Or.inl (H 8 rfl 117 (.eq (.bool false)) rfl (by rw [hFs27]; rfl)))
          refine DagSteps.cons (fun s' w' X U H => Or.inr ⟨?_, rfl⟩) ?_
          · exact Unmet_mk rfl rfl (d := 117) (Or.inl (H 8 rfl 117 (.eq (.bool false)) rfl (by rw [hFs27]; rfl)))
          refine DagSteps.cons (fun s' w' X U H => Or.inr ⟨?_, rfl⟩) ?_
          · exact Unmet_mk rfl rfl (d := 117) (Or.inl (H 8 rfl 117 (.eq (.bool false)) rfl (by rw [hFs27]; rfl)))
          refine DagSteps.cons (fun s' w' X U H => Or.inr ⟨?_, rfl⟩) ?_
          · exact Unmet_mk rfl rfl (d := 117) (Or.inl (H 8 rfl 117 (.eq (.bool false)) rfl (by rw [hFs27]; rfl)))
          refine DagSteps.cons (fun s' w' X U H => Or.inr ⟨?_, rfl⟩) ?_
          · exact Unmet_mk rfl rfl (d := 117) (Or.inl (H 8 rfl 117 (.eq (.bool false)) rfl (by rw [hFs27]; rfl)))
          refine DagSteps.cons (fun s' w' X U H => Or.inr ⟨?_, rfl⟩) ?_
          · exact Unmet_mk rfl rfl (d := 117) (Or.inl (H 8 rfl 117 (.eq (.bool false)) rfl (by rw [hFs27]; rfl)))
          refine DagSteps.cons (fun s' w' X U H => Or.inr ⟨?_, rfl⟩) ?_
          · exact Unmet_mk rfl rfl (d := 125) (Or.inr (H 16 rfl 125 (.eq undef) rfl (by rw [hFs27]; rfl)))
          refine DagSteps.cons (fun s' w' X U H => Or.inr ⟨?_, rfl⟩) ?_
          · exact Unmet_mk rfl rfl (d := 125) (Or.inr (H 16 rfl 125 (.eq undef) rfl (by rw [hFs27]; rfl)))
          refine DagSteps.cons (fun s' w' X U H => Or.inr ⟨?_, rfl⟩) ?_
          · exact Unmet_mk rfl rfl (d := 125) (Or.inr (H 16 rfl 125 (.eq undef) rfl (by rw [hFs27]; rfl)))
          refine DagSteps.cons (fun s' w' X U H => Or.inr ⟨?_, rfl⟩) ?_
          · exact Unmet_mk rfl rfl (d := 125) (Or.inr (H 16 rfl 125 (.eq undef) rfl (by rw [hFs27]; rfl)))
          refine DagSteps.cons (fun s' w' X U H => Or.inr ⟨?_, rfl⟩) ?_
          · exact Unmet_mk rfl rfl (d := 125) (Or.inr (H 16 rfl 125 (.eq undef) rfl (by rw [hFs27]; rfl)))
          refine DagSteps.cons (fun s' w' X U H => Or.inr ⟨?_, rfl⟩) ?_
          · exact Unmet_mk rfl rfl (d := 125) (Or.inr (H 16 rfl 125 (.eq undef) rfl (by rw [hFs27]; rfl)))
          refine DagSteps.cons (fun s' w' X U H => Or.inr ⟨?_, rfl⟩) ?_
          · exact Unmet_mk rfl rfl (d := 125) (Or.inr (H 16 rfl 125 (.eq undef) rfl (by rw [hFs27]; rfl)))
          refine DagSteps.cons (fun s' w' X U H => Or.inr ⟨?_, rfl⟩) ?_
          · exact Unmet_mk rfl rfl (d := 125) (Or.inr (H 16 rfl 125 (.eq undef) rfl (by rw [hFs27]; rfl)))
          refine DagSteps.cons (fun s' w' X U H => Or.inr ⟨?_, rfl⟩) ?_
          · exact Unmet_mk rfl rfl (d := 125) (Or.inr (H 16 rfl 125 (.eq undef) rfl (by rw [hFs27]; rfl)))
          refine DagSteps.cons (fun s' w' X U H => Or.inr ⟨?_, rfl⟩) ?_
          · exact Unmet_mk rfl rfl (d := 125) (Or.inr (H 16 rfl 125 (.eq undef) rfl (by rw [hFs27]; rfl)))
          refine DagSteps.cons (fun s' w' X U H => Or.inr ⟨?_, rfl⟩) ?_
          · exact Unmet_mk rfl rfl (d := 117) (Or.inl (H 8 rfl 117 (.eq (.bool false)) rfl (by rw [hFs27]; rfl)))
          refine DagSteps.cons (fun s' w' X U H => Or.inl ⟨?_, ?_⟩) ?_
          · exact Guarded_some rfl rfl (d := 114) (H 5 rfl 114 (.eq (.bool false)) rfl (by rw [hFs27]; rfl))
          · have e117 : s' 117 = (.bool false) := H 8 rfl 117 (.eq (.bool false)) rfl (by rw [hFs27]; rfl)
            exact Does_val (r_pick (b := false) (v := (.bool false)) e117 rfl) (Ext.refl _) rfl
          refine DagSteps.cons (fun s' w' X U H => Or.inl ⟨?_, ?_⟩) ?_
          · exact Guarded_none rfl
          · have e114 : s' 114 = (.bool false) := H 5 rfl 114 (.eq (.bool false)) rfl (by rw [hFs27]; rfl)
            have e137 : s' 137 = (.bool false) := H 28 rfl 137 (.eq (.bool false)) rfl (by rw [hFs27]; rfl)
            exact Does_val (r_pick (b := false) (v := (.bool false)) e114 e137) (Ext.refl _) rfl
          exact DagSteps.nil
        · intro s' w27 X27 U H
          obtain ⟨j27, rfl⟩ := Fits.out (σ := s') (l := [(1, (.pointer (some ⟨bt, 0, none⟩))), (3, (.int .i64 ((t.bs.length : Nat) : Int))), (4, (.int .i64 ((i : Nat) : Int))), (5, (.int .i64 o)), (6, (.int .i64 x)), (81, (.slice (some ⟨ob, oo, none⟩) t.ow.length oc)), (82, (.int .i64 ((t.ow.length : Nat) : Int))), (83, (.int .i64 ((i : Nat) : Int))), (84, (.bool (decide ((((i : Nat) : Int) : Int) < ((t.ow.length : Nat) : Int))))), (85, (.int .i64 ((i : Nat) : Int))), (86, (.pointer (some ⟨ob, oo + i, none⟩))), (87, (.int .i64 o)), (88, (.pointer (some ⟨bt, 5, none⟩))), (89, (.slice (some ⟨nb, no, none⟩) t.nx.length nc)), (90, (.int .i64 ((i : Nat) : Int))), (91, (.pointer (some ⟨nb, no + i, none⟩))), (92, (.int .i64 x)), (93, (.int .i64 o)), (94, (.bool (decide ((o : Int) < (-1))))), (95, (.bool (decide ((o : Int) < (-1))))), (99, (.bool ((decide ((o : Int) < (-1))) || (decide ((((t.bs.length : Nat) : Int) : Int) ≤ o))))), (100, (.bool ((decide ((o : Int) < (-1))) || (decide ((((t.bs.length : Nat) : Int) : Int) ≤ o))))), (103, (.bool (((decide ((o : Int) < (-1))) || (decide ((((t.bs.length : Nat) : Int) : Int) ≤ o))) || (decide ((x : Int) < (-1)))))), (104, (.bool (((decide ((o : Int) < (-1))) || (decide ((((t.bs.length : Nat) : Int) : Int) ≤ o))) || (decide ((x : Int) < (-1)))))), (108, (.bool ((((decide ((o : Int) < (-1))) || (decide ((((t.bs.length : Nat) : Int) : Int) ≤ o))) || (decide ((x : Int) < (-1)))) || (decide ((((t.bs.length : Nat) : Int) : Int) ≤ x))))), (109, (.int .i64 o)), (110, (.bool true)), (111, (.int .i64 x)), (112, (.bool true)), (113, (.bool false)), (114, (.bool false)), (115, (.int .i64 o)), (116, (.bool false)), (117, (.bool false)), (118, undef), (119, undef), (120, undef), (121, undef), (122, undef), (123, undef), (124, undef), (125, undef), (126, undef), (127, undef), (128, undef), (129, undef), (130, undef), (131, undef), (132, undef), (133, undef), (134, undef), (135, undef), (136, undef), (137, (.bool false)), (138, (.bool false))]) ⟨U 1 rfl, U 3 rfl, U 4 rfl, U 5 rfl, U 6 rfl, U 81 rfl, U 82 rfl, U 83 rfl, U 84 rfl, U 85 rfl, U 86 rfl, U 87 rfl, U 88 rfl, U 89 rfl, U 90 rfl, U 91 rfl, U 92 rfl, U 93 rfl, U 94 rfl, U 95 rfl, U 99 rfl, U 100 rfl, U 103 rfl, U 104 rfl, U 108 rfl, (show s' 109 = (.int .i64 o) from H 0 109 (.eq (.int .i64 o)) rfl (by rw [hFs27]; rfl)), (show s' 110 = (.bool true) from H 1 110 (.eq (.bool true)) rfl (by rw [hFs27]; rfl)), (show s' 111 = (.int .i64 x) from H 2 111 (.eq (.int .i64 x)) rfl (by rw [hFs27]; rfl)), (show s' 112 = (.bool true) from H 3 112 (.eq (.bool true)) rfl (by rw [hFs27]; rfl)), (show s' 113 = (.bool false) from H 4 113 (.eq (.bool false)) rfl (by rw [hFs27]; rfl)), (show s' 114 = (.bool false) from H 5 114 (.eq (.bool false)) rfl (by rw [hFs27]; rfl)), (show s' 115 = (.int .i64 o) from H 6 115 (.eq (.int .i64 o)) rfl (by rw [hFs27]; rfl)), (show s' 116 = (.bool false) from H 7 116 (.eq (.bool false)) rfl (by rw [hFs27]; rfl)), (show s' 117 = (.bool false) from H 8 117 (.eq (.bool false)) rfl (by rw [hFs27]; rfl)), (show s' 118 = undef from H 9 118 (.eq undef) rfl (by rw [hFs27]; rfl)), (show s' 119 = undef from H 10 119 (.eq undef) rfl (by rw [hFs27]; rfl)), (show s' 120 = undef from H 11 120 (.eq undef) rfl (by rw [hFs27]; rfl)), (show s' 121 = undef from H 12 121 (.eq undef) rfl (by rw [hFs27]; rfl)), (show s' 122 = undef from H 13 122 (.eq undef) rfl (by rw [hFs27]; rfl)), (show s' 123 = undef from H 14 123 (.eq undef) rfl (by rw [hFs27]; rfl)), (show s' 124 = undef from H 15 124 (.eq undef) rfl (by rw [hFs27]; rfl)), (show s' 125 = undef from H 16 125 (.eq undef) rfl (by rw [hFs27]; rfl)), (show s' 126 = undef from H 17 126 (.eq undef) rfl (by rw [hFs27]; rfl)), (show s' 127 = undef from H 18 127 (.eq undef) rfl (by rw [hFs27]; rfl)), (show s' 128 = undef from H 19 128 (.eq undef) rfl (by rw [hFs27]; rfl)), (show s' 129 = undef from H 20 129 (.eq undef) rfl (by rw [hFs27]; rfl)), (show s' 130 = undef from H 21 130 (.eq undef) rfl (by rw [hFs27]; rfl)), (show s' 131 = undef from H 22 131 (.eq undef) rfl (by rw [hFs27]; rfl)), (show s' 132 = undef from H 23 132 (.eq undef) rfl (by rw [hFs27]; rfl)), (show s' 133 = undef from H 24 133 (.eq undef) rfl (by rw [hFs27]; rfl)), (show s' 134 = undef from H 25 134 (.eq undef) rfl (by rw [hFs27]; rfl)), (show s' 135 = undef from H 26 135 (.eq undef) rfl (by rw [hFs27]; rfl)), (show s' 136 = undef from H 27 136 (.eq undef) rfl (by rw [hFs27]; rfl)), (show s' 137 = (.bool false) from H 28 137 (.eq (.bool false)) rfl (by rw [hFs27]; rfl)), (show s' 138 = (.bool false) from H 29 138 (.eq (.bool false)) rfl (by rw [hFs27]; rfl)), trivial⟩
          clear U H
          replace Bt := X27.keep Bt
          replace E := E.ext X27
          refine thn_normal ?_
          refine Wp_cond_false rfl ?_
          refine Wp_skip ?_
          refine inB_normal ?_
          refine thn_normal ?_
          refine Wp_region ?_
          refine WpL_val rfl rfl (by decide) (r_add (k := .i64) (a := ((i : Nat) : Int)) (b := 1) (c := ((i : Nat) : Int) + 1) rfl rfl (wI64 (by omega))) ?_
          refine WpL_val rfl rfl (by decide) (r_move (v := (.int .i64 (((i : Nat) : Int) + 1))) rfl) ?_
          refine WpL_nil ?_
          refine thn_normal ?_
          exact ⟨t.ow.length - (i + 1), by omega, i + 1, Fits.out ⟨rfl, rfl, rfl, rfl, rfl, trivial⟩, E, Bt, (by omega), rfl⟩
      · have khs0 := hs0
        replace khs0 := of_decide_eq_false khs0
        have hx1 : decide (x < 0) = false := decide_eq_false (fun h => khs0 (q5.2 h))
        have hx2 : decide (0 ≤ o) = true := decide_eq_true (by omega)
        obtain ⟨b, hbb⟩ := get_of_lt (l := t.bs) (i := o.toNat) (by omega)
        obtain ⟨q7, q8⟩ := q6 (by omega) b hbb
        have hbs := hg.bm b (List.mem_of_getElem? hbb)
        have k15 : decide (((i : Nat) : Int) < ((b : Nat) : Int)) = false := decide_eq_false (by omega)
        have k16 : decide (((b : Nat) : Int) + ((t.cols : Nat) : Int) ≤ ((i : Nat) : Int)) = false := decide_eq_false (by omega)
        refine Wp_skip ?_
        refine thn_normal ?_
        refine Wp_seq ?_
        obtain ⟨Fs28, hFs28⟩ : ∃ Fs : List Fact, Fs = [.eq (.int .i64 o), .eq (.bool false), .eq (.int .i64 x), .eq (.bool false), .eq (.bool false), .eq (.bool false), .eq (.int .i64 o), .eq (.bool true), .eq (.bool true), .eq (.int .i64 ((i : Nat) : Int)), .eq (.pointer (some ⟨bt, 3, none⟩)), .eq (.slice (some ⟨bb, bo, none⟩) t.bs.length bc), .eq (.int .i64 o), .eq (.pointer (some ⟨bb, bo + o.toNat, none⟩)), .eq (.int .i64 ((b : Nat) : Int)), .eq (.bool false), .eq (.bool false), .eq (.int .i64 ((i : Nat) : Int)), .eq (.pointer (some ⟨bt, 3, none⟩)), .eq (.slice (some ⟨bb, bo, none⟩) t.bs.length bc), .eq (.int .i64 o), .eq (.pointer (some ⟨bb, bo + o.toNat, none⟩)), .eq (.int .i64 ((b : Nat) : Int)), .eq (.pointer (some ⟨bt, 1, none⟩)), .eq (.int .i64 ((t.cols : Nat) : Int)), .eq (.int .i64 (((b : Nat) : Int) + ((t.cols : Nat) : Int))), .eq (.bool false), .eq (.bool false), .eq (.bool false), .eq (.bool false)] := ⟨_, rfl⟩
        refine Wp_dag [109, 110, 111, 112, 113, 114, 115, 116, 117, 118, 119, 120, 121, 122, 123, 124, 125, 126, 127, 128, 129, 130, 131, 132, 133, 134, 135, 136, 137, 138] [[], [0], [], [2], [1, 3], [4], [5], [5, 6], [5, 7], [8], [8], [8, 10], [8], [8, 11, 12], [8, 13], [8, 9, 14], [8, 15], [16], [16], [16, 18], [16], [16, 19, 20], [16, 21], [16], [16, 23], [16, 22, 24], [16, 17, 25], [8, 16, 26], [5, 8, 27], [5, 28]] Fs28 hFs28 mixed (by kernel_rfl) (by kernel_rfl) ?_ ?_
        · intro wd X0
          refine DagSteps.cons (fun s' w' X U H => Or.inl ⟨?_, ?_⟩) ?_
          · exact Guarded_none rfl
          · exact Does_val (r_move (v := (.int .i64 o)) (U 5 rfl)) (Ext.refl _) rfl
          refine DagSteps.cons (fun s' w' X U H => Or.inl ⟨?_, ?_⟩) ?_
          · exact Guarded_none rfl
          · have e109 : s' 109 = (.int .i64 o) := H 0 rfl 109 (.eq (.int .i64 o)) rfl (by rw [hFs28]; rfl)
            exact Does_val (Eq.trans (r_lss (k := .i64) (a := o) (b := 0) e109 rfl) (by rw [hs0])) (Ext.refl _) rfl
          refine DagSteps.cons (fun s' w' X U H => Or.inl ⟨?_, ?_⟩) ?_
          · exact Guarded_none rfl
          · exact Does_val (r_move (v := (.int .i64 x)) (U 6 rfl)) (Ext.refl _) rfl
          refine DagSteps.cons (fun s' w' X U H => Or.inl ⟨?_, ?_⟩) ?_
          · exact Guarded_none rfl
          · have e111 : s' 111 = (.int .i64 x) := H 2 rfl 111 (.eq (.int .i64 x)) rfl (by rw [hFs28]; rfl)
            exact Does_val (Eq.trans (r_lss (k := .i64) (a := x) (b := 0) e111 rfl) (by rw [hx1])) (Ext.refl _) rfl
          refine DagSteps.cons (fun s' w' X U H => Or.inl ⟨?_, ?_⟩) ?_
          · exact Guarded_none rfl
          · have e110 : s' 110 = (.bool false) := H 1 rfl 110 (.eq (.bool false)) rfl (by rw [hFs28]; rfl)
            have e112 : s' 112 = (.bool false) := H 3 rfl 112 (.eq (.bool false)) rfl (by rw [hFs28]; rfl)
            exact Does_val (r_neqB (p := false) (q := false) Try.underlying4 e110 e112) (Ext.refl _) rfl
          refine DagSteps.cons (fun s' w' X U H => Or.inl ⟨?_, ?_⟩) ?_
          · exact Guarded_none rfl
          · have e113 : s' 113 = (.bool false) := H 4 rfl 113 (.eq (.bool false)) rfl (by rw [hFs28]; rfl)
            exact Does_val (r_move (v := (.bool false)) e113) (Ext.refl _) rfl
          refine DagSteps.cons (fun s' w' X U H => Or.inl ⟨?_, ?_⟩) ?_
          · exact Guarded_some rfl rfl (d := 114) (H 5 rfl 114 (.eq (.bool false)) rfl (by rw [hFs28]; rfl))
          · exact Does_val (r_move (v := (.int .i64 o)) (U 5 rfl)) (Ext.refl _) rfl
          refine DagSteps.cons (fun s' w' X U H => Or.inl ⟨?_, ?_⟩) ?_
          · exact Guarded_some rfl rfl (d := 114) (H 5 rfl 114 (.eq (.bool false)) rfl (by rw [hFs28]; rfl))
          · have e115 : s' 115 = (.int .i64 o) := H 6 rfl 115 (.eq (.int .i64 o)) rfl (by rw [hFs28]; rfl)
            exact Does_val (Eq.trans (r_geq (k := .i64) (a := o) (b := 0) e115 rfl) (by rw [hx2])) (Ext.refl _) rfl
          refine DagSteps.cons (fun s' w' X U H => Or.inl ⟨?_, ?_⟩) ?_
          · exact Guarded_some rfl rfl (d := 114) (H 5 rfl 114 (.eq (.bool false)) rfl (by rw [hFs28]; rfl))
          · have e116 : s' 116 = (.bool true) := H 7 rfl 116 (.eq (.bool true)) rfl (by rw [hFs28]; rfl)
            exact Does_val (r_move (v := (.bool true)) e116) (Ext.refl _) rfl
          refine DagSteps.cons (fun s' w' X U H => Or.inl ⟨?_, ?_⟩) ?_
          · exact Guarded_some rfl rfl (d := 117) (H 8 rfl 117 (.eq (.bool true)) rfl (by rw [hFs28]; rfl))
          · exact Does_val (r_move (v := (.int .i64 ((i : Nat) : Int))) (U 4 rfl)) (Ext.refl _) rfl
          refine DagSteps.cons (fun s' w' X U H => Or.inl ⟨?_, ?_⟩) ?_
          · exact Guarded_some rfl rfl (d := 117) (H 8 rfl 117 (.eq (.bool true)) rfl (by rw [hFs28]; rfl))
          · exact Does_val (r_fieldAddr (b := bt) (o := 0) (o' := 3) (U 1 rfl) Try.underlying24 rfl siz22 rfl) (Ext.refl _) rfl
          refine DagSteps.cons (fun s' w' X U H => Or.inl ⟨?_, ?_⟩) ?_
          · exact Guarded_some rfl rfl (d := 117) (H 8 rfl 117 (.eq (.bool true)) rfl (by rw [hFs28]; rfl))
          · have e119 : s' 119 = (.pointer (some ⟨bt, 3, none⟩)) := H 10 rfl 119 (.eq (.pointer (some ⟨bt, 3, none⟩))) rfl (by rw [hFs28]; rfl)
            exact Does_val (r_load (v := (.slice (some ⟨bb, bo, none⟩) t.bs.length bc)) e119 flat22 (((X0.trans X).keep Bt).cell rfl)) (Ext.refl _) rfl
          refine DagSteps.cons (fun s' w' X U H => Or.inl ⟨?_, ?_⟩) ?_
          · exact Guarded_some rfl rfl (d := 117) (H 8 rfl 117 (.eq (.bool true)) rfl (by rw [hFs28]; rfl))
          · exact Does_val (r_move (v := (.int .i64 o)) (U 5 rfl)) (Ext.refl _) rfl
          refine DagSteps.cons (fun s' w' X U H => Or.inl ⟨?_, ?_⟩) ?_
          · exact Guarded_some rfl rfl (d := 117) (H 8 rfl 117 (.eq (.bool true)) rfl (by rw [hFs28]; rfl))
          · have e120 : s' 120 = (.slice (some ⟨bb, bo, none⟩) t.bs.length bc) := H 11 rfl 120 (.eq (.slice (some ⟨bb, bo, none⟩) t.bs.length bc)) rfl (by rw [hFs28]; rfl)
            have e121 : s' 121 = (.int .i64 o) := H 12 rfl 121 (.eq (.int .i64 o)) rfl (by rw [hFs28]; rfl)
            exact Does_val (r_indexSlice (b := bb) (o := bo) (len := t.bs.length) (cap := bc) (i := o.toNat) (o' := bo + o.toNat) e120 e121 (by omega) Try.underlying22 siz3 (by omega) (by omega)) (Ext.refl _) rfl
          refine DagSteps.cons (fun s' w' X U H => Or.inl ⟨?_, ?_⟩) ?_
          · exact Guarded_some rfl rfl (d := 117) (H 8 rfl 117 (.eq (.bool true)) rfl (by rw [hFs28]; rfl))
          · have e122 : s' 122 = (.pointer (some ⟨bb, bo + o.toNat, none⟩)) := H 13 rfl 122 (.eq (.pointer (some ⟨bb, bo + o.toNat, none⟩))) rfl (by rw [hFs28]; rfl)
            exact Does_val (r_load (v := (.int .i64 ((b : Nat) : Int))) e122 flat3 (Chg.cell (Ext.trans E (X0.trans X)) (fun f => f) (hbcl o.toNat _ (natV_get hbb)))) (Ext.refl _) rfl
          refine DagSteps.cons (fun s' w' X U H => Or.inl ⟨?_, ?_⟩) ?_
          · exact Guarded_some rfl rfl (d := 117) (H 8 rfl 117 (.eq (.bool true)) rfl (by rw [hFs28]; rfl))
          · have e118 : s' 118 = (.int .i64 ((i : Nat) : Int)) := H 9 rfl 118 (.eq (.int .i64 ((i : Nat) : Int))) rfl (by rw [hFs28]; rfl)
            have e123 : s' 123 = (.int .i64 ((b : Nat) : Int)) := H 14 rfl 123 (.eq (.int .i64 ((b : Nat) : Int))) rfl (by rw [hFs28]; rfl)
            exact Does_val (Eq.trans (r_lss (k := .i64) (a := ((i : Nat) : Int)) (b := ((b : Nat) : Int)) e118 e123) (by rw [k15])) (Ext.refl _) rfl
          refine DagSteps.cons (fun s' w' X U H => Or.inl ⟨?_, ?_⟩) ?_
          · exact Guarded_some rfl rfl (d := 117) (H 8 rfl 117 (.eq (.bool true)) rfl (by rw [hFs28]; rfl))
          · have e124 : s' 124 = (.bool false) := H 15 rfl 124 (.eq (.bool false)) rfl (by rw [hFs28]; rfl)
            exact Does_val (r_move (v := (.bool false)) e124) (Ext.refl _) rfl
          refine DagSteps.cons (fun s' w' X U H => Or.inl ⟨?_, ?_⟩) ?_
          · exact Guarded_some rfl rfl (d := 125) (H 16 rfl 125 (.eq (.bool false)) rfl (by rw [hFs28]; rfl))
          · exact Does_val (r_move (v := (.int .i64 ((i : Nat) : Int))) (U 4 rfl)) (Ext.refl _) rfl
          refine DagSteps.cons (fun s' w' X U H => Or.inl ⟨?_, ?_⟩) ?_
          · exact Guarded_some rfl rfl (d := 125) (H 16 rfl 125 (.eq (.bool false)) rfl (by rw [hFs28]; rfl))
          · exact Does_val (r_fieldAddr (b := bt) (o := 0) (o' := 3) (U 1 rfl) Try.underlying24 rfl siz22 rfl) (Ext.refl _) rfl
          refine DagSteps.cons (fun s' w' X U H => Or.inl ⟨?_, ?_⟩) ?_
          · exact Guarded_some rfl rfl (d := 125) (H 16 rfl 125 (.eq (.bool false)) rfl (by rw [hFs28]; rfl))
          · have e127 : s' 127 = (.pointer (some ⟨bt, 3, none⟩)) := H 18 rfl 127 (.eq (.pointer (some ⟨bt, 3, none⟩))) rfl (by rw [hFs28]; rfl)
            exact Does_val (r_load (v := (.slice (some ⟨bb, bo, none⟩) t.bs.length bc)) e127 flat22 (((X0.trans X).keep Bt).cell rfl)) (Ext.refl _) rfl
          refine DagSteps.cons (fun s' w' X U H => Or.inl ⟨?_, ?_⟩) ?_
          · exact Guarded_some rfl rfl (d := 125) (H 16 rfl 125 (.eq (.bool false)) rfl (by rw [hFs28]; rfl))
          · exact Does_val (r_move (v := (.int .i64 o)) (U 5 rfl)) (Ext.refl _) rfl
          refine DagSteps.cons (fun s' w' X U H => Or.inl ⟨?_, ?_⟩) ?_
          · exact Guarded_some rfl rfl (d := 125) (H 16 rfl 125 (.eq (.bool false)) rfl (by rw [hFs28]; rfl))
          · have e128 : s' 128 = (.slice (some ⟨bb, bo, none⟩) t.bs.length bc) := H 19 rfl 128 (.eq (.slice (some ⟨bb, bo, none⟩) t.bs.length bc)) rfl (by rw [hFs28]; rfl)
            have e129 : s' 129 = (.int .i64 o) := H 20 rfl 129 (.eq (.int .i64 o)) rfl (by rw [hFs28]; rfl)
            exact Does_val (r_indexSlice (b := bb) (o := bo) (len := t.bs.length) (cap := bc) (i := o.toNat) (o' := bo + o.toNat) e128 e129 (by omega) Try.underlying22 siz3 (by omega) (by omega)) (Ext.refl _) rfl
          refine DagSteps.cons (fun s' w' X U H => Or.inl ⟨?_, ?_⟩) ?_
          · exact Guarded_some rfl rfl (d := 125) (H 16 rfl 125 (.eq (.bool false)) rfl (by rw [hFs28]; rfl))
          · have e130 : s' 130 = (.pointer (some ⟨bb, bo + o.toNat, none⟩)) := H 21 rfl 130 (.eq (.pointer (some ⟨bb, bo + o.toNat, none⟩))) rfl (by rw [hFs28]; rfl)
            exact Does_val (r_load (v := (.int .i64 ((b : Nat) : Int))) e130 flat3 (Chg.cell (Ext.trans E (X0.trans X)) (fun f => f) (hbcl o.toNat _ (natV_get hbb)))) (Ext.refl _) rfl
          refine DagSteps.cons (fun s' w' X U H => Or.inl ⟨?_, ?_⟩) ?_
          · exact Guarded_some rfl rfl (d := 125) (H 16 rfl 125 (.eq (.bool false)) rfl (by rw [hFs28]; rfl))
          · exact Does_val (r_fieldAddr (b := bt) (o := 0) (o' := 1) (U 1 rfl) Try.underlying24 rfl siz3 rfl) (Ext.refl _) rfl
          refine DagSteps.cons (fun s' w' X U H => Or.inl ⟨?_, ?_⟩) ?_
          · exact Guarded_some rfl rfl (d := 125) (H 16 rfl 125 (.eq (.bool false)) rfl (by rw [hFs28]; rfl))
          · have e132 : s' 132 = (.pointer (some ⟨bt, 1, none⟩)) := H 23 rfl 132 (.eq (.pointer (some ⟨bt, 1, none⟩))) rfl (by rw [hFs28]; rfl)
            exact Does_val (r_load (v := (.int .i64 ((t.cols : Nat) : Int))) e132 flat3 (((X0.trans X).keep Bt).cell rfl)) (Ext.refl _) rfl
          refine DagSteps.cons (fun s' w' X U H => Or.inl ⟨?_, ?_⟩) ?_
          · exact Guarded_some rfl rfl (d := 125) (H 16 rfl 125 (.eq (.bool false)) rfl (by rw [hFs28]; rfl))
          · have e131 : s' 131 = (.int .i64 ((b : Nat) : Int)) := H 22 rfl 131 (.eq (.int .i64 ((b : Nat) : Int))) rfl (by rw [hFs28]; rfl)
            have e133 : s' 133 = (.int .i64 ((t.cols : Nat) : Int)) := H 24 rfl 133 (.eq (.int .i64 ((t.cols : Nat) : Int))) rfl (by rw [hFs28]; rfl)
            exact Does_val (r_add (k := .i64) (a := ((b : Nat) : Int)) (b := ((t.cols : Nat) : Int)) (c := ((b : Nat) : Int) + ((t.cols : Nat) : Int)) e131 e133 (wI64 (by omega))) (Ext.refl _) rfl
          refine DagSteps.cons (fun s' w' X U H => Or.inl ⟨?_, ?_⟩) ?_
          · exact Guarded_some rfl rfl (d := 125) (H 16 rfl 125 (.eq (.bool false)) rfl (by rw [hFs28]; rfl))
          · have e126 : s' 126 = (.int .i64 ((i : Nat) : Int)) := H 17 rfl 126 (.eq (.int .i64 ((i : Nat) : Int))) rfl (by rw [hFs28]; rfl)
            have e134 : s' 134 = (.int .i64 (((b : Nat) : Int) + ((t.cols : Nat) : Int))) := H 25 rfl 134 (.eq (.int .i64 (((b : Nat) : Int) + ((t.cols : Nat) : Int)))) rfl (by rw [hFs28]; rfl)
            exact Does_val (Eq.trans (r_geq (k := .i64) (a := ((i : Nat) : Int)) (b := ((b : Nat) : Int) + ((t.cols : Nat) : Int)) e126 e134) (by rw [k16])) (Ext.refl _) rfl
          refine DagSteps.cons (fun s' w' X U H => Or.inl ⟨?_, ?_⟩) ?_
          · exact Guarded_some rfl rfl (d := 117) (H 8 rfl 117 (.eq (.bool true)) rfl (by rw [hFs28]; rfl))
          · have e125 : s' 125 = (.bool false) := H 16 rfl 125 (.eq (.bool false)) rfl (by rw [hFs28]; rfl)
            have e135 : s' 135 = (.bool false) := H 26 rfl 135 (.eq (.bool false)) rfl (by rw [hFs28]; rfl)
            exact Does_val (r_pick (b := false) (v := (.bool false)) e125 e135) (Ext.refl _) rfl
          refine DagSteps.cons (fun s' w' X U H => Or.inl ⟨?_, ?_⟩) ?_
          · exact Guarded_some rfl rfl (d := 114) (H 5 rfl 114 (.eq (.bool false)) rfl (by rw [hFs28]; rfl))
          · have e117 : s' 117 = (.bool true) := H 8 rfl 117 (.eq (.bool true)) rfl (by rw [hFs28]; rfl)
            have e136 : s' 136 = (.bool false) := H 27 rfl 136 (.eq (.bool false)) rfl (by rw [hFs28]; rfl)
            exact Does_val (r_pick (b := true) (v := (.bool false)) e117 e136) (Ext.refl _) rfl
          refine DagSteps.cons (fun s' w' X U H => Or.inl ⟨?_, ?_⟩) ?_
          · exact Guarded_none rfl
          · have e114 : s' 114 = (.bool false) := H 5 rfl 114 (.eq (.bool false)) rfl (by rw [hFs28]; rfl)
            have e137 : s' 137 = (.bool false) := H 28 rfl 137 (.eq (.bool false)) rfl (by rw [hFs28]; rfl)
            exact Does_val (r_pick (b := false) (v := (.bool false)) e114 e137) (Ext.refl _) rfl
          exact DagSteps.nil
        · intro s' w28 X28 U H
          obtain ⟨j28, rfl⟩ := Fits.out (σ := s') (l := [(1, (.pointer (some ⟨bt, 0, none⟩))), (3, (.int .i64 ((t.bs.length : Nat) : Int))), (4, (.int .i64 ((i : Nat) : Int))), (5, (.int .i64 o)), (6, (.int .i64 x)), (81, (.slice (some ⟨ob, oo, none⟩) t.ow.length oc)), (82, (.int .i64 ((t.ow.length : Nat) : Int))), (83, (.int .i64 ((i : Nat) : Int))), (84, (.bool (decide ((((i : Nat) : Int) : Int) < ((t.ow.length : Nat) : Int))))), (85, (.int .i64 ((i : Nat) : Int))), (86, (.pointer (some ⟨ob, oo + i, none⟩))), (87, (.int .i64 o)), (88, (.pointer (some ⟨bt, 5, none⟩))), (89, (.slice (some ⟨nb, no, none⟩) t.nx.length nc)), (90, (.int .i64 ((i : Nat) : Int))), (91, (.pointer (some ⟨nb, no + i, none⟩))), (92, (.int .i64 x)), (93, (.int .i64 o)), (94, (.bool (decide ((o : Int) < (-1))))), (95, (.bool (decide ((o : Int) < (-1))))), (99, (.bool ((decide ((o : Int) < (-1))) || (decide ((((t.bs.length : Nat) : Int) : Int) ≤ o))))), (100, (.bool ((decide ((o : Int) < (-1))) || (decide ((((t.bs.length : Nat) : Int) : Int) ≤ o))))), (103, (.bool (((decide ((o : Int) < (-1))) || (decide ((((t.bs.length : Nat) : Int) : Int) ≤ o))) || (decide ((x : Int) < (-1)))))), (104, (.bool (((decide ((o : Int) < (-1))) || (decide ((((t.bs.length : Nat) : Int) : Int) ≤ o))) || (decide ((x : Int) < (-1)))))), (108, (.bool ((((decide ((o : Int) < (-1))) || (decide ((((t.bs.length : Nat) : Int) : Int) ≤ o))) || (decide ((x : Int) < (-1)))) || (decide ((((t.bs.length : Nat) : Int) : Int) ≤ x))))), (109, (.int .i64 o)), (110, (.bool false)), (111, (.int .i64 x)), (112, (.bool false)), (113, (.bool false)), (114, (.bool false)), (115, (.int .i64 o)), (116, (.bool true)), (117, (.bool true)), (118, (.int .i64 ((i : Nat) : Int))), (119, (.pointer (some ⟨bt, 3, none⟩))), (120, (.slice (some ⟨bb, bo, none⟩) t.bs.length bc)), (121, (.int .i64 o)), (122, (.pointer (some ⟨bb, bo + o.toNat, none⟩))), (123, (.int .i64 ((b : Nat) : Int))), (124, (.bool false)), (125, (.bool false)), (126, (.int .i64 ((i : Nat) : Int))), (127, (.pointer (some ⟨bt, 3, none⟩))), (128, (.slice (some ⟨bb, bo, none⟩) t.bs.length bc)), (129, (.int .i64 o)), (130, (.pointer (some ⟨bb, bo + o.toNat, none⟩))), (131, (.int .i64 ((b : Nat) : Int))), (132, (.pointer (some ⟨bt, 1, none⟩))), (133, (.int .i64 ((t.cols : Nat) : Int))), (134, (.int .i64 (((b : Nat) : Int) + ((t.cols : Nat) : Int)))), (135, (.bool false)), (136, (.bool false)), (137, (.bool false)), (138, (.bool false))]) ⟨U 1 rfl, U 3 rfl, U 4 rfl, U 5 rfl, U 6 rfl, U 81 rfl, U 82 rfl, U 83 rfl, U 84 rfl, U 85 rfl, U 86 rfl, U 87 rfl, U 88 rfl, U 89 rfl, U 90 rfl, U 91 rfl, U 92 rfl, U 93 rfl, U 94 rfl, U 95 rfl, U 99 rfl, U 100 rfl, U 103 rfl, U 104 rfl, U 108 rfl, (show s' 109 = (.int .i64 o) from H 0 109 (.eq (.int .i64 o)) rfl (by rw [hFs28]; rfl)), (show s' 110 = (.bool false) from H 1 110 (.eq (.bool false)) rfl (by rw [hFs28]; rfl)), (show s' 111 = (.int .i64 x) from H 2 111 (.eq (.int .i64 x)) rfl (by rw [hFs28]; rfl)), (show s' 112 = (.bool false) from H 3 112 (.eq (.bool false)) rfl (by rw [hFs28]; rfl)), (show s' 113 = (.bool false) from H 4 113 (.eq (.bool false)) rfl (by rw [hFs28]; rfl)), (show s' 114 = (.bool false) from H 5 114 (.eq (.bool false)) rfl (by rw [hFs28]; rfl)), (show s' 115 = (.int .i64 o) from H 6 115 (.eq (.int .i64 o)) rfl (by rw [hFs28]; rfl)), (show s' 116 = (.bool true) from H 7 116 (.eq (.bool true)) rfl (by rw [hFs28]; rfl)), (show s' 117 = (.bool true) from H 8 117 (.eq (.bool true)) rfl (by rw [hFs28]; rfl)), (show s' 118 = (.int .i64 ((i : Nat) : Int)) from H 9 118 (.eq (.int .i64 ((i : Nat) : Int))) rfl (by rw [hFs28]; rfl)), (show s' 119 = (.pointer (some ⟨bt, 3, none⟩)) from H 10 119 (.eq (.pointer (some ⟨bt, 3, none⟩))) rfl (by rw [hFs28]; rfl)), (show s' 120 = (.slice (some ⟨bb, bo, none⟩) t.bs.length bc) from H 11 120 (.eq (.slice (some ⟨bb, bo, none⟩) t.bs.length bc)) rfl (by rw [hFs28]; rfl)), (show s' 121 = (.int .i64 o) from H 12 121 (.eq (.int .i64 o)) rfl (by rw [hFs28]; rfl)), (show s' 122 = (.pointer (some ⟨bb, bo + o.toNat, none⟩)) from H 13 122 (.eq (.pointer (some ⟨bb, bo + o.toNat, none⟩))) rfl (by rw [hFs28]; rfl)), (show s' 123 = (.int .i64 ((b : Nat) : Int)) from H 14 123 (.eq (.int .i64 ((b : Nat) : Int))) rfl (by rw [hFs28]; rfl)), (show s' 124 = (.bool false) from H 15 124 (.eq (.bool false)) rfl (by rw [hFs28]; rfl)), (show s' 125 = (.bool false) from H 16 125 (.eq (.bool false)) rfl (by rw [hFs28]; rfl)), (show s' 126 = (.int .i64 ((i : Nat) : Int)) from H 17 126 (.eq (.int .i64 ((i : Nat) : Int))) rfl (by rw [hFs28]; rfl)), (show s' 127 = (.pointer (some ⟨bt, 3, none⟩)) from H 18 127 (.eq (.pointer (some ⟨bt, 3, none⟩))) rfl (by rw [hFs28]; rfl)), (show s' 128 = (.slice (some ⟨bb, bo, none⟩) t.bs.length bc) from H 19 128 (.eq (.slice (some ⟨bb, bo, none⟩) t.bs.length bc)) rfl (by rw [hFs28]; rfl)), (show s' 129 = (.int .i64 o) from H 20 129 (.eq (.int .i64 o)) rfl (by rw [hFs28]; rfl)), (show s' 130 = (.pointer (some ⟨bb, bo + o.toNat, none⟩)) from H 21 130 (.eq (.pointer (some ⟨bb, bo + o.toNat, none⟩))) rfl (by rw [hFs28]; rfl)), (show s' 131 = (.int .i64 ((b : Nat) : Int)) from H 22 131 (.eq (.int .i64 ((b : Nat) : Int))) rfl (by rw [hFs28]; rfl)), (show s' 132 = (.pointer (some ⟨bt, 1, none⟩)) from H 23 132 (.eq (.pointer (some ⟨bt, 1, none⟩))) rfl (by rw [hFs28]; rfl)), (show s' 133 = (.int .i64 ((t.cols : Nat) : Int)) from H 24 133 (.eq (.int .i64 ((t.cols : Nat) : Int))) rfl (by rw [hFs28]; rfl)), (show s' 134 = (.int .i64 (((b : Nat) : Int) + ((t.cols : Nat) : Int))) from H 25 134 (.eq (.int .i64 (((b : Nat) : Int) + ((t.cols : Nat) : Int)))) rfl (by rw [hFs28]; rfl)), (show s' 135 = (.bool false) from H 26 135 (.eq (.bool false)) rfl (by rw [hFs28]; rfl)), (show s' 136 = (.bool false) from H 27 136 (.eq (.bool false)) rfl (by rw [hFs28]; rfl)), (show s' 137 = (.bool false) from H 28 137 (.eq (.bool false)) rfl (by rw [hFs28]; rfl)), (show s' 138 = (.bool false) from H 29 138 (.eq (.bool false)) rfl (by rw [hFs28]; rfl)), trivial⟩
          clear U H
          replace Bt := X28.keep Bt
          replace E := E.ext X28
          refine thn_normal ?_
          refine Wp_cond_false rfl ?_
          refine Wp_skip ?_
          refine inB_normal ?_
          refine thn_normal ?_
          refine Wp_region ?_
          refine WpL_val rfl rfl (by decide) (r_add (k := .i64) (a := ((i : Nat) : Int)) (b := 1) (c := ((i : Nat) : Int) + 1) rfl rfl (wI64 (by omega))) ?_
          refine WpL_val rfl rfl (by decide) (r_move (v := (.int .i64 (((i : Nat) : Int) + 1))) rfl) ?_
          refine WpL_nil ?_
          refine thn_normal ?_
          exact ⟨t.ow.length - (i + 1), by omega, i + 1, Fits.out ⟨rfl, rfl, rfl, rfl, rfl, trivial⟩, E, Bt, (by omega), rfl⟩
    · have khlt := hlt
      replace hlt := of_decide_eq_false hlt
      refine Wp_exit ?_
      refine thn_exit ?_
      refine thn_exit ?_
      refine inB_here ?_
      refine thn_normal ?_
      refine Wp_seq_region ?_
      refine WpL_val rfl rfl (by decide) (r_assign (v := (.int .i64 0)) rfl) ?_
      refine WpL_nil ?_
      refine Wp_ret ?_
      refine fin_tmp Try.results21 (v := (.int .i64 0)) rfl ?_
      exact ⟨rfl, E⟩
theorem at_c (w0 : World) (t : Tab) (vs : List Value) (s c b : Nat) (h : TabAt w0 t vs) (hb : t.bs[s]? = some b) (hlen : t.nx.length = t.ow.length) (hsm : b + c ≤ 1000000) :
    Ret Try.prog 37 #[.agg vs.toArray, .int .i64 ((s : Nat) : Int), .int .i64 ((c : Nat) : Int)] w0 fun r w => r = .int .i64 (atT t.ow t.nx t.bs s c) ∧ Ext w0 w := by
  obtain ⟨aa, ac, ba, bc, oa, oc, na, nc, rfl, ha, hbs, ho, hn⟩ := h
  have hsl := lt_of_get hb
  have hol : t.ow.length ≤ 9223372036854775807 := by simpa using SlAt.le ho
  have hbl : t.bs.length ≤ 9223372036854775807 := by simpa [natV] using SlAt.le hbs
  obtain ⟨bb, bo, rfl, hbcl⟩ := ints_cells hbs (by omega)
  have hat : atT t.ow t.nx t.bs s c = if t.ow[b + c]? = some ((s : Nat) : Int) then t.nx.getD (b + c) (-1) else -1 := by unfold atT; rw [hb]
  rcases Nat.lt_or_ge (b + c) t.ow.length with hlt | hge
  · obtain ⟨o, hoo⟩ := get_of_lt hlt
    obtain ⟨x, hxx⟩ := get_of_lt (l := t.nx) (i := b + c) (by omega)
    obtain ⟨ob, oo, rfl, hocl⟩ := ints_cells ho (by omega)
    obtain ⟨nb, no, rfl, hncl⟩ := ints_cells hn (by omega)
    refine Ret_of Try.func37 rfl Try.ntmps37 (Nat.le_of_ble_eq_true rfl) ?_
    have E : Chg none1 w0 w0 := Chg.refl _ _
    refine Wp_seq_region ?_
    refine s_box (v := (.agg #[(.int .i64 t.start), (.int .i64 ((t.cols : Nat) : Int)), (.slice aa t.acc.length ac), (.slice (some ⟨bb, bo, none⟩) t.bs.length bc), (.slice (some ⟨ob, oo, none⟩) t.ow.length oc), (.slice (some ⟨nb, no, none⟩) t.nx.length nc)])) (c := #[(.int .i64 t.start), (.int .i64 ((t.cols : Nat) : Int)), (.slice aa t.acc.length ac), (.slice (some ⟨bb, bo, none⟩) t.bs.length bc), (.slice (some ⟨ob, oo, none⟩) t.ow.length oc), (.slice (some ⟨nb, no, none⟩) t.nx.length nc)]) (by decide) rfl rfl ?_
    intro bt wt Nt
    have Ft := Nt.ge E
    replace E := E.ext Nt.ext
    have Bt := Nt.blk
    refine WpL_val rfl rfl (by decide) (r_assign (v := (.int .i64 0)) rfl) ?_
    refine WpL_nil ?_
    refine Wp_seq ?_
    refine Wp_seq_region ?_
    refine WpL_val rfl rfl (by decide) (r_fieldAddr (b := bt) (o := 0) (o' := 3) rfl Try.underlying24 rfl siz22 rfl) ?_
    refine WpL_val rfl rfl (by decide) (r_load (v := (.slice (some ⟨bb, bo, none⟩) t.bs.length bc)) rfl flat22 (Bt.cell rfl)) ?_
    refine WpL_val rfl rfl (by decide) (r_move (v := (.int .i64 ((s : Nat) : Int))) rfl) ?_
    refine WpL_val rfl rfl (by decide) (r_indexSlice (b := bb) (o := bo) (len := t.bs.length) (cap := bc) (i := s) (o' := bo + s) rfl rfl rfl Try.underlying22 siz3 (by omega) (by omega)) ?_
    refine WpL_val rfl rfl (by decide) (r_load (v := (.int .i64 ((b : Nat) : Int))) rfl flat3 (E.cell (fun f => f) (hbcl s _ (natV_get hb)))) ?_
    refine WpL_val rfl rfl (by decide) (r_move (v := (.int .i64 ((c : Nat) : Int))) rfl) ?_
    refine WpL_val rfl rfl (by decide) (r_add (k := .i64) (a := ((b : Nat) : Int)) (b := ((c : Nat) : Int)) (c := (((b + c : Nat) : Nat) : Int)) rfl rfl ((wI64 (by omega)).trans (by omega))) ?_
    refine WpL_val rfl rfl (by decide) (r_assign (v := (.int .i64 (((b + c : Nat) : Nat) : Int))) rfl) ?_
    refine WpL_nil ?_
    refine Wp_seq_region ?_
    refine WpL_val rfl rfl (by decide) (r_move (v := (.int .i64 (((b + c : Nat) : Nat) : Int))) rfl) ?_
    refine WpL_val rfl rfl (by decide) (r_fieldAddr (b := bt) (o := 0) (o' := 4) rfl Try.underlying24 rfl siz22 rfl) ?_
    refine WpL_val rfl rfl (by decide) (r_load (v := (.slice (some ⟨ob, oo, none⟩) t.ow.length oc)) rfl flat22 (Bt.cell rfl)) ?_
    refine WpL_val rfl rfl (by decide) (r_lenSlice (ad := some ⟨ob, oo, none⟩) (n := t.ow.length) (cap := oc) Try.underlying22 rfl) ?_
    refine WpL_val rfl rfl (by decide) (r_lss (k := .i64) (a := (((b + c : Nat) : Nat) : Int)) (b := ((t.ow.length : Nat) : Int)) rfl rfl) ?_
    refine WpL_val rfl rfl (by decide) (r_move (v := (.bool (decide (((((b + c : Nat) : Nat) : Int) : Int) < ((t.ow.length : Nat) : Int))))) rfl) ?_
    have hg1 : (decide (((((b + c : Nat) : Nat) : Int) : Int) < ((t.ow.length : Nat) : Int))) = true := decide_eq_true (by omega)
    refine WpL_guard_yes (oj := _) rfl rfl (by decide) (congrArg Value.bool hg1) ?_
    refine WpL_val rfl rfl (by decide) (r_fieldAddr (b := bt) (o := 0) (o' := 4) rfl Try.underlying24 rfl siz22 rfl) ?_
    refine WpL_guard_yes (oj := _) rfl rfl (by decide) (congrArg Value.bool hg1) ?_
    refine WpL_val rfl rfl (by decide) (r_load (v := (.slice (some ⟨ob, oo, none⟩) t.ow.length oc)) rfl flat22 (Bt.cell rfl)) ?_
    refine WpL_guard_yes (oj := _) rfl rfl (by decide) (congrArg Value.bool hg1) ?_
    refine WpL_val rfl rfl (by decide) (r_move (v := (.int .i64 (((b + c : Nat) : Nat) : Int))) rfl) ?_
    refine WpL_guard_yes (oj := _) rfl rfl (by decide) (congrArg Value.bool hg1) ?_
    refine WpL_val rfl rfl (by decide) (r_indexSlice (b := ob) (o := oo) (len := t.ow.length) (cap := oc) (i := (b + c : Nat)) (o' := oo + (b + c : Nat)) rfl rfl rfl Try.underlying22 siz3 (by omega) (by omega)) ?_
    refine WpL_guard_yes (oj := _) rfl rfl (by decide) (congrArg Value.bool hg1) ?_
    refine WpL_val rfl rfl (by decide) (r_load (v := (.int .i64 o)) rfl flat3 (E.cell (fun f => f) (hocl (b + c) o hoo))) ?_
    refine WpL_guard_yes (oj := _) rfl rfl (by decide) (congrArg Value.bool hg1) ?_
    refine WpL_val rfl rfl (by decide) (r_move (v := (.int .i64 ((s : Nat) : Int))) rfl) ?_
    refine WpL_guard_yes (oj := _) rfl rfl (by decide) (congrArg Value.bool hg1) ?_
    refine WpL_val rfl rfl (by decide) (r_eql (k := .i64) (a := o) (b := ((s : Nat) : Int)) rfl rfl) ?_
    refine WpL_val rfl rfl (by decide) (r_pick (b := decide (((((b + c : Nat) : Nat) : Int) : Int) < ((t.ow.length : Nat) : Int))) (v := (.bool (decide ((o : Int) = ((s : Nat) : Int))))) rfl (by rw [hg1]; rfl)) ?_
    refine WpL_nil ?_
    refine Wp_cond (b := decide ((o : Int) = ((s : Nat) : Int))) rfl (fun he => ?_) (fun he => ?_)
    · have khe := he
      replace he := of_decide_eq_true he
      refine Wp_seq_region ?_
      refine WpL_val rfl rfl (by decide) (r_fieldAddr (b := bt) (o := 0) (o' := 5) rfl Try.underlying24 rfl siz22 rfl) ?_
      refine WpL_val rfl rfl (by decide) (r_load (v := (.slice (some ⟨nb, no, none⟩) t.nx.length nc)) rfl flat22 (Bt.cell rfl)) ?_
      refine WpL_val rfl rfl (by decide) (r_move (v := (.int .i64 (((b + c : Nat) : Nat) : Int))) rfl) ?_
      refine WpL_val rfl rfl (by decide) (r_indexSlice (b := nb) (o := no) (len := t.nx.length) (cap := nc) (i := (b + c : Nat)) (o' := no + (b + c : Nat)) rfl rfl rfl Try.underlying22 siz3 (by omega) (by omega)) ?_
      refine WpL_val rfl rfl (by decide) (r_load (v := (.int .i64 x)) rfl flat3 (E.cell (fun f => f) (hncl (b + c) x hxx))) ?_
      refine WpL_val rfl rfl (by decide) (r_assign (v := (.int .i64 x)) rfl) ?_
      refine WpL_nil ?_
      refine Wp_ret ?_
      refine thn_ret ?_
      refine fin_tmp Try.results37 (v := (.int .i64 x)) rfl ?_
      exact ⟨int_eq (by rw [hat, if_pos (by rw [hoo, he]), List.getD_eq_getElem?_getD, hxx]; rfl), E⟩
    · have khe := he
      replace he := of_decide_eq_false he
      refine Wp_skip ?_
      refine thn_normal ?_
      refine Wp_seq_region ?_
      refine WpL_val rfl rfl (by decide) (r_assign (v := (.int .i64 (-1))) rfl) ?_
      refine WpL_nil ?_
      refine Wp_ret ?_
      refine fin_tmp Try.results37 (v := (.int .i64 (-1))) rfl ?_
      exact ⟨int_eq (by rw [hat, if_neg (by rw [hoo]; simpa using he)]), E⟩
  · skip
    refine Ret_of Try.func37 rfl Try.ntmps37 (Nat.le_of_ble_eq_true rfl) ?_
    have E : Chg none1 w0 w0 := Chg.refl _ _
    refine Wp_seq_region ?_
    refine s_box (v := (.agg #[(.int .i64 t.start), (.int .i64 ((t.cols : Nat) : Int)), (.slice aa t.acc.length ac), (.slice (some ⟨bb, bo, none⟩) t.bs.length bc), (.slice oa t.ow.length oc), (.slice na t.nx.length nc)])) (c := #[(.int .i64 t.start), (.int .i64 ((t.cols : Nat) : Int)), (.slice aa t.acc.length ac), (.slice (some ⟨bb, bo, none⟩) t.bs.length bc), (.slice oa t.ow.length oc), (.slice na t.nx.length nc)]) (by decide) rfl rfl ?_
    intro bt wt Nt
    have Ft := Nt.ge E
    replace E := E.ext Nt.ext
    have Bt := Nt.blk
    refine WpL_val rfl rfl (by decide) (r_assign (v := (.int .i64 0)) rfl) ?_
    refine WpL_nil ?_
    refine Wp_seq ?_
    refine Wp_seq_region ?_
    refine WpL_val rfl rfl (by decide) (r_fieldAddr (b := bt) (o := 0) (o' := 3) rfl Try.underlying24 rfl siz22 rfl) ?_
    refine WpL_val rfl rfl (by decide) (r_load (v := (.slice (some ⟨bb, bo, none⟩) t.bs.length bc)) rfl flat22 (Bt.cell rfl)) ?_
    refine WpL_val rfl rfl (by decide) (r_move (v := (.int .i64 ((s : Nat) : Int))) rfl) ?_
    refine WpL_val rfl rfl (by decide) (r_indexSlice (b := bb) (o := bo) (len := t.bs.length) (cap := bc) (i := s) (o' := bo + s) rfl rfl rfl Try.underlying22 siz3 (by omega) (by omega)) ?_
    refine WpL_val rfl rfl (by decide) (r_load (v := (.int .i64 ((b : Nat) : Int))) rfl flat3 (E.cell (fun f => f) (hbcl s _ (natV_get hb)))) ?_
    refine WpL_val rfl rfl (by decide) (r_move (v := (.int .i64 ((c : Nat) : Int))) rfl) ?_
    refine WpL_val rfl rfl (by decide) (r_add (k := .i64) (a := ((b : Nat) : Int)) (b := ((c : Nat) : Int)) (c := (((b + c : Nat) : Nat) : Int)) rfl rfl ((wI64 (by omega)).trans (by omega))) ?_
    refine WpL_val rfl rfl (by decide) (r_assign (v := (.int .i64 (((b + c : Nat) : Nat) : Int))) rfl) ?_
    refine WpL_nil ?_
    refine Wp_seq_region ?_
    refine WpL_val rfl rfl (by decide) (r_move (v := (.int .i64 (((b + c : Nat) : Nat) : Int))) rfl) ?_
    refine WpL_val rfl rfl (by decide) (r_fieldAddr (b := bt) (o := 0) (o' := 4) rfl Try.underlying24 rfl siz22 rfl) ?_
    refine WpL_val rfl rfl (by decide) (r_load (v := (.slice oa t.ow.length oc)) rfl flat22 (Bt.cell rfl)) ?_
    refine WpL_val rfl rfl (by decide) (r_lenSlice (ad := oa) (n := t.ow.length) (cap := oc) Try.underlying22 rfl) ?_
    refine WpL_val rfl rfl (by decide) (r_lss (k := .i64) (a := (((b + c : Nat) : Nat) : Int)) (b := ((t.ow.length : Nat) : Int)) rfl rfl) ?_
    refine WpL_val rfl rfl (by decide) (r_move (v := (.bool (decide (((((b + c : Nat) : Nat) : Int) : Int) < ((t.ow.length : Nat) : Int))))) rfl) ?_
    have hg1 : (decide (((((b + c : Nat) : Nat) : Int) : Int) < ((t.ow.length : Nat) : Int))) = false := decide_eq_false (by omega)
    refine WpL_guard_no (oj := _) rfl rfl (by decide) (v := .bool false) (congrArg Value.bool hg1) (Or.inl rfl) ?_
    refine WpL_guard_no (oj := _) rfl rfl (by decide) (v := .bool false) (congrArg Value.bool hg1) (Or.inl rfl) ?_
    refine WpL_guard_no (oj := _) rfl rfl (by decide) (v := .bool false) (congrArg Value.bool hg1) (Or.inl rfl) ?_
    refine WpL_guard_no (oj := _) rfl rfl (by decide) (v := .bool false) (congrArg Value.bool hg1) (Or.inl rfl) ?_
    refine WpL_guard_no (oj := _) rfl rfl (by decide) (v := .bool false) (congrArg Value.bool hg1) (Or.inl rfl) ?_
    refine WpL_guard_no (oj := _) rfl rfl (by decide) (v := .bool false) (congrArg Value.bool hg1) (Or.inl rfl) ?_
    refine WpL_guard_no (oj := _) rfl rfl (by decide) (v := .bool false) (congrArg Value.bool hg1) (Or.inl rfl) ?_
    refine WpL_val rfl rfl (by decide) (r_pick (b := decide (((((b + c : Nat) : Nat) : Int) : Int) < ((t.ow.length : Nat) : Int))) (v := (.bool false)) rfl (by rw [hg1]; rfl)) ?_
    refine WpL_nil ?_
    refine Wp_cond_false rfl ?_
    refine Wp_skip ?_
    refine thn_normal ?_
    refine Wp_seq_region ?_
    refine WpL_val rfl rfl (by decide) (r_assign (v := (.int .i64 (-1))) rfl) ?_
    refine WpL_nil ?_
    refine Wp_ret ?_
    refine fin_tmp Try.results37 (v := (.int .i64 (-1))) rfl ?_
    exact ⟨int_eq (by rw [hat, if_neg (by rw [List.getElem?_eq_none hge]; simp)]), E⟩
theorem At_c (w0 : World) (t : Tab) (vs : List Value) (s c : Nat) (h : TabAt w0 t vs) (hg : GoodT t) (hs : s < t.bs.length) (hc : c < t.cols) :
    Ret Try.prog 11 #[.agg vs.toArray, .int .i64 ((s : Nat) : Int), .int .i64 ((c : Nat) : Int)] w0 fun r w => r = .tuple #[.int .i64 (atT t.ow t.nx t.bs s c), .int .i64 0] ∧ Ext w0 w := by
  have h0 := h
  obtain ⟨b, hb⟩ := get_of_lt hs
  have hbm := hg.bm b (List.mem_of_getElem? hb)
  have hc2 := hg.c2
  have hn2 := hg.n2
  obtain ⟨aa, ac, ba, bc, oa, oc, na, nc, rfl, ha, hbs, ho, hn⟩ := h
  refine Ret_of Try.func11 rfl Try.ntmps11 (Nat.le_of_ble_eq_true rfl) ?_
  have E : Chg none1 w0 w0 := Chg.refl _ _
  refine Wp_seq_region ?_
  refine s_box (v := (.agg #[(.int .i64 t.start), (.int .i64 ((t.cols : Nat) : Int)), (.slice aa t.acc.length ac), (.slice ba t.bs.length bc), (.slice oa t.ow.length oc), (.slice na t.nx.length nc)])) (c := #[(.int .i64 t.start), (.int .i64 ((t.cols : Nat) : Int)), (.slice aa t.acc.length ac), (.slice ba t.bs.length bc), (.slice oa t.ow.length oc), (.slice na t.nx.length nc)]) (by decide) rfl rfl ?_
  intro bt wt Nt
  have Ft := Nt.ge E
  replace E := E.ext Nt.ext
  have Bt := Nt.blk
  refine WpL_val rfl rfl (by decide) (r_assign (v := (.int .i64 0)) rfl) ?_
  refine WpL_val rfl rfl (by decide) (r_assign (v := (.int .i64 0)) rfl) ?_
  refine WpL_nil ?_
  refine Wp_seq ?_
  refine Wp_seq_region ?_
  refine WpL_val rfl rfl (by decide) (r_loadAgg (vs := [(.int .i64 t.start), (.int .i64 ((t.cols : Nat) : Int)), (.slice aa t.acc.length ac), (.slice ba t.bs.length bc), (.slice oa t.ow.length oc), (.slice na t.nx.length nc)]) rfl agg24 siz24 rfl (Bt.cells rfl)) ?_
  refine WpL_enter rfl rfl (by decide) (r_callF (vs := [(.agg #[(.int .i64 t.start), (.int .i64 ((t.cols : Nat) : Int)), (.slice aa t.acc.length ac), (.slice ba t.bs.length bc), (.slice oa t.ow.length oc), (.slice na t.nx.length nc)])]) Try.func21 nm21 bd21 rfl) (tcheck_c _ t _ (h0.ext E) hg) ?_
  rintro _ w9 ⟨rfl, X9⟩
  replace Bt := X9.keep Bt
  replace E := E.ext X9
  refine WpL_val rfl rfl (by decide) (r_assign (v := (.int .i64 0)) rfl) ?_
  refine WpL_nil ?_
  refine Wp_seq_region ?_
  refine WpL_val rfl rfl (by decide) (r_move (v := (.int .i64 0)) rfl) ?_
  refine WpL_val rfl rfl (by decide) (r_neq (k := .i64) (a := 0) (b := 0) rfl rfl) ?_
  refine WpL_nil ?_
  refine Wp_cond_false rfl ?_
  refine Wp_skip ?_
  refine thn_normal ?_
  refine Wp_seq ?_
  refine Wp_seq_region ?_
  refine WpL_val rfl rfl (by decide) (r_move (v := (.int .i64 ((s : Nat) : Int))) rfl) ?_
  obtain ⟨e1, he1⟩ : ∃ e, (decide ((((s : Nat) : Int) : Int) < 0)) = e := ⟨_, rfl⟩
  refine WpL_val rfl rfl (by decide) ((r_lss (k := .i64) (a := ((s : Nat) : Int)) (b := 0) rfl rfl).trans (by rw [he1]; try rfl)) ?_
  refine WpL_val rfl rfl (by decide) (r_move (v := (.bool e1)) rfl) ?_
  refine WpL_guard_any (oj := _) (gv := (.bool e1)) (u := (bif e1 then undef else (.int .i64 ((s : Nat) : Int)))) rfl rfl (by decide) (by decide) rfl (by cases e1 <;> first | exact Or.inr ⟨Or.inl rfl, rfl⟩ | exact Or.inr ⟨Or.inr rfl, rfl⟩ | exact Or.inl ⟨rfl, r_move (v := (.int .i64 ((s : Nat) : Int))) rfl⟩) ?_
  refine WpL_guard_any (oj := _) (gv := (.bool e1)) (u := (bif e1 then undef else (.pointer (some ⟨bt, 3, none⟩)))) rfl rfl (by decide) (by decide) rfl (by cases e1 <;> first | exact Or.inr ⟨Or.inl rfl, rfl⟩ | exact Or.inr ⟨Or.inr rfl, rfl⟩ | exact Or.inl ⟨rfl, r_fieldAddr (b := bt) (o := 0) (o' := 3) rfl Try.underlying24 rfl siz22 rfl⟩) ?_
  refine WpL_guard_any (oj := _) (gv := (.bool e1)) (u := (bif e1 then undef else (.slice ba t.bs.length bc))) rfl rfl (by decide) (by decide) rfl (by cases e1 <;> first | exact Or.inr ⟨Or.inl rfl, rfl⟩ | exact Or.inr ⟨Or.inr rfl, rfl⟩ | exact Or.inl ⟨rfl, r_load (v := (.slice ba t.bs.length bc)) rfl flat22 (Bt.cell rfl)⟩) ?_
  refine WpL_guard_any (oj := _) (gv := (.bool e1)) (u := (bif e1 then undef else (.int .i64 ((t.bs.length : Nat) : Int)))) rfl rfl (by decide) (by decide) rfl (by cases e1 <;> first | exact Or.inr ⟨Or.inl rfl, rfl⟩ | exact Or.inr ⟨Or.inr rfl, rfl⟩ | exact Or.inl ⟨rfl, r_lenSlice (ad := ba) (n := t.bs.length) (cap := bc) Try.underlying22 rfl⟩) ?_
  obtain ⟨e2, he2⟩ : ∃ e, (decide ((((t.bs.length : Nat) : Int) : Int) ≤ ((s : Nat) : Int))) = e := ⟨_, rfl⟩
  refine WpL_guard_any (oj := _) (gv := (.bool e1)) (u := (bif e1 then undef else (.bool e2))) rfl rfl (by decide) (by decide) rfl (by cases e1 <;> first | exact Or.inr ⟨Or.inl rfl, rfl⟩ | exact Or.inr ⟨Or.inr rfl, rfl⟩ | exact Or.inl ⟨rfl, (r_geq (k := .i64) (a := ((s : Nat) : Int)) (b := ((t.bs.length : Nat) : Int)) rfl rfl).trans (by rw [he2]; try rfl)⟩) ?_
  obtain ⟨e3, he3⟩ : ∃ e, (e1 || e2) = e := ⟨_, rfl⟩
  refine WpL_val rfl rfl (by decide) (r_pick (b := e1) (v := .bool e3) rfl (by rw [← he3]; cases e1 <;> rfl)) ?_
  refine WpL_val rfl rfl (by decide) (r_move (v := (.bool e3)) rfl) ?_
  refine WpL_guard_any (oj := _) (gv := (.bool e3)) (u := (bif e3 then undef else (.int .i64 ((c : Nat) : Int)))) rfl rfl (by decide) (by decide) rfl (by cases e3 <;> first | exact Or.inr ⟨Or.inl rfl, rfl⟩ | exact Or.inr ⟨Or.inr rfl, rfl⟩ | exact Or.inl ⟨rfl, r_move (v := (.int .i64 ((c : Nat) : Int))) rfl⟩) ?_
  obtain ⟨e4, he4⟩ : ∃ e, (decide ((((c : Nat) : Int) : Int) < 0)) = e := ⟨_, rfl⟩
  refine WpL_guard_any (oj := _) (gv := (.bool e3)) (u := (bif e3 then undef else (.bool e4))) rfl rfl (by decide) (by decide) rfl (by cases e3 <;> first | exact Or.inr ⟨Or.inl rfl, rfl⟩ | exact Or.inr ⟨Or.inr rfl, rfl⟩ | exact Or.inl ⟨rfl, (r_lss (k := .i64) (a := ((c : Nat) : Int)) (b := 0) rfl rfl).trans (by rw [he4]; try rfl)⟩) ?_
  obtain ⟨e5, he5⟩ : ∃ e, (e3 || e4) = e := ⟨_, rfl⟩
  refine WpL_val rfl rfl (by decide) (r_pick (b := e3) (v := .bool e5) rfl (by rw [← he5]; cases e3 <;> rfl)) ?_
  refine WpL_val rfl rfl (by decide) (r_move (v := (.bool e5)) rfl) ?_
  refine WpL_guard_any (oj := _) (gv := (.bool e5)) (u := (bif e5 then undef else (.int .i64 ((c : Nat) : Int)))) rfl rfl (by decide) (by decide) rfl (by cases e5 <;> first | exact Or.inr ⟨Or.inl rfl, rfl⟩ | exact Or.inr ⟨Or.inr rfl, rfl⟩ | exact Or.inl ⟨rfl, r_move (v := (.int .i64 ((c : Nat) : Int))) rfl⟩) ?_
  refine WpL_guard_any (oj := _) (gv := (.bool e5)) (u := (bif e5 then undef else (.pointer (some ⟨bt, 1, none⟩)))) rfl rfl (by decide) (by decide) rfl (by cases e5 <;> first | exact Or.inr ⟨Or.inl rfl, rfl⟩ | exact Or.inr ⟨Or.inr rfl, rfl⟩ | exact Or.inl ⟨rfl, r_fieldAddr (b := bt) (o := 0) (o' := 1) rfl Try.underlying24 rfl siz3 rfl⟩) ?_
  refine WpL_guard_any (oj := _) (gv := (.bool e5)) (u := (bif e5 then undef else (.int .i64 ((t.cols : Nat) : Int)))) rfl rfl (by decide) (by decide) rfl (by cases e5 <;> first | exact Or.inr ⟨Or.inl rfl, rfl⟩ | exact Or.inr ⟨Or.inr rfl, rfl⟩ | exact Or.inl ⟨rfl, r_load (v := (.int .i64 ((t.cols : Nat) : Int))) rfl flat3 (Bt.cell rfl)⟩) ?_
  obtain ⟨e6, he6⟩ : ∃ e, (decide ((((t.cols : Nat) : Int) : Int) ≤ ((c : Nat) : Int))) = e := ⟨_, rfl⟩
  refine WpL_guard_any (oj := _) (gv := (.bool e5)) (u := (bif e5 then undef else (.bool e6))) rfl rfl (by decide) (by decide) rfl (by cases e5 <;> first | exact Or.inr ⟨Or.inl rfl, rfl⟩ | exact Or.inr ⟨Or.inr rfl, rfl⟩ | exact Or.inl ⟨rfl, (r_geq (k := .i64) (a := ((c : Nat) : Int)) (b := ((t.cols : Nat) : Int)) rfl rfl).trans (by rw [he6]; try rfl)⟩) ?_
  obtain ⟨e7, he7⟩ : ∃ e, (e5 || e6) = e := ⟨_, rfl⟩
  refine WpL_val rfl rfl (by decide) (r_pick (b := e5) (v := .bool e7) rfl (by rw [← he7]; cases e5 <;> rfl)) ?_
  refine WpL_nil ?_
  subst he7
  subst he6
  subst he5
  subst he4
  subst he3
  subst he2
  subst he1
  have hc8 : (((((decide ((((s : Nat) : Int) : Int) < 0)) || (decide ((((t.bs.length : Nat) : Int) : Int) ≤ ((s : Nat) : Int)))) || (decide ((((c : Nat) : Int) : Int) < 0))) || (decide ((((t.cols : Nat) : Int) : Int) ≤ ((c : Nat) : Int))))) = false := by simp only [Bool.or_eq_false_iff, decide_eq_false_iff_not]; omega
  refine Wp_cond_false (congrArg Value.bool hc8) ?_
  refine Wp_skip ?_
  refine thn_normal ?_
  refine Wp_seq_region ?_
  refine WpL_val rfl rfl (by decide) (r_loadAgg (vs := [(.int .i64 t.start), (.int .i64 ((t.cols : Nat) : Int)), (.slice aa t.acc.length ac), (.slice ba t.bs.length bc), (.slice oa t.ow.length oc), (.slice na t.nx.length nc)]) rfl agg24 siz24 rfl (Bt.cells rfl)) ?_
  refine WpL_val rfl rfl (by decide) (r_move (v := (.int .i64 ((s : Nat) : Int))) rfl) ?_
  refine WpL_val rfl rfl (by decide) (r_move (v := (.int .i64 ((c : Nat) : Int))) rfl) ?_
  refine WpL_enter rfl rfl (by decide) (r_callF (vs := [(.agg #[(.int .i64 t.start), (.int .i64 ((t.cols : Nat) : Int)), (.slice aa t.acc.length ac), (.slice ba t.bs.length bc), (.slice oa t.ow.length oc), (.slice na t.nx.length nc)]), (.int .i64 ((s : Nat) : Int)), (.int .i64 ((c : Nat) : Int))]) Try.func37 nm37 bd37 rfl) (at_c _ t _ s c b (h0.ext E) hb hg.nl (by omega)) ?_
  rintro _ w19 ⟨rfl, X19⟩
  replace Bt := X19.keep Bt
  replace E := E.ext X19
  refine WpL_val rfl rfl (by decide) (r_assign (v := (.int .i64 (atT t.ow t.nx t.bs s c))) rfl) ?_
  refine WpL_val rfl rfl (by decide) (r_assign (v := (.int .i64 0)) rfl) ?_
  refine WpL_nil ?_
  refine Wp_ret ?_
  refine fin_tmp2 Try.results11 (v := (.int .i64 (atT t.ow t.nx t.bs s c))) (v' := (.int .i64 0)) rfl rfl ?_
  exact ⟨rfl, E⟩
def evenD : Dfa := ⟨0, [0, -1], [[1], [0]]⟩
theorem even_c (w0 : World) : Ret Try.prog 8 #[] w0 fun r w => (∃ vs, r = .agg vs.toArray ∧ DfaAt w evenD vs) ∧ Ext w0 w := by
  refine Ret_of Try.func8 rfl Try.ntmps8 (Nat.le_of_ble_eq_true rfl) ?_
  have E : Chg none1 w0 w0 := Chg.refl _ _
  refine Wp_seq_region ?_
  refine s_alloc (c := #[(.int .i64 0), (.slice none 0 0), (.slice none 0 0)]) (by decide) zer30 rfl ?_
  intro bt wt Nt
  have Ft := Nt.ge E
  replace E := E.ext Nt.ext
  have Bt := Nt.blk
  refine WpL_nil ?_
  refine Wp_seq_region ?_
  refine s_buildSlice (ps := [(0, (.int .i64 0)), (1, (.int .i64 (-1)))]) (c := #[(.int .i64 0), (.int .i64 (-1))]) (by decide) rfl Try.underlying22 siz3 zer3 (by decide) (by decide) (by kernel_rfl) ?_
  intro ba wa Na
  have Fa := Na.ge E
  have Oa_bt := Na.lt Bt
  replace Bt := Na.keep Bt
  replace E := E.ext Na.ext
  have Ba := Na.blk
  refine s_buildSlice (ps := [(0, (.int .i64 1))]) (c := #[(.int .i64 1)]) (by decide) rfl Try.underlying22 siz3 zer3 (by decide) (by decide) (by kernel_rfl) ?_
  intro bp wp Np
  have Fp := Np.ge E
  have Op_bt := Np.lt Bt
  have Op_ba := Np.lt Ba
  replace Bt := Np.keep Bt
  replace Ba := Np.keep Ba
  replace E := E.ext Np.ext
  have Bp := Np.blk
  refine s_buildSlice (ps := [(0, (.int .i64 0))]) (c := #[(.int .i64 0)]) (by decide) rfl Try.underlying22 siz3 zer3 (by decide) (by decide) (by kernel_rfl) ?_
  intro bq wq Nq
  have Fq := Nq.ge E
  have Oq_bt := Nq.lt Bt
  have Oq_ba := Nq.lt Ba
  have Oq_bp := Nq.lt Bp
  replace Bt := Nq.keep Bt
  replace Ba := Nq.keep Ba
  replace Bp := Nq.keep Bp
  replace E := E.ext Nq.ext
  have Bq := Nq.blk
  refine s_buildSlice (ps := [(0, (.slice (some ⟨bp, 0, none⟩) 1 1)), (1, (.slice (some ⟨bq, 0, none⟩) 1 1))]) (c := #[(.slice (some ⟨bp, 0, none⟩) 1 1), (.slice (some ⟨bq, 0, none⟩) 1 1)]) (by decide) rfl Try.underlying28 siz22 zer22 (by decide) (by decide) (by kernel_rfl) ?_
  intro bn wn Nn
  have Fn := Nn.ge E
  have On_bt := Nn.lt Bt
  have On_ba := Nn.lt Ba
  have On_bp := Nn.lt Bp
  have On_bq := Nn.lt Bq
  replace Bt := Nn.keep Bt
  replace Ba := Nn.keep Ba
  replace Bp := Nn.keep Bp
  replace Bq := Nn.keep Bq
  replace E := E.ext Nn.ext
  have Bn := Nn.blk
  refine WpL_val rfl rfl (by decide) (r_build (ps := [(1, (.slice (some ⟨ba, 0, none⟩) 2 2)), (2, (.slice (some ⟨bn, 0, none⟩) 2 2))]) (v := (.agg #[(.int .i64 0), (.slice (some ⟨ba, 0, none⟩) 2 2), (.slice (some ⟨bn, 0, none⟩) 2 2)])) rfl (by kernel_rfl)) ?_
  refine s_storeAgg (b := bt) (o := 0) (c' := #[(.int .i64 0), (.slice (some ⟨ba, 0, none⟩) 2 2), (.slice (some ⟨bn, 0, none⟩) 2 2)]) rfl rfl (by simp [Value.oneCell']) siz30 rfl Bt (by simp) rfl ?_
  intro w1 S1
  replace Ba := S1.keep (by omega) Ba
  replace Bp := S1.keep (by omega) Bp
  replace Bq := S1.keep (by omega) Bq
  replace Bn := S1.keep (by omega) Bn
  replace E := S1.step E (by first | exact Or.inl (by omega) | exact Or.inr rfl | exact Or.inr (by assumption) | exact Or.inr (by simp) | exact Or.inr (by omega) | exact Or.inr (by dsimp only; omega))
  replace Bt := S1.blk
  refine WpL_nil ?_
  refine Wp_ret ?_
  refine fin_agg Try.results8 (vs := [(.int .i64 0), (.slice (some ⟨ba, 0, none⟩) 2 2), (.slice (some ⟨bn, 0, none⟩) 2 2)]) (b := bt) rfl agg30 siz30 rfl (Bt.cells rfl) ?_
  refine ⟨⟨_, rfl, ?_⟩, E⟩
  refine ⟨_, _, _, _, rfl, ints_own (l := [0, -1]) (rest := []) Ba (by decide) (by decide), [.slice (some ⟨bp, 0, none⟩) 1 1, .slice (some ⟨bq, 0, none⟩) 1 1], ⟨_, _, rfl, by simp, by simp, .inr ⟨bn, 0, rfl, ?_⟩⟩, rfl, ?_⟩
  · intro i r hr
    rcases i with _ | _ | i
    · simp at hr; subst hr
      intro j u hu
      cases j with
      | zero => simp at hu; subst hu; exact Bn.cell rfl
      | succ j => simp at hu
    · simp at hr; subst hr
      intro j u hu
      cases j with
      | zero => simp at hu; subst hu; exact Bn.cell rfl
      | succ j => simp at hu
    · simp at hr
  · intro i u l hu hl
    rcases i with _ | _ | i
    · simp [evenD] at hu hl; subst hu; subst hl; exact ints_own (l := [1]) (rest := []) Bp (by decide) (by decide)
    · simp [evenD] at hu hl; subst hu; subst hl; exact ints_own (l := [0]) (rest := []) Bq (by decide) (by decide)
    · simp at hu
end Go.Proofs
