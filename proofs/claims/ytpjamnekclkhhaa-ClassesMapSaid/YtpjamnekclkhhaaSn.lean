/- The law RunesetTells, walked. -/
import Derived.Test.YtpjamnekclkhhaaSi
import Derived.Test.YtpjamnekclkhhaaSm
namespace Go.Proofs
open Go Go.Eng Go.Sort
set_option maxRecDepth 100000

theorem sp_c (w0 : World) (lo hi : Int) : Ret Try.prog 72 #[.int .i64 lo, .int .i64 hi] w0 fun v w => v = .agg #[.int .i64 lo, .int .i64 hi] ∧ Ext w0 w := by
  refine Ret_of Try.func72 rfl Try.ntmps72 (Nat.le_of_ble_eq_true rfl) ?_
  have E : Chg none1 w0 w0 := Chg.refl _ _
  refine Wp_seq_region ?_
  refine s_alloc (c := #[(.int .i64 0), (.int .i64 0)]) (by decide) zer37 rfl ?_
  intro b1 w1 N1
  have F1 := N1.ge E
  replace E := E.ext N1.ext
  have B1 := N1.blk
  refine WpL_nil ?_
  refine Wp_seq_region ?_
  refine WpL_val rfl rfl (by decide) (r_move (v := (.int .i64 lo)) rfl) ?_
  refine WpL_val rfl rfl (by decide) (r_move (v := (.int .i64 hi)) rfl) ?_
  refine WpL_val rfl rfl (by decide) (r_build (ps := [(0, (.int .i64 lo)), (1, (.int .i64 hi))]) (v := (.agg #[(.int .i64 lo), (.int .i64 hi)])) rfl (by kernel_rfl)) ?_
  refine s_storeAgg (b := b1) (o := 0) (c' := #[(.int .i64 lo), (.int .i64 hi)]) rfl rfl (by simp [Value.oneCell']) siz37 rfl B1 (by simp) rfl ?_
  intro w2 S2
  replace E := S2.step E (by first | exact Or.inl (by omega) | exact Or.inr rfl | exact Or.inr (by assumption) | exact Or.inr (by simp) | exact Or.inr (by omega) | exact Or.inr (by dsimp only; omega))
  replace B1 := S2.blk
  refine WpL_nil ?_
  refine Wp_ret ?_
  refine fin_agg Try.results72 (vs := [(.int .i64 lo), (.int .i64 hi)]) (b := b1) rfl agg37 siz37 rfl (B1.cells rfl) ?_
  exact ⟨rfl, E⟩
theorem canon_two {a b c d : Int} (h1 : 0 ≤ a) (h2 : a ≤ b) (h3 : b + 2 ≤ c) (h4 : c ≤ d) (h5 : d ≤ 1114111) : Canon [(a, b), (c, d)] :=
  Canon.cons ⟨h1, h2, by show b ≤ 1114111; omega⟩ (fun t ht => by rw [List.mem_singleton] at ht; subst ht; exact h3) (Canon.one ⟨by show 0 ≤ c; omega, h4, h5⟩)
theorem begun_eq {u : List Sp} (h : IsSet u (fun r => inS [(1, 2)] r || inS [(3, 4), (9, 9)] r)) : u = [(1, 4), (9, 9)] :=
  canon_ext h.1 (canon_two (by decide) (by decide) (by decide) (by decide) (by decide)) fun r r0 r1 => by
    rw [h.2 r r0 r1, Bool.eq_iff_iff]
    simp only [inS_cons, inS_nil, Bool.or_false, Bool.or_eq_true, Bool.and_eq_true, decide_eq_true_eq]
    omega
theorem rbegun_c (w0 : World) : Ret Try.prog 32 #[] w0 fun v w => v = .bool true ∧ Ext w0 w := by
  refine Ret_of Try.func32 rfl Try.ntmps32 (Nat.le_of_ble_eq_true rfl) ?_
  have E : Chg none1 w0 w0 := Chg.refl _ _
  refine Wp_seq_region ?_
  refine WpL_val rfl rfl (by decide) (r_assign (v := (.bool false)) rfl) ?_
  refine WpL_nil ?_
  refine Wp_seq_region ?_
  refine WpL_enter rfl rfl (by decide) (r_callF (vs := [(.int .i64 1), (.int .i64 2)]) Try.func72 nm72 bd72 rfl) (sp_c _ 1 2) ?_
  rintro _ w1 ⟨rfl, X1⟩
  replace E := E.ext X1
  refine s_buildSlice (ps := [(0, (.agg #[(.int .i64 1), (.int .i64 2)]))]) (c := #[(.int .i64 1), (.int .i64 2)]) (by decide) rfl Try.underlying23 siz37 zer37 (by decide) (by decide) (by kernel_rfl) ?_
  intro bq wq Nq
  have Fq := Nq.ge E
  replace E := E.ext Nq.ext
  have Bq := Nq.blk
  refine WpL_enter rfl rfl (by decide) (r_callF (vs := [(.int .i64 3), (.int .i64 4)]) Try.func72 nm72 bd72 rfl) (sp_c _ 3 4) ?_
  rintro _ w2 ⟨rfl, X2⟩
  replace Bq := X2.keep Bq
  replace E := E.ext X2
  refine WpL_enter rfl rfl (by decide) (r_callF (vs := [(.int .i64 9), (.int .i64 9)]) Try.func72 nm72 bd72 rfl) (sp_c _ 9 9) ?_
  rintro _ w3 ⟨rfl, X3⟩
  replace Bq := X3.keep Bq
  replace E := E.ext X3
  refine s_buildSlice (ps := [(0, (.agg #[(.int .i64 3), (.int .i64 4)])), (1, (.agg #[(.int .i64 9), (.int .i64 9)]))]) (c := #[(.int .i64 3), (.int .i64 4), (.int .i64 9), (.int .i64 9)]) (by decide) rfl Try.underlying23 siz37 zer37 (by decide) (by decide) (by kernel_rfl) ?_
  intro bt wt Nt
  have Ft := Nt.ge E
  have Ot_bq := Nt.lt Bq
  replace Bq := Nt.keep Bq
  replace E := E.ext Nt.ext
  have Bt := Nt.blk
  refine WpL_enter rfl rfl (by decide) (r_callF (vs := [(.slice (some ⟨bq, 0, none⟩) 1 1), (.slice (some ⟨bt, 0, none⟩) 2 2)]) Try.func21 nm21 bd21 rfl) ((union_ok _ _ _ [(1, 2)] [(3, 4), (9, 9)] (spans_of_blk [(1, 2)] Bq (by simp) (by simp)) (spans_of_blk [(3, 4), (9, 9)] Bt (by simp) (by simp)) (Canon.one (by unfold vSp; simp)) (canon_two (by decide) (by decide) (by decide) (by decide) (by decide)) (by simp)).mono (fun v w h => (by obtain ⟨⟨u, h1, _, h2⟩, h3⟩ := h; rw [begun_eq h1] at h2; exact ⟨h2, h3⟩ : OkRes w v [(1, 4), (9, 9)] ∧ Ext _ w))) ?_
  rintro _ w4 ⟨⟨ua, uc, rfl, hu⟩, X4⟩
  replace Bq := X4.keep Bq
  replace Bt := X4.keep Bt
  replace E := E.ext X4
  refine WpL_val rfl rfl (by decide) (r_move (v := (.tuple #[(.slice ua 2 uc), (.int .i64 0)])) rfl) ?_
  refine WpL_val rfl rfl (by decide) (r_extract (vs := #[(.slice ua 2 uc), (.int .i64 0)]) (v := (.slice ua 2 uc)) rfl rfl) ?_
  refine WpL_val rfl rfl (by decide) (r_extract (vs := #[(.slice ua 2 uc), (.int .i64 0)]) (v := (.int .i64 0)) rfl rfl) ?_
  refine WpL_val rfl rfl (by decide) (r_assign (v := (.slice ua 2 uc)) rfl) ?_
  refine WpL_val rfl rfl (by decide) (r_assign (v := (.int .i64 0)) rfl) ?_
  refine WpL_nil ?_
  refine Wp_seq_region ?_
  refine WpL_val rfl rfl (by decide) (r_move (v := (.slice ua 2 uc)) rfl) ?_
  refine WpL_enter rfl rfl (by decide) (r_callF (vs := [(.slice ua 2 uc)]) Try.func24 nm24 bd24 rfl) (size_ok _ _ [(1, 4), (9, 9)] hu (canon_two (by decide) (by decide) (by decide) (by decide) (by decide)) (by simp)) ?_
  rintro _ w5 ⟨rfl, X5⟩
  replace Bq := X5.keep Bq
  replace Bt := X5.keep Bt
  replace E := E.ext X5
  refine WpL_val rfl rfl (by decide) (r_move (v := (.tuple #[(.int .i64 5), (.int .i64 0)])) rfl) ?_
  refine WpL_val rfl rfl (by decide) (r_extract (vs := #[(.int .i64 5), (.int .i64 0)]) (v := (.int .i64 5)) rfl rfl) ?_
  refine WpL_val rfl rfl (by decide) (r_extract (vs := #[(.int .i64 5), (.int .i64 0)]) (v := (.int .i64 0)) rfl rfl) ?_
  refine WpL_val rfl rfl (by decide) (r_assign (v := (.int .i64 5)) rfl) ?_
  refine WpL_val rfl rfl (by decide) (r_assign (v := (.int .i64 0)) rfl) ?_
  refine WpL_nil ?_
  refine Wp_seq_region ?_
  refine WpL_val rfl rfl (by decide) (r_move (v := (.int .i64 0)) rfl) ?_
  refine WpL_val rfl rfl (by decide) (r_eql (k := .i64) (a := 0) (b := 0) rfl rfl) ?_
  refine WpL_val rfl rfl (by decide) (r_move (v := (.bool true)) rfl) ?_
  refine WpL_guard_yes (oj := _) rfl rfl (by decide) rfl ?_
  refine WpL_val rfl rfl (by decide) (r_move (v := (.int .i64 0)) rfl) ?_
  refine WpL_guard_yes (oj := _) rfl rfl (by decide) rfl ?_
  refine WpL_val rfl rfl (by decide) (r_eql (k := .i64) (a := 0) (b := 0) rfl rfl) ?_
  refine WpL_val rfl rfl (by decide) (r_pick (b := true) (v := (.bool true)) rfl rfl) ?_
  refine WpL_val rfl rfl (by decide) (r_move (v := (.bool true)) rfl) ?_
  refine WpL_guard_yes (oj := _) rfl rfl (by decide) rfl ?_
  refine WpL_val rfl rfl (by decide) (r_move (v := (.int .i64 5)) rfl) ?_
  refine WpL_guard_yes (oj := _) rfl rfl (by decide) rfl ?_
  refine WpL_val rfl rfl (by decide) (r_eql (k := .i64) (a := 5) (b := 5) rfl rfl) ?_
  refine WpL_val rfl rfl (by decide) (r_pick (b := true) (v := (.bool true)) rfl rfl) ?_
  refine WpL_val rfl rfl (by decide) (r_move (v := (.bool true)) rfl) ?_
  refine WpL_guard_yes (oj := _) rfl rfl (by decide) rfl ?_
  refine WpL_val rfl rfl (by decide) (r_move (v := (.slice ua 2 uc)) rfl) ?_
  refine WpL_guard_yes (oj := _) rfl rfl (by decide) rfl ?_
  refine WpL_enter rfl rfl (by decide) (r_callF (vs := [(.int .i64 1), (.int .i64 4)]) Try.func72 nm72 bd72 rfl) (sp_c _ 1 4) ?_
  rintro _ w6 ⟨rfl, X6⟩
  replace Bq := X6.keep Bq
  replace Bt := X6.keep Bt
  replace E := E.ext X6
  refine WpL_guard_yes (oj := _) rfl rfl (by decide) rfl ?_
  refine WpL_enter rfl rfl (by decide) (r_callF (vs := [(.int .i64 9), (.int .i64 9)]) Try.func72 nm72 bd72 rfl) (sp_c _ 9 9) ?_
  rintro _ w7 ⟨rfl, X7⟩
  replace Bq := X7.keep Bq
  replace Bt := X7.keep Bt
  replace E := E.ext X7
  refine WpL_guard_yes (oj := _) rfl rfl (by decide) rfl ?_
  refine s_buildSlice (ps := [(0, (.agg #[(.int .i64 1), (.int .i64 4)])), (1, (.agg #[(.int .i64 9), (.int .i64 9)]))]) (c := #[(.int .i64 1), (.int .i64 4), (.int .i64 9), (.int .i64 9)]) (by decide) rfl Try.underlying23 siz37 zer37 (by decide) (by decide) (by kernel_rfl) ?_
  intro bz wz Nz
  have Fz := Nz.ge E
  have Oz_bq := Nz.lt Bq
  have Oz_bt := Nz.lt Bt
  replace Bq := Nz.keep Bq
  replace Bt := Nz.keep Bt
  replace E := E.ext Nz.ext
  have Bz := Nz.blk
  refine WpL_guard_yes (oj := _) rfl rfl (by decide) rfl ?_
  refine WpL_enter rfl rfl (by decide) (r_callF (vs := [(.slice ua 2 uc), (.slice (some ⟨bz, 0, none⟩) 2 2)]) Try.func30 nm30 bd30 rfl) ((rspeq_c _ _ _ _ _ (((hu.ext X5).ext X6).ext X7 |>.ext Nz.ext) (spans_of_blk [(1, 4), (9, 9)] Bz (by simp) (by simp))).mono (fun v w h => (⟨h.1.trans (bool_eq (by decide)), h.2⟩ : v = .bool true ∧ Ext _ w))) ?_
  rintro _ w8 ⟨rfl, X8⟩
  replace Bq := X8.keep Bq
  replace Bt := X8.keep Bt
  replace Bz := X8.keep Bz
  replace E := E.ext X8
  refine WpL_val rfl rfl (by decide) (r_pick (b := true) (v := (.bool true)) rfl rfl) ?_
  refine WpL_val rfl rfl (by decide) (r_assign (v := (.bool true)) rfl) ?_
  refine WpL_nil ?_
  refine Wp_ret ?_
  refine fin_tmp Try.results32 (v := (.bool true)) rfl ?_
  exact ⟨rfl, E⟩
theorem req_ok (w0 : World) (v1 v2 : Value) (l : List Sp) (h1 : SpansAt w0 v1 l) (h2 : SpansAt w0 v2 l) : Ret Try.prog 30 #[v1, v2] w0 fun v w => v = .bool true ∧ Ext w0 w :=
  (rspeq_c w0 v1 v2 l l h1 h2).mono fun v w ⟨h3, h4⟩ => ⟨by rw [h3]; simp, h4⟩
theorem uniP.two {a b out : List Sp} {e : Int} (h : uniP a b out e) : comb2P (fun r => inS a r || inS b r) a b out e := h.imp id fun ⟨h1, j, h2, _, h3⟩ => ⟨h1, j, h2, h3⟩
theorem bothP.two {f : Int → Bool} {n : Nat} {a b out : List Sp} {e : Int} (h : bothP f n a b out e) : comb2P f a b out e := h.imp id fun ⟨h1, j, h2, _, h3⟩ => ⟨h1, j, h2, h3⟩
set_option maxHeartbeats 8000000 in
theorem rtells_c (w0 : World) (u v : Value) (a b : List Sp) (r : Int) (ha : SpansAt w0 u a) (hb : SpansAt w0 v b) (hl : a.length ≤ 8796093022200) :
    Ret Try.prog 6 #[u, v, .int .i64 r] w0 fun v w => v = .bool true ∧ Ext w0 w := by
  obtain ⟨aa, ac, rfl⟩ := SlAt.form ha
  simp only [List.length_map] at ha ⊢
  obtain ⟨hv, hhv⟩ : ∃ x, x = (hasV a r).1 := ⟨_, rfl⟩
  obtain ⟨he, hhe⟩ : ∃ x, x = (hasV a r).2 := ⟨_, rfl⟩
  obtain ⟨sz, hsz⟩ : ∃ x, x = (sizeV a).1 := ⟨_, rfl⟩
  obtain ⟨sf, hsf⟩ : ∃ x, x = (sizeV a).2 := ⟨_, rfl⟩
  refine Ret_of Try.func6 rfl Try.ntmps6 (Nat.le_of_ble_eq_true rfl) ?_
  have E : Chg none1 w0 w0 := Chg.refl _ _
  refine Wp_seq_region ?_
  refine WpL_val rfl rfl (by decide) (r_assign (v := (.bool false)) rfl) ?_
  refine WpL_nil ?_
  refine Wp_seq ?_
  refine Wp_seq_region ?_
  refine WpL_enter rfl rfl (by decide) (r_callF (vs := []) Try.func32 nm32 bd32 rfl) (rbegun_c _) ?_
  rintro _ w1 ⟨rfl, X1⟩
  replace E := E.ext X1
  refine WpL_val rfl rfl (by decide) (r_not (b := true) rfl) ?_
  refine WpL_val rfl rfl (by decide) (r_move (v := (.bool false)) rfl) ?_
  refine WpL_guard_yes (oj := _) rfl rfl (by decide) rfl ?_
  refine WpL_val rfl rfl (by decide) (r_move (v := (.slice aa a.length ac)) rfl) ?_
  refine WpL_guard_yes (oj := _) rfl rfl (by decide) rfl ?_
  refine WpL_enter rfl rfl (by decide) (r_callF (vs := [(.slice aa a.length ac)]) Try.func33 nm33 bd33 rfl) (rcheck_c _ _ a (ha.ext E)) ?_
  rintro _ w2 ⟨rfl, X2⟩
  replace E := E.ext X2
  refine WpL_guard_yes (oj := _) rfl rfl (by decide) rfl ?_
  refine WpL_val rfl rfl (by decide) (r_move (v := (.slice aa a.length ac)) rfl) ?_
  refine WpL_guard_yes (oj := _) rfl rfl (by decide) rfl ?_
  refine WpL_enter rfl rfl (by decide) (r_callF (vs := [(.slice aa a.length ac)]) Try.func34 nm34 bd34 rfl) (cset_c _ _ a (ha.ext E)) ?_
  rintro _ w3 ⟨rfl, X3⟩
  replace E := E.ext X3
  have hk1 : decide ((checkE a : Int) ≠ checkE a) = false := by simp
  refine WpL_guard_yes (oj := _) rfl rfl (by decide) rfl ?_
  refine WpL_val rfl rfl (by decide) (r_neq (k := .i64) (a := checkE a) (b := checkE a) rfl rfl) ?_
  refine WpL_val rfl rfl (by decide) (r_pick (b := false) (v := (.bool (decide ((checkE a : Int) ≠ checkE a)))) rfl rfl) ?_
  refine WpL_nil ?_
  refine Wp_cond_false (congrArg Value.bool hk1) ?_
  refine Wp_skip ?_
  refine thn_normal ?_
  refine Wp_seq_region ?_
  refine WpL_val rfl rfl (by decide) (r_move (v := (.slice aa a.length ac)) rfl) ?_
  refine WpL_enter rfl rfl (by decide) (r_callF (vs := [(.slice aa a.length ac)]) Try.func35 nm35 bd35 rfl) (norm_c _ _ a (ha.ext E) (by omega)) ?_
  rintro _ w4 ⟨⟨on, en, pn, na, nc, rfl, hn⟩, X4⟩
  replace E := E.ext X4
  refine WpL_val rfl rfl (by decide) (r_move (v := (.tuple #[(.slice na on.length nc), (.int .i64 en)])) rfl) ?_
  refine WpL_val rfl rfl (by decide) (r_extract (vs := #[(.slice na on.length nc), (.int .i64 en)]) (v := (.slice na on.length nc)) rfl rfl) ?_
  refine WpL_val rfl rfl (by decide) (r_extract (vs := #[(.slice na on.length nc), (.int .i64 en)]) (v := (.int .i64 en)) rfl rfl) ?_
  refine WpL_val rfl rfl (by decide) (r_assign (v := (.slice na on.length nc)) rfl) ?_
  refine WpL_val rfl rfl (by decide) (r_assign (v := (.int .i64 en)) rfl) ?_
  refine WpL_nil ?_
  refine Wp_seq_region ?_
  refine WpL_val rfl rfl (by decide) (r_move (v := (.slice aa a.length ac)) rfl) ?_
  refine WpL_enter rfl rfl (by decide) (r_callF (vs := [(.slice aa a.length ac)]) Try.func36 nm36 bd36 rfl) ((nset_c _ _ a (ha.ext E) hl).mono (fun v w h => (by obtain ⟨⟨o2, e2, p2, h2⟩, h3⟩ := h; obtain ⟨rfl, rfl⟩ := pn.two.uniq p2; exact ⟨h2, h3⟩ : SetRes w v on en ∧ Ext _ w))) ?_
  rintro _ w5 ⟨⟨ma, mc, rfl, hm⟩, X5⟩
  replace E := E.ext X5
  have hk2 : decide ((en : Int) ≠ en) = false := by simp
  refine WpL_val rfl rfl (by decide) (r_move (v := (.tuple #[(.slice ma on.length mc), (.int .i64 en)])) rfl) ?_
  refine WpL_val rfl rfl (by decide) (r_extract (vs := #[(.slice ma on.length mc), (.int .i64 en)]) (v := (.slice ma on.length mc)) rfl rfl) ?_
  refine WpL_val rfl rfl (by decide) (r_extract (vs := #[(.slice ma on.length mc), (.int .i64 en)]) (v := (.int .i64 en)) rfl rfl) ?_
  refine WpL_val rfl rfl (by decide) (r_assign (v := (.slice ma on.length mc)) rfl) ?_
  refine WpL_val rfl rfl (by decide) (r_assign (v := (.int .i64 en)) rfl) ?_
  refine WpL_nil ?_
  refine Wp_seq ?_
  refine Wp_seq_region ?_
  refine WpL_val rfl rfl (by decide) (r_move (v := (.int .i64 en)) rfl) ?_
  refine WpL_val rfl rfl (by decide) (r_move (v := (.int .i64 en)) rfl) ?_
  refine WpL_val rfl rfl (by decide) (r_neq (k := .i64) (a := en) (b := en) rfl rfl) ?_
  refine WpL_val rfl rfl (by decide) (r_move (v := (.bool (decide ((en : Int) ≠ en)))) rfl) ?_
  refine WpL_guard_yes (oj := _) rfl rfl (by decide) (congrArg Value.bool hk2) ?_
  refine WpL_val rfl rfl (by decide) (r_move (v := (.slice na on.length nc)) rfl) ?_
  refine WpL_guard_yes (oj := _) rfl rfl (by decide) (congrArg Value.bool hk2) ?_
  refine WpL_val rfl rfl (by decide) (r_move (v := (.slice ma on.length mc)) rfl) ?_
  refine WpL_guard_yes (oj := _) rfl rfl (by decide) (congrArg Value.bool hk2) ?_
  refine WpL_enter rfl rfl (by decide) (r_callF (vs := [(.slice na on.length nc), (.slice ma on.length mc)]) Try.func30 nm30 bd30 rfl) (req_ok _ _ _ on (hn.ext X5) hm) ?_
  rintro _ w6 ⟨rfl, X6⟩
  replace E := E.ext X6
  refine WpL_guard_yes (oj := _) rfl rfl (by decide) (congrArg Value.bool hk2) ?_
  refine WpL_val rfl rfl (by decide) (r_not (b := true) rfl) ?_
  refine WpL_val rfl rfl (by decide) (r_pick (b := decide ((en : Int) ≠ en)) (v := (.bool false)) rfl (by rw [hk2]; rfl)) ?_
  refine WpL_nil ?_
  refine Wp_cond_false rfl ?_
  refine Wp_skip ?_
  refine thn_normal ?_
  refine Wp_seq ?_
  refine Wp_seq_region ?_
  refine s_buildSlice (ps := [(0, (.func (.func 21) #[] #[])), (1, (.func (.func 22) #[] #[])), (2, (.func (.func 23) #[] #[]))]) (c := #[(.func (.func 21) #[] #[]), (.func (.func 22) #[] #[]), (.func (.func 23) #[] #[])]) (by decide) rfl Try.underlying49 siz40 zer40 (by decide) (by decide) (by kernel_rfl) ?_
  intro bl wl Nl
  have Fl := Nl.ge E
  replace E := E.ext Nl.ext
  have Bl := Nl.blk
  refine WpL_val rfl rfl (by decide) (r_lenSlice (ad := some ⟨bl, 0, none⟩) (n := 3) (cap := 3) Try.underlying49 rfl) ?_
  refine WpL_val rfl rfl (by decide) (r_move (v := (.int .i64 0)) rfl) ?_
  refine WpL_nil ?_
  refine Wp_block ?_
  refine Wp_loop (fun nn_ σ W1 => ∃ (k : Nat), (∃ jj_, σ = upds jj_ [(0, (.slice aa a.length ac)), (1, v), (2, (.int .i64 r)), (52, (.slice (some ⟨bl, 0, none⟩) 3 3)), (53, (.int .i64 3)), (54, (.int .i64 ((k : Nat) : Int)))]) ∧ Chg none1 w0 W1 ∧ Blk W1 bl #[(.func (.func 21) #[] #[]), (.func (.func 22) #[] #[]), (.func (.func 23) #[] #[])] 40 ∧ (k ≤ 3) ∧ nn_ = 3 - k) (n := 3 - 0) ?_ ?_
  · exact ⟨0, Fits.out ⟨rfl, rfl, rfl, rfl, rfl, rfl, trivial⟩, E, Bl, (by omega), rfl⟩
  · clear E Bl
    rintro _ _ W1 ⟨k, ⟨j1, rfl⟩, E, Bl, hk, rfl⟩
    refine Wp_seq_region ?_
    refine WpL_val rfl rfl (by decide) (r_lss (k := .i64) (a := ((k : Nat) : Int)) (b := 3) rfl rfl) ?_
    refine WpL_nil ?_
    refine Wp_seq ?_
    refine Wp_cond (b := decide ((((k : Nat) : Int) : Int) < 3)) rfl (fun hlt => ?_) (fun hlt => ?_)
    · have khlt := hlt
      replace hlt := of_decide_eq_true hlt
      rcases Bool.eq_false_or_eq_true (decide (k = 0)) with hz0 | hz0
      · have khz0 := hz0
        replace khz0 := of_decide_eq_true khz0
        refine Wp_skip ?_
        refine thn_normal ?_
        refine Wp_seq ?_
        refine Wp_block ?_
        refine Wp_seq_region ?_
        refine WpL_val rfl rfl (by decide) (r_move (v := (.int .i64 ((k : Nat) : Int))) rfl) ?_
        refine WpL_val rfl rfl (by decide) (r_indexSlice (b := bl) (o := 0) (len := 3) (cap := 3) (i := k) (o' := 0 + k) rfl rfl rfl Try.underlying49 siz40 (by omega) (by omega)) ?_
        refine WpL_val rfl rfl (by decide) (r_load (v := (.func (.func 21) #[] #[])) rfl flat40 (Bl.cell (by rw [khz0]; rfl))) ?_
        refine WpL_val rfl rfl (by decide) (r_assign (v := (.int .i64 ((k : Nat) : Int))) rfl) ?_
        refine WpL_val rfl rfl (by decide) (r_assign (v := (.func (.func 21) #[] #[])) rfl) ?_
        refine WpL_nil ?_
        refine Wp_seq_region ?_
        refine WpL_val rfl rfl (by decide) (r_move (v := (.func (.func 21) #[] #[])) rfl) ?_
        refine WpL_val rfl rfl (by decide) (r_move (v := (.slice aa a.length ac)) rfl) ?_
        refine WpL_val rfl rfl (by decide) (r_move (v := v) rfl) ?_
        refine WpL_enter rfl rfl (by decide) (r_callV (first := #[]) (cap := #[]) (vs := [(.slice aa a.length ac), v]) (ws := #[(.slice aa a.length ac), v]) rfl Try.func21 nm21 bd21 rfl rfl) (union_c _ _ _ a b (ha.ext E) (hb.ext E)) ?_
        rintro _ w41 ⟨⟨o1, e1, p1, xa, xc, rfl, hx⟩, X41⟩
        replace Bl := X41.keep Bl
        replace E := E.ext X41
        refine WpL_val rfl rfl (by decide) (r_move (v := (.tuple #[(.slice xa o1.length xc), (.int .i64 e1)])) rfl) ?_
        refine WpL_val rfl rfl (by decide) (r_extract (vs := #[(.slice xa o1.length xc), (.int .i64 e1)]) (v := (.slice xa o1.length xc)) rfl rfl) ?_
        refine WpL_val rfl rfl (by decide) (r_extract (vs := #[(.slice xa o1.length xc), (.int .i64 e1)]) (v := (.int .i64 e1)) rfl rfl) ?_
        refine WpL_val rfl rfl (by decide) (r_assign (v := (.slice xa o1.length xc)) rfl) ?_
        refine WpL_val rfl rfl (by decide) (r_assign (v := (.int .i64 e1)) rfl) ?_
        refine WpL_nil ?_
        refine Wp_seq_region ?_
        refine WpL_val rfl rfl (by decide) (r_move (v := (.int .i64 ((k : Nat) : Int))) rfl) ?_
        refine WpL_val rfl rfl (by decide) (r_add (k := .i64) (a := ((k : Nat) : Int)) (b := 1) (c := ((k : Nat) : Int) + 1) rfl rfl (wI64 (by omega))) ?_
        refine WpL_val rfl rfl (by decide) (r_move (v := (.slice aa a.length ac)) rfl) ?_
        refine WpL_val rfl rfl (by decide) (r_move (v := v) rfl) ?_
        refine WpL_enter rfl rfl (by decide) (r_callF (vs := [(.int .i64 (((k : Nat) : Int) + 1)), (.slice aa a.length ac), v]) Try.func37 nm37 bd37 rfl) ((combine_c _ (((k : Nat) : Int) + 1) _ _ a b (ha.ext E) (hb.ext E)).mono (fun v w h => (by obtain ⟨⟨o2, e2, p2, h2⟩, h3⟩ := h; obtain ⟨rfl, rfl⟩ := comb2P.uniq p1.two p2 (fun r => by rw [khz0]; unfold combF; simp); exact ⟨h2, h3⟩ : SetRes w v o1 e1 ∧ Ext _ w))) ?_
        rintro _ w42 ⟨⟨ya, yc, rfl, hy⟩, X42⟩
        replace Bl := X42.keep Bl
        replace E := E.ext X42
        have hne : decide ((e1 : Int) ≠ e1) = false := by simp
        refine WpL_val rfl rfl (by decide) (r_move (v := (.tuple #[(.slice ya o1.length yc), (.int .i64 e1)])) rfl) ?_
        refine WpL_val rfl rfl (by decide) (r_extract (vs := #[(.slice ya o1.length yc), (.int .i64 e1)]) (v := (.slice ya o1.length yc)) rfl rfl) ?_
        refine WpL_val rfl rfl (by decide) (r_extract (vs := #[(.slice ya o1.length yc), (.int .i64 e1)]) (v := (.int .i64 e1)) rfl rfl) ?_
        refine WpL_val rfl rfl (by decide) (r_assign (v := (.slice ya o1.length yc)) rfl) ?_
        refine WpL_val rfl rfl (by decide) (r_assign (v := (.int .i64 e1)) rfl) ?_
        refine WpL_nil ?_
        refine Wp_seq_region ?_
        refine WpL_val rfl rfl (by decide) (r_move (v := (.int .i64 e1)) rfl) ?_
        refine WpL_val rfl rfl (by decide) (r_move (v := (.int .i64 e1)) rfl) ?_
        refine WpL_val rfl rfl (by decide) (r_neq (k := .i64) (a := e1) (b := e1) rfl rfl) ?_
        refine WpL_val rfl rfl (by decide) (r_move (v := (.bool (decide ((e1 : Int) ≠ e1)))) rfl) ?_
        refine WpL_guard_yes (oj := _) rfl rfl (by decide) (congrArg Value.bool hne) ?_
        refine WpL_val rfl rfl (by decide) (r_move (v := (.slice xa o1.length xc)) rfl) ?_
        refine WpL_guard_yes (oj := _) rfl rfl (by decide) (congrArg Value.bool hne) ?_
        refine WpL_val rfl rfl (by decide) (r_move (v := (.slice ya o1.length yc)) rfl) ?_
        refine WpL_guard_yes (oj := _) rfl rfl (by decide) (congrArg Value.bool hne) ?_
        refine WpL_enter rfl rfl (by decide) (r_callF (vs := [(.slice xa o1.length xc), (.slice ya o1.length yc)]) Try.func30 nm30 bd30 rfl) (req_ok _ _ _ o1 (hx.ext X42) hy) ?_
        rintro _ w43 ⟨rfl, X43⟩
        replace Bl := X43.keep Bl
        replace E := E.ext X43
        refine WpL_guard_yes (oj := _) rfl rfl (by decide) (congrArg Value.bool hne) ?_
        refine WpL_val rfl rfl (by decide) (r_not (b := true) rfl) ?_
        refine WpL_val rfl rfl (by decide) (r_pick (b := decide ((e1 : Int) ≠ e1)) (v := (.bool false)) rfl (by rw [hne]; rfl)) ?_
        refine WpL_nil ?_
        refine Wp_cond_false rfl ?_
        refine Wp_skip ?_
        refine inB_normal ?_
        refine thn_normal ?_
        refine Wp_region ?_
        refine WpL_val rfl rfl (by decide) (r_add (k := .i64) (a := ((k : Nat) : Int)) (b := 1) (c := ((k : Nat) : Int) + 1) rfl rfl (wI64 (by omega))) ?_
        refine WpL_val rfl rfl (by decide) (r_move (v := (.int .i64 (((k : Nat) : Int) + 1))) rfl) ?_
        refine WpL_nil ?_
        refine thn_normal ?_
        exact ⟨3 - (k + 1), by omega, k + 1, Fits.out ⟨rfl, rfl, rfl, rfl, rfl, rfl, trivial⟩, E, Bl, (by omega), rfl⟩
      · have khz0 := hz0
        replace khz0 := of_decide_eq_false khz0
        rcases Bool.eq_false_or_eq_true (decide (k = 1)) with hz1 | hz1
        · have khz1 := hz1
          replace khz1 := of_decide_eq_true khz1
          refine Wp_skip ?_
          refine thn_normal ?_
          refine Wp_seq ?_
          refine Wp_block ?_
          refine Wp_seq_region ?_
          refine WpL_val rfl rfl (by decide) (r_move (v := (.int .i64 ((k : Nat) : Int))) rfl) ?_
          refine WpL_val rfl rfl (by decide) (r_indexSlice (b := bl) (o := 0) (len := 3) (cap := 3) (i := k) (o' := 0 + k) rfl rfl rfl Try.underlying49 siz40 (by omega) (by omega)) ?_
          refine WpL_val rfl rfl (by decide) (r_load (v := (.func (.func 22) #[] #[])) rfl flat40 (Bl.cell (by rw [khz1]; rfl))) ?_
          refine WpL_val rfl rfl (by decide) (r_assign (v := (.int .i64 ((k : Nat) : Int))) rfl) ?_
          refine WpL_val rfl rfl (by decide) (r_assign (v := (.func (.func 22) #[] #[])) rfl) ?_
          refine WpL_nil ?_
          refine Wp_seq_region ?_
          refine WpL_val rfl rfl (by decide) (r_move (v := (.func (.func 22) #[] #[])) rfl) ?_
          refine WpL_val rfl rfl (by decide) (r_move (v := (.slice aa a.length ac)) rfl) ?_
          refine WpL_val rfl rfl (by decide) (r_move (v := v) rfl) ?_
          refine WpL_enter rfl rfl (by decide) (r_callV (first := #[]) (cap := #[]) (vs := [(.slice aa a.length ac), v]) (ws := #[(.slice aa a.length ac), v]) rfl Try.func22 nm22 bd22 rfl rfl) (both_c _ _ _ a b (ha.ext E) (hb.ext E)) ?_
          rintro _ w41 ⟨⟨o1, e1, p1, xa, xc, rfl, hx⟩, X41⟩
          replace Bl := X41.keep Bl
          replace E := E.ext X41
          refine WpL_val rfl rfl (by decide) (r_move (v := (.tuple #[(.slice xa o1.length xc), (.int .i64 e1)])) rfl) ?_
          refine WpL_val rfl rfl (by decide) (r_extract (vs := #[(.slice xa o1.length xc), (.int .i64 e1)]) (v := (.slice xa o1.length xc)) rfl rfl) ?_
          refine WpL_val rfl rfl (by decide) (r_extract (vs := #[(.slice xa o1.length xc), (.int .i64 e1)]) (v := (.int .i64 e1)) rfl rfl) ?_
          refine WpL_val rfl rfl (by decide) (r_assign (v := (.slice xa o1.length xc)) rfl) ?_
          refine WpL_val rfl rfl (by decide) (r_assign (v := (.int .i64 e1)) rfl) ?_
          refine WpL_nil ?_
          refine Wp_seq_region ?_
          refine WpL_val rfl rfl (by decide) (r_move (v := (.int .i64 ((k : Nat) : Int))) rfl) ?_
          refine WpL_val rfl rfl (by decide) (r_add (k := .i64) (a := ((k : Nat) : Int)) (b := 1) (c := ((k : Nat) : Int) + 1) rfl rfl (wI64 (by omega))) ?_
          refine WpL_val rfl rfl (by decide) (r_move (v := (.slice aa a.length ac)) rfl) ?_
          refine WpL_val rfl rfl (by decide) (r_move (v := v) rfl) ?_
          refine WpL_enter rfl rfl (by decide) (r_callF (vs := [(.int .i64 (((k : Nat) : Int) + 1)), (.slice aa a.length ac), v]) Try.func37 nm37 bd37 rfl) ((combine_c _ (((k : Nat) : Int) + 1) _ _ a b (ha.ext E) (hb.ext E)).mono (fun v w h => (by obtain ⟨⟨o2, e2, p2, h2⟩, h3⟩ := h; obtain ⟨rfl, rfl⟩ := comb2P.uniq p1.two p2 (fun r => by rw [khz1]; unfold combF; simp); exact ⟨h2, h3⟩ : SetRes w v o1 e1 ∧ Ext _ w))) ?_
          rintro _ w42 ⟨⟨ya, yc, rfl, hy⟩, X42⟩
          replace Bl := X42.keep Bl
          replace E := E.ext X42
          have hne : decide ((e1 : Int) ≠ e1) = false := by simp
          refine WpL_val rfl rfl (by decide) (r_move (v := (.tuple #[(.slice ya o1.length yc), (.int .i64 e1)])) rfl) ?_
          refine WpL_val rfl rfl (by decide) (r_extract (vs := #[(.slice ya o1.length yc), (.int .i64 e1)]) (v := (.slice ya o1.length yc)) rfl rfl) ?_
          refine WpL_val rfl rfl (by decide) (r_extract (vs := #[(.slice ya o1.length yc), (.int .i64 e1)]) (v := (.int .i64 e1)) rfl rfl) ?_
          refine WpL_val rfl rfl (by decide) (r_assign (v := (.slice ya o1.length yc)) rfl) ?_
          refine WpL_val rfl rfl (by decide) (r_assign (v := (.int .i64 e1)) rfl) ?_
          refine WpL_nil ?_
          refine Wp_seq_region ?_
          refine WpL_val rfl rfl (by decide) (r_move (v := (.int .i64 e1)) rfl) ?_
          refine WpL_val rfl rfl (by decide) (r_move (v := (.int .i64 e1)) rfl) ?_
          refine WpL_val rfl rfl (by decide) (r_neq (k := .i64) (a := e1) (b := e1) rfl rfl) ?_
          refine WpL_val rfl rfl (by decide) (r_move (v := (.bool (decide ((e1 : Int) ≠ e1)))) rfl) ?_
          refine WpL_guard_yes (oj := _) rfl rfl (by decide) (congrArg Value.bool hne) ?_
          refine WpL_val rfl rfl (by decide) (r_move (v := (.slice xa o1.length xc)) rfl) ?_
          refine WpL_guard_yes (oj := _) rfl rfl (by decide) (congrArg Value.bool hne) ?_
          refine WpL_val rfl rfl (by decide) (r_move (v := (.slice ya o1.length yc)) rfl) ?_
          refine WpL_guard_yes (oj := _) rfl rfl (by decide) (congrArg Value.bool hne) ?_
          refine WpL_enter rfl rfl (by decide) (r_callF (vs := [(.slice xa o1.length xc), (.slice ya o1.length yc)]) Try.func30 nm30 bd30 rfl) (req_ok _ _ _ o1 (hx.ext X42) hy) ?_
          rintro _ w43 ⟨rfl, X43⟩
          replace Bl := X43.keep Bl
          replace E := E.ext X43
          refine WpL_guard_yes (oj := _) rfl rfl (by decide) (congrArg Value.bool hne) ?_
          refine WpL_val rfl rfl (by decide) (r_not (b := true) rfl) ?_
          refine WpL_val rfl rfl (by decide) (r_pick (b := decide ((e1 : Int) ≠ e1)) (v := (.bool false)) rfl (by rw [hne]; rfl)) ?_
          refine WpL_nil ?_
          refine Wp_cond_false rfl ?_
          refine Wp_skip ?_
          refine inB_normal ?_
          refine thn_normal ?_
          refine Wp_region ?_
          refine WpL_val rfl rfl (by decide) (r_add (k := .i64) (a := ((k : Nat) : Int)) (b := 1) (c := ((k : Nat) : Int) + 1) rfl rfl (wI64 (by omega))) ?_
          refine WpL_val rfl rfl (by decide) (r_move (v := (.int .i64 (((k : Nat) : Int) + 1))) rfl) ?_
          refine WpL_nil ?_
          refine thn_normal ?_
          exact ⟨3 - (k + 1), by omega, k + 1, Fits.out ⟨rfl, rfl, rfl, rfl, rfl, rfl, trivial⟩, E, Bl, (by omega), rfl⟩
        · have khz1 := hz1
          replace khz1 := of_decide_eq_false khz1
          have hz2 : k = 2 := by omega
          refine Wp_skip ?_
          refine thn_normal ?_
          refine Wp_seq ?_
          refine Wp_block ?_
          refine Wp_seq_region ?_
          refine WpL_val rfl rfl (by decide) (r_move (v := (.int .i64 ((k : Nat) : Int))) rfl) ?_
          refine WpL_val rfl rfl (by decide) (r_indexSlice (b := bl) (o := 0) (len := 3) (cap := 3) (i := k) (o' := 0 + k) rfl rfl rfl Try.underlying49 siz40 (by omega) (by omega)) ?_
          refine WpL_val rfl rfl (by decide) (r_load (v := (.func (.func 23) #[] #[])) rfl flat40 (Bl.cell (by rw [hz2]; rfl))) ?_
          refine WpL_val rfl rfl (by decide) (r_assign (v := (.int .i64 ((k : Nat) : Int))) rfl) ?_
          refine WpL_val rfl rfl (by decide) (r_assign (v := (.func (.func 23) #[] #[])) rfl) ?_
          refine WpL_nil ?_
          refine Wp_seq_region ?_
          refine WpL_val rfl rfl (by decide) (r_move (v := (.func (.func 23) #[] #[])) rfl) ?_
          refine WpL_val rfl rfl (by decide) (r_move (v := (.slice aa a.length ac)) rfl) ?_
          refine WpL_val rfl rfl (by decide) (r_move (v := v) rfl) ?_
          refine WpL_enter rfl rfl (by decide) (r_callV (first := #[]) (cap := #[]) (vs := [(.slice aa a.length ac), v]) (ws := #[(.slice aa a.length ac), v]) rfl Try.func23 nm23 bd23 rfl rfl) (minus_c _ _ _ a b (ha.ext E) (hb.ext E)) ?_
          rintro _ w41 ⟨⟨o1, e1, p1, xa, xc, rfl, hx⟩, X41⟩
          replace Bl := X41.keep Bl
          replace E := E.ext X41
          refine WpL_val rfl rfl (by decide) (r_move (v := (.tuple #[(.slice xa o1.length xc), (.int .i64 e1)])) rfl) ?_
          refine WpL_val rfl rfl (by decide) (r_extract (vs := #[(.slice xa o1.length xc), (.int .i64 e1)]) (v := (.slice xa o1.length xc)) rfl rfl) ?_
          refine WpL_val rfl rfl (by decide) (r_extract (vs := #[(.slice xa o1.length xc), (.int .i64 e1)]) (v := (.int .i64 e1)) rfl rfl) ?_
          refine WpL_val rfl rfl (by decide) (r_assign (v := (.slice xa o1.length xc)) rfl) ?_
          refine WpL_val rfl rfl (by decide) (r_assign (v := (.int .i64 e1)) rfl) ?_
          refine WpL_nil ?_
          refine Wp_seq_region ?_
          refine WpL_val rfl rfl (by decide) (r_move (v := (.int .i64 ((k : Nat) : Int))) rfl) ?_
          refine WpL_val rfl rfl (by decide) (r_add (k := .i64) (a := ((k : Nat) : Int)) (b := 1) (c := ((k : Nat) : Int) + 1) rfl rfl (wI64 (by omega))) ?_
          refine WpL_val rfl rfl (by decide) (r_move (v := (.slice aa a.length ac)) rfl) ?_
          refine WpL_val rfl rfl (by decide) (r_move (v := v) rfl) ?_
          refine WpL_enter rfl rfl (by decide) (r_callF (vs := [(.int .i64 (((k : Nat) : Int) + 1)), (.slice aa a.length ac), v]) Try.func37 nm37 bd37 rfl) ((combine_c _ (((k : Nat) : Int) + 1) _ _ a b (ha.ext E) (hb.ext E)).mono (fun v w h => (by obtain ⟨⟨o2, e2, p2, h2⟩, h3⟩ := h; obtain ⟨rfl, rfl⟩ := comb2P.uniq p1.two p2 (fun r => by rw [hz2]; unfold combF; simp); exact ⟨h2, h3⟩ : SetRes w v o1 e1 ∧ Ext _ w))) ?_
          rintro _ w42 ⟨⟨ya, yc, rfl, hy⟩, X42⟩
          replace Bl := X42.keep Bl
          replace E := E.ext X42
          have hne : decide ((e1 : Int) ≠ e1) = false := by simp
          refine WpL_val rfl rfl (by decide) (r_move (v := (.tuple #[(.slice ya o1.length yc), (.int .i64 e1)])) rfl) ?_
          refine WpL_val rfl rfl (by decide) (r_extract (vs := #[(.slice ya o1.length yc), (.int .i64 e1)]) (v := (.slice ya o1.length yc)) rfl rfl) ?_
          refine WpL_val rfl rfl (by decide) (r_extract (vs := #[(.slice ya o1.length yc), (.int .i64 e1)]) (v := (.int .i64 e1)) rfl rfl) ?_
          refine WpL_val rfl rfl (by decide) (r_assign (v := (.slice ya o1.length yc)) rfl) ?_
          refine WpL_val rfl rfl (by decide) (r_assign (v := (.int .i64 e1)) rfl) ?_
          refine WpL_nil ?_
          refine Wp_seq_region ?_
          refine WpL_val rfl rfl (by decide) (r_move (v := (.int .i64 e1)) rfl) ?_
          refine WpL_val rfl rfl (by decide) (r_move (v := (.int .i64 e1)) rfl) ?_
          refine WpL_val rfl rfl (by decide) (r_neq (k := .i64) (a := e1) (b := e1) rfl rfl) ?_
          refine WpL_val rfl rfl (by decide) (r_move (v := (.bool (decide ((e1 : Int) ≠ e1)))) rfl) ?_
          refine WpL_guard_yes (oj := _) rfl rfl (by decide) (congrArg Value.bool hne) ?_
          refine WpL_val rfl rfl (by decide) (r_move (v := (.slice xa o1.length xc)) rfl) ?_
          refine WpL_guard_yes (oj := _) rfl rfl (by decide) (congrArg Value.bool hne) ?_
          refine WpL_val rfl rfl (by decide) (r_move (v := (.slice ya o1.length yc)) rfl) ?_
          refine WpL_guard_yes (oj := _) rfl rfl (by decide) (congrArg Value.bool hne) ?_
          refine WpL_enter rfl rfl (by decide) (r_callF (vs := [(.slice xa o1.length xc), (.slice ya o1.length yc)]) Try.func30 nm30 bd30 rfl) (req_ok _ _ _ o1 (hx.ext X42) hy) ?_
          rintro _ w43 ⟨rfl, X43⟩
          replace Bl := X43.keep Bl
          replace E := E.ext X43
          refine WpL_guard_yes (oj := _) rfl rfl (by decide) (congrArg Value.bool hne) ?_
          refine WpL_val rfl rfl (by decide) (r_not (b := true) rfl) ?_
          refine WpL_val rfl rfl (by decide) (r_pick (b := decide ((e1 : Int) ≠ e1)) (v := (.bool false)) rfl (by rw [hne]; rfl)) ?_
          refine WpL_nil ?_
          refine Wp_cond_false rfl ?_
          refine Wp_skip ?_
          refine inB_normal ?_
          refine thn_normal ?_
          refine Wp_region ?_
          refine WpL_val rfl rfl (by decide) (r_add (k := .i64) (a := ((k : Nat) : Int)) (b := 1) (c := ((k : Nat) : Int) + 1) rfl rfl (wI64 (by omega))) ?_
          refine WpL_val rfl rfl (by decide) (r_move (v := (.int .i64 (((k : Nat) : Int) + 1))) rfl) ?_
          refine WpL_nil ?_
          refine thn_normal ?_
          exact ⟨3 - (k + 1), by omega, k + 1, Fits.out ⟨rfl, rfl, rfl, rfl, rfl, rfl, trivial⟩, E, Bl, (by omega), rfl⟩
    · have khlt := hlt
      replace hlt := of_decide_eq_false hlt
      refine Wp_exit ?_
      refine thn_exit ?_
      refine thn_exit ?_
      refine inB_here ?_
      refine thn_normal ?_
      refine Wp_seq_region ?_
      refine WpL_val rfl rfl (by decide) (r_move (v := (.slice aa a.length ac)) rfl) ?_
      refine WpL_enter rfl rfl (by decide) (r_callF (vs := [(.slice aa a.length ac)]) Try.func20 nm20 bd20 rfl) (not_c _ _ a (ha.ext E)) ?_
      rintro _ w7 ⟨⟨oc, ec, pc, xa, xc, rfl, hx⟩, X7⟩
      replace Bl := X7.keep Bl
      replace E := E.ext X7
      refine WpL_val rfl rfl (by decide) (r_move (v := (.tuple #[(.slice xa oc.length xc), (.int .i64 ec)])) rfl) ?_
      refine WpL_val rfl rfl (by decide) (r_extract (vs := #[(.slice xa oc.length xc), (.int .i64 ec)]) (v := (.slice xa oc.length xc)) rfl rfl) ?_
      refine WpL_val rfl rfl (by decide) (r_extract (vs := #[(.slice xa oc.length xc), (.int .i64 ec)]) (v := (.int .i64 ec)) rfl rfl) ?_
      refine WpL_val rfl rfl (by decide) (r_assign (v := (.slice xa oc.length xc)) rfl) ?_
      refine WpL_val rfl rfl (by decide) (r_assign (v := (.int .i64 ec)) rfl) ?_
      refine WpL_nil ?_
      refine Wp_seq_region ?_
      refine WpL_val rfl rfl (by decide) (r_move (v := (.slice aa a.length ac)) rfl) ?_
      refine WpL_enter rfl rfl (by decide) (r_callF (vs := [(.slice aa a.length ac)]) Try.func38 nm38 bd38 rfl) ((compl_c _ _ a (ha.ext E)).mono (fun v w h => (by obtain ⟨⟨o2, e2, p2, h2⟩, h3⟩ := h; obtain ⟨rfl, rfl⟩ := pc.uniq p2; exact ⟨h2, h3⟩ : SetRes w v oc ec ∧ Ext _ w))) ?_
      rintro _ w8 ⟨⟨ya, yc, rfl, hy⟩, X8⟩
      replace Bl := X8.keep Bl
      replace E := E.ext X8
      have hk3 : decide ((ec : Int) ≠ ec) = false := by simp
      refine WpL_val rfl rfl (by decide) (r_move (v := (.tuple #[(.slice ya oc.length yc), (.int .i64 ec)])) rfl) ?_
      refine WpL_val rfl rfl (by decide) (r_extract (vs := #[(.slice ya oc.length yc), (.int .i64 ec)]) (v := (.slice ya oc.length yc)) rfl rfl) ?_
      refine WpL_val rfl rfl (by decide) (r_extract (vs := #[(.slice ya oc.length yc), (.int .i64 ec)]) (v := (.int .i64 ec)) rfl rfl) ?_
      refine WpL_val rfl rfl (by decide) (r_assign (v := (.slice ya oc.length yc)) rfl) ?_
      refine WpL_val rfl rfl (by decide) (r_assign (v := (.int .i64 ec)) rfl) ?_
      refine WpL_nil ?_
      refine Wp_seq ?_
      refine Wp_seq_region ?_
      refine WpL_val rfl rfl (by decide) (r_move (v := (.int .i64 ec)) rfl) ?_
      refine WpL_val rfl rfl (by decide) (r_move (v := (.int .i64 ec)) rfl) ?_
      refine WpL_val rfl rfl (by decide) (r_neq (k := .i64) (a := ec) (b := ec) rfl rfl) ?_
      refine WpL_val rfl rfl (by decide) (r_move (v := (.bool (decide ((ec : Int) ≠ ec)))) rfl) ?_
      refine WpL_guard_yes (oj := _) rfl rfl (by decide) (congrArg Value.bool hk3) ?_
      refine WpL_val rfl rfl (by decide) (r_move (v := (.slice xa oc.length xc)) rfl) ?_
      refine WpL_guard_yes (oj := _) rfl rfl (by decide) (congrArg Value.bool hk3) ?_
      refine WpL_val rfl rfl (by decide) (r_move (v := (.slice ya oc.length yc)) rfl) ?_
      refine WpL_guard_yes (oj := _) rfl rfl (by decide) (congrArg Value.bool hk3) ?_
      refine WpL_enter rfl rfl (by decide) (r_callF (vs := [(.slice xa oc.length xc), (.slice ya oc.length yc)]) Try.func30 nm30 bd30 rfl) (req_ok _ _ _ oc (hx.ext X8) hy) ?_
      rintro _ w9 ⟨rfl, X9⟩
      replace Bl := X9.keep Bl
      replace E := E.ext X9
      refine WpL_guard_yes (oj := _) rfl rfl (by decide) (congrArg Value.bool hk3) ?_
      refine WpL_val rfl rfl (by decide) (r_not (b := true) rfl) ?_
      refine WpL_val rfl rfl (by decide) (r_pick (b := decide ((ec : Int) ≠ ec)) (v := (.bool false)) rfl (by rw [hk3]; rfl)) ?_
      refine WpL_nil ?_
      refine Wp_cond_false rfl ?_
      refine Wp_skip ?_
      refine thn_normal ?_
      refine Wp_seq_region ?_
      refine WpL_val rfl rfl (by decide) (r_move (v := (.slice aa a.length ac)) rfl) ?_
      refine WpL_val rfl rfl (by decide) (r_move (v := (.int .i64 r)) rfl) ?_
      refine WpL_enter rfl rfl (by decide) (r_callF (vs := [(.slice aa a.length ac), (.int .i64 r)]) Try.func14 nm14 bd14 rfl) ((has_c _ _ a r (ha.ext E)).mono (fun v w h => (by rw [← hhv, ← hhe] at h; exact h : v = .tuple #[.bool hv, .int .i64 he] ∧ Ext _ w))) ?_
      rintro _ w10 ⟨rfl, X10⟩
      replace Bl := X10.keep Bl
      replace E := E.ext X10
      refine WpL_val rfl rfl (by decide) (r_move (v := (.tuple #[(.bool hv), (.int .i64 he)])) rfl) ?_
      refine WpL_val rfl rfl (by decide) (r_extract (vs := #[(.bool hv), (.int .i64 he)]) (v := (.bool hv)) rfl rfl) ?_
      refine WpL_val rfl rfl (by decide) (r_extract (vs := #[(.bool hv), (.int .i64 he)]) (v := (.int .i64 he)) rfl rfl) ?_
      refine WpL_val rfl rfl (by decide) (r_assign (v := (.bool hv)) rfl) ?_
      refine WpL_val rfl rfl (by decide) (r_assign (v := (.int .i64 he)) rfl) ?_
      refine WpL_nil ?_
      refine Wp_seq_region ?_
      refine WpL_val rfl rfl (by decide) (r_move (v := (.slice aa a.length ac)) rfl) ?_
      refine WpL_enter rfl rfl (by decide) (r_callF (vs := [(.slice aa a.length ac)]) Try.func24 nm24 bd24 rfl) ((ssize_c _ _ a (ha.ext E)).mono (fun v w h => (by rw [← hsz, ← hsf] at h; exact h : v = .tuple #[.int .i64 sz, .int .i64 sf] ∧ Ext _ w))) ?_
      rintro _ w11 ⟨rfl, X11⟩
      replace Bl := X11.keep Bl
      replace E := E.ext X11
      refine WpL_val rfl rfl (by decide) (r_move (v := (.tuple #[(.int .i64 sz), (.int .i64 sf)])) rfl) ?_
      refine WpL_val rfl rfl (by decide) (r_extract (vs := #[(.int .i64 sz), (.int .i64 sf)]) (v := (.int .i64 sz)) rfl rfl) ?_
      refine WpL_val rfl rfl (by decide) (r_extract (vs := #[(.int .i64 sz), (.int .i64 sf)]) (v := (.int .i64 sf)) rfl rfl) ?_
      refine WpL_val rfl rfl (by decide) (r_assign (v := (.int .i64 sz)) rfl) ?_
      refine WpL_val rfl rfl (by decide) (r_assign (v := (.int .i64 sf)) rfl) ?_
      refine WpL_nil ?_
      refine Wp_seq ?_
      refine Wp_seq_region ?_
      refine WpL_val rfl rfl (by decide) (r_move (v := (.slice aa a.length ac)) rfl) ?_
      refine WpL_enter rfl rfl (by decide) (r_callF (vs := [(.slice aa a.length ac)]) Try.func34 nm34 bd34 rfl) (cset_c _ _ a (ha.ext E)) ?_
      rintro _ w12 ⟨rfl, X12⟩
      replace Bl := X12.keep Bl
      replace E := E.ext X12
      refine WpL_val rfl rfl (by decide) (r_assign (v := (.int .i64 (checkE a))) rfl) ?_
      refine WpL_nil ?_
      refine Wp_seq_region ?_
      refine WpL_val rfl rfl (by decide) (r_move (v := (.int .i64 (checkE a))) rfl) ?_
      refine WpL_val rfl rfl (by decide) (r_neq (k := .i64) (a := checkE a) (b := 0) rfl rfl) ?_
      refine WpL_nil ?_
      refine Wp_cond (b := decide ((checkE a : Int) ≠ 0)) rfl (fun hw => ?_) (fun hw => ?_)
      · have khw := hw
        replace hw := of_decide_eq_true hw
        have q1 : hasV a r = (false, checkE a) := by unfold hasV; rw [if_pos hw]
        have q2 : sizeV a = (0, checkE a) := by unfold sizeV; rw [if_pos hw]
        rw [q1] at hhv hhe
        rw [q2] at hsz hsf
        refine Wp_seq_region ?_
        refine WpL_val rfl rfl (by decide) (r_move (v := (.int .i64 he)) rfl) ?_
        refine WpL_val rfl rfl (by decide) (r_move (v := (.int .i64 (checkE a))) rfl) ?_
        obtain ⟨e4, he4⟩ : ∃ e, (decide ((he : Int) = checkE a)) = e := ⟨_, rfl⟩
        refine WpL_val rfl rfl (by decide) ((r_eql (k := .i64) (a := he) (b := checkE a) rfl rfl).trans (by rw [he4]; try rfl)) ?_
        refine WpL_val rfl rfl (by decide) (r_move (v := (.bool e4)) rfl) ?_
        refine WpL_guard_any (oj := _) (gv := (.bool e4)) (u := (bif e4 then (.int .i64 sf) else undef)) rfl rfl (by decide) (by decide) rfl (by cases e4 <;> first | exact Or.inr ⟨Or.inl rfl, rfl⟩ | exact Or.inr ⟨Or.inr rfl, rfl⟩ | exact Or.inl ⟨rfl, r_move (v := (.int .i64 sf)) rfl⟩) ?_
        refine WpL_guard_any (oj := _) (gv := (.bool e4)) (u := (bif e4 then (.int .i64 (checkE a)) else undef)) rfl rfl (by decide) (by decide) rfl (by cases e4 <;> first | exact Or.inr ⟨Or.inl rfl, rfl⟩ | exact Or.inr ⟨Or.inr rfl, rfl⟩ | exact Or.inl ⟨rfl, r_move (v := (.int .i64 (checkE a))) rfl⟩) ?_
        obtain ⟨e5, he5⟩ : ∃ e, (decide ((sf : Int) = checkE a)) = e := ⟨_, rfl⟩
        refine WpL_guard_any (oj := _) (gv := (.bool e4)) (u := (bif e4 then (.bool e5) else undef)) rfl rfl (by decide) (by decide) rfl (by cases e4 <;> first | exact Or.inr ⟨Or.inl rfl, rfl⟩ | exact Or.inr ⟨Or.inr rfl, rfl⟩ | exact Or.inl ⟨rfl, (r_eql (k := .i64) (a := sf) (b := checkE a) rfl rfl).trans (by rw [he5]; try rfl)⟩) ?_
        obtain ⟨e6, he6⟩ : ∃ e, (e4 && e5) = e := ⟨_, rfl⟩
        refine WpL_val rfl rfl (by decide) (r_pick (b := e4) (v := .bool e6) rfl (by rw [← he6]; cases e4 <;> rfl)) ?_
        refine WpL_val rfl rfl (by decide) (r_move (v := (.bool e6)) rfl) ?_
        refine WpL_guard_any (oj := _) (gv := (.bool e6)) (u := (bif e6 then (.bool hv) else undef)) rfl rfl (by decide) (by decide) rfl (by cases e6 <;> first | exact Or.inr ⟨Or.inl rfl, rfl⟩ | exact Or.inr ⟨Or.inr rfl, rfl⟩ | exact Or.inl ⟨rfl, r_move (v := (.bool hv)) rfl⟩) ?_
        obtain ⟨e7, he7⟩ : ∃ e, (!hv) = e := ⟨_, rfl⟩
        refine WpL_guard_any (oj := _) (gv := (.bool e6)) (u := (bif e6 then (.bool e7) else undef)) rfl rfl (by decide) (by decide) rfl (by cases e6 <;> first | exact Or.inr ⟨Or.inl rfl, rfl⟩ | exact Or.inr ⟨Or.inr rfl, rfl⟩ | exact Or.inl ⟨rfl, (r_not (b := hv) rfl).trans (by rw [he7]; try rfl)⟩) ?_
        obtain ⟨e8, he8⟩ : ∃ e, (e6 && e7) = e := ⟨_, rfl⟩
        refine WpL_val rfl rfl (by decide) (r_pick (b := e6) (v := .bool e8) rfl (by rw [← he8]; cases e6 <;> rfl)) ?_
        refine WpL_val rfl rfl (by decide) (r_move (v := (.bool e8)) rfl) ?_
        refine WpL_guard_any (oj := _) (gv := (.bool e8)) (u := (bif e8 then (.int .i64 sz) else undef)) rfl rfl (by decide) (by decide) rfl (by cases e8 <;> first | exact Or.inr ⟨Or.inl rfl, rfl⟩ | exact Or.inr ⟨Or.inr rfl, rfl⟩ | exact Or.inl ⟨rfl, r_move (v := (.int .i64 sz)) rfl⟩) ?_
        obtain ⟨e9, he9⟩ : ∃ e, (decide ((sz : Int) = 0)) = e := ⟨_, rfl⟩
        refine WpL_guard_any (oj := _) (gv := (.bool e8)) (u := (bif e8 then (.bool e9) else undef)) rfl rfl (by decide) (by decide) rfl (by cases e8 <;> first | exact Or.inr ⟨Or.inl rfl, rfl⟩ | exact Or.inr ⟨Or.inr rfl, rfl⟩ | exact Or.inl ⟨rfl, (r_eql (k := .i64) (a := sz) (b := 0) rfl rfl).trans (by rw [he9]; try rfl)⟩) ?_
        obtain ⟨e10, he10⟩ : ∃ e, (e8 && e9) = e := ⟨_, rfl⟩
        refine WpL_val rfl rfl (by decide) (r_pick (b := e8) (v := .bool e10) rfl (by rw [← he10]; cases e8 <;> rfl)) ?_
        refine WpL_val rfl rfl (by decide) (r_assign (v := (.bool e10)) rfl) ?_
        refine WpL_nil ?_
        subst he10
        subst he9
        subst he8
        subst he7
        subst he6
        subst he5
        subst he4
        refine Wp_ret ?_
        refine thn_ret ?_
        refine fin_tmp Try.results6 (v := (.bool ((((decide ((he : Int) = checkE a)) && (decide ((sf : Int) = checkE a))) && (!hv)) && (decide ((sz : Int) = 0))))) rfl ?_
        exact ⟨bool_eq (by rw [hhv, hhe, hsz, hsf]; simp), E⟩
      · have khw := hw
        replace hw := of_decide_eq_false hw
        have hc1 : checkE a = 0 := by omega
        obtain ⟨ca, la⟩ := checkE_canon hc1
        have q2 : sizeV a = (sizeL a, 0) := by unfold sizeV; rw [if_neg hw]
        rw [q2] at hsz hsf
        refine Wp_skip ?_
        refine thn_normal ?_
        refine Wp_seq_region ?_
        refine WpL_val rfl rfl (by decide) (r_assign (v := (.int .i64 0)) rfl) ?_
        refine WpL_nil ?_
        refine Wp_seq ?_
        refine Wp_seq_region ?_
        refine WpL_val rfl rfl (by decide) (r_move (v := (.slice aa a.length ac)) rfl) ?_
        refine WpL_val rfl rfl (by decide) (r_lenSlice (ad := aa) (n := a.length) (cap := ac) Try.underlying23 rfl) ?_
        refine WpL_val rfl rfl (by decide) (r_move (v := (.int .i64 0)) rfl) ?_
        refine WpL_nil ?_
        refine Wp_block ?_
        refine Wp_loop (fun nn_ σ W11 => ∃ (i : Nat) (n : Int), (∃ jj_, σ = upds jj_ [(0, (.slice aa a.length ac)), (2, (.int .i64 r)), (8, (.int .i64 he)), (10, (.int .i64 sf)), (18, (.bool hv)), (19, (.int .i64 sz)), (134, (.slice aa a.length ac)), (135, (.int .i64 ((a.length : Nat) : Int))), (136, (.int .i64 ((i : Nat) : Int))), (21, (.int .i64 n))]) ∧ Chg none1 w0 W11 ∧ Blk W11 bl #[(.func (.func 21) #[] #[]), (.func (.func 22) #[] #[]), (.func (.func 23) #[] #[])] 40 ∧ (i ≤ a.length) ∧ (n = sizeL (a.take i)) ∧ nn_ = a.length - i) (n := a.length - 0) ?_ ?_
        · exact ⟨0, 0, Fits.out ⟨rfl, rfl, rfl, rfl, rfl, rfl, rfl, rfl, rfl, rfl, trivial⟩, E, Bl, Nat.zero_le _, rfl, rfl⟩
        · clear E Bl
          rintro _ _ W11 ⟨i, n, ⟨j11, rfl⟩, E, Bl, hi, hn2, rfl⟩
          refine Wp_seq_region ?_
          refine WpL_val rfl rfl (by decide) (r_lss (k := .i64) (a := ((i : Nat) : Int)) (b := ((a.length : Nat) : Int)) rfl rfl) ?_
          refine WpL_nil ?_
          refine Wp_seq ?_
          refine Wp_cond (b := decide ((((i : Nat) : Int) : Int) < ((a.length : Nat) : Int))) rfl (fun hlt2 => ?_) (fun hlt2 => ?_)
          · have khlt2 := hlt2
            replace hlt2 := of_decide_eq_true hlt2
            obtain ⟨s, hs⟩ := get_of_lt (l := a) (i := i) (by omega)
            have hvs := ca.ok s (List.mem_of_getElem? hs)
            unfold vSp at hvs
            have hnn := sizeL_nn (a := a.take i) fun t ht => ca.ok t (List.mem_of_mem_take ht)
            rw [List.length_take] at hnn
            obtain ⟨b9, o9, hab, hcl⟩ := spans_cells ha (by omega)
            subst hab
            refine Wp_skip ?_
            refine thn_normal ?_
            refine Wp_seq ?_
            refine Wp_block ?_
            refine Wp_seq_region ?_
            refine WpL_val rfl rfl (by decide) (r_indexSlice (b := b9) (o := o9) (len := a.length) (cap := ac) (i := i) (o' := o9 + i * 2) rfl rfl rfl Try.underlying23 siz37 (by omega) (by omega)) ?_
            refine WpL_val rfl rfl (by decide) (r_loadAgg (vs := [(.int .i64 s.1), (.int .i64 s.2)]) rfl agg37 siz37 rfl ((hcl i s hs).ext E)) ?_
            refine s_allocStore (v := (.agg #[(.int .i64 s.1), (.int .i64 s.2)])) (c := #[(.int .i64 s.1), (.int .i64 s.2)]) (n := 2) (by decide) zer37 rfl siz37 rfl rfl rfl (by simp [Value.oneCell']) ?_
            intro b13 w13 N13
            have F13 := N13.ge E
            have O13_bl := N13.lt Bl
            replace Bl := N13.keep Bl
            replace E := E.ext N13.ext
            have B13 := N13.blk
            refine WpL_nil ?_
            refine Wp_region ?_
            refine WpL_val rfl rfl (by decide) (r_move (v := (.int .i64 n)) rfl) ?_
            refine WpL_val rfl rfl (by decide) (r_fieldAddr (b := b13) (o := 0) (o' := 1) rfl Try.underlying37 rfl siz3 rfl) ?_
            refine WpL_val rfl rfl (by decide) (r_load (v := (.int .i64 s.2)) rfl flat3 (B13.cell rfl)) ?_
            refine WpL_val rfl rfl (by decide) (r_add (k := .i64) (a := s.2) (b := 1) (c := s.2 + 1) rfl rfl (wI64 (by omega))) ?_
            refine WpL_val rfl rfl (by decide) (r_fieldAddr (b := b13) (o := 0) (o' := 0) rfl Try.underlying37 rfl siz3 rfl) ?_
            refine WpL_val rfl rfl (by decide) (r_load (v := (.int .i64 s.1)) rfl flat3 (B13.cell rfl)) ?_
            refine WpL_val rfl rfl (by decide) (r_sub (k := .i64) (a := s.2 + 1) (b := s.1) (c := s.2 - s.1 + 1) rfl rfl ((wI64 (by omega)).trans (by omega))) ?_
            refine WpL_val rfl rfl (by decide) (r_add (k := .i64) (a := n) (b := s.2 - s.1 + 1) (c := n + (s.2 - s.1 + 1)) rfl rfl (wI64 (by omega))) ?_
            refine WpL_val rfl rfl (by decide) (r_assign (v := (.int .i64 (n + (s.2 - s.1 + 1)))) rfl) ?_
            refine WpL_nil ?_
            refine inB_normal ?_
            refine thn_normal ?_
            refine Wp_region ?_
            refine WpL_val rfl rfl (by decide) (r_add (k := .i64) (a := ((i : Nat) : Int)) (b := 1) (c := ((i : Nat) : Int) + 1) rfl rfl (wI64 (by omega))) ?_
            refine WpL_val rfl rfl (by decide) (r_move (v := (.int .i64 (((i : Nat) : Int) + 1))) rfl) ?_
            refine WpL_nil ?_
            refine thn_normal ?_
            exact ⟨a.length - (i + 1), by omega, i + 1, n + (s.2 - s.1 + 1), Fits.out ⟨rfl, rfl, rfl, rfl, rfl, rfl, rfl, rfl, rfl, rfl, trivial⟩, E, Bl, (by omega), (by rw [sizeL_take hs, hn2]), rfl⟩
          · have khlt2 := hlt2
            replace hlt2 := of_decide_eq_false hlt2
            have hii : i = a.length := by omega
            have hn3 : n = sizeL a := by rw [hn2, hii, List.take_length]
            refine Wp_exit ?_
            refine thn_exit ?_
            refine thn_exit ?_
            refine inB_here ?_
            refine thn_normal ?_
            refine Wp_seq ?_
            refine Wp_seq_region ?_
            refine WpL_val rfl rfl (by decide) (r_move (v := (.int .i64 r)) rfl) ?_
            obtain ⟨e14, he14⟩ : ∃ e, (decide ((r : Int) < 0)) = e := ⟨_, rfl⟩
            refine WpL_val rfl rfl (by decide) ((r_lss (k := .i64) (a := r) (b := 0) rfl rfl).trans (by rw [he14]; try rfl)) ?_
            refine WpL_val rfl rfl (by decide) (r_move (v := (.bool e14)) rfl) ?_
            refine WpL_guard_any (oj := _) (gv := (.bool e14)) (u := (bif e14 then undef else (.int .i64 r))) rfl rfl (by decide) (by decide) rfl (by cases e14 <;> first | exact Or.inr ⟨Or.inl rfl, rfl⟩ | exact Or.inr ⟨Or.inr rfl, rfl⟩ | exact Or.inl ⟨rfl, r_move (v := (.int .i64 r)) rfl⟩) ?_
            obtain ⟨e15, he15⟩ : ∃ e, (decide ((1114111 : Int) < r)) = e := ⟨_, rfl⟩
            refine WpL_guard_any (oj := _) (gv := (.bool e14)) (u := (bif e14 then undef else (.bool e15))) rfl rfl (by decide) (by decide) rfl (by cases e14 <;> first | exact Or.inr ⟨Or.inl rfl, rfl⟩ | exact Or.inr ⟨Or.inr rfl, rfl⟩ | exact Or.inl ⟨rfl, (r_gtr (k := .i64) (a := r) (b := 1114111) rfl rfl).trans (by rw [he15]; try rfl)⟩) ?_
            obtain ⟨e16, he16⟩ : ∃ e, (e14 || e15) = e := ⟨_, rfl⟩
            refine WpL_val rfl rfl (by decide) (r_pick (b := e14) (v := .bool e16) rfl (by rw [← he16]; cases e14 <;> rfl)) ?_
            refine WpL_nil ?_
            subst he16
            subst he15
            subst he14
            refine Wp_cond (b := ((decide ((r : Int) < 0)) || (decide ((1114111 : Int) < r)))) rfl (fun hr => ?_) (fun hr => ?_)
            · have khr := hr
              have hr2 : r < 0 ∨ 1114111 < r := by simpa using hr
              have q1 : hasV a r = (false, 1) := by unfold hasV; rw [if_neg hw, if_pos (by unfold runeB; simp; omega)]
              rw [q1] at hhv hhe
              refine Wp_seq_region ?_
              refine WpL_val rfl rfl (by decide) (r_move (v := (.int .i64 he)) rfl) ?_
              obtain ⟨e18, he18⟩ : ∃ e, (decide ((he : Int) = 1)) = e := ⟨_, rfl⟩
              refine WpL_val rfl rfl (by decide) ((r_eql (k := .i64) (a := he) (b := 1) rfl rfl).trans (by rw [he18]; try rfl)) ?_
              refine WpL_val rfl rfl (by decide) (r_move (v := (.bool e18)) rfl) ?_
              refine WpL_guard_any (oj := _) (gv := (.bool e18)) (u := (bif e18 then (.bool hv) else undef)) rfl rfl (by decide) (by decide) rfl (by cases e18 <;> first | exact Or.inr ⟨Or.inl rfl, rfl⟩ | exact Or.inr ⟨Or.inr rfl, rfl⟩ | exact Or.inl ⟨rfl, r_move (v := (.bool hv)) rfl⟩) ?_
              obtain ⟨e19, he19⟩ : ∃ e, (!hv) = e := ⟨_, rfl⟩
              refine WpL_guard_any (oj := _) (gv := (.bool e18)) (u := (bif e18 then (.bool e19) else undef)) rfl rfl (by decide) (by decide) rfl (by cases e18 <;> first | exact Or.inr ⟨Or.inl rfl, rfl⟩ | exact Or.inr ⟨Or.inr rfl, rfl⟩ | exact Or.inl ⟨rfl, (r_not (b := hv) rfl).trans (by rw [he19]; try rfl)⟩) ?_
              obtain ⟨e20, he20⟩ : ∃ e, (e18 && e19) = e := ⟨_, rfl⟩
              refine WpL_val rfl rfl (by decide) (r_pick (b := e18) (v := .bool e20) rfl (by rw [← he20]; cases e18 <;> rfl)) ?_
              refine WpL_val rfl rfl (by decide) (r_move (v := (.bool e20)) rfl) ?_
              refine WpL_guard_any (oj := _) (gv := (.bool e20)) (u := (bif e20 then (.int .i64 sf) else undef)) rfl rfl (by decide) (by decide) rfl (by cases e20 <;> first | exact Or.inr ⟨Or.inl rfl, rfl⟩ | exact Or.inr ⟨Or.inr rfl, rfl⟩ | exact Or.inl ⟨rfl, r_move (v := (.int .i64 sf)) rfl⟩) ?_
              obtain ⟨e21, he21⟩ : ∃ e, (decide ((sf : Int) = 0)) = e := ⟨_, rfl⟩
              refine WpL_guard_any (oj := _) (gv := (.bool e20)) (u := (bif e20 then (.bool e21) else undef)) rfl rfl (by decide) (by decide) rfl (by cases e20 <;> first | exact Or.inr ⟨Or.inl rfl, rfl⟩ | exact Or.inr ⟨Or.inr rfl, rfl⟩ | exact Or.inl ⟨rfl, (r_eql (k := .i64) (a := sf) (b := 0) rfl rfl).trans (by rw [he21]; try rfl)⟩) ?_
              obtain ⟨e22, he22⟩ : ∃ e, (e20 && e21) = e := ⟨_, rfl⟩
              refine WpL_val rfl rfl (by decide) (r_pick (b := e20) (v := .bool e22) rfl (by rw [← he22]; cases e20 <;> rfl)) ?_
              refine WpL_val rfl rfl (by decide) (r_move (v := (.bool e22)) rfl) ?_
              refine WpL_guard_any (oj := _) (gv := (.bool e22)) (u := (bif e22 then (.int .i64 sz) else undef)) rfl rfl (by decide) (by decide) rfl (by cases e22 <;> first | exact Or.inr ⟨Or.inl rfl, rfl⟩ | exact Or.inr ⟨Or.inr rfl, rfl⟩ | exact Or.inl ⟨rfl, r_move (v := (.int .i64 sz)) rfl⟩) ?_
              refine WpL_guard_any (oj := _) (gv := (.bool e22)) (u := (bif e22 then (.int .i64 n) else undef)) rfl rfl (by decide) (by decide) rfl (by cases e22 <;> first | exact Or.inr ⟨Or.inl rfl, rfl⟩ | exact Or.inr ⟨Or.inr rfl, rfl⟩ | exact Or.inl ⟨rfl, r_move (v := (.int .i64 n)) rfl⟩) ?_
              obtain ⟨e23, he23⟩ : ∃ e, (decide ((sz : Int) = n)) = e := ⟨_, rfl⟩
              refine WpL_guard_any (oj := _) (gv := (.bool e22)) (u := (bif e22 then (.bool e23) else undef)) rfl rfl (by decide) (by decide) rfl (by cases e22 <;> first | exact Or.inr ⟨Or.inl rfl, rfl⟩ | exact Or.inr ⟨Or.inr rfl, rfl⟩ | exact Or.inl ⟨rfl, (r_eql (k := .i64) (a := sz) (b := n) rfl rfl).trans (by rw [he23]; try rfl)⟩) ?_
              obtain ⟨e24, he24⟩ : ∃ e, (e22 && e23) = e := ⟨_, rfl⟩
              refine WpL_val rfl rfl (by decide) (r_pick (b := e22) (v := .bool e24) rfl (by rw [← he24]; cases e22 <;> rfl)) ?_
              refine WpL_val rfl rfl (by decide) (r_assign (v := (.bool e24)) rfl) ?_
              refine WpL_nil ?_
              subst he24
              subst he23
              subst he22
              subst he21
              subst he20
              subst he19
              subst he18
              refine Wp_ret ?_
              refine thn_ret ?_
              refine fin_tmp Try.results6 (v := (.bool ((((decide ((he : Int) = 1)) && (!hv)) && (decide ((sf : Int) = 0))) && (decide ((sz : Int) = n))))) rfl ?_
              exact ⟨bool_eq (by rw [hhv, hhe, hsz, hsf, hn3]; simp), E⟩
            · have khr := hr
              have hr2 : 0 ≤ r ∧ r ≤ 1114111 := by simp at hr; omega
              have q1 : hasV a r = (inS a r, 0) := by unfold hasV; rw [if_neg hw, if_neg (by unfold runeB; simp; omega)]
              rw [q1] at hhv hhe
              refine Wp_skip ?_
              refine thn_normal ?_
              refine Wp_seq_region ?_
              refine WpL_val rfl rfl (by decide) (r_move (v := (.int .i64 he)) rfl) ?_
              refine WpL_val rfl rfl (by decide) (r_eql (k := .i64) (a := he) (b := 0) rfl rfl) ?_
              refine WpL_val rfl rfl (by decide) (r_move (v := (.bool (decide ((he : Int) = 0)))) rfl) ?_
              have hg25 : (decide ((he : Int) = 0)) = true := by rw [hhe]; rfl
              refine WpL_guard_yes (oj := _) rfl rfl (by decide) (congrArg Value.bool hg25) ?_
              refine WpL_val rfl rfl (by decide) (r_move (v := (.bool hv)) rfl) ?_
              refine WpL_guard_yes (oj := _) rfl rfl (by decide) (congrArg Value.bool hg25) ?_
              refine WpL_val rfl rfl (by decide) (r_move (v := (.slice aa a.length ac)) rfl) ?_
              refine WpL_guard_yes (oj := _) rfl rfl (by decide) (congrArg Value.bool hg25) ?_
              refine WpL_val rfl rfl (by decide) (r_move (v := (.int .i64 r)) rfl) ?_
              refine WpL_guard_yes (oj := _) rfl rfl (by decide) (congrArg Value.bool hg25) ?_
              refine WpL_enter rfl rfl (by decide) (r_callF (vs := [(.slice aa a.length ac), (.int .i64 r)]) Try.func39 nm39 bd39 rfl) (inset_c _ _ a r (ha.ext E)) ?_
              rintro _ w13 ⟨rfl, X13⟩
              replace Bl := X13.keep Bl
              replace E := E.ext X13
              refine WpL_guard_yes (oj := _) rfl rfl (by decide) (congrArg Value.bool hg25) ?_
              refine WpL_val rfl rfl (by decide) (r_eqlB (p := hv) (q := inS a r) Try.underlying4 rfl rfl) ?_
              refine WpL_val rfl rfl (by decide) (r_pick (b := decide ((he : Int) = 0)) (v := (.bool (hv == (inS a r)))) rfl (by rw [hg25]; rfl)) ?_
              refine WpL_val rfl rfl (by decide) (r_move (v := (.bool (hv == (inS a r)))) rfl) ?_
              have hg26 : (hv == (inS a r)) = true := by rw [hhv]; simp
              refine WpL_guard_yes (oj := _) rfl rfl (by decide) (congrArg Value.bool hg26) ?_
              refine WpL_val rfl rfl (by decide) (r_move (v := (.int .i64 sf)) rfl) ?_
              refine WpL_guard_yes (oj := _) rfl rfl (by decide) (congrArg Value.bool hg26) ?_
              refine WpL_val rfl rfl (by decide) (r_eql (k := .i64) (a := sf) (b := 0) rfl rfl) ?_
              refine WpL_val rfl rfl (by decide) (r_pick (b := hv == (inS a r)) (v := (.bool (decide ((sf : Int) = 0)))) rfl (by rw [hg26]; rfl)) ?_
              refine WpL_val rfl rfl (by decide) (r_move (v := (.bool (decide ((sf : Int) = 0)))) rfl) ?_
              have hg27 : (decide ((sf : Int) = 0)) = true := by rw [hsf]; rfl
              refine WpL_guard_yes (oj := _) rfl rfl (by decide) (congrArg Value.bool hg27) ?_
              refine WpL_val rfl rfl (by decide) (r_move (v := (.int .i64 sz)) rfl) ?_
              refine WpL_guard_yes (oj := _) rfl rfl (by decide) (congrArg Value.bool hg27) ?_
              refine WpL_val rfl rfl (by decide) (r_move (v := (.int .i64 n)) rfl) ?_
              refine WpL_guard_yes (oj := _) rfl rfl (by decide) (congrArg Value.bool hg27) ?_
              refine WpL_val rfl rfl (by decide) (r_eql (k := .i64) (a := sz) (b := n) rfl rfl) ?_
              refine WpL_val rfl rfl (by decide) (r_pick (b := decide ((sf : Int) = 0)) (v := (.bool (decide ((sz : Int) = n)))) rfl (by rw [hg27]; rfl)) ?_
              refine WpL_val rfl rfl (by decide) (r_assign (v := (.bool (decide ((sz : Int) = n)))) rfl) ?_
              refine WpL_nil ?_
              refine Wp_ret ?_
              refine fin_tmp Try.results6 (v := (.bool (decide ((sz : Int) = n)))) rfl ?_
              exact ⟨bool_eq (by rw [hsz, hn3]; simp), E⟩
end Go.Proofs
