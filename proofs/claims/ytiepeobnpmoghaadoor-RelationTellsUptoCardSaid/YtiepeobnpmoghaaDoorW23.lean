/- Walk: the law RelationTells. -/
import Derived.Test.YtiepeobnpmoghaaDoorW22
namespace Go.Proofs
open Go Go.Eng
set_option maxRecDepth 100000

theorem sp_c (w0 : World) (lo hi : Int) : Ret Tryd.prog 70 #[.int .i64 lo, .int .i64 hi] w0 fun v w => v = .agg #[.int .i64 lo, .int .i64 hi] ∧ Ext w0 w := by
  refine Ret_of Tryd.func70 rfl Tryd.ntmps70 (Nat.le_of_ble_eq_true rfl) ?_
  have E : Chg none1 w0 w0 := Chg.refl _ _
  refine Wp_seq_region ?_
  refine s_alloc (c := #[(.int .i64 0), (.int .i64 0)]) (by decide) zer82 rfl ?_
  intro b1 w1 N1
  have F1 := N1.ge E
  replace E := E.ext N1.ext
  have B1 := N1.blk
  refine WpL_nil ?_
  refine Wp_seq_region ?_
  refine WpL_val rfl rfl (by decide) (r_move (v := (.int .i64 lo)) rfl) ?_
  refine WpL_val rfl rfl (by decide) (r_move (v := (.int .i64 hi)) rfl) ?_
  refine WpL_val rfl rfl (by decide) (r_build (ps := [(0, (.int .i64 lo)), (1, (.int .i64 hi))]) (v := (.agg #[(.int .i64 lo), (.int .i64 hi)])) rfl (by kernel_rfl)) ?_
  refine s_storeAgg (b := b1) (o := 0) (c' := #[(.int .i64 lo), (.int .i64 hi)]) rfl rfl (by simp [Value.oneCell']) siz82 rfl B1 (by simp) rfl ?_
  intro w2 S2
  replace E := S2.step E (by first | exact Or.inl (by omega) | exact Or.inr rfl | exact Or.inr (by simp))
  replace B1 := S2.blk
  refine WpL_nil ?_
  refine Wp_ret ?_
  refine fin_agg Tryd.results70 (vs := [(.int .i64 lo), (.int .i64 hi)]) (b := b1) rfl agg82 siz82 rfl (B1.cells rfl) ?_
  exact ⟨rfl, E⟩
theorem lone_c (w0 : World) (r : Int) : Ret Tryd.prog 44 #[.int .i64 r] w0 fun v w => ∃ b, v = .agg #[.int .i64 2, .slice (some ⟨b, 0, none⟩) 1 1, .slice none 0 0, .int .i64 0, .int .i64 0, .bool false] ∧ SpansAt w (.slice (some ⟨b, 0, none⟩) 1 1) [(r, r)] ∧ Ext w0 w := by
  refine Ret_of Tryd.func44 rfl Tryd.ntmps44 (Nat.le_of_ble_eq_true rfl) ?_
  have E : Chg none1 w0 w0 := Chg.refl _ _
  refine Wp_seq_region ?_
  refine s_alloc (c := #[(.int .i64 0), (.slice none 0 0), (.slice none 0 0), (.int .i64 0), (.int .i64 0), (.bool false)]) (by decide) zer27 rfl ?_
  intro bp wp Np
  have Fp := Np.ge E
  replace E := E.ext Np.ext
  have Bp := Np.blk
  refine WpL_nil ?_
  refine Wp_seq_region ?_
  refine WpL_val rfl rfl (by decide) (r_move (v := (.int .i64 r)) rfl) ?_
  refine WpL_val rfl rfl (by decide) (r_move (v := (.int .i64 r)) rfl) ?_
  refine WpL_enter rfl rfl (by decide) (r_callF (vs := [(.int .i64 r), (.int .i64 r)]) Tryd.func70 nm70 bd70 rfl) (sp_c _ r r) ?_
  rintro _ w9 ⟨rfl, X9⟩
  replace Bp := X9.keep Bp
  replace E := E.ext X9
  refine s_buildSlice (ps := [(0, (.agg #[(.int .i64 r), (.int .i64 r)]))]) (c := #[(.int .i64 r), (.int .i64 r)]) (by decide) rfl Tryd.underlying24 siz82 zer82 (by decide) (by decide) (by kernel_rfl) ?_
  intro bq wq Nq
  have Fq := Nq.ge E
  have Oq_bp := Nq.lt Bp
  replace Bp := Nq.keep Bp
  replace E := E.ext Nq.ext
  have Bq := Nq.blk
  refine WpL_val rfl rfl (by decide) (r_build (ps := [(0, (.int .i64 2)), (1, (.slice (some ⟨bq, 0, none⟩) 1 1))]) (v := (.agg #[(.int .i64 2), (.slice (some ⟨bq, 0, none⟩) 1 1), (.slice none 0 0), (.int .i64 0), (.int .i64 0), (.bool false)])) rfl (by kernel_rfl)) ?_
  refine s_storeAgg (b := bp) (o := 0) (c' := #[(.int .i64 2), (.slice (some ⟨bq, 0, none⟩) 1 1), (.slice none 0 0), (.int .i64 0), (.int .i64 0), (.bool false)]) rfl rfl (by simp [Value.oneCell']) siz27 rfl Bp (by simp) rfl ?_
  intro w1 S1
  replace Bq := S1.keep (by omega) Bq
  replace E := S1.step E (by first | exact Or.inl (by omega) | exact Or.inr rfl | exact Or.inr (by simp))
  replace Bp := S1.blk
  refine WpL_nil ?_
  refine Wp_ret ?_
  refine fin_agg Tryd.results44 (vs := [(.int .i64 2), (.slice (some ⟨bq, 0, none⟩) 1 1), (.slice none 0 0), (.int .i64 0), (.int .i64 0), (.bool false)]) (b := bp) rfl agg27 siz27 rfl (Bp.cells rfl) ?_
  exact ⟨bq, rfl, spans_of_blk [(r, r)] Bq (by simp) (by simp), E⟩
theorem lstar_c (w0 : World) (t : Re) (vs : List Value) (ht : ReAt w0 t vs) : Ret Tryd.prog 43 #[.agg vs.toArray] w0 fun v w => (∃ b, v = .agg #[.int .i64 5, .slice none 0 0, .slice (some ⟨b, 0, none⟩) 1 1, .int .i64 0, .int .i64 0, .bool false] ∧ ReAt w (starT t) [.int .i64 5, .slice none 0 0, .slice (some ⟨b, 0, none⟩) 1 1, .int .i64 0, .int .i64 0, .bool false]) ∧ Ext w0 w := by
  have ht0 := ht
  obtain ⟨sa, sc, aa, ac, rfl, hset, hlen, hargs⟩ := ht.form
  refine Ret_of Tryd.func43 rfl Tryd.ntmps43 (Nat.le_of_ble_eq_true rfl) ?_
  have E : Chg none1 w0 w0 := Chg.refl _ _
  refine Wp_seq_region ?_
  refine s_box (v := (.agg #[(.int .i64 t.kind), (.slice sa t.set.length sc), (.slice aa t.args.length ac), (.int .i64 t.mn), (.int .i64 t.mx), (.bool t.neg)])) (c := #[(.int .i64 t.kind), (.slice sa t.set.length sc), (.slice aa t.args.length ac), (.int .i64 t.mn), (.int .i64 t.mx), (.bool t.neg)]) (by decide) rfl rfl ?_
  intro bp wp Np
  have Fp := Np.ge E
  replace E := E.ext Np.ext
  have Bp := Np.blk
  refine s_alloc (c := #[(.int .i64 0), (.slice none 0 0), (.slice none 0 0), (.int .i64 0), (.int .i64 0), (.bool false)]) (by decide) zer27 rfl ?_
  intro bo wo No
  have Fo := No.ge E
  have Oo_bp := No.lt Bp
  replace Bp := No.keep Bp
  replace E := E.ext No.ext
  have Bo := No.blk
  refine WpL_nil ?_
  refine Wp_seq_region ?_
  refine WpL_val rfl rfl (by decide) (r_loadAgg (vs := [(.int .i64 t.kind), (.slice sa t.set.length sc), (.slice aa t.args.length ac), (.int .i64 t.mn), (.int .i64 t.mx), (.bool t.neg)]) rfl agg27 siz27 rfl (Bp.cells rfl)) ?_
  refine s_buildSlice (ps := [(0, (.agg #[(.int .i64 t.kind), (.slice sa t.set.length sc), (.slice aa t.args.length ac), (.int .i64 t.mn), (.int .i64 t.mx), (.bool t.neg)]))]) (c := #[(.int .i64 t.kind), (.slice sa t.set.length sc), (.slice aa t.args.length ac), (.int .i64 t.mn), (.int .i64 t.mx), (.bool t.neg)]) (by decide) rfl Tryd.underlying25 siz27 zer27 (by decide) (by decide) (by kernel_rfl) ?_
  intro bq wq Nq
  have Fq := Nq.ge E
  have Oq_bp := Nq.lt Bp
  have Oq_bo := Nq.lt Bo
  replace Bp := Nq.keep Bp
  replace Bo := Nq.keep Bo
  replace E := E.ext Nq.ext
  have Bq := Nq.blk
  refine WpL_val rfl rfl (by decide) (r_build (ps := [(0, (.int .i64 5)), (2, (.slice (some ⟨bq, 0, none⟩) 1 1))]) (v := (.agg #[(.int .i64 5), (.slice none 0 0), (.slice (some ⟨bq, 0, none⟩) 1 1), (.int .i64 0), (.int .i64 0), (.bool false)])) rfl (by kernel_rfl)) ?_
  refine s_storeAgg (b := bo) (o := 0) (c' := #[(.int .i64 5), (.slice none 0 0), (.slice (some ⟨bq, 0, none⟩) 1 1), (.int .i64 0), (.int .i64 0), (.bool false)]) rfl rfl (by simp [Value.oneCell']) siz27 rfl Bo (by simp) rfl ?_
  intro w1 S1
  replace Bp := S1.keep (by omega) Bp
  replace Bq := S1.keep (by omega) Bq
  replace E := S1.step E (by first | exact Or.inl (by omega) | exact Or.inr rfl | exact Or.inr (by simp))
  replace Bo := S1.blk
  refine WpL_nil ?_
  refine Wp_ret ?_
  refine fin_agg Tryd.results43 (vs := [(.int .i64 5), (.slice none 0 0), (.slice (some ⟨bq, 0, none⟩) 1 1), (.int .i64 0), (.int .i64 0), (.bool false)]) (b := bo) rfl agg27 siz27 rfl (Bo.cells rfl) ?_
  exact ⟨⟨bq, rfl, ReAt.of (set := []) (args := [t]) (SlAt.nil _ _ _ _) (by simp) (.inr ⟨bq, 0, rfl, by simp only [ResAt]; exact ⟨⟨_, Bq.cells rfl, ReAt.ext E t ht0⟩, trivial⟩⟩)⟩, E⟩
theorem begun2_check : checkP (starT (oneT 97)) [97, 98] = 0 := by decide
theorem begun2_pairs : pairsL (relOf [97, 98] (starT (oneT 97))) (([97, 98] : List Int).length + 1) = [(0, 0), (0, 1), (1, 1), (2, 2)] := by decide +kernel
theorem begun3_check : checkP (oneT 97) [97] = 0 := by decide
theorem begun3_rel : relOf [97] (oneT 97) 0 1 = true := by decide +kernel
theorem begun2_c (w0 : World) (hT : TabOk w0) : Ret Tryd.prog 19 #[] w0 fun v w => v = .bool true ∧ Ext w0 w := by
  refine Ret_of Tryd.func19 rfl Tryd.ntmps19 (Nat.le_of_ble_eq_true rfl) ?_
  have E : Chg none1 w0 w0 := Chg.refl _ _
  refine Wp_seq_region ?_
  refine WpL_val rfl rfl (by decide) (r_assign (v := (.bool false)) rfl) ?_
  refine WpL_nil ?_
  refine Wp_seq_region ?_
  refine WpL_enter rfl rfl (by decide) (r_callF (vs := [(.int .i64 97)]) Tryd.func44 nm44 bd44 rfl) (lone_c _ 97) ?_
  rintro _ w9 ⟨b, rfl, hsp, X9⟩
  replace E := E.ext X9
  refine WpL_enter rfl rfl (by decide) (r_callF (vs := [(.agg #[(.int .i64 2), (.slice (some ⟨b, 0, none⟩) 1 1), (.slice none 0 0), (.int .i64 0), (.int .i64 0), (.bool false)])]) Tryd.func43 nm43 bd43 rfl) (lstar_c _ (oneT 97) _ (one_at hsp)) ?_
  rintro _ w19 ⟨⟨b2, rfl, hst⟩, X19⟩
  replace E := E.ext X19
  refine s_buildSlice (ps := [(0, (.int .i64 97)), (1, (.int .i64 98))]) (c := #[(.int .i64 97), (.int .i64 98)]) (by decide) rfl Tryd.underlying22 siz3 zer3 (by decide) (by decide) (by kernel_rfl) ?_
  intro bp wp Np
  have Fp := Np.ge E
  replace E := E.ext Np.ext
  have Bp := Np.blk
  refine WpL_enter rfl rfl (by decide) (r_callF (vs := [(.agg #[(.int .i64 5), (.slice none 0 0), (.slice (some ⟨b2, 0, none⟩) 1 1), (.int .i64 0), (.int .i64 0), (.bool false)]), (.slice (some ⟨bp, 0, none⟩) 2 2)]) Tryd.func16 nm16 bd16 rfl) ((pairs_c _ (starT (oneT 97)) _ _ [97, 98] (ReAt.ext Np.ext _ hst) (ints_of_blk [97, 98] Bp (by simp) (by simp)) (hT.ext E)).mono (R' := fun v w => ∃ a c, v = .tuple #[.slice a 4 c, .int .i64 0] ∧ PairsAt w (.slice a 4 c) [(0, 0), (0, 1), (1, 1), (2, 2)] ∧ Ext wp w) (by rintro v w ⟨a, c, h1, h2, h3⟩; rw [begun2_check, if_pos rfl, begun2_pairs] at h1 h2; exact ⟨a, c, h1, h2, h3⟩)) ?_
  rintro _ w29 ⟨la, lc, rfl, hps, X29⟩
  replace Bp := X29.keep Bp
  replace E := E.ext X29
  obtain ⟨bp', po, rfl, hcl⟩ := pairs_cells hps (by decide)
  refine WpL_val rfl rfl (by decide) (r_move (v := (.tuple #[(.slice (some ⟨bp', po, none⟩) 4 lc), (.int .i64 0)])) rfl) ?_
  refine WpL_val rfl rfl (by decide) (r_extract (vs := #[(.slice (some ⟨bp', po, none⟩) 4 lc), (.int .i64 0)]) (v := (.slice (some ⟨bp', po, none⟩) 4 lc)) rfl rfl) ?_
  refine WpL_val rfl rfl (by decide) (r_extract (vs := #[(.slice (some ⟨bp', po, none⟩) 4 lc), (.int .i64 0)]) (v := (.int .i64 0)) rfl rfl) ?_
  refine WpL_val rfl rfl (by decide) (r_assign (v := (.slice (some ⟨bp', po, none⟩) 4 lc)) rfl) ?_
  refine WpL_val rfl rfl (by decide) (r_assign (v := (.int .i64 0)) rfl) ?_
  refine WpL_nil ?_
  refine Wp_seq_region ?_
  refine WpL_enter rfl rfl (by decide) (r_callF (vs := [(.int .i64 97)]) Tryd.func44 nm44 bd44 rfl) (lone_c _ 97) ?_
  rintro _ w39 ⟨b', rfl, hsp', X39⟩
  replace Bp := X39.keep Bp
  replace E := E.ext X39
  refine s_buildSlice (ps := [(0, (.int .i64 97))]) (c := #[(.int .i64 97)]) (by decide) rfl Tryd.underlying22 siz3 zer3 (by decide) (by decide) (by kernel_rfl) ?_
  intro br wr Nr
  have Fr := Nr.ge E
  have Or_bp := Nr.lt Bp
  replace Bp := Nr.keep Bp
  replace E := E.ext Nr.ext
  have Br := Nr.blk
  refine WpL_enter rfl rfl (by decide) (r_callF (vs := [(.agg #[(.int .i64 2), (.slice (some ⟨b', 0, none⟩) 1 1), (.slice none 0 0), (.int .i64 0), (.int .i64 0), (.bool false)]), (.slice (some ⟨br, 0, none⟩) 1 1)]) Tryd.func17 nm17 bd17 rfl) ((rmatch_c _ (oneT 97) _ _ [97] (one_at (hsp'.ext Nr.ext)) (ints_of_blk [97] Br (by simp) (by simp)) (hT.ext E)).mono (R' := fun v w => v = .tuple #[.bool true, .int .i64 0] ∧ Ext wr w) (by rintro v w ⟨h1, h2⟩; rw [begun3_check, if_pos rfl, show ([97] : List Int).length = 1 from rfl, begun3_rel] at h1; exact ⟨h1, h2⟩)) ?_
  rintro _ w49 ⟨rfl, X49⟩
  replace Bp := X49.keep Bp
  replace Br := X49.keep Br
  replace E := E.ext X49
  refine WpL_val rfl rfl (by decide) (r_move (v := (.tuple #[(.bool true), (.int .i64 0)])) rfl) ?_
  refine WpL_val rfl rfl (by decide) (r_extract (vs := #[(.bool true), (.int .i64 0)]) (v := (.bool true)) rfl rfl) ?_
  refine WpL_val rfl rfl (by decide) (r_extract (vs := #[(.bool true), (.int .i64 0)]) (v := (.int .i64 0)) rfl rfl) ?_
  refine WpL_val rfl rfl (by decide) (r_assign (v := (.bool true)) rfl) ?_
  refine WpL_val rfl rfl (by decide) (r_assign (v := (.int .i64 0)) rfl) ?_
  refine WpL_nil ?_
  refine Wp_seq_region ?_
  refine WpL_val rfl rfl (by decide) (r_move (v := (.int .i64 0)) rfl) ?_
  refine WpL_val rfl rfl (by decide) (r_eql (k := .i64) (a := 0) (b := 0) rfl rfl) ?_
  refine WpL_val rfl rfl (by decide) (r_move (v := (.bool true)) rfl) ?_
  refine WpL_guard_yes (oj := _) rfl rfl (by decide) rfl ?_
  refine WpL_val rfl rfl (by decide) (r_move (v := (.int .i64 0)) rfl) ?_
  refine WpL_guard_yes (oj := _) rfl rfl (by decide) rfl ?_
  refine WpL_val rfl rfl (by decide) (r_eql (k := .i64) (a := 0) (b := 0) rfl rfl) ?_
  refine WpL_val rfl rfl (by decide) (r_pick (b := true) (v := (.bool true)) rfl rfl) ?_
  refine WpL_val rfl rfl (by decide) (r_move (v := (.bool true)) rfl) ?_
  refine WpL_guard_yes (oj := _) rfl rfl (by decide) rfl ?_
  refine WpL_val rfl rfl (by decide) (r_move (v := (.bool true)) rfl) ?_
  refine WpL_val rfl rfl (by decide) (r_pick (b := true) (v := (.bool true)) rfl rfl) ?_
  refine WpL_val rfl rfl (by decide) (r_move (v := (.bool true)) rfl) ?_
  refine WpL_guard_yes (oj := _) rfl rfl (by decide) rfl ?_
  refine WpL_val rfl rfl (by decide) (r_move (v := (.slice (some ⟨bp', po, none⟩) 4 lc)) rfl) ?_
  refine WpL_guard_yes (oj := _) rfl rfl (by decide) rfl ?_
  refine WpL_val rfl rfl (by decide) (r_lenSlice (ad := some ⟨bp', po, none⟩) (n := 4) (cap := lc) Tryd.underlying37 rfl) ?_
  refine WpL_guard_yes (oj := _) rfl rfl (by decide) rfl ?_
  refine WpL_val rfl rfl (by decide) (r_eql (k := .i64) (a := 4) (b := 4) rfl rfl) ?_
  refine WpL_val rfl rfl (by decide) (r_pick (b := true) (v := (.bool true)) rfl rfl) ?_
  refine WpL_val rfl rfl (by decide) (r_move (v := (.bool true)) rfl) ?_
  refine WpL_guard_yes (oj := _) rfl rfl (by decide) rfl ?_
  refine WpL_val rfl rfl (by decide) (r_move (v := (.slice (some ⟨bp', po, none⟩) 4 lc)) rfl) ?_
  refine WpL_guard_yes (oj := _) rfl rfl (by decide) rfl ?_
  refine WpL_val rfl rfl (by decide) (r_indexSlice (b := bp') (o := po) (len := 4) (cap := lc) (i := 1) (o' := po + 1 * 2) rfl rfl rfl Tryd.underlying37 siz43 (by omega) (by omega)) ?_
  refine WpL_guard_yes (oj := _) rfl rfl (by decide) rfl ?_
  refine WpL_val rfl rfl (by decide) (r_loadAgg (vs := [(.int .i64 0), (.int .i64 1)]) rfl agg43 siz43 rfl ((((hcl 1 (0, 1) rfl).ext X39).ext Nr.ext).ext X49)) ?_
  refine WpL_guard_yes (oj := _) rfl rfl (by decide) rfl ?_
  refine WpL_val rfl rfl (by decide) (r_build (ps := [(0, (.int .i64 0)), (1, (.int .i64 1))]) (v := (.agg #[(.int .i64 0), (.int .i64 1)])) rfl (by kernel_rfl)) ?_
  refine WpL_guard_yes (oj := _) rfl rfl (by decide) rfl ?_
  refine WpL_val (v := (.bool true)) rfl rfl (by decide) ((r_eqlPair (a := 0) (b := 1) (c := 0) (f := 1) Tryd.underlying43 Tryd.underlying3 siz3 flat3 eqgPair rfl rfl).trans rfl) ?_
  refine WpL_val rfl rfl (by decide) (r_pick (b := true) (v := (.bool true)) rfl rfl) ?_
  refine WpL_val rfl rfl (by decide) (r_assign (v := (.bool true)) rfl) ?_
  refine WpL_nil ?_
  refine Wp_ret ?_
  refine fin_tmp Tryd.results19 (v := (.bool true)) rfl ?_
  exact ⟨rfl, E⟩
theorem ctext24_c (w0 : World) (t : Re) (vs : List Value) (vt : Value) (text : List Int) (ht : ReAt w0 t vs) (htx : IntsAt w0 vt text) (hs : t.size ≤ 2097152) :
    Ret Tryd.prog 20 #[.agg vs.toArray, vt, .int .i64 24] w0 fun v w => v = .int .i64 (checkP t text) ∧ Ext w0 w :=
  (ctext_c w0 t vs vt text 24 ht htx hs).mono fun v w h => by rw [checkT_eq] at h; exact h
theorem r_neqPair0 {P : Program} {σ : Env} {w : World} {dst : Option Tmp} {ty : TypeId} {pos : String} {af : Array Edge} {g : Option (Nat × Bool)} {t t' e : TypeId} {x y : Operand} {a b : Int}
    (ht : P.underlying t = some (.array 2 e)) (he : P.underlying e = some (.int .i64)) (hs : Siz P e 1) (hf : flatB P e = true) (hm : P.eqGuardType P.depth t = false)
    (hx : ev σ x = .agg #[.int .i64 a, .int .i64 b]) (hy : ev σ y = .agg #[.int .i64 a, .int .i64 b]) :
    (execOp (ev σ) ⟨dst, .binOp .neq t x y t', ty, pos, af, g⟩).run P w = .ok (.value (.bool false)) w := by
  rw [r_neqPair ht he hs hf hm hx hy]; simp
theorem r_eqlPair1 {P : Program} {σ : Env} {w : World} {dst : Option Tmp} {ty : TypeId} {pos : String} {af : Array Edge} {g : Option (Nat × Bool)} {t t' e : TypeId} {x y : Operand} {a b c f : Int}
    (ht : P.underlying t = some (.array 2 e)) (he : P.underlying e = some (.int .i64)) (hs : Siz P e 1) (hf : flatB P e = true) (hm : P.eqGuardType P.depth t = false)
    (hx : ev σ x = .agg #[.int .i64 a, .int .i64 b]) (hy : ev σ y = .agg #[.int .i64 c, .int .i64 f]) (h1 : a = c) (h2 : b = f) :
    (execOp (ev σ) ⟨dst, .binOp .eql t x y t', ty, pos, af, g⟩).run P w = .ok (.value (.bool true)) w := by
  rw [r_eqlPair ht he hs hf hm hx hy, h1, h2]; simp
set_option maxHeartbeats 4000000 in
theorem tells_c (w0 : World) (hT : TabOk w0) (t : Re) (vs : List Value) (vt : Value) (text : List Int) (ht : ReAt w0 t vs) (htx : IntsAt w0 vt text) (hs : t.size ≤ 2097152) :
    Ret Tryd.prog 5 #[.agg vs.toArray, vt] w0 fun v w => v = .bool true ∧ Ext w0 w := by
  have ht0 := ht
  have hwf := wf_rel text t
  obtain ⟨sa, sc, aa, ac, rfl, hset, hlen, hargs⟩ := ht.form
  obtain ⟨ta, tc, rfl⟩ := SlAt.form htx
  simp only [List.length_map] at htx ⊢
  refine Ret_of Tryd.func5 rfl Tryd.ntmps5 (Nat.le_of_ble_eq_true rfl) ?_
  have E : Chg none1 w0 w0 := Chg.refl _ _
  refine Wp_seq_region ?_
  refine s_box (v := (.agg #[(.int .i64 t.kind), (.slice sa t.set.length sc), (.slice aa t.args.length ac), (.int .i64 t.mn), (.int .i64 t.mx), (.bool t.neg)])) (c := #[(.int .i64 t.kind), (.slice sa t.set.length sc), (.slice aa t.args.length ac), (.int .i64 t.mn), (.int .i64 t.mx), (.bool t.neg)]) (by decide) rfl rfl ?_
  intro bp wp Np
  have Fp := Np.ge E
  replace E := E.ext Np.ext
  have Bp := Np.blk
  refine WpL_val rfl rfl (by decide) (r_assign (v := (.bool false)) rfl) ?_
  refine WpL_nil ?_
  refine Wp_seq_region ?_
  refine WpL_val rfl rfl (by decide) (r_loadAgg (vs := [(.int .i64 t.kind), (.slice sa t.set.length sc), (.slice aa t.args.length ac), (.int .i64 t.mn), (.int .i64 t.mx), (.bool t.neg)]) rfl agg27 siz27 rfl (Bp.cells rfl)) ?_
  refine WpL_val rfl rfl (by decide) (r_move (v := (.slice ta text.length tc)) rfl) ?_
  refine WpL_enter rfl rfl (by decide) (r_callF (vs := [(.agg #[(.int .i64 t.kind), (.slice sa t.set.length sc), (.slice aa t.args.length ac), (.int .i64 t.mn), (.int .i64 t.mx), (.bool t.neg)]), (.slice ta text.length tc)]) Tryd.func16 nm16 bd16 rfl) ((pairs_c _ t _ _ text (ReAt.ext E t ht0) (htx.ext E) (hT.ext E)).mono (R' := fun v w => ∃ a c L, v = .tuple #[.slice a L.length c, .int .i64 (checkP t text)] ∧ PairsAt w (.slice a L.length c) L ∧ L = (if checkP t text = 0 then pairsL (relOf text t) (text.length + 1) else []) ∧ Ext wp w) (by rintro v w ⟨a, c, h1, h2, h3⟩; exact ⟨a, c, _, h1, h2, rfl, h3⟩)) ?_
  rintro _ w9 ⟨la, lc, L, rfl, hps, hL, X9⟩
  replace Bp := X9.keep Bp
  replace E := E.ext X9
  refine WpL_val rfl rfl (by decide) (r_move (v := (.tuple #[(.slice la L.length lc), (.int .i64 (checkP t text))])) rfl) ?_
  refine WpL_val rfl rfl (by decide) (r_extract (vs := #[(.slice la L.length lc), (.int .i64 (checkP t text))]) (v := (.slice la L.length lc)) rfl rfl) ?_
  refine WpL_val rfl rfl (by decide) (r_extract (vs := #[(.slice la L.length lc), (.int .i64 (checkP t text))]) (v := (.int .i64 (checkP t text))) rfl rfl) ?_
  refine WpL_val rfl rfl (by decide) (r_assign (v := (.slice la L.length lc)) rfl) ?_
  refine WpL_val rfl rfl (by decide) (r_assign (v := (.int .i64 (checkP t text))) rfl) ?_
  refine WpL_nil ?_
  refine Wp_seq_region ?_
  refine WpL_val rfl rfl (by decide) (r_loadAgg (vs := [(.int .i64 t.kind), (.slice sa t.set.length sc), (.slice aa t.args.length ac), (.int .i64 t.mn), (.int .i64 t.mx), (.bool t.neg)]) rfl agg27 siz27 rfl (Bp.cells rfl)) ?_
  refine WpL_val rfl rfl (by decide) (r_move (v := (.slice ta text.length tc)) rfl) ?_
  refine WpL_enter rfl rfl (by decide) (r_callF (vs := [(.agg #[(.int .i64 t.kind), (.slice sa t.set.length sc), (.slice aa t.args.length ac), (.int .i64 t.mn), (.int .i64 t.mx), (.bool t.neg)]), (.slice ta text.length tc)]) Tryd.func17 nm17 bd17 rfl) ((rmatch_c _ t _ _ text (ReAt.ext E t ht0) (htx.ext E) (hT.ext E)).mono (R' := fun v w => ∃ m, v = .tuple #[.bool m, .int .i64 (checkP t text)] ∧ m = (if checkP t text = 0 then relOf text t 0 text.length else false) ∧ Ext w9 w) (by rintro v w ⟨h1, h2⟩; exact ⟨_, h1, rfl, h2⟩)) ?_
  rintro _ w19 ⟨mt, rfl, hmt, X19⟩
  replace Bp := X19.keep Bp
  replace hps := hps.ext X19
  replace E := E.ext X19
  refine WpL_val rfl rfl (by decide) (r_move (v := (.tuple #[(.bool mt), (.int .i64 (checkP t text))])) rfl) ?_
  refine WpL_val rfl rfl (by decide) (r_extract (vs := #[(.bool mt), (.int .i64 (checkP t text))]) (v := (.bool mt)) rfl rfl) ?_
  refine WpL_val rfl rfl (by decide) (r_extract (vs := #[(.bool mt), (.int .i64 (checkP t text))]) (v := (.int .i64 (checkP t text))) rfl rfl) ?_
  refine WpL_val rfl rfl (by decide) (r_assign (v := (.bool mt)) rfl) ?_
  refine WpL_val rfl rfl (by decide) (r_assign (v := (.int .i64 (checkP t text))) rfl) ?_
  refine WpL_nil ?_
  refine Wp_seq_region ?_
  refine WpL_val rfl rfl (by decide) (r_loadAgg (vs := [(.int .i64 t.kind), (.slice sa t.set.length sc), (.slice aa t.args.length ac), (.int .i64 t.mn), (.int .i64 t.mx), (.bool t.neg)]) rfl agg27 siz27 rfl (Bp.cells rfl)) ?_
  refine WpL_val rfl rfl (by decide) (r_move (v := (.slice ta text.length tc)) rfl) ?_
  refine WpL_enter rfl rfl (by decide) (r_callF (vs := [(.agg #[(.int .i64 t.kind), (.slice sa t.set.length sc), (.slice aa t.args.length ac), (.int .i64 t.mn), (.int .i64 t.mx), (.bool t.neg)]), (.slice ta text.length tc)]) Tryd.func18 nm18 bd18 rfl) (first_r_c _ t _ _ text (ReAt.ext E t ht0) (htx.ext E) (hT.ext E)) ?_
  rintro _ w29 ⟨⟨p, q, s, rfl, hF1, hF2⟩, X29⟩
  replace Bp := X29.keep Bp
  replace hps := hps.ext X29
  replace E := E.ext X29
  refine WpL_val rfl rfl (by decide) (r_move (v := (.tuple #[(.agg #[(.int .i64 p), (.int .i64 q)]), (.bool s), (.int .i64 (checkP t text))])) rfl) ?_
  refine WpL_val rfl rfl (by decide) (r_extract (vs := #[(.agg #[(.int .i64 p), (.int .i64 q)]), (.bool s), (.int .i64 (checkP t text))]) (v := (.agg #[(.int .i64 p), (.int .i64 q)])) rfl rfl) ?_
  refine WpL_val rfl rfl (by decide) (r_extract (vs := #[(.agg #[(.int .i64 p), (.int .i64 q)]), (.bool s), (.int .i64 (checkP t text))]) (v := (.bool s)) rfl rfl) ?_
  refine WpL_val rfl rfl (by decide) (r_extract (vs := #[(.agg #[(.int .i64 p), (.int .i64 q)]), (.bool s), (.int .i64 (checkP t text))]) (v := (.int .i64 (checkP t text))) rfl rfl) ?_
  refine s_allocStore (v := (.agg #[(.int .i64 p), (.int .i64 q)])) (c := #[(.int .i64 p), (.int .i64 q)]) (n := 2) (by decide) zer43 rfl siz43 rfl rfl rfl (by simp [Value.oneCell']) ?_
  intro bo wo No
  have Fo := No.ge E
  have Oo_bp := No.lt Bp
  replace Bp := No.keep Bp
  replace hps := hps.ext No.ext
  replace E := E.ext No.ext
  have Bo := No.blk
  refine WpL_val rfl rfl (by decide) (r_assign (v := (.bool s)) rfl) ?_
  refine WpL_val rfl rfl (by decide) (r_assign (v := (.int .i64 (checkP t text))) rfl) ?_
  refine WpL_nil ?_
  refine Wp_seq ?_
  refine Wp_seq_region ?_
  refine WpL_enter rfl rfl (by decide) (r_callF (vs := []) Tryd.func19 nm19 bd19 rfl) (begun2_c _ (hT.ext E)) ?_
  rintro _ w39 ⟨rfl, X39⟩
  replace Bp := X39.keep Bp
  replace Bo := X39.keep Bo
  replace hps := hps.ext X39
  replace E := E.ext X39
  refine WpL_val rfl rfl (by decide) (r_not (b := true) rfl) ?_
  refine WpL_nil ?_
  refine Wp_cond_false rfl ?_
  refine Wp_skip ?_
  refine thn_normal ?_
  refine Wp_seq ?_
  refine Wp_seq_region ?_
  refine WpL_val rfl rfl (by decide) (r_loadAgg (vs := [(.int .i64 t.kind), (.slice sa t.set.length sc), (.slice aa t.args.length ac), (.int .i64 t.mn), (.int .i64 t.mx), (.bool t.neg)]) rfl agg27 siz27 rfl (Bp.cells rfl)) ?_
  refine WpL_val rfl rfl (by decide) (r_move (v := (.slice ta text.length tc)) rfl) ?_
  refine WpL_enter rfl rfl (by decide) (r_callF (vs := [(.agg #[(.int .i64 t.kind), (.slice sa t.set.length sc), (.slice aa t.args.length ac), (.int .i64 t.mn), (.int .i64 t.mx), (.bool t.neg)]), (.slice ta text.length tc), (.int .i64 24)]) Tryd.func20 nm20 bd20 rfl) (ctext24_c _ t _ _ text (ReAt.ext E t ht0) (htx.ext E) hs) ?_
  rintro _ w49 ⟨rfl, X49⟩
  replace Bp := X49.keep Bp
  replace Bo := X49.keep Bo
  replace hps := hps.ext X49
  replace E := E.ext X49
  refine WpL_val rfl rfl (by decide) (r_assign (v := (.int .i64 (checkP t text))) rfl) ?_
  refine WpL_nil ?_
  refine Wp_seq_region ?_
  refine WpL_val rfl rfl (by decide) (r_move (v := (.int .i64 (checkP t text))) rfl) ?_
  refine WpL_val rfl rfl (by decide) (r_neq (k := .i64) (a := checkP t text) (b := 0) rfl rfl) ?_
  refine WpL_nil ?_
  refine Wp_cond (b := decide ((checkP t text : Int) ≠ 0)) rfl (fun hne => ?_) (fun hne => ?_)
  · have khne := hne
    replace hne := of_decide_eq_true hne
    obtain ⟨rfl, rfl, rfl⟩ := hF1 hne
    rw [if_neg hne] at hL hmt
    subst hL
    subst hmt
    refine Wp_seq_region ?_
    refine WpL_val rfl rfl (by decide) (r_move (v := (.int .i64 (checkP t text))) rfl) ?_
    refine WpL_val rfl rfl (by decide) (r_move (v := (.int .i64 (checkP t text))) rfl) ?_
    refine WpL_val rfl rfl (by decide) (r_eql (k := .i64) (a := checkP t text) (b := checkP t text) rfl rfl) ?_
    refine WpL_val rfl rfl (by decide) (r_move (v := (.bool (decide ((checkP t text : Int) = checkP t text)))) rfl) ?_
    have hg2 : (decide ((checkP t text : Int) = checkP t text)) = true := decide_eq_true rfl
    refine WpL_guard_yes (oj := _) rfl rfl (by decide) (congrArg Value.bool hg2) ?_
    refine WpL_val rfl rfl (by decide) (r_move (v := (.int .i64 (checkP t text))) rfl) ?_
    refine WpL_guard_yes (oj := _) rfl rfl (by decide) (congrArg Value.bool hg2) ?_
    refine WpL_val rfl rfl (by decide) (r_move (v := (.int .i64 (checkP t text))) rfl) ?_
    refine WpL_guard_yes (oj := _) rfl rfl (by decide) (congrArg Value.bool hg2) ?_
    refine WpL_val rfl rfl (by decide) (r_eql (k := .i64) (a := checkP t text) (b := checkP t text) rfl rfl) ?_
    refine WpL_val rfl rfl (by decide) (r_pick (b := decide ((checkP t text : Int) = checkP t text)) (v := (.bool (decide ((checkP t text : Int) = checkP t text)))) rfl (by rw [hg2]; rfl)) ?_
    refine WpL_val rfl rfl (by decide) (r_move (v := (.bool (decide ((checkP t text : Int) = checkP t text)))) rfl) ?_
    refine WpL_guard_yes (oj := _) rfl rfl (by decide) (congrArg Value.bool hg2) ?_
    refine WpL_val rfl rfl (by decide) (r_move (v := (.int .i64 (checkP t text))) rfl) ?_
    refine WpL_guard_yes (oj := _) rfl rfl (by decide) (congrArg Value.bool hg2) ?_
    refine WpL_val rfl rfl (by decide) (r_move (v := (.int .i64 (checkP t text))) rfl) ?_
    refine WpL_guard_yes (oj := _) rfl rfl (by decide) (congrArg Value.bool hg2) ?_
    refine WpL_val rfl rfl (by decide) (r_eql (k := .i64) (a := checkP t text) (b := checkP t text) rfl rfl) ?_
    refine WpL_val rfl rfl (by decide) (r_pick (b := decide ((checkP t text : Int) = checkP t text)) (v := (.bool (decide ((checkP t text : Int) = checkP t text)))) rfl (by rw [hg2]; rfl)) ?_
    refine WpL_val rfl rfl (by decide) (r_move (v := (.bool (decide ((checkP t text : Int) = checkP t text)))) rfl) ?_
    refine WpL_guard_yes (oj := _) rfl rfl (by decide) (congrArg Value.bool hg2) ?_
    refine WpL_val rfl rfl (by decide) (r_move (v := (.slice la (([] : List (Nat × Nat)).length) lc)) rfl) ?_
    refine WpL_guard_yes (oj := _) rfl rfl (by decide) (congrArg Value.bool hg2) ?_
    refine WpL_val rfl rfl (by decide) (r_lenSlice (ad := la) (n := ([] : List (Nat × Nat)).length) (cap := lc) Tryd.underlying37 rfl) ?_
    refine WpL_guard_yes (oj := _) rfl rfl (by decide) (congrArg Value.bool hg2) ?_
    refine WpL_val rfl rfl (by decide) (r_eql (k := .i64) (a := ((([] : List (Nat × Nat)).length : Nat) : Int)) (b := 0) rfl rfl) ?_
    refine WpL_val rfl rfl (by decide) (r_pick (b := decide ((checkP t text : Int) = checkP t text)) (v := (.bool (decide ((((([] : List (Nat × Nat)).length : Nat) : Int) : Int) = 0)))) rfl (by rw [hg2]; rfl)) ?_
    refine WpL_val rfl rfl (by decide) (r_move (v := (.bool (decide ((((([] : List (Nat × Nat)).length : Nat) : Int) : Int) = 0)))) rfl) ?_
    have hg3 : (decide ((((([] : List (Nat × Nat)).length : Nat) : Int) : Int) = 0)) = true := decide_eq_true rfl
    refine WpL_guard_yes (oj := _) rfl rfl (by decide) (congrArg Value.bool hg3) ?_
    refine WpL_val rfl rfl (by decide) (r_move (v := (.bool false)) rfl) ?_
    refine WpL_guard_yes (oj := _) rfl rfl (by decide) (congrArg Value.bool hg3) ?_
    refine WpL_val rfl rfl (by decide) (r_not (b := false) rfl) ?_
    refine WpL_val rfl rfl (by decide) (r_pick (b := decide ((((([] : List (Nat × Nat)).length : Nat) : Int) : Int) = 0)) (v := (.bool true)) rfl (by rw [hg3]; rfl)) ?_
    refine WpL_val rfl rfl (by decide) (r_move (v := (.bool true)) rfl) ?_
    refine WpL_guard_yes (oj := _) rfl rfl (by decide) rfl ?_
    refine WpL_val rfl rfl (by decide) (r_move (v := (.bool false)) rfl) ?_
    refine WpL_guard_yes (oj := _) rfl rfl (by decide) rfl ?_
    refine WpL_val rfl rfl (by decide) (r_not (b := false) rfl) ?_
    refine WpL_val rfl rfl (by decide) (r_pick (b := true) (v := (.bool true)) rfl rfl) ?_
    refine WpL_val rfl rfl (by decide) (r_move (v := (.bool true)) rfl) ?_
    refine WpL_guard_yes (oj := _) rfl rfl (by decide) rfl ?_
    refine WpL_val rfl rfl (by decide) (r_loadAgg (vs := [(.int .i64 0), (.int .i64 0)]) rfl agg43 siz43 rfl (Bo.cells rfl)) ?_
    refine WpL_guard_yes (oj := _) rfl rfl (by decide) rfl ?_
    refine WpL_val rfl rfl (by decide) (r_build (ps := []) (v := (.agg #[(.int .i64 0), (.int .i64 0)])) rfl (by kernel_rfl)) ?_
    refine WpL_guard_yes (oj := _) rfl rfl (by decide) rfl ?_
    refine WpL_val (v := (.bool true)) rfl rfl (by decide) ((r_eqlPair (a := 0) (b := 0) (c := 0) (f := 0) Tryd.underlying43 Tryd.underlying3 siz3 flat3 eqgPair rfl rfl).trans rfl) ?_
    refine WpL_val rfl rfl (by decide) (r_pick (b := true) (v := (.bool true)) rfl rfl) ?_
    refine WpL_val rfl rfl (by decide) (r_assign (v := (.bool true)) rfl) ?_
    refine WpL_nil ?_
    refine Wp_ret ?_
    refine thn_ret ?_
    refine fin_tmp Tryd.results5 (v := (.bool true)) rfl ?_
    exact ⟨rfl, E⟩
  · have khne := hne
    replace hne := of_decide_eq_false hne
    have h0 : checkP t text = 0 := by omega
    obtain ⟨hok, hsz, hn⟩ := checkP_ok h0
    have hF := hF2 h0
    rw [if_pos h0] at hL hmt
    refine Wp_skip ?_
    refine thn_normal ?_
    refine Wp_seq ?_
    refine Wp_seq_region ?_
    refine WpL_val rfl rfl (by decide) (r_loadAgg (vs := [(.int .i64 t.kind), (.slice sa t.set.length sc), (.slice aa t.args.length ac), (.int .i64 t.mn), (.int .i64 t.mx), (.bool t.neg)]) rfl agg27 siz27 rfl (Bp.cells rfl)) ?_
    refine WpL_val rfl rfl (by decide) (r_move (v := (.slice ta text.length tc)) rfl) ?_
    refine WpL_enter rfl rfl (by decide) (r_callF (vs := [(.agg #[(.int .i64 t.kind), (.slice sa t.set.length sc), (.slice aa t.args.length ac), (.int .i64 t.mn), (.int .i64 t.mx), (.bool t.neg)]), (.slice ta text.length tc), (.int .i64 7)]) Tryd.func21 nm21 bd21 rfl) (light_c _ t _ _ text 7 (ReAt.ext E t ht0) (htx.ext E) hs hok) ?_
    rintro _ w59 ⟨⟨lb, rfl⟩, X59⟩
    replace Bp := X59.keep Bp
    replace Bo := X59.keep Bo
    replace hps := hps.ext X59
    replace E := E.ext X59
    refine WpL_val rfl rfl (by decide) (r_not (b := lb) rfl) ?_
    refine WpL_nil ?_
    refine Wp_cond (b := !lb) rfl (fun hl => ?_) (fun hl => ?_)
    · have khl := hl
      replace hl := by simpa using hl
      refine Wp_seq_region ?_
      refine WpL_val rfl rfl (by decide) (r_assign (v := (.bool true)) rfl) ?_
      refine WpL_nil ?_
      refine Wp_ret ?_
      refine thn_ret ?_
      refine fin_tmp Tryd.results5 (v := (.bool true)) rfl ?_
      exact ⟨rfl, E⟩
    · have khl := hl
      replace hl := by simpa using hl
      refine Wp_skip ?_
      refine thn_normal ?_
      refine Wp_seq_region ?_
      refine WpL_val rfl rfl (by decide) (r_loadAgg (vs := [(.int .i64 t.kind), (.slice sa t.set.length sc), (.slice aa t.args.length ac), (.int .i64 t.mn), (.int .i64 t.mx), (.bool t.neg)]) rfl agg27 siz27 rfl (Bp.cells rfl)) ?_
      refine WpL_val rfl rfl (by decide) (r_move (v := (.slice ta text.length tc)) rfl) ?_
      refine WpL_enter rfl rfl (by decide) (r_callF (vs := [(.agg #[(.int .i64 t.kind), (.slice sa t.set.length sc), (.slice aa t.args.length ac), (.int .i64 t.mn), (.int .i64 t.mx), (.bool t.neg)]), (.slice ta text.length tc)]) Tryd.func22 nm22 bd22 rfl) ((pairsOf_c _ t _ _ text hn (ReAt.ext E t ht0) (htx.ext E) hok).mono (R' := fun v w => ∃ a c L2, v = .slice a L2.length c ∧ PairsAt w (.slice a L2.length c) L2 ∧ L2 = pairsL (relOf text t) (text.length + 1) ∧ Ext w59 w) (by rintro v w ⟨a, c, rfl, h2, h3⟩; exact ⟨a, c, _, rfl, h2, rfl, h3⟩)) ?_
      rintro _ w69 ⟨wa, wc, L2, rfl, hws, hL2, X69⟩
      replace Bp := X69.keep Bp
      replace Bo := X69.keep Bo
      replace hps := hps.ext X69
      replace E := E.ext X69
      obtain rfl : L2 = L := by rw [hL2, hL]
      clear hL2
      subst hmt
      refine WpL_val rfl rfl (by decide) (r_assign (v := (.slice wa L2.length wc)) rfl) ?_
      refine WpL_nil ?_
      refine Wp_seq ?_
      refine Wp_seq_region ?_
      refine WpL_val rfl rfl (by decide) (r_move (v := (.int .i64 (checkP t text))) rfl) ?_
      refine WpL_val rfl rfl (by decide) (r_neq (k := .i64) (a := checkP t text) (b := 0) rfl rfl) ?_
      refine WpL_val rfl rfl (by decide) (r_move (v := (.bool (decide ((checkP t text : Int) ≠ 0)))) rfl) ?_
      refine WpL_guard_yes (oj := _) rfl rfl (by decide) (congrArg Value.bool khne) ?_
      refine WpL_val rfl rfl (by decide) (r_move (v := (.slice la L2.length lc)) rfl) ?_
      refine WpL_guard_yes (oj := _) rfl rfl (by decide) (congrArg Value.bool khne) ?_
      refine WpL_val rfl rfl (by decide) (r_lenSlice (ad := la) (n := L2.length) (cap := lc) Tryd.underlying37 rfl) ?_
      refine WpL_guard_yes (oj := _) rfl rfl (by decide) (congrArg Value.bool khne) ?_
      refine WpL_val rfl rfl (by decide) (r_move (v := (.slice wa L2.length wc)) rfl) ?_
      refine WpL_guard_yes (oj := _) rfl rfl (by decide) (congrArg Value.bool khne) ?_
      refine WpL_val rfl rfl (by decide) (r_lenSlice (ad := wa) (n := L2.length) (cap := wc) Tryd.underlying37 rfl) ?_
      refine WpL_guard_yes (oj := _) rfl rfl (by decide) (congrArg Value.bool khne) ?_
      refine WpL_val rfl rfl (by decide) (r_neq (k := .i64) (a := ((L2.length : Nat) : Int)) (b := ((L2.length : Nat) : Int)) rfl rfl) ?_
      refine WpL_val rfl rfl (by decide) (r_pick (b := decide ((checkP t text : Int) ≠ 0)) (v := (.bool (decide ((((L2.length : Nat) : Int) : Int) ≠ ((L2.length : Nat) : Int))))) rfl (by rw [khne]; rfl)) ?_
      refine WpL_val rfl rfl (by decide) (r_move (v := (.bool (decide ((((L2.length : Nat) : Int) : Int) ≠ ((L2.length : Nat) : Int))))) rfl) ?_
      have hg5 : (decide ((((L2.length : Nat) : Int) : Int) ≠ ((L2.length : Nat) : Int))) = false := decide_eq_false (by simp)
      refine WpL_guard_yes (oj := _) rfl rfl (by decide) (congrArg Value.bool hg5) ?_
      refine WpL_val rfl rfl (by decide) (r_move (v := (.int .i64 (checkP t text))) rfl) ?_
      refine WpL_guard_yes (oj := _) rfl rfl (by decide) (congrArg Value.bool hg5) ?_
      refine WpL_val rfl rfl (by decide) (r_neq (k := .i64) (a := checkP t text) (b := 0) rfl rfl) ?_
      refine WpL_val rfl rfl (by decide) (r_pick (b := decide ((((L2.length : Nat) : Int) : Int) ≠ ((L2.length : Nat) : Int))) (v := (.bool (decide ((checkP t text : Int) ≠ 0)))) rfl (by rw [hg5]; rfl)) ?_
      refine WpL_val rfl rfl (by decide) (r_move (v := (.bool (decide ((checkP t text : Int) ≠ 0)))) rfl) ?_
      refine WpL_guard_yes (oj := _) rfl rfl (by decide) (congrArg Value.bool khne) ?_
      refine WpL_val rfl rfl (by decide) (r_move (v := (.bool (relOf text t 0 text.length))) rfl) ?_
      refine WpL_guard_yes (oj := _) rfl rfl (by decide) (congrArg Value.bool khne) ?_
      refine WpL_val rfl rfl (by decide) (r_loadAgg (vs := [(.int .i64 t.kind), (.slice sa t.set.length sc), (.slice aa t.args.length ac), (.int .i64 t.mn), (.int .i64 t.mx), (.bool t.neg)]) rfl agg27 siz27 rfl (Bp.cells rfl)) ?_
      refine WpL_guard_yes (oj := _) rfl rfl (by decide) (congrArg Value.bool khne) ?_
      refine WpL_val rfl rfl (by decide) (r_move (v := (.slice ta text.length tc)) rfl) ?_
      refine WpL_guard_yes (oj := _) rfl rfl (by decide) (congrArg Value.bool khne) ?_
      refine WpL_val rfl rfl (by decide) (r_move (v := (.slice ta text.length tc)) rfl) ?_
      refine WpL_guard_yes (oj := _) rfl rfl (by decide) (congrArg Value.bool khne) ?_
      refine WpL_val rfl rfl (by decide) (r_lenSlice (ad := ta) (n := text.length) (cap := tc) Tryd.underlying22 rfl) ?_
      refine WpL_guard_yes (oj := _) rfl rfl (by decide) (congrArg Value.bool khne) ?_
      refine WpL_enter rfl rfl (by decide) (r_callF (vs := [(.agg #[(.int .i64 t.kind), (.slice sa t.set.length sc), (.slice aa t.args.length ac), (.int .i64 t.mn), (.int .i64 t.mx), (.bool t.neg)]), (.slice ta text.length tc), (.int .i64 0), (.int .i64 ((text.length : Nat) : Int))]) Tryd.func23 nm23 bd23 rfl) (match_c text hn _ t 0 text.length (by omega) (Nat.le_refl _) (Nat.lt_succ_self _) (okM_of hok) _ _ _ (ReAt.ext E t ht0) (htx.ext E)) ?_
      rintro _ w79 ⟨rfl, X79⟩
      replace Bp := X79.keep Bp
      replace Bo := X79.keep Bo
      replace hps := hps.ext X79
      replace hws := hws.ext X79
      replace E := E.ext X79
      refine WpL_guard_yes (oj := _) rfl rfl (by decide) (congrArg Value.bool khne) ?_
      refine WpL_val rfl rfl (by decide) (r_neqB (p := relOf text t 0 text.length) (q := relOf text t 0 text.length) Tryd.underlying4 rfl rfl) ?_
      refine WpL_val rfl rfl (by decide) (r_pick (b := decide ((checkP t text : Int) ≠ 0)) (v := (.bool ((relOf text t 0 text.length) != (relOf text t 0 text.length)))) rfl (by rw [khne]; rfl)) ?_
      refine WpL_nil ?_
      have hc6 : ((relOf text t 0 text.length) != (relOf text t 0 text.length)) = false := by simp
      refine Wp_cond_false (congrArg Value.bool hc6) ?_
      refine Wp_skip ?_
      refine thn_normal ?_
      refine Wp_seq ?_
      refine Wp_seq_region ?_
      refine WpL_val rfl rfl (by decide) (r_move (v := (.slice la L2.length lc)) rfl) ?_
      refine WpL_val rfl rfl (by decide) (r_lenSlice (ad := la) (n := L2.length) (cap := lc) Tryd.underlying37 rfl) ?_
      refine WpL_val rfl rfl (by decide) (r_move (v := (.int .i64 0)) rfl) ?_
      refine WpL_nil ?_
      refine Wp_block ?_
      have hLn : L2.length ≤ 625 := by have := pairs_len (relOf text t) (text.length + 1); rw [← hL] at this; omega
      refine Wp_loop (fun nn_ σ W7 => ∃ (k : Nat), (∃ jj_, σ = upds jj_ [(5, (.slice la L2.length lc)), (9, (.pointer (some ⟨bo, 0, none⟩))), (10, (.bool s)), (11, (.int .i64 (checkP t text))), (13, (.slice wa L2.length wc)), (105, (.int .i64 ((L2.length : Nat) : Int))), (106, (.int .i64 ((k : Nat) : Int)))]) ∧ Chg none1 w0 W7 ∧ Blk W7 bp #[(.int .i64 t.kind), (.slice sa t.set.length sc), (.slice aa t.args.length ac), (.int .i64 t.mn), (.int .i64 t.mx), (.bool t.neg)] 27 ∧ Blk W7 bo #[(.int .i64 p), (.int .i64 q)] 43 ∧ (k ≤ L2.length) ∧ (PairsAt W7 (.slice la L2.length lc) L2) ∧ (PairsAt W7 (.slice wa L2.length wc) L2) ∧ nn_ = L2.length - k) (n := L2.length - 0) ?_ ?_
      · exact ⟨0, Fits.out ⟨rfl, rfl, rfl, rfl, rfl, rfl, rfl, trivial⟩, E, Bp, Bo, Nat.zero_le _, hps, hws, rfl⟩
      · clear E Bp Bo
        rintro _ _ W7 ⟨k, ⟨j7, rfl⟩, E, Bp, Bo, hk, hps, hws, rfl⟩
        refine Wp_seq_region ?_
        refine WpL_val rfl rfl (by decide) (r_lss (k := .i64) (a := ((k : Nat) : Int)) (b := ((L2.length : Nat) : Int)) rfl rfl) ?_
        refine WpL_nil ?_
        refine Wp_seq ?_
        refine Wp_cond (b := decide ((((k : Nat) : Int) : Int) < ((L2.length : Nat) : Int))) rfl (fun hlt => ?_) (fun hlt => ?_)
        · have khlt := hlt
          replace hlt := of_decide_eq_true hlt
          obtain ⟨x, hx⟩ := get_of_lt (l := L2) (i := k) (by omega)
          obtain ⟨lb1, lo1, rfl, hcl1⟩ := pairs_cells hps (by omega)
          obtain ⟨lb2, lo2, rfl, hcl2⟩ := pairs_cells hws (by omega)
          refine Wp_skip ?_
          refine thn_normal ?_
          refine Wp_seq ?_
          refine Wp_block ?_
          refine Wp_seq_region ?_
          refine WpL_val rfl rfl (by decide) (r_move (v := (.int .i64 ((k : Nat) : Int))) rfl) ?_
          refine WpL_val rfl rfl (by decide) (r_assign (v := (.int .i64 ((k : Nat) : Int))) rfl) ?_
          refine WpL_nil ?_
          refine Wp_seq_draw 8 mixed (by kernel_rfl) ?_
          intro w9 X9 _
          replace Bp := X9.keep Bp
          replace Bo := X9.keep Bo
          replace hps := hps.ext X9
          replace hws := hws.ext X9
          replace E := E.ext X9
          refine WpT_val rfl rfl (by decide) (r_move (v := (.slice (some ⟨lb1, lo1, none⟩) L2.length lc)) rfl) ?_
          refine WpT_val rfl rfl (by decide) (r_move (v := (.int .i64 ((k : Nat) : Int))) rfl) ?_
          refine WpT_val rfl rfl (by decide) (r_indexSlice (b := lb1) (o := lo1) (len := L2.length) (cap := lc) (i := k) (o' := lo1 + k * 2) rfl rfl rfl Tryd.underlying37 siz43 (by omega) (by omega)) ?_
          refine WpT_val rfl rfl (by decide) (r_loadAgg (vs := [(.int .i64 ((x.1 : Nat) : Int)), (.int .i64 ((x.2 : Nat) : Int))]) rfl agg43 siz43 rfl ((hcl1 k x hx).ext (by assumption))) ?_
          refine WpT_val rfl rfl (by decide) (r_move (v := (.slice (some ⟨lb2, lo2, none⟩) L2.length wc)) rfl) ?_
          refine WpT_val rfl rfl (by decide) (r_move (v := (.int .i64 ((k : Nat) : Int))) rfl) ?_
          refine WpT_val rfl rfl (by decide) (r_indexSlice (b := lb2) (o := lo2) (len := L2.length) (cap := wc) (i := k) (o' := lo2 + k * 2) rfl rfl rfl Tryd.underlying37 siz43 (by omega) (by omega)) ?_
          refine WpT_val rfl rfl (by decide) (r_loadAgg (vs := [(.int .i64 ((x.1 : Nat) : Int)), (.int .i64 ((x.2 : Nat) : Int))]) rfl agg43 siz43 rfl ((hcl2 k x hx).ext (by assumption))) ?_
          refine WpT_zero ?_
          refine WpL_val (v := (.bool false)) rfl rfl (by decide) (r_neqPair0 (a := ((x.1 : Nat) : Int)) (b := ((x.2 : Nat) : Int)) Tryd.underlying43 Tryd.underlying3 siz3 flat3 eqgPair rfl rfl) ?_
          refine WpL_nil ?_
          refine Wp_cond_false rfl ?_
          refine Wp_skip ?_
          refine inB_normal ?_
          refine thn_normal ?_
          refine Wp_region ?_
          refine WpL_val rfl rfl (by decide) (r_add (k := .i64) (a := ((k : Nat) : Int)) (b := 1) (c := ((k : Nat) : Int) + 1) rfl rfl (wI64 (by omega))) ?_
          refine WpL_val rfl rfl (by decide) (r_move (v := (.int .i64 (((k : Nat) : Int) + 1))) rfl) ?_
          refine WpL_nil ?_
          refine thn_normal ?_
          exact ⟨L2.length - (k + 1), by omega, k + 1, Fits.out ⟨rfl, rfl, rfl, rfl, rfl, rfl, rfl, trivial⟩, E, Bp, Bo, (by omega), hps, hws, rfl⟩
        · have khlt := hlt
          replace hlt := of_decide_eq_false hlt
          refine Wp_exit ?_
          refine thn_exit ?_
          refine thn_exit ?_
          refine inB_here ?_
          refine thn_normal ?_
          refine Wp_seq ?_
          refine Wp_seq_region ?_
          refine WpL_val rfl rfl (by decide) (r_move (v := (.slice wa L2.length wc)) rfl) ?_
          refine WpL_val rfl rfl (by decide) (r_lenSlice (ad := wa) (n := L2.length) (cap := wc) Tryd.underlying37 rfl) ?_
          refine WpL_val rfl rfl (by decide) (r_eql (k := .i64) (a := ((L2.length : Nat) : Int)) (b := 0) rfl rfl) ?_
          refine WpL_nil ?_
          refine Wp_cond (b := decide ((((L2.length : Nat) : Int) : Int) = 0)) rfl (fun hz => ?_) (fun hz => ?_)
          · have khz := hz
            replace hz := of_decide_eq_true hz
            have hnil : L2 = [] := List.eq_nil_of_length_eq_zero (by omega)
            obtain ⟨rfl, rfl, rfl⟩ := first_none hn hwf hF (hL ▸ hnil)
            refine Wp_seq_region ?_
            refine WpL_val rfl rfl (by decide) (r_move (v := (.int .i64 (checkP t text))) rfl) ?_
            refine WpL_val rfl rfl (by decide) (r_eql (k := .i64) (a := checkP t text) (b := 0) rfl rfl) ?_
            refine WpL_val rfl rfl (by decide) (r_move (v := (.bool (decide ((checkP t text : Int) = 0)))) rfl) ?_
            have hg11 : (decide ((checkP t text : Int) = 0)) = true := decide_eq_true h0
            refine WpL_guard_yes (oj := _) rfl rfl (by decide) (congrArg Value.bool hg11) ?_
            refine WpL_val rfl rfl (by decide) (r_move (v := (.bool false)) rfl) ?_
            refine WpL_guard_yes (oj := _) rfl rfl (by decide) (congrArg Value.bool hg11) ?_
            refine WpL_val rfl rfl (by decide) (r_not (b := false) rfl) ?_
            refine WpL_val rfl rfl (by decide) (r_pick (b := decide ((checkP t text : Int) = 0)) (v := (.bool true)) rfl (by rw [hg11]; rfl)) ?_
            refine WpL_val rfl rfl (by decide) (r_move (v := (.bool true)) rfl) ?_
            refine WpL_guard_yes (oj := _) rfl rfl (by decide) rfl ?_
            refine WpL_val rfl rfl (by decide) (r_loadAgg (vs := [(.int .i64 0), (.int .i64 0)]) rfl agg43 siz43 rfl (Bo.cells rfl)) ?_
            refine WpL_guard_yes (oj := _) rfl rfl (by decide) rfl ?_
            refine WpL_val rfl rfl (by decide) (r_build (ps := []) (v := (.agg #[(.int .i64 0), (.int .i64 0)])) rfl (by kernel_rfl)) ?_
            refine WpL_guard_yes (oj := _) rfl rfl (by decide) rfl ?_
            refine WpL_val (v := (.bool true)) rfl rfl (by decide) ((r_eqlPair (a := 0) (b := 0) (c := 0) (f := 0) Tryd.underlying43 Tryd.underlying3 siz3 flat3 eqgPair rfl rfl).trans rfl) ?_
            refine WpL_val rfl rfl (by decide) (r_pick (b := true) (v := (.bool true)) rfl rfl) ?_
            refine WpL_val rfl rfl (by decide) (r_assign (v := (.bool true)) rfl) ?_
            refine WpL_nil ?_
            refine Wp_ret ?_
            refine thn_ret ?_
            refine fin_tmp Tryd.results5 (v := (.bool true)) rfl ?_
            exact ⟨rfl, E⟩
          · have khz := hz
            replace hz := of_decide_eq_false hz
            obtain ⟨x, hx⟩ := get_of_lt (l := L2) (i := 0) (by omega)
            have hcons : L2 = x :: L2.drop 1 := by rw [← drop_cons hx]; rfl
            obtain ⟨hs1, hp1, hq1⟩ := first_law hn hwf hF (hL.symm.trans hcons)
            subst hs1
            obtain ⟨lb2, lo2, rfl, hcl2⟩ := pairs_cells hws (by omega)
            have EQ : Chg none1 W7 W7 := Chg.refl _ _
            refine Wp_skip ?_
            refine thn_normal ?_
            refine Wp_seq_region ?_
            refine WpL_val rfl rfl (by decide) (r_move (v := (.slice (some ⟨lb2, lo2, none⟩) L2.length wc)) rfl) ?_
            refine WpL_val rfl rfl (by decide) (r_indexSlice (b := lb2) (o := lo2) (len := L2.length) (cap := wc) (i := 0) (o' := lo2 + 0 * 2) rfl rfl rfl Tryd.underlying37 siz43 (by omega) (by omega)) ?_
            refine WpL_val rfl rfl (by decide) (r_loadAgg (vs := [(.int .i64 ((x.1 : Nat) : Int)), (.int .i64 ((x.2 : Nat) : Int))]) rfl agg43 siz43 rfl ((hcl2 0 x hx))) ?_
            clear hps
            refine s_allocStore (v := (.agg #[(.int .i64 ((x.1 : Nat) : Int)), (.int .i64 ((x.2 : Nat) : Int))])) (c := #[(.int .i64 ((x.1 : Nat) : Int)), (.int .i64 ((x.2 : Nat) : Int))]) (n := 2) (by decide) zer43 rfl siz43 rfl rfl rfl (by simp [Value.oneCell']) ?_
            intro bl wl Nl
            have Fl := Nl.ge E
            have Fl_EQ := Nl.ge EQ
            have Ol_bp := Nl.lt Bp
            have Ol_bo := Nl.lt Bo
            replace Bp := Nl.keep Bp
            replace Bo := Nl.keep Bo
            replace E := E.ext Nl.ext
            have Bl := Nl.blk
            replace EQ := EQ.ext Nl.ext
            refine WpL_nil ?_
            refine Wp_seq ?_
            refine Wp_seq_region ?_
            refine WpL_val rfl rfl (by decide) (r_move (v := (.slice (some ⟨lb2, lo2, none⟩) L2.length wc)) rfl) ?_
            refine WpL_val rfl rfl (by decide) (r_lenSlice (ad := some ⟨lb2, lo2, none⟩) (n := L2.length) (cap := wc) Tryd.underlying37 rfl) ?_
            refine WpL_val rfl rfl (by decide) (r_move (v := (.int .i64 0)) rfl) ?_
            refine WpL_nil ?_
            refine Wp_block ?_
            refine Wp_loop (fun nn_ σ W12 => ∃ (m : Nat) (a : Nat × Nat), (∃ jj_, σ = upds jj_ [(9, (.pointer (some ⟨bo, 0, none⟩))), (10, (.bool true)), (11, (.int .i64 (checkP t text))), (15, (.pointer (some ⟨bl, 0, none⟩))), (136, (.slice (some ⟨lb2, lo2, none⟩) L2.length wc)), (137, (.int .i64 ((L2.length : Nat) : Int))), (138, (.int .i64 ((m : Nat) : Int)))]) ∧ Chg none1 w0 W12 ∧ Chg none1 W7 W12 ∧ Blk W12 bp #[(.int .i64 t.kind), (.slice sa t.set.length sc), (.slice aa t.args.length ac), (.int .i64 t.mn), (.int .i64 t.mx), (.bool t.neg)] 27 ∧ Blk W12 bo #[(.int .i64 p), (.int .i64 q)] 43 ∧ Blk W12 bl (#[.int .i64 ((a.1 : Nat) : Int), .int .i64 ((a.2 : Nat) : Int)]) 43 ∧ (m ≤ L2.length) ∧ (a = (L2.take m).foldl lastF x) ∧ nn_ = L2.length - m) (n := L2.length - 0) ?_ ?_
            · exact ⟨0, x, Fits.out ⟨rfl, rfl, rfl, rfl, rfl, rfl, rfl, trivial⟩, E, EQ, Bp, Bo, Bl, Nat.zero_le _, rfl, rfl⟩
            · clear E EQ Bp Bo Bl
              rintro _ _ W12 ⟨m, a, ⟨j12, rfl⟩, E, EQ, Bp, Bo, Bl, hk, ha, rfl⟩
              refine Wp_seq_region ?_
              refine WpL_val rfl rfl (by decide) (r_lss (k := .i64) (a := ((m : Nat) : Int)) (b := ((L2.length : Nat) : Int)) rfl rfl) ?_
              refine WpL_nil ?_
              refine Wp_seq ?_
              refine Wp_cond (b := decide ((((m : Nat) : Int) : Int) < ((L2.length : Nat) : Int))) rfl (fun hlt2 => ?_) (fun hlt2 => ?_)
              · have khlt2 := hlt2
                replace hlt2 := of_decide_eq_true hlt2
                obtain ⟨y, hy⟩ := get_of_lt (l := L2) (i := m) (by omega)
                refine Wp_skip ?_
                refine thn_normal ?_
                refine Wp_seq ?_
                refine Wp_block ?_
                refine Wp_seq_region ?_
                refine WpL_val rfl rfl (by decide) (r_indexSlice (b := lb2) (o := lo2) (len := L2.length) (cap := wc) (i := m) (o' := lo2 + m * 2) rfl rfl rfl Tryd.underlying37 siz43 (by omega) (by omega)) ?_
                refine WpL_val rfl rfl (by decide) (r_loadAgg (vs := [(.int .i64 ((y.1 : Nat) : Int)), (.int .i64 ((y.2 : Nat) : Int))]) rfl agg43 siz43 rfl ((hcl2 m y hy).ext EQ)) ?_
                refine s_allocStore (v := (.agg #[(.int .i64 ((y.1 : Nat) : Int)), (.int .i64 ((y.2 : Nat) : Int))])) (c := #[(.int .i64 ((y.1 : Nat) : Int)), (.int .i64 ((y.2 : Nat) : Int))]) (n := 2) (by decide) zer43 rfl siz43 rfl rfl rfl (by simp [Value.oneCell']) ?_
                intro bu wu Nu
                have Fu := Nu.ge E
                have Fu_EQ := Nu.ge EQ
                have Ou_bp := Nu.lt Bp
                have Ou_bo := Nu.lt Bo
                have Ou_bl := Nu.lt Bl
                replace Bp := Nu.keep Bp
                replace Bo := Nu.keep Bo
                replace Bl := Nu.keep Bl
                replace E := E.ext Nu.ext
                have Bu := Nu.blk
                replace EQ := EQ.ext Nu.ext
                refine WpL_nil ?_
                refine Wp_seq_region ?_
                refine WpL_val rfl rfl (by decide) (r_indexArr (b := bu) (o := 0) (i := 0) (o' := 0) rfl rfl rfl Tryd.underlying43 siz3 (by omega) (by omega)) ?_
                refine WpL_val rfl rfl (by decide) (r_load (v := (.int .i64 ((y.1 : Nat) : Int))) rfl flat3 (Bu.cell rfl)) ?_
                refine WpL_val rfl rfl (by decide) (r_indexArr (b := bl) (o := 0) (i := 0) (o' := 0) rfl rfl rfl Tryd.underlying43 siz3 (by omega) (by omega)) ?_
                refine WpL_val rfl rfl (by decide) (r_load (v := (.int .i64 ((a.1 : Nat) : Int))) rfl flat3 (Bl.cell rfl)) ?_
                refine WpL_val rfl rfl (by decide) (r_eql (k := .i64) (a := ((y.1 : Nat) : Int)) (b := ((a.1 : Nat) : Int)) rfl rfl) ?_
                refine WpL_nil ?_
                refine Wp_cond (b := decide ((((y.1 : Nat) : Int) : Int) = ((a.1 : Nat) : Int))) rfl (fun heq => ?_) (fun heq => ?_)
                · have kheq := heq
                  replace heq := of_decide_eq_true heq
                  refine Wp_region ?_
                  refine WpL_val rfl rfl (by decide) (r_loadAgg (vs := [(.int .i64 ((y.1 : Nat) : Int)), (.int .i64 ((y.2 : Nat) : Int))]) rfl agg43 siz43 rfl (Bu.cells rfl)) ?_
                  refine s_storeAgg (b := bl) (o := 0) (n := 2) (c' := #[.int .i64 ((y.1 : Nat) : Int), .int .i64 ((y.2 : Nat) : Int)]) (vs := #[(.int .i64 ((y.1 : Nat) : Int)), (.int .i64 ((y.2 : Nat) : Int))]) rfl rfl (by simp [Value.oneCell']) siz43 (rfl) Bl (by simp) (rfl) ?_
                  intro w15 S15
                  replace Bp := S15.keep (by omega) Bp
                  replace Bo := S15.keep (by omega) Bo
                  replace Bu := S15.keep (by omega) Bu
                  replace E := S15.step E (by first | exact Or.inl (by omega) | exact Or.inr rfl | exact Or.inr (by simp))
                  replace EQ := S15.step EQ (Or.inl (by omega))
                  replace Bl := S15.blk
                  refine WpL_nil ?_
                  refine inB_normal ?_
                  refine thn_normal ?_
                  refine Wp_region ?_
                  refine WpL_val rfl rfl (by decide) (r_add (k := .i64) (a := ((m : Nat) : Int)) (b := 1) (c := ((m : Nat) : Int) + 1) rfl rfl (wI64 (by omega))) ?_
                  refine WpL_val rfl rfl (by decide) (r_move (v := (.int .i64 (((m : Nat) : Int) + 1))) rfl) ?_
                  refine WpL_nil ?_
                  refine thn_normal ?_
                  exact ⟨L2.length - (m + 1), by omega, m + 1, y, Fits.out ⟨rfl, rfl, rfl, rfl, rfl, rfl, rfl, trivial⟩, E, EQ, Bp, Bo, Bl, (by omega), (by rw [fold_take hy, ← ha]; unfold lastF; rw [if_pos (by omega)]), rfl⟩
                · have kheq := heq
                  replace heq := of_decide_eq_false heq
                  refine Wp_skip ?_
                  refine inB_normal ?_
                  refine thn_normal ?_
                  refine Wp_region ?_
                  refine WpL_val rfl rfl (by decide) (r_add (k := .i64) (a := ((m : Nat) : Int)) (b := 1) (c := ((m : Nat) : Int) + 1) rfl rfl (wI64 (by omega))) ?_
                  refine WpL_val rfl rfl (by decide) (r_move (v := (.int .i64 (((m : Nat) : Int) + 1))) rfl) ?_
                  refine WpL_nil ?_
                  refine thn_normal ?_
                  exact ⟨L2.length - (m + 1), by omega, m + 1, a, Fits.out ⟨rfl, rfl, rfl, rfl, rfl, rfl, rfl, trivial⟩, E, EQ, Bp, Bo, Bl, (by omega), (by rw [fold_take hy, ← ha]; unfold lastF; rw [if_neg (by omega)]), rfl⟩
              · have khlt2 := hlt2
                replace hlt2 := of_decide_eq_false hlt2
                obtain rfl : m = L2.length := by omega
                rw [List.take_length] at ha
                refine Wp_exit ?_
                refine thn_exit ?_
                refine thn_exit ?_
                refine inB_here ?_
                refine thn_normal ?_
                refine Wp_seq_region ?_
                refine WpL_val rfl rfl (by decide) (r_move (v := (.int .i64 (checkP t text))) rfl) ?_
                refine WpL_val rfl rfl (by decide) (r_eql (k := .i64) (a := checkP t text) (b := 0) rfl rfl) ?_
                refine WpL_val rfl rfl (by decide) (r_move (v := (.bool (decide ((checkP t text : Int) = 0)))) rfl) ?_
                have hg16 : (decide ((checkP t text : Int) = 0)) = true := decide_eq_true h0
                refine WpL_guard_yes (oj := _) rfl rfl (by decide) (congrArg Value.bool hg16) ?_
                refine WpL_val rfl rfl (by decide) (r_move (v := (.bool true)) rfl) ?_
                refine WpL_val rfl rfl (by decide) (r_pick (b := decide ((checkP t text : Int) = 0)) (v := (.bool true)) rfl (by rw [hg16]; rfl)) ?_
                refine WpL_val rfl rfl (by decide) (r_move (v := (.bool true)) rfl) ?_
                refine WpL_guard_yes (oj := _) rfl rfl (by decide) rfl ?_
                refine WpL_val rfl rfl (by decide) (r_loadAgg (vs := [(.int .i64 p), (.int .i64 q)]) rfl agg43 siz43 rfl (Bo.cells rfl)) ?_
                refine WpL_guard_yes (oj := _) rfl rfl (by decide) rfl ?_
                refine WpL_val rfl rfl (by decide) (r_loadAgg (vs := [(.int .i64 ((a.1 : Nat) : Int)), (.int .i64 ((a.2 : Nat) : Int))]) rfl agg43 siz43 rfl (Bl.cells rfl)) ?_
                refine WpL_guard_yes (oj := _) rfl rfl (by decide) rfl ?_
                refine WpL_val (v := (.bool true)) rfl rfl (by decide) (r_eqlPair1 (a := p) (b := q) (c := ((a.1 : Nat) : Int)) (f := ((a.2 : Nat) : Int)) Tryd.underlying43 Tryd.underlying3 siz3 flat3 eqgPair rfl rfl (by rw [hp1, ha, ← hcons]) (by rw [hq1, ha, ← hcons])) ?_
                refine WpL_val rfl rfl (by decide) (r_pick (b := true) (v := (.bool true)) rfl rfl) ?_
                refine WpL_val rfl rfl (by decide) (r_assign (v := (.bool true)) rfl) ?_
                refine WpL_nil ?_
                refine Wp_ret ?_
                refine fin_tmp Tryd.results5 (v := (.bool true)) rfl ?_
                exact ⟨rfl, E⟩
end Go.Proofs
