/- Contracts: equality of lists of pairs; comparing what two expressions match. -/
import Derived.Test.YtiepeobnpmoghaaDoorW10
import Derived.Laws.StructEq
namespace Go.Proofs
open Go Go.Eng
set_option maxRecDepth 100000

theorem part_int {P : Program} {w : World} {e : TypeId} {cs : Array Value} {o : Nat} {v : Value} (hf : flatB P e = true) (hv : cs[o]? = some v) : (part e cs o).run P w = .ok v w := by
  simp [part, flatB.run hf, hv]
theorem equalIn_pair {P : Program} {w : World} {t e : TypeId} (d : Nat) (a b c f : Int) (ht : P.underlying t = some (.array 2 e)) (he : P.underlying e = some (.int .i64)) (hs : Siz P e 1) (hf : flatB P e = true) :
    (Op.equalIn (d + 2) t (.agg #[.int .i64 a, .int .i64 b]) (.agg #[.int .i64 c, .int .i64 f])).run P w = .ok (decide (a = c) && decide (b = f)) w := by
  have h1 : ∀ x y : Int, (Op.equalIn (d + 1) e (.int .i64 x) (.int .i64 y)).run P w = .ok (x == y) w := fun x y => run_equalIn_int w d e .i64 .i64 x y he
  have p0 : ∀ x y : Int, (part e #[.int .i64 x, .int .i64 y] 0).run P w = .ok (.int .i64 x) w := fun x y => part_int hf rfl
  have p1 : ∀ x y : Int, (part e #[.int .i64 x, .int .i64 y] 1).run P w = .ok (.int .i64 y) w := fun x y => part_int hf rfl
  rw [Op.equalIn]
  simp only [Sem.run_bind, run_underlying ht, Result.andThen_ok, hs.run]
  by_cases hac : a = c
  · by_cases hbf : b = f
    · simp [Std.Legacy.Range.forIn_eq_forIn_range', List.range', p0, p1, h1, hac, hbf]
    · simp [Std.Legacy.Range.forIn_eq_forIn_range', List.range', p0, p1, h1, hac, hbf]
  · simp [Std.Legacy.Range.forIn_eq_forIn_range', List.range', p0, h1, hac]
theorem r_neqPair {P : Program} {σ : Env} {w : World} {dst : Option Tmp} {ty : TypeId} {pos : String} {af : Array Edge} {g : Option (Nat × Bool)} {t t' e : TypeId} {x y : Operand} {a b c f : Int}
    (ht : P.underlying t = some (.array 2 e)) (he : P.underlying e = some (.int .i64)) (hs : Siz P e 1) (hf : flatB P e = true) (hm : P.eqGuardType P.depth t = false)
    (hx : ev σ x = .agg #[.int .i64 a, .int .i64 b]) (hy : ev σ y = .agg #[.int .i64 c, .int .i64 f]) :
    (execOp (ev σ) ⟨dst, .binOp .neq t x y t', ty, pos, af, g⟩).run P w = .ok (.value (.bool (!(decide (a = c) && decide (b = f))))) w := by
  have h := equalIn_pair (P := P) (w := w) 9998 a b c f ht he hs hf
  simp only [execOp, hx, hy, Sem.run_bind, run_eqGuard_agg w .neq t x y _ _ hm, Result.andThen_ok, run_neq_struct, h]
  rfl
theorem r_eqlPair {P : Program} {σ : Env} {w : World} {dst : Option Tmp} {ty : TypeId} {pos : String} {af : Array Edge} {g : Option (Nat × Bool)} {t t' e : TypeId} {x y : Operand} {a b c f : Int}
    (ht : P.underlying t = some (.array 2 e)) (he : P.underlying e = some (.int .i64)) (hs : Siz P e 1) (hf : flatB P e = true) (hm : P.eqGuardType P.depth t = false)
    (hx : ev σ x = .agg #[.int .i64 a, .int .i64 b]) (hy : ev σ y = .agg #[.int .i64 c, .int .i64 f]) :
    (execOp (ev σ) ⟨dst, .binOp .eql t x y t', ty, pos, af, g⟩).run P w = .ok (.value (.bool (decide (a = c) && decide (b = f)))) w := by
  have h := equalIn_pair (P := P) (w := w) 9998 a b c f ht he hs hf
  simp only [execOp, hx, hy, Sem.run_bind, run_eqGuard_agg w .eql t x y _ _ hm, Result.andThen_ok, run_eql_struct, h]
  rfl

theorem pairs_cells {w : World} {a : Option Addr} {n c : Nat} {l : List (Nat × Nat)} (h : PairsAt w (.slice a n c) l) (hn : 0 < n) :
    ∃ b o, a = some ⟨b, o, none⟩ ∧ ∀ (i : Nat) (p : Nat × Nat), l[i]? = some p → CellsAt w b (o + i * 2) [.int .i64 ((p.1 : Nat) : Int), .int .i64 ((p.2 : Nat) : Int)] := by
  obtain ⟨b, o, ha, h⟩ := SlAt.at h hn
  exact ⟨b, o, ha, fun i s hs => h i (pairV s) (by simp [hs])⟩
theorem PairsAt.ext {w w' : World} {v : Value} {l : List (Nat × Nat)} (h : PairsAt w v l) (e : Ext w w') : PairsAt w' v l := SlAt.ext h e
theorem eqgPair : Tryd.prog.eqGuardType Tryd.prog.depth 43 = false := by kernel_rfl
theorem get_ext {α : Type} {l m : List α} (hl : l.length = m.length) (h : ∀ i, i < l.length → l[i]? = m[i]?) : l = m := by
  apply List.ext_getElem?
  intro i
  rcases Nat.lt_or_ge i l.length with h' | h'
  · exact h i h'
  · rw [List.getElem?_eq_none h', List.getElem?_eq_none (by omega)]

set_option maxHeartbeats 400000 in
theorem peq_c (w0 : World) (v1 v2 : Value) (l1 l2 : List (Nat × Nat)) (h1 : PairsAt w0 v1 l1) (h2 : PairsAt w0 v2 l2) :
    Ret Tryd.prog 29 #[v1, v2] w0 fun v w => v = .bool (decide (l1 = l2)) ∧ Ext w0 w := by
  obtain ⟨a1, c1, rfl⟩ := SlAt.form h1
  obtain ⟨a2, c2, rfl⟩ := SlAt.form h2
  have hb1 : l1.length ≤ 9223372036854775807 := by simpa using SlAt.le h1
  simp only [List.length_map] at h1 h2 ⊢
  refine Ret_of Tryd.func29 rfl Tryd.ntmps29 (Nat.le_of_ble_eq_true rfl) ?_
  have E : Chg none1 w0 w0 := Chg.refl _ _
  refine Wp_seq_region ?_
  refine WpL_val rfl rfl (by decide) (r_assign (v := (.bool false)) rfl) ?_
  refine WpL_nil ?_
  refine Wp_seq ?_
  refine Wp_seq_region ?_
  refine WpL_val rfl rfl (by decide) (r_move (v := (.slice a1 l1.length c1)) rfl) ?_
  refine WpL_val rfl rfl (by decide) (r_lenSlice (ad := a1) (n := l1.length) (cap := c1) Tryd.underlying37 rfl) ?_
  refine WpL_val rfl rfl (by decide) (r_move (v := (.slice a2 l2.length c2)) rfl) ?_
  refine WpL_val rfl rfl (by decide) (r_lenSlice (ad := a2) (n := l2.length) (cap := c2) Tryd.underlying37 rfl) ?_
  refine WpL_val rfl rfl (by decide) (r_neq (k := .i64) (a := ((l1.length : Nat) : Int)) (b := ((l2.length : Nat) : Int)) rfl rfl) ?_
  refine WpL_nil ?_
  refine Wp_cond (b := decide ((((l1.length : Nat) : Int) : Int) ≠ ((l2.length : Nat) : Int))) rfl (fun hl => ?_) (fun hl => ?_)
  · have khl := hl
    replace hl := of_decide_eq_true hl
    refine Wp_seq_region ?_
    refine WpL_val rfl rfl (by decide) (r_assign (v := (.bool false)) rfl) ?_
    refine WpL_nil ?_
    refine Wp_ret ?_
    refine thn_ret ?_
    refine fin_tmp Tryd.results29 (v := (.bool false)) rfl ?_
    exact ⟨bool_eq (by symm; rw [decide_eq_false_iff_not]; intro h; rw [h] at hl; exact hl rfl), E⟩
  · have khl := hl
    replace hl := of_decide_eq_false hl
    refine Wp_skip ?_
    refine thn_normal ?_
    refine Wp_seq ?_
    refine Wp_seq_region ?_
    refine WpL_val rfl rfl (by decide) (r_move (v := (.slice a1 l1.length c1)) rfl) ?_
    refine WpL_val rfl rfl (by decide) (r_lenSlice (ad := a1) (n := l1.length) (cap := c1) Tryd.underlying37 rfl) ?_
    refine WpL_val rfl rfl (by decide) (r_move (v := (.int .i64 0)) rfl) ?_
    refine WpL_nil ?_
    refine Wp_block ?_
    refine Wp_loop (fun nn_ σ W2 => ∃ (k : Nat), (∃ jj_, σ = upds jj_ [(0, (.slice a1 l1.length c1)), (1, (.slice a2 l2.length c2)), (12, (.int .i64 ((l1.length : Nat) : Int))), (13, (.int .i64 ((k : Nat) : Int)))]) ∧ Chg none1 w0 W2 ∧ (k ≤ l1.length) ∧ (∀ (i : Nat), i < k → l1[i]? = l2[i]?) ∧ nn_ = l1.length - k) (n := l1.length - 0) ?_ ?_
    · exact ⟨0, Fits.out ⟨rfl, rfl, rfl, rfl, trivial⟩, E, Nat.zero_le _, (fun i h => absurd h (Nat.not_lt_zero _)), rfl⟩
    · clear E
      rintro _ _ W2 ⟨k, ⟨j2, rfl⟩, E, hk, heq, rfl⟩
      refine Wp_seq_region ?_
      refine WpL_val rfl rfl (by decide) (r_lss (k := .i64) (a := ((k : Nat) : Int)) (b := ((l1.length : Nat) : Int)) rfl rfl) ?_
      refine WpL_nil ?_
      refine Wp_seq ?_
      refine Wp_cond (b := decide ((((k : Nat) : Int) : Int) < ((l1.length : Nat) : Int))) rfl (fun hlt => ?_) (fun hlt => ?_)
      · have khlt := hlt
        replace hlt := of_decide_eq_true hlt
        obtain ⟨p, hp⟩ := get_of_lt (l := l1) (i := k) (by omega)
        obtain ⟨q, hq⟩ := get_of_lt (l := l2) (i := k) (by omega)
        obtain ⟨b1, o1, rfl, hc1⟩ := pairs_cells h1 (by omega)
        obtain ⟨b2, o2, rfl, hc2⟩ := pairs_cells h2 (by omega)
        refine Wp_skip ?_
        refine thn_normal ?_
        refine Wp_seq ?_
        refine Wp_block ?_
        refine Wp_seq_region ?_
        refine WpL_val rfl rfl (by decide) (r_move (v := (.int .i64 ((k : Nat) : Int))) rfl) ?_
        refine WpL_val rfl rfl (by decide) (r_assign (v := (.int .i64 ((k : Nat) : Int))) rfl) ?_
        refine WpL_nil ?_
        refine Wp_seq_draw 8 mixed (by kernel_rfl) ?_
        intro w4 X4 _
        replace E := E.ext X4
        refine WpT_val rfl rfl (by decide) (r_move (v := (.slice (some ⟨b1, o1, none⟩) l1.length c1)) rfl) ?_
        refine WpT_val rfl rfl (by decide) (r_move (v := (.int .i64 ((k : Nat) : Int))) rfl) ?_
        refine WpT_val rfl rfl (by decide) (r_indexSlice (b := b1) (o := o1) (len := l1.length) (cap := c1) (i := k) (o' := o1 + k * 2) rfl rfl rfl Tryd.underlying37 siz43 (by omega) (by omega)) ?_
        refine WpT_val rfl rfl (by decide) (r_loadAgg (vs := [(.int .i64 ((p.1 : Nat) : Int)), (.int .i64 ((p.2 : Nat) : Int))]) rfl agg43 siz43 rfl ((hc1 k p hp).ext E)) ?_
        refine WpT_val rfl rfl (by decide) (r_move (v := (.slice (some ⟨b2, o2, none⟩) l2.length c2)) rfl) ?_
        refine WpT_val rfl rfl (by decide) (r_move (v := (.int .i64 ((k : Nat) : Int))) rfl) ?_
        refine WpT_val rfl rfl (by decide) (r_indexSlice (b := b2) (o := o2) (len := l2.length) (cap := c2) (i := k) (o' := o2 + k * 2) rfl rfl rfl Tryd.underlying37 siz43 (by omega) (by omega)) ?_
        refine WpT_val rfl rfl (by decide) (r_loadAgg (vs := [(.int .i64 ((q.1 : Nat) : Int)), (.int .i64 ((q.2 : Nat) : Int))]) rfl agg43 siz43 rfl ((hc2 k q hq).ext E)) ?_
        refine WpT_zero ?_
        refine WpL_val (v := (.bool (!(decide (((p.1 : Nat) : Int) = ((q.1 : Nat) : Int)) && decide (((p.2 : Nat) : Int) = ((q.2 : Nat) : Int)))))) rfl rfl (by decide) (r_neqPair Tryd.underlying43 Tryd.underlying3 siz3 flat3 eqgPair rfl rfl) ?_
        refine WpL_nil ?_
        refine Wp_cond (b := !(decide (((p.1 : Nat) : Int) = ((q.1 : Nat) : Int)) && decide (((p.2 : Nat) : Int) = ((q.2 : Nat) : Int)))) rfl (fun hpq => ?_) (fun hpq => ?_)
        · have khpq := hpq
          replace hpq := by simpa using hpq
          refine Wp_seq_region ?_
          refine WpL_val rfl rfl (by decide) (r_assign (v := (.bool false)) rfl) ?_
          refine WpL_nil ?_
          refine Wp_ret ?_
          refine inB_ret ?_
          refine thn_ret ?_
          refine thn_ret ?_
          refine inB_ret ?_
          refine thn_ret ?_
          refine fin_tmp Tryd.results29 (v := (.bool false)) rfl ?_
          exact ⟨bool_eq (by symm; rw [decide_eq_false_iff_not]; intro h; subst h; rw [hp] at hq; cases hq; simp at hpq), E⟩
        · have khpq := hpq
          replace hpq := by simpa using hpq
          have hpq2 : p = q := by obtain ⟨p1, p2⟩ := p; obtain ⟨q1, q2⟩ := q; simp at hpq; simp; omega
          refine Wp_skip ?_
          refine inB_normal ?_
          refine thn_normal ?_
          refine Wp_region ?_
          refine WpL_val rfl rfl (by decide) (r_add (k := .i64) (a := ((k : Nat) : Int)) (b := 1) (c := ((k : Nat) : Int) + 1) rfl rfl (wI64 (by omega))) ?_
          refine WpL_val rfl rfl (by decide) (r_move (v := (.int .i64 (((k : Nat) : Int) + 1))) rfl) ?_
          refine WpL_nil ?_
          refine thn_normal ?_
          exact ⟨l1.length - (k + 1), by omega, k + 1, Fits.out ⟨rfl, rfl, rfl, rfl, trivial⟩, E, (by omega), (fun i hi => by rcases Nat.lt_or_ge i k with h | h; exact heq i h; obtain rfl : i = k := (by omega); rw [hp, hq, hpq2]), rfl⟩
      · have khlt := hlt
        replace hlt := of_decide_eq_false hlt
        have hkk : k = l1.length := by omega
        refine Wp_exit ?_
        refine thn_exit ?_
        refine thn_exit ?_
        refine inB_here ?_
        refine thn_normal ?_
        refine Wp_seq_region ?_
        refine WpL_val rfl rfl (by decide) (r_assign (v := (.bool true)) rfl) ?_
        refine WpL_nil ?_
        refine Wp_ret ?_
        refine fin_tmp Tryd.results29 (v := (.bool true)) rfl ?_
        exact ⟨bool_eq (by symm; rw [decide_eq_true_eq]; exact get_ext (by omega) (fun i hi => heq i (by omega))), E⟩

set_option maxHeartbeats 400000 in
theorem same_c (w0 : World) (s t : Re) (us vs : List Value) (vt : Value) (text : List Int) (hs : ReAt w0 s us) (ht : ReAt w0 t vs) (htx : IntsAt w0 vt text) (hT : TabOk w0) (hcs : checkP s text = 0) (hct : checkP t text = 0)
    (heq : pairsL (relOf text s) (text.length + 1) = pairsL (relOf text t) (text.length + 1)) :
    Ret Tryd.prog 13 #[.agg us.toArray, .agg vs.toArray, vt] w0 fun v w => v = .bool true ∧ Ext w0 w := by
  have hs0 := hs
  have ht0 := ht
  obtain ⟨sa, sc, aa, ac, rfl, _, _, _⟩ := hs.form
  obtain ⟨sa2, sc2, aa2, ac2, rfl, _, _, _⟩ := ht.form
  refine Ret_of Tryd.func13 rfl Tryd.ntmps13 (Nat.le_of_ble_eq_true rfl) ?_
  have E : Chg none1 w0 w0 := Chg.refl _ _
  refine Wp_seq_region ?_
  refine s_box (v := (.agg #[(.int .i64 s.kind), (.slice sa s.set.length sc), (.slice aa s.args.length ac), (.int .i64 s.mn), (.int .i64 s.mx), (.bool s.neg)])) (c := #[(.int .i64 s.kind), (.slice sa s.set.length sc), (.slice aa s.args.length ac), (.int .i64 s.mn), (.int .i64 s.mx), (.bool s.neg)]) (by decide) rfl rfl ?_
  intro b1 w1 N1
  have F1 := N1.ge E
  replace E := E.ext N1.ext
  have B1 := N1.blk
  refine s_box (v := (.agg #[(.int .i64 t.kind), (.slice sa2 t.set.length sc2), (.slice aa2 t.args.length ac2), (.int .i64 t.mn), (.int .i64 t.mx), (.bool t.neg)])) (c := #[(.int .i64 t.kind), (.slice sa2 t.set.length sc2), (.slice aa2 t.args.length ac2), (.int .i64 t.mn), (.int .i64 t.mx), (.bool t.neg)]) (by decide) rfl rfl ?_
  intro b2 w2 N2
  have F2 := N2.ge E
  have O2_b1 := N2.lt B1
  replace B1 := N2.keep B1
  replace E := E.ext N2.ext
  have B2 := N2.blk
  refine WpL_val rfl rfl (by decide) (r_assign (v := (.bool false)) rfl) ?_
  refine WpL_nil ?_
  refine Wp_seq_region ?_
  refine WpL_val rfl rfl (by decide) (r_loadAgg (vs := [(.int .i64 s.kind), (.slice sa s.set.length sc), (.slice aa s.args.length ac), (.int .i64 s.mn), (.int .i64 s.mx), (.bool s.neg)]) rfl agg27 siz27 rfl (B1.cells rfl)) ?_
  refine WpL_val rfl rfl (by decide) (r_move (v := vt) rfl) ?_
  refine WpL_enter rfl rfl (by decide) (r_callF (vs := [(.agg #[(.int .i64 s.kind), (.slice sa s.set.length sc), (.slice aa s.args.length ac), (.int .i64 s.mn), (.int .i64 s.mx), (.bool s.neg)]), vt]) Tryd.func16 nm16 bd16 rfl) (pairs_c _ s _ _ text (ReAt.ext E s hs0) (htx.ext E) (hT.ext E)) ?_
  rintro _ w9 ⟨la, lc, rfl, hp1, X9⟩
  replace B1 := X9.keep B1
  replace B2 := X9.keep B2
  replace E := E.ext X9
  refine WpL_val rfl rfl (by decide) (r_move (v := (.tuple #[(.slice la ((if checkP s text = 0 then pairsL (relOf text s) (text.length + 1) else []).length) lc), (.int .i64 (checkP s text))])) rfl) ?_
  refine WpL_val rfl rfl (by decide) (r_extract (vs := #[(.slice la ((if checkP s text = 0 then pairsL (relOf text s) (text.length + 1) else []).length) lc), (.int .i64 (checkP s text))]) (v := (.slice la ((if checkP s text = 0 then pairsL (relOf text s) (text.length + 1) else []).length) lc)) rfl rfl) ?_
  refine WpL_val rfl rfl (by decide) (r_extract (vs := #[(.slice la ((if checkP s text = 0 then pairsL (relOf text s) (text.length + 1) else []).length) lc), (.int .i64 (checkP s text))]) (v := (.int .i64 (checkP s text))) rfl rfl) ?_
  refine WpL_val rfl rfl (by decide) (r_assign (v := (.slice la ((if checkP s text = 0 then pairsL (relOf text s) (text.length + 1) else []).length) lc)) rfl) ?_
  refine WpL_val rfl rfl (by decide) (r_assign (v := (.int .i64 (checkP s text))) rfl) ?_
  refine WpL_nil ?_
  refine Wp_seq_region ?_
  refine WpL_val rfl rfl (by decide) (r_loadAgg (vs := [(.int .i64 t.kind), (.slice sa2 t.set.length sc2), (.slice aa2 t.args.length ac2), (.int .i64 t.mn), (.int .i64 t.mx), (.bool t.neg)]) rfl agg27 siz27 rfl (B2.cells rfl)) ?_
  refine WpL_val rfl rfl (by decide) (r_move (v := vt) rfl) ?_
  refine WpL_enter rfl rfl (by decide) (r_callF (vs := [(.agg #[(.int .i64 t.kind), (.slice sa2 t.set.length sc2), (.slice aa2 t.args.length ac2), (.int .i64 t.mn), (.int .i64 t.mx), (.bool t.neg)]), vt]) Tryd.func16 nm16 bd16 rfl) (pairs_c _ t _ _ text (ReAt.ext E t ht0) (htx.ext E) (hT.ext E)) ?_
  rintro _ w19 ⟨lb, ld, rfl, hp2, X19⟩
  replace B1 := X19.keep B1
  replace B2 := X19.keep B2
  replace E := E.ext X19
  refine WpL_val rfl rfl (by decide) (r_move (v := (.tuple #[(.slice lb ((if checkP t text = 0 then pairsL (relOf text t) (text.length + 1) else []).length) ld), (.int .i64 (checkP t text))])) rfl) ?_
  refine WpL_val rfl rfl (by decide) (r_extract (vs := #[(.slice lb ((if checkP t text = 0 then pairsL (relOf text t) (text.length + 1) else []).length) ld), (.int .i64 (checkP t text))]) (v := (.slice lb ((if checkP t text = 0 then pairsL (relOf text t) (text.length + 1) else []).length) ld)) rfl rfl) ?_
  refine WpL_val rfl rfl (by decide) (r_extract (vs := #[(.slice lb ((if checkP t text = 0 then pairsL (relOf text t) (text.length + 1) else []).length) ld), (.int .i64 (checkP t text))]) (v := (.int .i64 (checkP t text))) rfl rfl) ?_
  refine WpL_val rfl rfl (by decide) (r_assign (v := (.slice lb ((if checkP t text = 0 then pairsL (relOf text t) (text.length + 1) else []).length) ld)) rfl) ?_
  refine WpL_val rfl rfl (by decide) (r_assign (v := (.int .i64 (checkP t text))) rfl) ?_
  refine WpL_nil ?_
  refine Wp_seq_region ?_
  refine WpL_val rfl rfl (by decide) (r_move (v := (.int .i64 (checkP s text))) rfl) ?_
  refine WpL_val rfl rfl (by decide) (r_move (v := (.int .i64 (checkP t text))) rfl) ?_
  refine s_buildSlice (ps := [(0, (.int .i64 (checkP s text))), (1, (.int .i64 (checkP t text)))]) (c := #[(.int .i64 (checkP s text)), (.int .i64 (checkP t text))]) (by decide) rfl Tryd.underlying77 siz38 zer38 (by decide) (by decide) (by kernel_rfl) ?_
  intro b3 w3 N3
  have F3 := N3.ge E
  have O3_b1 := N3.lt B1
  have O3_b2 := N3.lt B2
  replace B1 := N3.keep B1
  replace B2 := N3.keep B2
  replace E := E.ext N3.ext
  have B3 := N3.blk
  refine WpL_enter rfl rfl (by decide) (r_callF (vs := [(.slice (some ⟨b3, 0, none⟩) 2 2)]) Tryd.func27 nm27 bd27 rfl) (good_c _ _ [checkP s text, checkP t text] (ints_of_blk [checkP s text, checkP t text] B3 (by simp) (by simp))) ?_
  rintro _ w29 ⟨rfl, X29⟩
  replace B1 := X29.keep B1
  replace B2 := X29.keep B2
  replace B3 := X29.keep B3
  replace E := E.ext X29
  refine WpL_val rfl rfl (by decide) (r_move (v := (.bool (!([checkP s text, checkP t text].any fun e => decide (e ≠ 0))))) rfl) ?_
  have hg4 : (!([checkP s text, checkP t text].any fun e => decide (e ≠ 0))) = true := by simp [hcs, hct]
  refine WpL_guard_yes (oj := _) rfl rfl (by decide) (congrArg Value.bool hg4) ?_
  refine WpL_val rfl rfl (by decide) (r_move (v := (.slice la ((if checkP s text = 0 then pairsL (relOf text s) (text.length + 1) else []).length) lc)) rfl) ?_
  refine WpL_guard_yes (oj := _) rfl rfl (by decide) (congrArg Value.bool hg4) ?_
  refine WpL_val rfl rfl (by decide) (r_move (v := (.slice lb ((if checkP t text = 0 then pairsL (relOf text t) (text.length + 1) else []).length) ld)) rfl) ?_
  refine WpL_guard_yes (oj := _) rfl rfl (by decide) (congrArg Value.bool hg4) ?_
  refine WpL_enter rfl rfl (by decide) (r_callF (vs := [(.slice la ((if checkP s text = 0 then pairsL (relOf text s) (text.length + 1) else []).length) lc), (.slice lb ((if checkP t text = 0 then pairsL (relOf text t) (text.length + 1) else []).length) ld)]) Tryd.func29 nm29 bd29 rfl) (peq_c _ _ _ _ _ ((hp1.ext X19).ext (N3.ext.trans X29)) (hp2.ext (N3.ext.trans X29))) ?_
  rintro _ w39 ⟨rfl, X39⟩
  replace B1 := X39.keep B1
  replace B2 := X39.keep B2
  replace B3 := X39.keep B3
  replace E := E.ext X39
  refine WpL_val rfl rfl (by decide) (r_pick (b := !([checkP s text, checkP t text].any fun e => decide (e ≠ 0))) (v := (.bool (decide ((if checkP s text = 0 then pairsL (relOf text s) (text.length + 1) else []) = (if checkP t text = 0 then pairsL (relOf text t) (text.length + 1) else []))))) rfl (by rw [hg4]; rfl)) ?_
  refine WpL_val rfl rfl (by decide) (r_assign (v := (.bool (decide ((if checkP s text = 0 then pairsL (relOf text s) (text.length + 1) else []) = (if checkP t text = 0 then pairsL (relOf text t) (text.length + 1) else []))))) rfl) ?_
  refine WpL_nil ?_
  refine Wp_ret ?_
  refine fin_tmp Tryd.results13 (v := (.bool (decide ((if checkP s text = 0 then pairsL (relOf text s) (text.length + 1) else []) = (if checkP t text = 0 then pairsL (relOf text t) (text.length + 1) else []))))) rfl ?_
  exact ⟨bool_eq (by rw [decide_eq_true_eq, if_pos hcs, if_pos hct]; exact heq), E⟩
end Go.Proofs
