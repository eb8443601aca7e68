/- Spans: equality of lists of spans, and their cells. -/
import Derived.Test.YtpjamnekclkhhaaSl
import Derived.Laws.StructEq
namespace Go.Proofs
open Go Go.Eng
set_option maxRecDepth 100000

theorem part_int {P : Program} {w : World} {e : TypeId} {cs : Array Value} {o : Nat} {v : Value} (hf : flatB P e = true) (hv : cs[o]? = some v) : (part e cs o).run P w = .ok v w := by
  simp [part, flatB.run hf, hv]
theorem get_ext {α : Type} {l m : List α} (hl : l.length = m.length) (h : ∀ i, i < l.length → l[i]? = m[i]?) : l = m := by
  apply List.ext_getElem?
  intro i
  rcases Nat.lt_or_ge i l.length with h' | h'
  · exact h i h'
  · rw [List.getElem?_eq_none h', List.getElem?_eq_none (by omega)]

section
variable {P : Program} {σ : Env} {w : World} {dst : Option Tmp} {ty : TypeId} {pos : String} {af : Array Edge} {g : Option (Nat × Bool)} {t t' e : TypeId} {x y : Operand}
theorem equalIn_span {f0 f1 : Field} (d : Nat) (a b c f : Int) (hp : P.stoodInHeld t = false) (ht : P.underlying t = some (.struct #[f0, f1])) (hn0 : f0.name ≠ "_") (hn1 : f1.name ≠ "_") (ho0 : f0.offset = 0) (ho1 : f1.offset = 1) (h0 : f0.type = e) (h1 : f1.type = e) (he : P.underlying e = some (.int .i64)) (hf : flatB P e = true) :
    (Op.equalIn (d + 2) t (.agg #[.int .i64 a, .int .i64 b]) (.agg #[.int .i64 c, .int .i64 f])).run P w = .ok (decide (a = c) && decide (b = f)) w := by
  have q1 : ∀ x y : Int, (Op.equalIn (d + 1) e (.int .i64 x) (.int .i64 y)).run P w = .ok (x == y) w := fun x y => run_equalIn_int w d e .i64 .i64 x y he
  have p0 : ∀ x y : Int, (part e #[.int .i64 x, .int .i64 y] 0).run P w = .ok (.int .i64 x) w := fun x y => part_int hf rfl
  have p1 : ∀ x y : Int, (part e #[.int .i64 x, .int .i64 y] 1).run P w = .ok (.int .i64 y) w := fun x y => part_int hf rfl
  have hpr : (program).run P w = .ok P w := rfl
  rw [Op.equalIn]
  simp only [Sem.run_bind, run_underlying ht, Result.andThen_ok, hpr, hp]
  by_cases hac : a = c
  · by_cases hbf : b = f
    · simp [hn0, hn1, ho0, ho1, h0, h1, p0, p1, q1, hac, hbf]
    · simp [hn0, hn1, ho0, ho1, h0, h1, p0, p1, q1, hac, hbf]
  · simp [hn0, hn1, ho0, ho1, h0, h1, p0, p1, q1, hac]
theorem r_neqSpan {f0 f1 : Field} {a b c f : Int} (hp : P.stoodInHeld t = false) (ht : P.underlying t = some (.struct #[f0, f1])) (hn0 : f0.name ≠ "_") (hn1 : f1.name ≠ "_") (ho0 : f0.offset = 0) (ho1 : f1.offset = 1) (h0 : f0.type = e) (h1 : f1.type = e) (he : P.underlying e = some (.int .i64)) (hf : flatB P e = true) (hm : P.eqGuardType P.depth t = false)
    (hx : ev σ x = .agg #[.int .i64 a, .int .i64 b]) (hy : ev σ y = .agg #[.int .i64 c, .int .i64 f]) :
    (execOp (ev σ) ⟨dst, .binOp .neq t x y t', ty, pos, af, g⟩).run P w = .ok (.value (.bool (!(decide (a = c) && decide (b = f))))) w := by
  have h := equalIn_span (P := P) (w := w) 9998 a b c f hp ht hn0 hn1 ho0 ho1 h0 h1 he hf
  simp only [execOp, hx, hy, Sem.run_bind, run_eqGuard_agg w .neq t x y _ _ hm, Result.andThen_ok, run_neq_struct, h]
  rfl
end
theorem eqgSpan : Try.prog.eqGuardType Try.prog.depth 37 = false := by kernel_rfl
theorem stoodSpan : Try.prog.stoodInHeld 37 = false := by kernel_rfl

set_option maxHeartbeats 400000 in
theorem speq_c (w0 : World) (v1 v2 : Value) (l1 l2 : List (Int × Int)) (h1 : SpansAt w0 v1 l1) (h2 : SpansAt w0 v2 l2) :
    Ret Try.prog 17 #[v1, v2] w0 fun v w => v = .bool (decide (l1 = l2)) ∧ Ext w0 w := by
  obtain ⟨a1, c1, rfl⟩ := SlAt.form h1
  obtain ⟨a2, c2, rfl⟩ := SlAt.form h2
  have hb1 : l1.length ≤ 9223372036854775807 := by simpa using SlAt.le h1
  simp only [List.length_map] at h1 h2 ⊢
  refine Ret_of Try.func17 rfl Try.ntmps17 (Nat.le_of_ble_eq_true rfl) ?_
  have E : Chg none1 w0 w0 := Chg.refl _ _
  refine Wp_seq_region ?_
  refine WpL_val rfl rfl (by decide) (r_assign (v := (.bool false)) rfl) ?_
  refine WpL_nil ?_
  refine Wp_seq ?_
  refine Wp_seq_region ?_
  refine WpL_val rfl rfl (by decide) (r_move (v := (.slice a1 l1.length c1)) rfl) ?_
  refine WpL_val rfl rfl (by decide) (r_lenSlice (ad := a1) (n := l1.length) (cap := c1) Try.underlying23 rfl) ?_
  refine WpL_val rfl rfl (by decide) (r_move (v := (.slice a2 l2.length c2)) rfl) ?_
  refine WpL_val rfl rfl (by decide) (r_lenSlice (ad := a2) (n := l2.length) (cap := c2) Try.underlying23 rfl) ?_
  refine WpL_val rfl rfl (by decide) (r_neq (k := .i64) (a := ((l1.length : Nat) : Int)) (b := ((l2.length : Nat) : Int)) rfl rfl) ?_
  refine WpL_nil ?_
  refine Wp_cond (b := decide ((((l1.length : Nat) : Int) : Int) ≠ ((l2.length : Nat) : Int))) rfl (fun hl => ?_) (fun hl => ?_)
  · have khl := hl
    replace hl := of_decide_eq_true hl
    refine Wp_seq_region ?_
    refine WpL_val rfl rfl (by decide) (r_assign (v := (.bool false)) rfl) ?_
    refine WpL_nil ?_
    refine Wp_ret ?_
    refine thn_ret ?_
    refine fin_tmp Try.results17 (v := (.bool false)) rfl ?_
    exact ⟨bool_eq (by symm; rw [decide_eq_false_iff_not]; intro h; rw [h] at hl; exact hl rfl), E⟩
  · have khl := hl
    replace hl := of_decide_eq_false hl
    refine Wp_skip ?_
    refine thn_normal ?_
    refine Wp_seq ?_
    refine Wp_seq_region ?_
    refine WpL_val rfl rfl (by decide) (r_move (v := (.slice a1 l1.length c1)) rfl) ?_
    refine WpL_val rfl rfl (by decide) (r_lenSlice (ad := a1) (n := l1.length) (cap := c1) Try.underlying23 rfl) ?_
    refine WpL_val rfl rfl (by decide) (r_move (v := (.int .i64 0)) rfl) ?_
    refine WpL_nil ?_
    refine Wp_block ?_
    refine Wp_loop (fun nn_ σ W2 => ∃ (k : Nat), (∃ jj_, σ = upds jj_ [(0, (.slice a1 l1.length c1)), (1, (.slice a2 l2.length c2)), (12, (.int .i64 ((l1.length : Nat) : Int))), (13, (.int .i64 ((k : Nat) : Int)))]) ∧ Chg none1 w0 W2 ∧ (k ≤ l1.length) ∧ (∀ (i : Nat), i < k → l1[i]? = l2[i]?) ∧ nn_ = l1.length - k) (n := l1.length - 0) ?_ ?_
    · exact ⟨0, Fits.out ⟨rfl, rfl, rfl, rfl, trivial⟩, E, Nat.zero_le _, (fun i h => absurd h (Nat.not_lt_zero _)), rfl⟩
    · clear E
      rintro _ _ W2 ⟨k, ⟨j2, rfl⟩, E, hk, heq, rfl⟩
      refine Wp_seq_region ?_
      refine WpL_val rfl rfl (by decide) (r_lss (k := .i64) (a := ((k : Nat) : Int)) (b := ((l1.length : Nat) : Int)) rfl rfl) ?_
      refine WpL_nil ?_
      refine Wp_seq ?_
      refine Wp_cond (b := decide ((((k : Nat) : Int) : Int) < ((l1.length : Nat) : Int))) rfl (fun hlt => ?_) (fun hlt => ?_)
      · have khlt := hlt
        replace hlt := of_decide_eq_true hlt
        obtain ⟨p, hp⟩ := get_of_lt (l := l1) (i := k) (by omega)
        obtain ⟨q, hq⟩ := get_of_lt (l := l2) (i := k) (by omega)
        obtain ⟨b1, o1, rfl, hc1⟩ := spans_cells h1 (by omega)
        obtain ⟨b2, o2, rfl, hc2⟩ := spans_cells h2 (by omega)
        refine Wp_skip ?_
        refine thn_normal ?_
        refine Wp_seq ?_
        refine Wp_block ?_
        refine Wp_seq_region ?_
        refine WpL_val rfl rfl (by decide) (r_move (v := (.int .i64 ((k : Nat) : Int))) rfl) ?_
        refine WpL_val rfl rfl (by decide) (r_assign (v := (.int .i64 ((k : Nat) : Int))) rfl) ?_
        refine WpL_nil ?_
        refine Wp_seq_draw 8 mixed (by kernel_rfl) ?_
        intro w4 X4 _
        replace E := E.ext X4
        refine WpT_val rfl rfl (by decide) (r_move (v := (.slice (some ⟨b1, o1, none⟩) l1.length c1)) rfl) ?_
        refine WpT_val rfl rfl (by decide) (r_move (v := (.int .i64 ((k : Nat) : Int))) rfl) ?_
        refine WpT_val rfl rfl (by decide) (r_indexSlice (b := b1) (o := o1) (len := l1.length) (cap := c1) (i := k) (o' := o1 + k * 2) rfl rfl rfl Try.underlying23 siz37 (by omega) (by omega)) ?_
        refine WpT_val rfl rfl (by decide) (r_loadAgg (vs := [(.int .i64 p.1), (.int .i64 p.2)]) rfl agg37 siz37 rfl ((hc1 k p hp).ext E)) ?_
        refine WpT_val rfl rfl (by decide) (r_move (v := (.slice (some ⟨b2, o2, none⟩) l2.length c2)) rfl) ?_
        refine WpT_val rfl rfl (by decide) (r_move (v := (.int .i64 ((k : Nat) : Int))) rfl) ?_
        refine WpT_val rfl rfl (by decide) (r_indexSlice (b := b2) (o := o2) (len := l2.length) (cap := c2) (i := k) (o' := o2 + k * 2) rfl rfl rfl Try.underlying23 siz37 (by omega) (by omega)) ?_
        refine WpT_val rfl rfl (by decide) (r_loadAgg (vs := [(.int .i64 q.1), (.int .i64 q.2)]) rfl agg37 siz37 rfl ((hc2 k q hq).ext E)) ?_
        refine WpT_zero ?_
        refine WpL_val (v := (.bool (!(decide (p.1 = q.1) && decide (p.2 = q.2))))) rfl rfl (by decide) (r_neqSpan stoodSpan Try.underlying37 (by decide) (by decide) rfl rfl rfl rfl Try.underlying3 flat3 eqgSpan rfl rfl) ?_
        refine WpL_nil ?_
        refine Wp_cond (b := !(decide (p.1 = q.1) && decide (p.2 = q.2))) rfl (fun hpq => ?_) (fun hpq => ?_)
        · have khpq := hpq
          replace hpq := by simpa using hpq
          refine Wp_seq_region ?_
          refine WpL_val rfl rfl (by decide) (r_assign (v := (.bool false)) rfl) ?_
          refine WpL_nil ?_
          refine Wp_ret ?_
          refine inB_ret ?_
          refine thn_ret ?_
          refine thn_ret ?_
          refine inB_ret ?_
          refine thn_ret ?_
          refine fin_tmp Try.results17 (v := (.bool false)) rfl ?_
          exact ⟨bool_eq (by symm; rw [decide_eq_false_iff_not]; intro h; subst h; rw [hp] at hq; cases hq; simp at hpq), E⟩
        · have khpq := hpq
          replace hpq := by simpa using hpq
          have hpq2 : p = q := by obtain ⟨p1, p2⟩ := p; obtain ⟨q1, q2⟩ := q; simp at hpq; simp; exact hpq
          refine Wp_skip ?_
          refine inB_normal ?_
          refine thn_normal ?_
          refine Wp_region ?_
          refine WpL_val rfl rfl (by decide) (r_add (k := .i64) (a := ((k : Nat) : Int)) (b := 1) (c := ((k : Nat) : Int) + 1) rfl rfl (wI64 (by omega))) ?_
          refine WpL_val rfl rfl (by decide) (r_move (v := (.int .i64 (((k : Nat) : Int) + 1))) rfl) ?_
          refine WpL_nil ?_
          refine thn_normal ?_
          exact ⟨l1.length - (k + 1), by omega, k + 1, Fits.out ⟨rfl, rfl, rfl, rfl, trivial⟩, E, (by omega), (fun i hi => by rcases Nat.lt_or_ge i k with h | h; exact heq i h; obtain rfl : i = k := (by omega); rw [hp, hq, hpq2]), rfl⟩
      · have khlt := hlt
        replace hlt := of_decide_eq_false hlt
        have hkk : k = l1.length := by omega
        refine Wp_exit ?_
        refine thn_exit ?_
        refine thn_exit ?_
        refine inB_here ?_
        refine thn_normal ?_
        refine Wp_seq_region ?_
        refine WpL_val rfl rfl (by decide) (r_assign (v := (.bool true)) rfl) ?_
        refine WpL_nil ?_
        refine Wp_ret ?_
        refine fin_tmp Try.results17 (v := (.bool true)) rfl ?_
        exact ⟨bool_eq (by symm; rw [decide_eq_true_eq]; exact get_ext (by omega) (fun i hi => heq i (by omega))), E⟩

theorem spans_flat {w : World} {b o : Nat} {l : List (Int × Int)} (h : ∀ i s, l[i]? = some s → CellsAt w b (o + i * 2) [.int .i64 s.1, .int .i64 s.2]) : CellsAt w b o (l.map spanV).flatten := by
  induction l generalizing o with
  | nil => intro i v hv; simp at hv
  | cons s l ih =>
    have h0 := h 0 s rfl
    have h1 := ih (o := o + 2) (fun i u hu => by have := h (i + 1) u (by simpa using hu); rwa [show o + (i + 1) * 2 = o + 2 + i * 2 from by omega] at this)
    intro i v hv
    simp only [List.map_cons, List.flatten_cons] at hv
    have hl : (spanV s).length = 2 := rfl
    rcases Nat.lt_or_ge i 2 with hi | hi
    · rw [List.getElem?_append_left (by omega)] at hv
      have := h0 i v hv
      simpa using this
    · rw [List.getElem?_append_right (by omega)] at hv
      have := h1 (i - 2) v (by rw [hl] at hv; exact hv)
      rwa [show o + 2 + (i - 2) = o + i from by omega] at this
theorem spans_six (l : List (Int × Int)) : (l.map spanV).flatten.length = l.length * 2 := by
  induction l with
  | nil => rfl
  | cons s l ih => simp only [List.map_cons, List.flatten_cons, List.length_append, ih, List.length_cons]; have : (spanV s).length = 2 := rfl; omega
theorem spans_one (l : List (Int × Int)) : ∀ u ∈ (l.map spanV).flatten, u.oneCell' = true := by
  intro u hu
  simp only [List.mem_flatten, List.mem_map] at hu
  obtain ⟨r, ⟨s, _, rfl⟩, hu⟩ := hu
  simp [spanV] at hu
  rcases hu with rfl | rfl <;> rfl

def cmpI (x y : Int) : Int := if x < y then -1 else if y < x then 1 else 0
theorem nan_c (w0 : World) (x : Int) : Ret Try.prog 106 #[.int .i64 x] w0 fun v w => v = .bool false ∧ Ext w0 w := by
  refine Ret_of Try.func106 rfl Try.ntmps106 (Nat.le_of_ble_eq_true rfl) ?_
  have E : Chg none1 w0 w0 := Chg.refl _ _
  refine Wp_seq_region ?_
  refine WpL_val rfl rfl (by decide) (r_assign (v := (.bool false)) rfl) ?_
  refine WpL_nil ?_
  refine Wp_seq_region ?_
  refine WpL_val rfl rfl (by decide) (r_move (v := (.int .i64 x)) rfl) ?_
  refine WpL_val rfl rfl (by decide) (r_move (v := (.int .i64 x)) rfl) ?_
  refine WpL_val rfl rfl (by decide) (r_neq (k := .i64) (a := x) (b := x) rfl rfl) ?_
  refine WpL_val rfl rfl (by decide) (r_assign (v := (.bool (decide ((x : Int) ≠ x)))) rfl) ?_
  refine WpL_nil ?_
  refine Wp_ret ?_
  refine fin_tmp Try.results106 (v := (.bool (decide ((x : Int) ≠ x)))) rfl ?_
  exact ⟨bool_eq (by simp), E⟩
theorem compare_c (w0 : World) (x y : Int) : Ret Try.prog 90 #[.int .i64 x, .int .i64 y] w0 fun v w => v = .int .i64 (cmpI x y) ∧ Ext w0 w := by
  refine Ret_of Try.func90 rfl Try.ntmps90 (Nat.le_of_ble_eq_true rfl) ?_
  have E : Chg none1 w0 w0 := Chg.refl _ _
  refine Wp_seq_region ?_
  refine WpL_val rfl rfl (by decide) (r_assign (v := (.int .i64 0)) rfl) ?_
  refine WpL_nil ?_
  refine Wp_seq_region ?_
  refine WpL_val rfl rfl (by decide) (r_move (v := (.int .i64 x)) rfl) ?_
  refine WpL_enter rfl rfl (by decide) (r_callF (vs := [(.int .i64 x)]) Try.func106 nm106 bd106 rfl) (nan_c _ x) ?_
  rintro _ w9 ⟨rfl, X9⟩
  replace E := E.ext X9
  refine WpL_val rfl rfl (by decide) (r_assign (v := (.bool false)) rfl) ?_
  refine WpL_nil ?_
  refine Wp_seq_region ?_
  refine WpL_val rfl rfl (by decide) (r_move (v := (.int .i64 y)) rfl) ?_
  refine WpL_enter rfl rfl (by decide) (r_callF (vs := [(.int .i64 y)]) Try.func106 nm106 bd106 rfl) (nan_c _ y) ?_
  rintro _ w19 ⟨rfl, X19⟩
  replace E := E.ext X19
  refine WpL_val rfl rfl (by decide) (r_assign (v := (.bool false)) rfl) ?_
  refine WpL_nil ?_
  refine Wp_seq ?_
  refine Wp_seq_region ?_
  refine WpL_val rfl rfl (by decide) (r_move (v := (.bool false)) rfl) ?_
  refine WpL_nil ?_
  refine Wp_cond_false rfl ?_
  refine Wp_skip ?_
  refine thn_normal ?_
  refine Wp_seq ?_
  refine Wp_seq_region ?_
  refine WpL_val rfl rfl (by decide) (r_move (v := (.bool false)) rfl) ?_
  refine WpL_nil ?_
  refine Wp_cond_false rfl ?_
  refine Wp_skip ?_
  refine thn_normal ?_
  refine Wp_seq ?_
  refine Wp_seq_region ?_
  refine WpL_val rfl rfl (by decide) (r_move (v := (.int .i64 x)) rfl) ?_
  refine WpL_val rfl rfl (by decide) (r_move (v := (.int .i64 y)) rfl) ?_
  refine WpL_val rfl rfl (by decide) (r_lss (k := .i64) (a := x) (b := y) rfl rfl) ?_
  refine WpL_nil ?_
  refine Wp_cond (b := decide ((x : Int) < y)) rfl (fun h1 => ?_) (fun h1 => ?_)
  · have kh1 := h1
    replace h1 := of_decide_eq_true h1
    refine Wp_seq_region ?_
    refine WpL_val rfl rfl (by decide) (r_assign (v := (.int .i64 (-1))) rfl) ?_
    refine WpL_nil ?_
    refine Wp_ret ?_
    refine thn_ret ?_
    refine fin_tmp Try.results90 (v := (.int .i64 (-1))) rfl ?_
    exact ⟨int_eq (by unfold cmpI; rw [if_pos h1]), E⟩
  · have kh1 := h1
    replace h1 := of_decide_eq_false h1
    refine Wp_skip ?_
    refine thn_normal ?_
    refine Wp_seq ?_
    refine Wp_seq_region ?_
    refine WpL_val rfl rfl (by decide) (r_move (v := (.int .i64 x)) rfl) ?_
    refine WpL_val rfl rfl (by decide) (r_move (v := (.int .i64 y)) rfl) ?_
    refine WpL_val rfl rfl (by decide) (r_gtr (k := .i64) (a := x) (b := y) rfl rfl) ?_
    refine WpL_nil ?_
    refine Wp_cond (b := decide ((y : Int) < x)) rfl (fun h2 => ?_) (fun h2 => ?_)
    · have kh2 := h2
      replace h2 := of_decide_eq_true h2
      refine Wp_seq_region ?_
      refine WpL_val rfl rfl (by decide) (r_assign (v := (.int .i64 1)) rfl) ?_
      refine WpL_nil ?_
      refine Wp_ret ?_
      refine thn_ret ?_
      refine fin_tmp Try.results90 (v := (.int .i64 1)) rfl ?_
      exact ⟨int_eq (by unfold cmpI; rw [if_neg h1, if_pos h2]), E⟩
    · have kh2 := h2
      replace h2 := of_decide_eq_false h2
      refine Wp_skip ?_
      refine thn_normal ?_
      refine Wp_seq_region ?_
      refine WpL_val rfl rfl (by decide) (r_assign (v := (.int .i64 0)) rfl) ?_
      refine WpL_nil ?_
      refine Wp_ret ?_
      refine fin_tmp Try.results90 (v := (.int .i64 0)) rfl ?_
      exact ⟨int_eq (by unfold cmpI; rw [if_neg h1, if_neg h2]), E⟩
section
variable {P : Program} {σ : Env} {w : World} {dst : Option Tmp} {ty : TypeId} {pos : String} {af : Array Edge} {g : Option (Nat × Bool)} {tys : Array TypeId} {x y : Operand} {k : IntKind} {a b c : Int}
theorem r_minI (hx : ev σ x = .int k a) (hy : ev σ y = .int k b) (hc : min a b = c) :
    (execOp (ev σ) ⟨dst, .call ⟨.builtin .min, #[x, y], tys⟩, ty, pos, af, g⟩).run P w = .ok (.value (.int k c)) w := by
  subst hc
  have : (if b < a then b else a) = min a b := by split <;> omega
  simp [execOp, resolve, invoke, builtin, Builtin.min_, Builtin.min2, hx, hy, this]
theorem r_maxI (hx : ev σ x = .int k a) (hy : ev σ y = .int k b) (hc : max a b = c) :
    (execOp (ev σ) ⟨dst, .call ⟨.builtin .max, #[x, y], tys⟩, ty, pos, af, g⟩).run P w = .ok (.value (.int k c)) w := by
  subst hc
  have : (if a < b then b else a) = max a b := by split <;> omega
  simp [execOp, resolve, invoke, builtin, Builtin.max_, Builtin.max2, hx, hy, this]
end
end Go.Proofs
