/- Spans: equality of lists of spans, and their cells. -/
import Derived.Test.YtncmfkibflogkaaSl
import Derived.Laws.StructEq
namespace Go.Proofs
open Go Go.Eng
set_option maxRecDepth 100000

theorem part_int {P : Program} {w : World} {e : TypeId} {cs : Array Value} {o : Nat} {v : Value} (hf : flatB P e = true) (hv : cs[o]? = some v) : (part e cs o).run P w = .ok v w := by
  simp [part, flatB.run hf, hv]
theorem get_ext {α : Type} {l m : List α} (hl : l.length = m.length) (h : ∀ i, i < l.length → l[i]? = m[i]?) : l = m := by
  apply List.ext_getElem?
  intro i
  rcases Nat.lt_or_ge i l.length with h' | h'
  · exact h i h'
  · rw [List.getElem?_eq_none h', List.getElem?_eq_none (by omega)]

section
variable {P : Program} {σ : Env} {w : World} {dst : Option Tmp} {ty : TypeId} {pos : String} {af : Array Edge} {g : Option (Nat × Bool)} {t t' e : TypeId} {x y : Operand}
theorem equalIn_span {f0 f1 : Field} (d : Nat) (a b c f : Int) (hp : P.stoodInHeld t = false) (ht : P.underlying t = some (.struct #[f0, f1])) (hn0 : f0.name ≠ "_") (hn1 : f1.name ≠ "_") (ho0 : f0.offset = 0) (ho1 : f1.offset = 1) (h0 : f0.type = e) (h1 : f1.type = e) (he : P.underlying e = some (.int .i64)) (hf : flatB P e = true) :
    (Op.equalIn (d + 2) t (.agg #[.int .i64 a, .int .i64 b]) (.agg #[.int .i64 c, .int .i64 f])).run P w = .ok (decide (a = c) && decide (b = f)) w := by
  have q1 : ∀ x y : Int, (Op.equalIn (d + 1) e (.int .i64 x) (.int .i64 y)).run P w = .ok (x == y) w := fun x y => run_equalIn_int w d e .i64 .i64 x y he
  have p0 : ∀ x y : Int, (part e #[.int .i64 x, .int .i64 y] 0).run P w = .ok (.int .i64 x) w := fun x y => part_int hf rfl
  have p1 : ∀ x y : Int, (part e #[.int .i64 x, .int .i64 y] 1).run P w = .ok (.int .i64 y) w := fun x y => part_int hf rfl
  have hpr : (program).run P w = .ok P w := rfl
  rw [Op.equalIn]
  simp only [Sem.run_bind, run_underlying ht, Result.andThen_ok, hpr, hp]
  by_cases hac : a = c
  · by_cases hbf : b = f
    · simp [hn0, hn1, ho0, ho1, h0, h1, p0, p1, q1, hac, hbf]
    · simp [hn0, hn1, ho0, ho1, h0, h1, p0, p1, q1, hac, hbf]
  · simp [hn0, hn1, ho0, ho1, h0, h1, p0, p1, q1, hac]
theorem r_neqSpan {f0 f1 : Field} {a b c f : Int} (hp : P.stoodInHeld t = false) (ht : P.underlying t = some (.struct #[f0, f1])) (hn0 : f0.name ≠ "_") (hn1 : f1.name ≠ "_") (ho0 : f0.offset = 0) (ho1 : f1.offset = 1) (h0 : f0.type = e) (h1 : f1.type = e) (he : P.underlying e = some (.int .i64)) (hf : flatB P e = true) (hm : P.eqGuardType P.depth t = false)
    (hx : ev σ x = .agg #[.int .i64 a, .int .i64 b]) (hy : ev σ y = .agg #[.int .i64 c, .int .i64 f]) :
    (execOp (ev σ) ⟨dst, .binOp .neq t x y t', ty, pos, af, g⟩).run P w = .ok (.value (.bool (!(decide (a = c) && decide (b = f))))) w := by
  have h := equalIn_span (P := P) (w := w) 9998 a b c f hp ht hn0 hn1 ho0 ho1 h0 h1 he hf
  simp only [execOp, hx, hy, Sem.run_bind, run_eqGuard_agg w .neq t x y _ _ hm, Result.andThen_ok, run_neq_struct, h]
  rfl
end
theorem spans_flat {w : World} {b o : Nat} {l : List (Int × Int)} (h : ∀ i s, l[i]? = some s → CellsAt w b (o + i * 2) [.int .i64 s.1, .int .i64 s.2]) : CellsAt w b o (l.map spanV).flatten := by
  induction l generalizing o with
  | nil => intro i v hv; simp at hv
  | cons s l ih =>
    have h0 := h 0 s rfl
    have h1 := ih (o := o + 2) (fun i u hu => by have := h (i + 1) u (by simpa using hu); rwa [show o + (i + 1) * 2 = o + 2 + i * 2 from by omega] at this)
    intro i v hv
    simp only [List.map_cons, List.flatten_cons] at hv
    have hl : (spanV s).length = 2 := rfl
    rcases Nat.lt_or_ge i 2 with hi | hi
    · rw [List.getElem?_append_left (by omega)] at hv
      have := h0 i v hv
      simpa using this
    · rw [List.getElem?_append_right (by omega)] at hv
      have := h1 (i - 2) v (by rw [hl] at hv; exact hv)
      rwa [show o + 2 + (i - 2) = o + i from by omega] at this
theorem spans_six (l : List (Int × Int)) : (l.map spanV).flatten.length = l.length * 2 := by
  induction l with
  | nil => rfl
  | cons s l ih => simp only [List.map_cons, List.flatten_cons, List.length_append, ih, List.length_cons]; have : (spanV s).length = 2 := rfl; omega
theorem spans_one (l : List (Int × Int)) : ∀ u ∈ (l.map spanV).flatten, u.oneCell' = true := by
  intro u hu
  simp only [List.mem_flatten, List.mem_map] at hu
  obtain ⟨r, ⟨s, _, rfl⟩, hu⟩ := hu
  simp [spanV] at hu
  rcases hu with rfl | rfl <;> rfl

def cmpI (x y : Int) : Int := if x < y then -1 else if y < x then 1 else 0
theorem nan_c (w0 : World) (x : Int) : Ret Try.prog 112 #[.int .i64 x] w0 fun v w => v = .bool false ∧ Ext w0 w := by
  refine Ret_of Try.func112 rfl Try.ntmps112 (Nat.le_of_ble_eq_true rfl) ?_
  have E : Chg none1 w0 w0 := Chg.refl _ _
  refine Wp_seq_region ?_
  refine WpL_val rfl rfl (by decide) (r_assign (v := (.bool false)) rfl) ?_
  refine WpL_nil ?_
  refine Wp_seq_region ?_
  refine WpL_val rfl rfl (by decide) (r_move (v := (.int .i64 x)) rfl) ?_
  refine WpL_val rfl rfl (by decide) (r_move (v := (.int .i64 x)) rfl) ?_
  refine WpL_val rfl rfl (by decide) (r_neq (k := .i64) (a := x) (b := x) rfl rfl) ?_
  refine WpL_val rfl rfl (by decide) (r_assign (v := (.bool (decide ((x : Int) ≠ x)))) rfl) ?_
  refine WpL_nil ?_
  refine Wp_ret ?_
  refine fin_tmp Try.results112 (v := (.bool (decide ((x : Int) ≠ x)))) rfl ?_
  exact ⟨bool_eq (by simp), E⟩
theorem compare_c (w0 : World) (x y : Int) : Ret Try.prog 78 #[.int .i64 x, .int .i64 y] w0 fun v w => v = .int .i64 (cmpI x y) ∧ Ext w0 w := by
  refine Ret_of Try.func78 rfl Try.ntmps78 (Nat.le_of_ble_eq_true rfl) ?_
  have E : Chg none1 w0 w0 := Chg.refl _ _
  refine Wp_seq_region ?_
  refine WpL_val rfl rfl (by decide) (r_assign (v := (.int .i64 0)) rfl) ?_
  refine WpL_nil ?_
  refine Wp_seq_region ?_
  refine WpL_val rfl rfl (by decide) (r_move (v := (.int .i64 x)) rfl) ?_
  refine WpL_enter rfl rfl (by decide) (r_callF (vs := [(.int .i64 x)]) Try.func112 nm112 bd112 rfl) (nan_c _ x) ?_
  rintro _ w9 ⟨rfl, X9⟩
  replace E := E.ext X9
  refine WpL_val rfl rfl (by decide) (r_assign (v := (.bool false)) rfl) ?_
  refine WpL_nil ?_
  refine Wp_seq_region ?_
  refine WpL_val rfl rfl (by decide) (r_move (v := (.int .i64 y)) rfl) ?_
  refine WpL_enter rfl rfl (by decide) (r_callF (vs := [(.int .i64 y)]) Try.func112 nm112 bd112 rfl) (nan_c _ y) ?_
  rintro _ w19 ⟨rfl, X19⟩
  replace E := E.ext X19
  refine WpL_val rfl rfl (by decide) (r_assign (v := (.bool false)) rfl) ?_
  refine WpL_nil ?_
  refine Wp_seq ?_
  refine Wp_seq_region ?_
  refine WpL_val rfl rfl (by decide) (r_move (v := (.bool false)) rfl) ?_
  refine WpL_nil ?_
  refine Wp_cond_false rfl ?_
  refine Wp_skip ?_
  refine thn_normal ?_
  refine Wp_seq ?_
  refine Wp_seq_region ?_
  refine WpL_val rfl rfl (by decide) (r_move (v := (.bool false)) rfl) ?_
  refine WpL_nil ?_
  refine Wp_cond_false rfl ?_
  refine Wp_skip ?_
  refine thn_normal ?_
  refine Wp_seq ?_
  refine Wp_seq_region ?_
  refine WpL_val rfl rfl (by decide) (r_move (v := (.int .i64 x)) rfl) ?_
  refine WpL_val rfl rfl (by decide) (r_move (v := (.int .i64 y)) rfl) ?_
  refine WpL_val rfl rfl (by decide) (r_lss (k := .i64) (a := x) (b := y) rfl rfl) ?_
  refine WpL_nil ?_
  refine Wp_cond (b := decide ((x : Int) < y)) rfl (fun h1 => ?_) (fun h1 => ?_)
  · have kh1 := h1
    replace h1 := of_decide_eq_true h1
    refine Wp_seq_region ?_
    refine WpL_val rfl rfl (by decide) (r_assign (v := (.int .i64 (-1))) rfl) ?_
    refine WpL_nil ?_
    refine Wp_ret ?_
    refine thn_ret ?_
    refine fin_tmp Try.results78 (v := (.int .i64 (-1))) rfl ?_
    exact ⟨int_eq (by unfold cmpI; rw [if_pos h1]), E⟩
  · have kh1 := h1
    replace h1 := of_decide_eq_false h1
    refine Wp_skip ?_
    refine thn_normal ?_
    refine Wp_seq ?_
    refine Wp_seq_region ?_
    refine WpL_val rfl rfl (by decide) (r_move (v := (.int .i64 x)) rfl) ?_
    refine WpL_val rfl rfl (by decide) (r_move (v := (.int .i64 y)) rfl) ?_
    refine WpL_val rfl rfl (by decide) (r_gtr (k := .i64) (a := x) (b := y) rfl rfl) ?_
    refine WpL_nil ?_
    refine Wp_cond (b := decide ((y : Int) < x)) rfl (fun h2 => ?_) (fun h2 => ?_)
    · have kh2 := h2
      replace h2 := of_decide_eq_true h2
      refine Wp_seq_region ?_
      refine WpL_val rfl rfl (by decide) (r_assign (v := (.int .i64 1)) rfl) ?_
      refine WpL_nil ?_
      refine Wp_ret ?_
      refine thn_ret ?_
      refine fin_tmp Try.results78 (v := (.int .i64 1)) rfl ?_
      exact ⟨int_eq (by unfold cmpI; rw [if_neg h1, if_pos h2]), E⟩
    · have kh2 := h2
      replace h2 := of_decide_eq_false h2
      refine Wp_skip ?_
      refine thn_normal ?_
      refine Wp_seq_region ?_
      refine WpL_val rfl rfl (by decide) (r_assign (v := (.int .i64 0)) rfl) ?_
      refine WpL_nil ?_
      refine Wp_ret ?_
      refine fin_tmp Try.results78 (v := (.int .i64 0)) rfl ?_
      exact ⟨int_eq (by unfold cmpI; rw [if_neg h1, if_neg h2]), E⟩
section
variable {P : Program} {σ : Env} {w : World} {dst : Option Tmp} {ty : TypeId} {pos : String} {af : Array Edge} {g : Option (Nat × Bool)} {tys : Array TypeId} {x y : Operand} {k : IntKind} {a b c : Int}
theorem r_minI (hx : ev σ x = .int k a) (hy : ev σ y = .int k b) (hc : min a b = c) :
    (execOp (ev σ) ⟨dst, .call ⟨.builtin .min, #[x, y], tys⟩, ty, pos, af, g⟩).run P w = .ok (.value (.int k c)) w := by
  subst hc
  have : (if b < a then b else a) = min a b := by split <;> omega
  simp [execOp, resolve, invoke, builtin, Builtin.min_, Builtin.min2, hx, hy, this]
theorem r_maxI (hx : ev σ x = .int k a) (hy : ev σ y = .int k b) (hc : max a b = c) :
    (execOp (ev σ) ⟨dst, .call ⟨.builtin .max, #[x, y], tys⟩, ty, pos, af, g⟩).run P w = .ok (.value (.int k c)) w := by
  subst hc
  have : (if a < b then b else a) = max a b := by split <;> omega
  simp [execOp, resolve, invoke, builtin, Builtin.max_, Builtin.max2, hx, hy, this]
end
end Go.Proofs
