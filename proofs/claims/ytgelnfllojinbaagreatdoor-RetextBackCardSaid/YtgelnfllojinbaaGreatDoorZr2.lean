/- Contracts and plain lemmas, part 2. -/
import Derived.Shelf.SlSortCmp.WholeK
import Derived.Shelf.Strconv.Itoa3
import Derived.Shelf.Sort.Plain
import Derived.Shelf.Small.Strs
import Derived.Shelf.Strings.Prefix
import Derived.Shelf.Small.Wraps
import Derived.Shelf.Strings.OnBuilder
import Derived.Shelf.Unicode.DecodeAny
import Derived.Shelf.Unicode.ValidAny
import Derived.Shelf.Strings.Runes
import Derived.Shelf.Strings.SlTrimAscii
import Derived.Shelf.Spec.TrailingZeros
import Derived.Test.YtgelnfllojinbaaGreatDoorProg
import Derived.Tactics
import Derived.Deep.Quiet
import Derived.Laws.AppendOwn
import Derived.KernelRfl
import Derived.Laws.Entries
import Derived.Laws.Build
import Derived.Below
import Derived.RowKit3
import Derived.StillTail
import Derived.Sort.Grow
import Derived.Deep.Draws
import Derived.Lib.AppendIntMem
import Derived.Laws.Externs
import Derived.Test.YtgelnfllojinbaaGreatDoorChecked
import Derived.Laws.StructEq
import Derived.Lib.IndexLaws
import Derived.MapKept
import Derived.Laws.BytesArg
import Derived.Lib.ConvBytes
import Derived.Defers
import Derived.Recover
import Derived.Lib.TrimUEq
import Derived.Lib.TrimAscii
import Derived.Lib.MapLaws
import Derived.OpenShut
import Derived.ChangeSlices
import Derived.Test.YtgelnfllojinbaaGreatDoorRows
import Derived.Test.YtgelnfllojinbaaGreatDoorZr1
namespace Go.Proofs
open Go Go.Eng
set_option linter.unusedSectionVars false
variable [Drw]
set_option maxRecDepth 100000
theorem part_int {P : Program} {w : World} {e : TypeId} {cs : Array Value} {o : Nat} {v : Value} (hf : flatB P e = true) (hv : cs[o]? = some v) : (part e cs o).run P w = .ok v w := by
 simp [part, flatB.run hf, hv]
theorem get_ext {α : Type} {l m : List α} (hl : l.length = m.length) (h : ∀ i, i < l.length → l[i]? = m[i]?) : l = m := by
 apply List.ext_getElem?
 intro i
 rcases Nat.lt_or_ge i l.length with h' | h'
 ·exact h i h'
 ·rw [List.getElem?_eq_none h', List.getElem?_eq_none (by omega)]
section
variable {P : Program} {σ : Env} {w : World} {dst : Option Tmp} {ty : TypeId} {pos : String} {af : Array Edge} {g : Option (Nat × Bool)} {t t' e : TypeId} {x y : Operand}
theorem equalIn_span {f0 f1 : Field} (d : Nat) (a b c f : Int) (hp : P.stoodInHeld t = false) (ht : P.underlying t = some (.struct #[f0, f1])) (hn0 : f0.name ≠ "_") (hn1 : f1.name ≠ "_") (ho0 : f0.offset = 0) (ho1 : f1.offset = 1) (h0 : f0.type = e) (h1 : f1.type = e) (he : P.underlying e = some (.int .i64)) (hf : flatB P e = true) :
  (Op.equalIn (d + 2) t (.agg #[.int .i64 a, .int .i64 b]) (.agg #[.int .i64 c, .int .i64 f])).run P w = .ok (decide (a = c) && decide (b = f)) w := by
 have q1 : ∀ x y : Int, (Op.equalIn (d + 1) e (.int .i64 x) (.int .i64 y)).run P w = .ok (x == y) w := fun x y => run_equalIn_int w d e .i64 .i64 x y he
 have p0 : ∀ x y : Int, (part e #[.int .i64 x, .int .i64 y] 0).run P w = .ok (.int .i64 x) w := fun x y => part_int hf rfl
 have p1 : ∀ x y : Int, (part e #[.int .i64 x, .int .i64 y] 1).run P w = .ok (.int .i64 y) w := fun x y => part_int hf rfl
 have hpr : (program).run P w = .ok P w := rfl
 rw [Op.equalIn]
 simp only [Sem.run_bind, run_underlying ht, Result.andThen_ok, hpr, hp]
 by_cases hac : a = c
 ·by_cases hbf : b = f
  ·simp [hn0, hn1, ho0, ho1, h0, h1, p0, p1, q1, hac, hbf]
  ·simp [hn0, hn1, ho0, ho1, h0, h1, p0, p1, q1, hac, hbf]
 ·simp [hn0, hn1, ho0, ho1, h0, h1, p0, p1, q1, hac]
theorem r_neqSpan {f0 f1 : Field} {a b c f : Int} (hp : P.stoodInHeld t = false) (ht : P.underlying t = some (.struct #[f0, f1])) (hn0 : f0.name ≠ "_") (hn1 : f1.name ≠ "_") (ho0 : f0.offset = 0) (ho1 : f1.offset = 1) (h0 : f0.type = e) (h1 : f1.type = e) (he : P.underlying e = some (.int .i64)) (hf : flatB P e = true) (hm : P.eqGuardType P.depth t = false)
  (hx : ev σ x = .agg #[.int .i64 a, .int .i64 b]) (hy : ev σ y = .agg #[.int .i64 c, .int .i64 f]) :
  (execOp (ev σ) ⟨dst, .binOp .neq t x y t', ty, pos, af, g⟩).run P w = .ok (.value (.bool (!(decide (a = c) && decide (b = f))))) w := by
 have h := equalIn_span (P := P) (w := w) 9998 a b c f hp ht hn0 hn1 ho0 ho1 h0 h1 he hf
 simp only [execOp, hx, hy, Sem.run_bind, run_eqGuard_agg w .neq t x y _ _ hm, Result.andThen_ok, run_neq_struct, h]
 rfl
end
theorem eqgSpan : Tryz.prog.eqGuardType Tryz.prog.depth 62 = false := by kernel_rfl
theorem stoodSpan : Tryz.prog.stoodInHeld 62 = false := by kernel_rfl
set_option maxHeartbeats 400000 in
theorem speq_c (w0 : World) (v1 v2 : Value) (l1 l2 : List (Int × Int)) (h1 : SpansAt w0 v1 l1) (h2 : SpansAt w0 v2 l2) :
  Ret Tryz.prog 32 #[v1, v2] w0 fun v w => v = .bool (decide (l1 = l2)) ∧ Ext w0 w := by
 obtain ⟨a1, c1, rfl⟩ := SlAt.form h1
 obtain ⟨a2, c2, rfl⟩ := SlAt.form h2
 have hb1 : l1.length ≤ 9223372036854775807 := by simpa using SlAt.le h1
 simp only [List.length_map] at h1 h2 ⊢
 refine Ret_of Tryz.func32 rfl Tryz.ntmps32 (Nat.le_of_ble_eq_true rfl) ?_
 have E : Chg none1 w0 w0 := Chg.refl _ _
 refine Wp_seq_region ?_
 refine qA (.bool false) rfl ?_
 refine WpL_nil (Wp_seq (Wp_seq_region ?_))
 refine qM (.slice a1 l1.length c1) rfl ?_
 refine qV (r_lenSlice (ad := a1) (n := l1.length) (cap := c1) Tryz.underlying22 rfl) ?_
 refine qM (.slice a2 l2.length c2) rfl ?_
 refine qV (r_lenSlice (ad := a2) (n := l2.length) (cap := c2) Tryz.underlying22 rfl) ?_
 refine qV (r_neq (k := .i64) (a := (l1.length : Int)) (b := (l2.length : Int)) rfl rfl) ?_
 refine WpL_nil ?_
 refine Wp_cond (b := decide (((l1.length : Int) : Int) ≠ (l2.length : Int))) rfl (fun hl => ?_) (fun hl => ?_)
 ·have khl := hl
  replace hl := of_decide_eq_true hl
  refine Wp_seq_region ?_
  refine qA (.bool false) rfl ?_
  refine WpL_nil (Wp_ret (thn_ret ?_))
  refine fin_tmp Tryz.results32 (v := (.bool false)) rfl ?_
  exact ⟨bool_eq (by symm; rw [decide_eq_false_iff_not]; intro h; rw [h] at hl; exact hl rfl), E⟩
 ·have khl := hl
  replace hl := of_decide_eq_false hl
  refine Wp_skip (thn_normal (Wp_seq (Wp_seq_region ?_)))
  refine qM (.slice a1 l1.length c1) rfl ?_
  refine qV (r_lenSlice (ad := a1) (n := l1.length) (cap := c1) Tryz.underlying22 rfl) ?_
  refine qM (I6 0) rfl ?_
  refine WpL_nil (Wp_block ?_)
  refine Wp_loop (fun nn_ σ W2 => ∃ (k : Nat), (∃ jj_, σ = upds jj_ [(0, (.slice a1 l1.length c1)), (1, (.slice a2 l2.length c2)), (12, (I6 (l1.length : Int))), (13, (I6 (k : Int)))]) ∧ Chg none1 w0 W2 ∧ (k ≤ l1.length) ∧ (∀ (i : Nat), i < k → l1[i]? = l2[i]?) ∧ nn_ = l1.length - k) (n := l1.length - 0) ?_ ?_
  ·exact ⟨0, Fits.out ⟨rfl, rfl, rfl, rfl, trivial⟩, E, Nat.zero_le _, (fun i h => absurd h (Nat.not_lt_zero _)), rfl⟩
  ·clear E
   rintro _ _ W2 ⟨k, ⟨j2, rfl⟩, E, hk, heq, rfl⟩
   refine Wp_seq_region ?_
   refine qV (r_lss (k := .i64) (a := (k : Int)) (b := (l1.length : Int)) rfl rfl) ?_
   refine WpL_nil (Wp_seq ?_)
   refine Wp_cond (b := decide (((k : Int) : Int) < (l1.length : Int))) rfl (fun hlt => ?_) (fun hlt => ?_)
   ·have khlt := hlt
    replace hlt := of_decide_eq_true hlt
    obtain ⟨p, hp⟩ := get_of_lt (l := l1) (i := k) (by omega)
    obtain ⟨q, hq⟩ := get_of_lt (l := l2) (i := k) (by omega)
    obtain ⟨b1, o1, rfl, hc1⟩ := spans_cells h1 (by omega)
    obtain ⟨b2, o2, rfl, hc2⟩ := spans_cells h2 (by omega)
    refine Wp_skip (thn_normal (Wp_seq (Wp_block (Wp_seq_region ?_))))
    refine qM (I6 (k : Int)) rfl ?_
    refine qA (I6 (k : Int)) rfl ?_
    refine WpL_nil ?_
    refine Wp_seq_draw 8 mixed (by kernel_rfl) ?_
    intro w4 X4 _
    replace E := E.ext X4
    refine qT (r_move (v := (.slice (some ⟨b1, o1, none⟩) l1.length c1)) rfl) ?_
    refine qT (r_move (v := (I6 (k : Int))) rfl) ?_
    refine qT (r_indexSlice (b := b1) (o := o1) (len := l1.length) (cap := c1) (i := k) (o' := o1 + k * 2) rfl rfl rfl Tryz.underlying22 siz62 (by omega) (by omega)) ?_
    refine qT (r_loadAgg (vs := [(I6 p.1), (I6 p.2)]) rfl agg62 siz62 rfl ((hc1 k p hp).ext E)) ?_
    refine qT (r_move (v := (.slice (some ⟨b2, o2, none⟩) l2.length c2)) rfl) ?_
    refine qT (r_move (v := (I6 (k : Int))) rfl) ?_
    refine qT (r_indexSlice (b := b2) (o := o2) (len := l2.length) (cap := c2) (i := k) (o' := o2 + k * 2) rfl rfl rfl Tryz.underlying22 siz62 (by omega) (by omega)) ?_
    refine qT (r_loadAgg (vs := [(I6 q.1), (I6 q.2)]) rfl agg62 siz62 rfl ((hc2 k q hq).ext E)) ?_
    refine WpT_zero ?_
    refine WpL_val (v := (.bool (!(decide (p.1 = q.1) && decide (p.2 = q.2))))) rfl rfl (by decide) (r_neqSpan stoodSpan Tryz.underlying62 (by decide) (by decide) rfl rfl rfl rfl Tryz.underlying3 flat3 eqgSpan rfl rfl) ?_
    refine WpL_nil ?_
    refine Wp_cond (b := !(decide (p.1 = q.1) && decide (p.2 = q.2))) rfl (fun hpq => ?_) (fun hpq => ?_)
    ·have khpq := hpq
     replace hpq := by simpa using hpq
     refine Wp_seq_region ?_
     refine qA (.bool false) rfl ?_
     refine WpL_nil (Wp_ret (inB_ret (thn_ret (thn_ret (inB_ret (thn_ret ?_))))))
     refine fin_tmp Tryz.results32 (v := (.bool false)) rfl ?_
     exact ⟨bool_eq (by symm; rw [decide_eq_false_iff_not]; intro h; subst h; rw [hp] at hq; cases hq; simp at hpq), E⟩
    ·have khpq := hpq
     replace hpq := by simpa using hpq
     have hpq2 : p = q := by obtain ⟨p1, p2⟩ := p; obtain ⟨q1, q2⟩ := q; simp at hpq; simp; exact hpq
     refine Wp_skip (inB_normal (thn_normal (Wp_region ?_)))
     refine qV (r_add (k := .i64) (a := (k : Int)) (b := 1) (c := (k : Int) + 1) rfl rfl (wI64 (by omega))) ?_
     refine qM (I6 ((k : Int) + 1)) rfl ?_
     refine WpL_nil (thn_normal ?_)
     exact ⟨l1.length - (k + 1), by omega, k + 1, Fits.out ⟨rfl, rfl, rfl, rfl, trivial⟩, E, (by omega), (fun i hi => by rcases Nat.lt_or_ge i k with h | h; exact heq i h; obtain rfl : i = k := (by omega); rw [hp, hq, hpq2]), rfl⟩
   ·have khlt := hlt
    replace hlt := of_decide_eq_false hlt
    have hkk : k = l1.length := by omega
    refine Wp_exit (thn_exit (thn_exit (inB_here (thn_normal (Wp_seq_region ?_)))))
    refine qA (.bool true) rfl ?_
    refine WpL_nil (Wp_ret ?_)
    refine fin_tmp Tryz.results32 (v := (.bool true)) rfl ?_
    exact ⟨bool_eq (by symm; rw [decide_eq_true_eq]; exact get_ext (by omega) (fun i hi => heq i (by omega))), E⟩
theorem spans_flat {w : World} {b o : Nat} {l : List (Int × Int)} (h : ∀ i s, l[i]? = some s → CellsAt w b (o + i * 2) [.int .i64 s.1, .int .i64 s.2]) : CellsAt w b o (l.map spanV).flatten := by
  induction l generalizing o with
  | nil => intro i v hv; simp at hv
  | cons s l ih =>
    have h0 := h 0 s rfl
    have h1 := ih (o := o + 2) (fun i u hu => by have := h (i + 1) u (by simpa using hu); rwa [show o + (i + 1) * 2 = o + 2 + i * 2 from by omega] at this)
    intro i v hv
    simp only [List.map_cons, List.flatten_cons] at hv
    have hl : (spanV s).length = 2 := rfl
    rcases Nat.lt_or_ge i 2 with hi | hi
    · rw [List.getElem?_append_left (by omega)] at hv
      have := h0 i v hv
      simpa using this
    · rw [List.getElem?_append_right (by omega)] at hv
      have := h1 (i - 2) v (by rw [hl] at hv; exact hv)
      rwa [show o + 2 + (i - 2) = o + i from by omega] at this
theorem spans_six (l : List (Int × Int)) : (l.map spanV).flatten.length = l.length * 2 := by
  induction l with
  | nil => rfl
  | cons s l ih => simp only [List.map_cons, List.flatten_cons, List.length_append, ih, List.length_cons]; have : (spanV s).length = 2 := rfl; omega
theorem spans_one (l : List (Int × Int)) : ∀ u ∈ (l.map spanV).flatten, u.oneCell' = true := by
 intro u hu
 simp only [List.mem_flatten, List.mem_map] at hu
 obtain ⟨r, ⟨s, _, rfl⟩, hu⟩ := hu
 simp [spanV] at hu
 rcases hu with rfl | rfl <;> rfl
def cmpI (x y : Int) : Int := if x < y then -1 else if y < x then 1 else 0
theorem nan_c (w0 : World) (x : Int) : Ret Tryz.prog 179 #[.int .i64 x] w0 fun v w => v = .bool false ∧ Ext w0 w := by
 refine Ret_of Tryz.func179 rfl Tryz.ntmps179 (Nat.le_of_ble_eq_true rfl) ?_
 have E : Chg none1 w0 w0 := Chg.refl _ _
 refine Wp_seq_region ?_
 refine qA (.bool false) rfl ?_
 refine WpL_nil (Wp_seq_region ?_)
 refine qM (I6 x) rfl ?_
 refine qM (I6 x) rfl ?_
 refine qV (r_neq (k := .i64) (a := x) (b := x) rfl rfl) ?_
 refine qA (.bool (decide ((x : Int) ≠ x))) rfl ?_
 refine WpL_nil (Wp_ret ?_)
 refine fin_tmp Tryz.results179 (v := (.bool (decide ((x : Int) ≠ x)))) rfl ?_
 exact ⟨bool_eq (by simp), E⟩
theorem compare_c (w0 : World) (x y : Int) : Ret Tryz.prog 151 #[.int .i64 x, .int .i64 y] w0 fun v w => v = .int .i64 (cmpI x y) ∧ Ext w0 w := by
 refine Ret_of Tryz.func151 rfl Tryz.ntmps151 (Nat.le_of_ble_eq_true rfl) ?_
 have E : Chg none1 w0 w0 := Chg.refl _ _
 refine Wp_seq_region ?_
 refine qA (I6 0) rfl ?_
 refine WpL_nil (Wp_seq_region ?_)
 refine qM (I6 x) rfl ?_
 refine WpL_enter rfl rfl (by decide) (r_callF (vs := [(I6 x)]) Tryz.func179 nm179 bd179 rfl) (nan_c _ x) ?_
 rintro _ w9 ⟨rfl, X9⟩
 replace E := E.ext X9
 refine qA (.bool false) rfl ?_
 refine WpL_nil (Wp_seq_region ?_)
 refine qM (I6 y) rfl ?_
 refine WpL_enter rfl rfl (by decide) (r_callF (vs := [(I6 y)]) Tryz.func179 nm179 bd179 rfl) (nan_c _ y) ?_
 rintro _ w19 ⟨rfl, X19⟩
 replace E := E.ext X19
 refine qA (.bool false) rfl ?_
 refine WpL_nil (Wp_seq (Wp_seq_region ?_))
 refine qM (.bool false) rfl ?_
 refine WpL_nil ?_
 refine Wp_cond_false rfl ?_
 refine Wp_skip (thn_normal (Wp_seq (Wp_seq_region ?_)))
 refine qM (.bool false) rfl ?_
 refine WpL_nil ?_
 refine Wp_cond_false rfl ?_
 refine Wp_skip (thn_normal (Wp_seq (Wp_seq_region ?_)))
 refine qM (I6 x) rfl ?_
 refine qM (I6 y) rfl ?_
 refine qV (r_lss (k := .i64) (a := x) (b := y) rfl rfl) ?_
 refine WpL_nil ?_
 refine Wp_cond (b := decide ((x : Int) < y)) rfl (fun h1 => ?_) (fun h1 => ?_)
 ·have kh1 := h1
  replace h1 := of_decide_eq_true h1
  refine Wp_seq_region ?_
  refine qA (I6 (-1)) rfl ?_
  refine WpL_nil (Wp_ret (thn_ret ?_))
  refine fin_tmp Tryz.results151 (v := (.int .i64 (-1))) rfl ?_
  exact ⟨int_eq (by unfold cmpI; rw [if_pos h1]), E⟩
 ·have kh1 := h1
  replace h1 := of_decide_eq_false h1
  refine Wp_skip (thn_normal (Wp_seq (Wp_seq_region ?_)))
  refine qM (I6 x) rfl ?_
  refine qM (I6 y) rfl ?_
  refine qV (r_gtr (k := .i64) (a := x) (b := y) rfl rfl) ?_
  refine WpL_nil ?_
  refine Wp_cond (b := decide ((y : Int) < x)) rfl (fun h2 => ?_) (fun h2 => ?_)
  ·have kh2 := h2
   replace h2 := of_decide_eq_true h2
   refine Wp_seq_region ?_
   refine qA (I6 1) rfl ?_
   refine WpL_nil (Wp_ret (thn_ret ?_))
   refine fin_tmp Tryz.results151 (v := (.int .i64 1)) rfl ?_
   exact ⟨int_eq (by unfold cmpI; rw [if_neg h1, if_pos h2]), E⟩
  ·have kh2 := h2
   replace h2 := of_decide_eq_false h2
   refine Wp_skip (thn_normal (Wp_seq_region ?_))
   refine qA (I6 0) rfl ?_
   refine WpL_nil (Wp_ret ?_)
   refine fin_tmp Tryz.results151 (v := (.int .i64 0)) rfl ?_
   exact ⟨int_eq (by unfold cmpI; rw [if_neg h1, if_neg h2]), E⟩
section
variable {P : Program} {σ : Env} {w : World} {dst : Option Tmp} {ty : TypeId} {pos : String} {af : Array Edge} {g : Option (Nat × Bool)} {tys : Array TypeId} {x y : Operand} {k : IntKind} {a b c : Int}
theorem r_maxI (hx : ev σ x = .int k a) (hy : ev σ y = .int k b) (hc : max a b = c) :
  (execOp (ev σ) ⟨dst, .call ⟨.builtin .max, #[x, y], tys⟩, ty, pos, af, g⟩).run P w = .ok (.value (.int k c)) w := by
 subst hc
 have : (if a < b then b else a) = max a b := by split <;> omega
 simp [execOp, resolve, invoke, builtin, Builtin.max_, Builtin.max2, hx, hy, this]
end
end Go.Proofs
namespace Go.Eng
open Go
set_option linter.unusedSectionVars false
variable [Drw]
def SlIn (S : Nat → Prop) (w : World) (k : Nat) (v : Value) (rows : List (List Value)) : Prop :=
 ∃ a cap, v = .slice a rows.length cap ∧ rows.length ≤ 9223372036854775807 ∧ rows.length ≤ cap ∧ (rows = [] ∨ ∃ b o, S b ∧ a = some ⟨b, o, none⟩ ∧ ∀ i r, rows[i]? = some r → CellsAt w b (o + i * k) r)
theorem SlIn.at {S : Nat → Prop} {w : World} {k : Nat} {v : Value} {rows : List (List Value)} (h : SlIn S w k v rows) : SlAt w k v rows := by
 obtain ⟨a, cap, h1, h2, h3, h4⟩ := h
 refine ⟨a, cap, h1, h2, h3, ?_⟩
 rcases h4 with h | ⟨b, o, _, h5, h6⟩
 ·exact .inl h
 ·exact .inr ⟨b, o, h5, h6⟩
theorem SlIn.chg {S M : Nat → Prop} {w w' : World} {k : Nat} {v : Value} {rows : List (List Value)} (h : SlIn S w k v rows) (c : Chg M w w') (hm : ∀ b, S b → ¬ M b) : SlIn S w' k v rows := by
 obtain ⟨a, cap, h1, h2, h3, h4⟩ := h
 refine ⟨a, cap, h1, h2, h3, ?_⟩
 rcases h4 with h | ⟨b, o, hb, h5, h6⟩
 ·exact .inl h
 ·exact .inr ⟨b, o, hb, h5, fun i r hr => (h6 i r hr).chg c (hm b hb)⟩
theorem SlIn.mono {S S' : Nat → Prop} {w : World} {k : Nat} {v : Value} {rows : List (List Value)} (h : SlIn S w k v rows) (hs : ∀ b, S b → S' b) : SlIn S' w k v rows := by
 obtain ⟨a, cap, h1, h2, h3, h4⟩ := h
 refine ⟨a, cap, h1, h2, h3, ?_⟩
 rcases h4 with h | ⟨b, o, hb, h5⟩
 ·exact .inl h
 ·exact .inr ⟨b, o, hs b hb, h5⟩
theorem SlIn.nil (S : Nat → Prop) (w : World) (k : Nat) (a : Option Addr) (cap : Nat) : SlIn S w k (.slice a 0 cap) [] := ⟨a, cap, rfl, by simp, by simp, .inl rfl⟩
theorem SlIn.mk {S : Nat → Prop} {w : World} {k : Nat} {b o n c : Nat} {rows : List (List Value)} (h : SlAt w k (.slice (some ⟨b, o, none⟩) n c) rows) (hs : S b) : SlIn S w k (.slice (some ⟨b, o, none⟩) n c) rows := by
 obtain ⟨a, cap, h1, h2, h3, h4⟩ := h
 refine ⟨a, cap, h1, h2, h3, ?_⟩
 rcases h4 with h | ⟨b', o', h5, h6⟩
 ·exact .inl h
 ·simp only [Value.slice.injEq] at h1
  have : b' = b := by rw [← h1.1] at h5; simp at h5; exact h5.1.symm
  exact .inr ⟨b', o', this ▸ hs, h5, h6⟩
mutual
def ReIn (S : Nat → Prop) (w : World) : Re → List Value → Prop
  | .mk k set args mn mx ng, vs => ∃ sa sc aa ac, vs = [.int .i64 k, .slice sa set.length sc, .slice aa args.length ac, .int .i64 mn, .int .i64 mx, .bool ng] ∧ SlIn S w 2 (.slice sa set.length sc) (set.map spanV) ∧ (args.length ≤ ac ∧ ac ≤ 9223372036854775807) ∧
      (args = [] ∨ ∃ b o, S b ∧ aa = some ⟨b, o, none⟩ ∧ ResIn S w b o args)
def ResIn (S : Nat → Prop) (w : World) (b : Nat) : Nat → List Re → Prop
  | _, [] => True
  | o, t :: ts => (∃ vs, CellsAt w b o vs ∧ ReIn S w t vs) ∧ ResIn S w b (o + 6) ts
end
mutual
theorem ReIn.at {S : Nat → Prop} {w : World} : ∀ (t : Re) {vs : List Value}, ReIn S w t vs → ReAt w t vs
  | .mk k set args mn mx ng, vs, h => by
    simp only [ReIn] at h
    simp only [ReAt]
    obtain ⟨sa, sc, aa, ac, hv, hs, hl, ha⟩ := h
    refine ⟨sa, sc, aa, ac, hv, hs.at, hl, ?_⟩
    rcases ha with h | ⟨b, o, _, h1, h2⟩
    · exact .inl h
    · exact .inr ⟨b, o, h1, ResIn.at args h2⟩
theorem ResIn.at {S : Nat → Prop} {w : World} {b : Nat} : ∀ (ts : List Re) {o : Nat}, ResIn S w b o ts → ResAt w b o ts
  | [], _, _ => by simp only [ResAt]
  | t :: ts, o, h => by
    simp only [ResIn] at h
    simp only [ResAt]
    obtain ⟨⟨vs, h1, h2⟩, h3⟩ := h
    exact ⟨⟨vs, h1, ReIn.at t h2⟩, ResIn.at ts h3⟩
end
mutual
theorem ReIn.chg {S M : Nat → Prop} {w w' : World} (c : Chg M w w') (hm : ∀ b, S b → ¬ M b) : ∀ (t : Re) {vs : List Value}, ReIn S w t vs → ReIn S w' t vs
  | .mk k set args mn mx ng, vs, h => by
    simp only [ReIn] at h ⊢
    obtain ⟨sa, sc, aa, ac, hv, hs, hl, ha⟩ := h
    refine ⟨sa, sc, aa, ac, hv, hs.chg c hm, hl, ?_⟩
    rcases ha with h | ⟨b, o, hb, h1, h2⟩
    · exact .inl h
    · exact .inr ⟨b, o, hb, h1, ResIn.chg c hm args hb h2⟩
theorem ResIn.chg {S M : Nat → Prop} {w w' : World} (c : Chg M w w') (hm : ∀ b, S b → ¬ M b) {b : Nat} : ∀ (ts : List Re) {o : Nat}, S b → ResIn S w b o ts → ResIn S w' b o ts
  | [], _, _, _ => by simp only [ResIn]
  | t :: ts, o, hb, h => by
    simp only [ResIn] at h ⊢
    obtain ⟨⟨vs, h1, h2⟩, h3⟩ := h
    exact ⟨⟨vs, h1.chg c (hm b hb), ReIn.chg c hm t h2⟩, ResIn.chg c hm ts hb h3⟩
end
mutual
theorem ReIn.mono {S S' : Nat → Prop} {w : World} (hs : ∀ b, S b → S' b) : ∀ (t : Re) {vs : List Value}, ReIn S w t vs → ReIn S' w t vs
  | .mk k set args mn mx ng, vs, h => by
    simp only [ReIn] at h ⊢
    obtain ⟨sa, sc, aa, ac, hv, h0, hl, ha⟩ := h
    refine ⟨sa, sc, aa, ac, hv, h0.mono hs, hl, ?_⟩
    rcases ha with h | ⟨b, o, hb, h1, h2⟩
    · exact .inl h
    · exact .inr ⟨b, o, hs b hb, h1, ResIn.mono hs args h2⟩
theorem ResIn.mono {S S' : Nat → Prop} {w : World} (hs : ∀ b, S b → S' b) {b : Nat} : ∀ (ts : List Re) {o : Nat}, ResIn S w b o ts → ResIn S' w b o ts
  | [], _, _ => by simp only [ResIn]
  | t :: ts, o, h => by
    simp only [ResIn] at h ⊢
    obtain ⟨⟨vs, h1, h2⟩, h3⟩ := h
    exact ⟨⟨vs, h1, ReIn.mono hs t h2⟩, ResIn.mono hs ts h3⟩
end
theorem ReIn.ext {S : Nat → Prop} {w w' : World} (e : Ext w w') (t : Re) {vs : List Value} (h : ReIn S w t vs) : ReIn S w' t vs := ReIn.chg e (fun _ _ f => f) t h
theorem ReIn.form {S : Nat → Prop} {w : World} {t : Re} {vs : List Value} (h : ReIn S w t vs) : ∃ sa sc aa ac, vs = [.int .i64 t.kind, .slice sa t.set.length sc, .slice aa t.args.length ac, .int .i64 t.mn, .int .i64 t.mx, .bool t.neg] ∧ SlIn S w 2 (.slice sa t.set.length sc) (t.set.map spanV) ∧ (t.args.length ≤ ac ∧ ac ≤ 9223372036854775807) ∧
  (t.args = [] ∨ ∃ b o, S b ∧ aa = some ⟨b, o, none⟩ ∧ ResIn S w b o t.args) := by
 cases t; simp only [ReIn] at h; exact h
theorem ReIn.of {S : Nat → Prop} {w : World} {k : Int} {set : List (Int × Int)} {args : List Re} {mn mx : Int} {ng : Bool} {sa aa : Option Addr} {sc ac : Nat} (hs : SlIn S w 2 (.slice sa set.length sc) (set.map spanV)) (hl : (args.length ≤ ac ∧ ac ≤ 9223372036854775807)) (ha : args = [] ∨ ∃ b o, S b ∧ aa = some ⟨b, o, none⟩ ∧ ResIn S w b o args) :
  ReIn S w (.mk k set args mn mx ng) [.int .i64 k, .slice sa set.length sc, .slice aa args.length ac, .int .i64 mn, .int .i64 mx, .bool ng] := by
 simp only [ReIn]; exact ⟨sa, sc, aa, ac, rfl, hs, hl, ha⟩
theorem ResIn.one {S : Nat → Prop} {w : World} {b o : Nat} {t : Re} {vs : List Value} (hc : CellsAt w b o vs) (h : ReIn S w t vs) : ResIn S w b o [t] := by
 simp only [ResIn]; exact ⟨⟨vs, hc, h⟩, trivial⟩
theorem ResIn.get {S : Nat → Prop} {w : World} {b : Nat} : ∀ {ts : List Re} {o i : Nat} {t : Re}, ResIn S w b o ts → ts[i]? = some t → ∃ vs, CellsAt w b (o + i * 6) vs ∧ ReIn S w t vs
  | [], _, _, _, _, h => by simp at h
  | x :: ts, o, 0, t, h, hi => by
    simp only [ResIn] at h
    simp at hi
    subst hi
    simpa using h.1
  | x :: ts, o, i + 1, t, h, hi => by
    simp only [ResIn] at h
    have := ResIn.get h.2 (i := i) (by simpa using hi)
    rwa [show o + (i + 1) * 6 = o + 6 + i * 6 from by omega]
theorem ReIn.len {S : Nat → Prop} {w : World} {t : Re} {vs : List Value} (h : ReIn S w t vs) : vs.length = 6 := (ReIn.at t h).len
end Go.Eng
namespace Go.Proofs
open Go Go.Eng
set_option linter.unusedSectionVars false
variable [Drw]
set_option maxRecDepth 100000
theorem span_c (w0 : World) (lo hi : Int) : Ret Tryz.prog 25 #[.int .i64 lo, .int .i64 hi] w0 fun v w => ∃ b, v = .slice (some ⟨b, 0, none⟩) 1 1 ∧ SpansAt w v [(lo, hi)] ∧ w0.heap.size ≤ b ∧ Ext w0 w := by
 refine Ret_of Tryz.func25 rfl Tryz.ntmps25 (Nat.le_of_ble_eq_true rfl) ?_
 have E : Chg none1 w0 w0 := Chg.refl _ _
 refine Wp_seq_region ?_
 refine qA (.slice none 0 0) rfl ?_
 refine WpL_nil (Wp_seq_region ?_)
 refine qM (I6 lo) rfl ?_
 refine qM (I6 hi) rfl ?_
 refine qV (r_build (ps := [(0, (I6 lo)), (1, (I6 hi))]) (v := (.agg #[(I6 lo), (I6 hi)])) rfl (by kernel_rfl)) ?_
 refine s_buildSlice (ps := [(0, (.agg #[(I6 lo), (I6 hi)]))]) (c := #[(I6 lo), (I6 hi)]) (by decide) rfl Tryz.underlying22 siz62 zer62 (by decide) (by decide) (by kernel_rfl) ?_
 intro b1 w1 N1
 have F1 := N1.ge E
 replace E := E.ext N1.ext
 have B1 := N1.blk
 refine qA (.slice (some ⟨b1, 0, none⟩) 1 1) rfl ?_
 refine WpL_nil (Wp_ret ?_)
 refine fin_tmp Tryz.results25 (v := (.slice (some ⟨b1, 0, none⟩) 1 1)) rfl ?_
 exact ⟨b1, rfl, spans_of_blk [(lo, hi)] B1 (by simp) (by simp), by omega, E⟩
def oneT (r : Int) : Re := .mk 2 [(r, r)] [] 0 0 false
theorem one_c (w0 : World) (r : Int) : Ret Tryz.prog 11 #[.int .i64 r] w0 fun v w => ∃ b, v = .agg #[.int .i64 2, .slice (some ⟨b, 0, none⟩) 1 1, .slice none 0 0, .int .i64 0, .int .i64 0, .bool false] ∧ SpansAt w (.slice (some ⟨b, 0, none⟩) 1 1) [(r, r)] ∧ Ext w0 w := by
 refine Ret_of Tryz.func11 rfl Tryz.ntmps11 (Nat.le_of_ble_eq_true rfl) ?_
 have E : Chg none1 w0 w0 := Chg.refl _ _
 refine Wp_seq_region ?_
 refine s_alloc (c := #[(I6 0), (.slice none 0 0), (.slice none 0 0), (I6 0), (I6 0), (.bool false)]) (by decide) zer25 rfl ?_
 intro b1 w1 N1
 have F1 := N1.ge E
 replace E := E.ext N1.ext
 have B1 := N1.blk
 refine WpL_nil (Wp_seq_region ?_)
 refine qM (I6 r) rfl ?_
 refine qM (I6 r) rfl ?_
 refine WpL_enter rfl rfl (by decide) (r_callF (vs := [(I6 r), (I6 r)]) Tryz.func25 nm25 bd25 rfl) (span_c _ r r) ?_
 rintro _ w9 ⟨b, rfl, hsp, hb, X9⟩
 replace B1 := X9.keep B1
 replace E := E.ext X9
 have hbne : b ≠ b1 := by have := N1.size; have := N1.eq; omega
 refine qV (r_build (ps := [(0, (I6 2)), (1, (.slice (some ⟨b, 0, none⟩) 1 1))]) (v := (.agg #[(I6 2), (.slice (some ⟨b, 0, none⟩) 1 1), (.slice none 0 0), (I6 0), (I6 0), (.bool false)])) rfl (by kernel_rfl)) ?_
 refine s_storeAgg (b := b1) (o := 0) (c' := #[(I6 2), (.slice (some ⟨b, 0, none⟩) 1 1), (.slice none 0 0), (I6 0), (I6 0), (.bool false)]) rfl rfl (by simp [Value.oneCell']) siz25 rfl B1 (by first | (simp; done) | exact Nat.le_of_ble_eq_true rfl) rfl ?_
 intro w2 S2
 replace E := S2.step E (by first | exact Or.inl (by omega) | assumption | exact Or.inr rfl | exact Or.inr (by assumption) | exact Or.inr (by simp) | exact Or.inr (by omega) | exact Or.inr (by dsimp only; omega))
 replace B1 := S2.blk
 refine WpL_nil (Wp_ret ?_)
 refine fin_agg Tryz.results11 (vs := [(.int .i64 2), (.slice (some ⟨b, 0, none⟩) 1 1), (.slice none 0 0), (.int .i64 0), (.int .i64 0), (.bool false)]) (b := b1) rfl agg25 siz25 rfl (B1.cells rfl) ?_
 exact ⟨b, rfl, (SlIn.mk hsp (S := fun x => x = b) rfl).chg S2.chg (fun x h => by omega) |>.at, E⟩
theorem one_at {w : World} {b : Nat} {r : Int} (h : SpansAt w (.slice (some ⟨b, 0, none⟩) 1 1) [(r, r)]) : ReAt w (oneT r) [.int .i64 2, .slice (some ⟨b, 0, none⟩) 1 1, .slice none 0 0, .int .i64 0, .int .i64 0, .bool false] :=
 ReAt.of (set := [(r, r)]) (args := []) h (by simp) (.inl rfl)
end Go.Proofs
namespace Go.Proofs
open Go Go.Eng
set_option linter.unusedSectionVars false
variable [Drw]
set_option maxRecDepth 100000
theorem node_two {k : Int} (h : k = 3 ∨ k = 4 ∨ k = 7) (t u : Re) : nodeE (.mk k [] [t, u] 0 0 false) = 0 := by
 rcases h with rfl | rfl | rfl <;> simp [nodeE, formB, okB, Re.kind, Re.set, Re.args, Re.mn, Re.mx, Re.neg]
end Go.Proofs
namespace Go.Proofs
open Go Go.Eng
set_option linter.unusedSectionVars false
variable [Drw]
set_option maxRecDepth 100000
structure NodeI (t : Re) : Prop where
 k : 0 ≤ t.kind ∧ t.kind ≤ 10
 two : t.kind = 3 ∨ t.kind = 4 ∨ t.kind = 7 → 2 ≤ t.args.length
 one : t.kind = 5 ∨ t.kind = 6 ∨ t.kind = 8 ∨ t.kind = 9 ∨ t.kind = 10 → t.args.length = 1
 rep : t.kind = 6 → 0 ≤ t.mn ∧ t.mn ≤ t.mx ∧ t.mx ≤ 8
 grp : t.kind = 9 → 0 ≤ t.mn ∧ t.mn ≤ 9
 sett : t.kind = 2 → t.set ≠ []
theorem node_inv {t : Re} (h : nodeE t = 0) : NodeI t := by
 unfold nodeE at h
 split at h
 ·cases h
 rename_i h1
 split at h
 ·cases h
 rename_i h2
 have h3 : formB t = true := by simpa using h2
 unfold formB at h3
 simp only [Bool.and_eq_true] at h3
 have h4 := h3.1.1.1.1
 unfold okB at h4
 refine ⟨by omega, fun hk => ?_, fun hk => ?_, fun hk => ?_, fun hk => ?_, fun hk => ?_⟩
 ·rw [if_pos hk] at h4
  have := of_decide_eq_true h4; omega
 ·rw [if_neg (by omega), if_pos hk] at h4
  have := of_decide_eq_true h4; omega
 ·rw [if_neg (by omega), if_pos hk] at h
  split at h
  ·cases h
  ·omega
 ·rw [if_neg (by omega), if_neg (by omega), if_pos hk] at h
  split at h
  ·cases h
  ·omega
 ·rw [if_pos hk] at h
  intro e
  rw [e] at h
  simp [checkE, checkL] at h
end Go.Proofs
namespace Go.Proofs
open Go Go.Eng
set_option linter.unusedSectionVars false
variable [Drw]
set_option maxRecDepth 100000
abbrev Sp := Int × Int
def vSp (s : Sp) : Prop := 0 ≤ s.1 ∧ s.1 ≤ s.2 ∧ s.2 ≤ 1114111
structure Canon (l : List Sp) : Prop where
 ok : ∀ s ∈ l, vSp s
 gap : l.Pairwise fun s t => s.2 + 2 ≤ t.1
theorem leLt (a b : Int) : a ≤ b ∨ b < a := by omega
theorem ltLe (a b : Int) : a < b ∨ b ≤ a := by omega
theorem inS_iff {l : List Sp} {r : Int} : inS l r = true ↔ ∃ s ∈ l, s.1 ≤ r ∧ r ≤ s.2 := by
 unfold inS
 simp [List.any_eq_true]
theorem inS_cons (s : Sp) (l : List Sp) (r : Int) : inS (s :: l) r = ((decide (s.1 ≤ r) && decide (r ≤ s.2)) || inS l r) := rfl
theorem inS_append (a b : List Sp) (r : Int) : inS (a ++ b) r = (inS a r || inS b r) := by
 unfold inS; rw [List.any_append]
theorem inS_nil (r : Int) : inS [] r = false := rfl
theorem inS_perm {a b : List Sp} (h : a.Perm b) (r : Int) : inS a r = inS b r := by
 rw [Bool.eq_iff_iff, inS_iff, inS_iff]
 exact ⟨fun ⟨s, hs, q⟩ => ⟨s, h.mem_iff.1 hs, q⟩, fun ⟨s, hs, q⟩ => ⟨s, h.mem_iff.2 hs, q⟩⟩
theorem Canon.nil : Canon [] := ⟨fun _ h => (by cases h), List.Pairwise.nil⟩
theorem Canon.one {s : Sp} (h : vSp s) : Canon [s] := ⟨fun t ht => by rw [List.mem_singleton] at ht; subst ht; exact h, List.pairwise_singleton _ _⟩
theorem Canon.tail {s : Sp} {l : List Sp} (h : Canon (s :: l)) : Canon l := ⟨fun t ht => h.ok t (List.mem_cons_of_mem _ ht), (List.pairwise_cons.1 h.gap).2⟩
theorem Canon.head {s : Sp} {l : List Sp} (h : Canon (s :: l)) : vSp s := h.ok s List.mem_cons_self
theorem Canon.far {s : Sp} {l : List Sp} (h : Canon (s :: l)) : ∀ t ∈ l, s.2 + 2 ≤ t.1 := (List.pairwise_cons.1 h.gap).1
theorem Canon.cons {s : Sp} {l : List Sp} (h1 : vSp s) (h2 : ∀ t ∈ l, s.2 + 2 ≤ t.1) (h3 : Canon l) : Canon (s :: l) :=
 ⟨fun t ht => by rcases List.mem_cons.1 ht with rfl | ht; exact h1; exact h3.ok t ht, List.pairwise_cons.2 ⟨h2, h3.gap⟩⟩
theorem canon_low {s : Sp} {l : List Sp} (h : Canon (s :: l)) {r : Int} (hr : r ≤ s.2 + 1) : inS l r = false := by
  cases e : inS l r with
  | false => rfl
  | true =>
    obtain ⟨t, ht, h1, _⟩ := inS_iff.1 e
    have := h.far t ht
    omega
theorem canon_below {s : Sp} {l : List Sp} (h : Canon (s :: l)) {r : Int} (hr : r < s.1) : inS (s :: l) r = false := by
 have hv := h.head
 rw [inS_cons, canon_low h (by unfold vSp at hv; omega), Bool.or_false, decide_eq_false (by omega)]; rfl
theorem canon_unique : ∀ {a b : List Sp}, Canon a → Canon b → (∀ r, inS a r = inS b r) → a = b
  | [], [], _, _, _ => rfl
  | [], t :: b, _, hb, h => by
    have hv := hb.head
    unfold vSp at hv
    have := h t.1
    rw [inS_nil, inS_cons, decide_eq_true (Int.le_refl _), decide_eq_true (by omega)] at this
    simp at this
  | s :: a, [], ha, _, h => by
    have hv := ha.head
    unfold vSp at hv
    have := h s.1
    rw [inS_nil, inS_cons, decide_eq_true (Int.le_refl _), decide_eq_true (by omega)] at this
    simp at this
  | s :: a, t :: b, ha, hb, h => by
    have hv := ha.head
    have hu := hb.head
    unfold vSp at hv hu
    have self : ∀ {s : Sp} {l : List Sp} {r : Int}, s.1 ≤ r → r ≤ s.2 → inS (s :: l) r = true := fun h1 h2 => by
      rw [inS_cons, decide_eq_true h1, decide_eq_true h2]; rfl
    have e1 : s.1 = t.1 := by
      rcases Int.lt_trichotomy s.1 t.1 with h1 | h1 | h1
      · have h2 := h s.1
        rw [self (Int.le_refl _) (by omega), canon_below hb h1] at h2
        cases h2
      · exact h1
      · have h2 := h t.1
        rw [self (s := t) (Int.le_refl _) (by omega), canon_below ha h1] at h2
        cases h2
    have e2 : s.2 = t.2 := by
      rcases Int.lt_trichotomy s.2 t.2 with h1 | h1 | h1
      · have h2 := h (s.2 + 1)
        rw [self (s := t) (by omega) (by omega), inS_cons, canon_low ha (Int.le_refl _), decide_eq_false (p := s.2 + 1 ≤ s.2) (by omega)] at h2
        simp at h2
      · exact h1
      · have h2 := h (t.2 + 1)
        rw [self (s := s) (by omega) (by omega), inS_cons, canon_low hb (Int.le_refl _), decide_eq_false (p := t.2 + 1 ≤ t.2) (by omega)] at h2
        simp at h2
    have e3 : s = t := Prod.ext e1 e2
    subst e3
    have e4 : a = b := canon_unique ha.tail hb.tail fun r => by
      rcases leLt r (s.2 + 1) with h1 | h1
      · rw [canon_low ha h1, canon_low hb h1]
      · have h2 := h r
        rw [inS_cons, inS_cons, decide_eq_false (p := r ≤ s.2) (by omega)] at h2
        simpa using h2
    rw [e4]
def jstep (out : List Sp) (s : Sp) : List Sp := match out.getLast? with
  | some c => if s.1 ≤ c.2 + 1 then out.dropLast ++ [(c.1, max c.2 s.2)] else out ++ [s]
  | none => [s]
def joinF (l : List Sp) : List Sp := l.foldl jstep []
theorem jstep_snoc (o : List Sp) (c s : Sp) : jstep (o ++ [c]) s = if s.1 ≤ c.2 + 1 then o ++ [(c.1, max c.2 s.2)] else o ++ [c] ++ [s] := by
 unfold jstep; simp
theorem jstep_nil (s : Sp) : jstep [] s = [s] := rfl
structure JInv (out l : List Sp) (m : Int) : Prop where
 can : Canon out
 low : ∀ s ∈ out, s.1 ≤ m
 mem : ∀ r, inS out r = inS l r
 len : out.length ≤ l.length
theorem snoc_cases {α : Type} (l : List α) : l = [] ∨ ∃ o c, l = o ++ [c] := by
 rcases List.eq_nil_or_concat l with h | ⟨o, c, h⟩
 ·exact .inl h
 ·exact .inr ⟨o, c, by simpa using h⟩
theorem canon_snoc {o : List Sp} {c : Sp} : Canon (o ++ [c]) ↔ Canon o ∧ vSp c ∧ ∀ t ∈ o, t.2 + 2 ≤ c.1 := by
 constructor
 ·intro h
  have h1 := List.pairwise_append.1 h.gap
  exact ⟨⟨fun t ht => h.ok t (by simp [ht]), h1.1⟩, h.ok c (by simp), fun t ht => h1.2.2 t ht c (by simp)⟩
 ·rintro ⟨h1, h2, h3⟩
  refine ⟨fun t ht => ?_, List.pairwise_append.2 ⟨h1.gap, List.pairwise_singleton _ _, fun t ht u hu => ?_⟩⟩
  ·rcases List.mem_append.1 ht with ht | ht
   ·exact h1.ok t ht
   ·rw [List.mem_singleton] at ht; subst ht; exact h2
  ·rw [List.mem_singleton] at hu; subst hu; exact h3 t ht
theorem jstep_inv {out l : List Sp} {m : Int} {s : Sp} (h : JInv out l m) (hs : vSp s) (hm : m ≤ s.1) : JInv (jstep out s) (l ++ [s]) s.1 := by
 rcases snoc_cases out with rfl | ⟨o, c, rfl⟩
 ·rw [jstep_nil]
  refine ⟨Canon.one hs, fun t ht => by rw [List.mem_singleton] at ht; subst ht; exact Int.le_refl _, fun r => ?_, by simp⟩
  rw [inS_append, ← h.mem r]; rfl
 ·obtain ⟨h1, h2, h3⟩ := canon_snoc.1 h.can
  have hc := h.low c (by simp)
  unfold vSp at h2 hs
  rw [jstep_snoc]
  split
  ·rename_i h4
   have hmx : max c.2 s.2 = c.2 ∨ max c.2 s.2 = s.2 := by omega
   have hge : c.2 ≤ max c.2 s.2 ∧ s.2 ≤ max c.2 s.2 := by omega
   refine ⟨canon_snoc.2 ⟨h1, ⟨h2.1, by simp only; omega, by simp only; omega⟩, h3⟩, fun t ht => ?_, fun r => ?_, ?_⟩
   ·rcases List.mem_append.1 ht with ht | ht
    ·have := h.low t (by simp [ht]); omega
    ·rw [List.mem_singleton] at ht; subst ht; simp only; omega
   ·have hr := h.mem r
    rw [inS_append] at hr
    rw [inS_append, inS_append, ← hr]
    have e : inS [(c.1, max c.2 s.2)] r = (inS [c] r || inS [s] r) := by
     rw [Bool.eq_iff_iff]
     simp only [inS_cons, inS_nil, Bool.or_false, Bool.or_eq_true, Bool.and_eq_true, decide_eq_true_eq]
     constructor
     ·intro ⟨q1, q2⟩; omega
     ·rintro (⟨q1, q2⟩ | ⟨q1, q2⟩) <;> omega
    rw [e, Bool.or_assoc]
   ·have := h.len; simp at this ⊢; omega
  ·rename_i h4
   refine ⟨canon_snoc.2 ⟨h.can, hs, fun t ht => ?_⟩, fun t ht => ?_, fun r => ?_, ?_⟩
   ·rcases List.mem_append.1 ht with ht | ht
    ·have := h3 t ht; omega
    ·rw [List.mem_singleton] at ht; subst ht; omega
   ·rcases List.mem_append.1 ht with ht | ht
    ·have := h.low t ht; omega
    ·rw [List.mem_singleton] at ht; subst ht; exact Int.le_refl _
   ·rw [inS_append _ [s], inS_append l, h.mem r]
   ·have := h.len; simp at this ⊢; omega
theorem foldl_inv : ∀ (r : List Sp) {out l : List Sp} {m : Int}, JInv out l m → (∀ s ∈ r, vSp s ∧ m ≤ s.1) → r.Pairwise (fun s t => s.1 ≤ t.1) → ∃ m', JInv (r.foldl jstep out) (l ++ r) m'
  | [], out, l, m, h, _, _ => ⟨m, by simpa using h⟩
  | s :: r, out, l, m, h, hv, hp => by
    have h1 := hv s List.mem_cons_self
    have h2 := List.pairwise_cons.1 hp
    obtain ⟨m', h3⟩ := foldl_inv r (jstep_inv h h1.1 h1.2) (fun t ht => ⟨(hv t (List.mem_cons_of_mem _ ht)).1, h2.1 t ht⟩) h2.2
    exact ⟨m', by simpa using h3⟩
theorem joinF_all {l : List Sp} (hv : ∀ s ∈ l, vSp s) (hp : l.Pairwise (fun s t => s.1 ≤ t.1)) : Canon (joinF l) ∧ (∀ r, inS (joinF l) r = inS l r) ∧ (joinF l).length ≤ l.length := by
 obtain ⟨m, h⟩ := foldl_inv l (out := []) (l := []) (m := 0) ⟨Canon.nil, fun _ h => by (cases h), fun _ => rfl, Nat.le_refl _⟩ (fun s hs => ⟨hv s hs, (hv s hs).1⟩) hp
 exact ⟨h.can, h.mem, h.len⟩
/-- What joining makes of a list, in whatever order the spans come: by sorting. -/
def JoinOf (l out : List Sp) : Prop := ∃ l', l'.Perm l ∧ l'.Pairwise (fun s t => s.1 ≤ t.1) ∧ out = joinF l'
theorem JoinOf.all {l out : List Sp} (h : JoinOf l out) (hv : ∀ s ∈ l, vSp s) : Canon out ∧ (∀ r, inS out r = inS l r) ∧ out.length ≤ l.length := by
 obtain ⟨l', h1, h2, rfl⟩ := h
 have h3 := joinF_all (fun s hs => hv s (h1.mem_iff.1 hs)) h2
 exact ⟨h3.1, fun r => (h3.2.1 r).trans (inS_perm h1 r), by rw [← h1.length_eq]; exact h3.2.2⟩
theorem canon_out {l : List Sp} (h : Canon l) {r : Int} (hr : r < 0 ∨ 1114111 < r) : inS l r = false := by
  cases e : inS l r with
  | false => rfl
  | true => obtain ⟨t, ht, q1, q2⟩ := inS_iff.1 e; have := h.ok t ht; unfold vSp at this; omega
theorem canon_ext {a b : List Sp} (ha : Canon a) (hb : Canon b) (h : ∀ r, 0 ≤ r → r ≤ 1114111 → inS a r = inS b r) : a = b :=
 canon_unique ha hb fun r => by
  rcases ltLe r 0 with h1 | h1
  ·rw [canon_out ha (.inl h1), canon_out hb (.inl h1)]
  ·rcases ltLe 1114111 r with h2 | h2
   ·rw [canon_out ha (.inr h2), canon_out hb (.inr h2)]
   ·exact h r h1 h2
end Go.Proofs
namespace Go.Proofs
open Go Go.Eng Go.Sort Go.Lib
set_option linter.unusedSectionVars false
variable [Drw]
set_option maxRecDepth 100000
/-- The bytes of a rune. -/
def uE (c : Int) : Bys := (Utf8.encode c).data.toList
theorem uE_bS (c : Int) : Utf8.encode c = bS (uE c) := by unfold uE bS; rfl
theorem uE_len (c : Int) : (uE c).length ≤ 4 := by
 unfold uE Utf8.encode
 simp only []
 repeat' split
 all_goals simp
def spc : Bys := [92, 124, 38, 126, 40, 41, 91, 93, 123, 125, 42, 43, 63, 46, 64, 94, 45, 35, 61, 33]
/-- Is a rune written with a backslash? -/
def mkB (c : Int) : Bool := decide (c < 128) && decide (0 ≤ indexByte spc c.toNat.toUInt8)
def hxD (n : Nat) : UInt8 := if n < 10 then (48 + n).toUInt8 else (87 + n).toUInt8
/-- The hexadecimal numeral. -/
def hxN (n : Nat) : Bys := if h : n < 16 then [hxD n] else hxN (n / 16) ++ [hxD (n % 16)]
theorem hxN_len : ∀ (k n : Nat), n < 16 ^ (k + 1) → (hxN n).length ≤ k + 1
  | 0, n, h => by rw [hxN, dif_pos (by simpa using h)]; exact Nat.le_refl 1
  | k + 1, n, h => by
    rw [hxN]
    split
    · simp
    · have h1 : n / 16 < 16 ^ (k + 1) := by rw [Nat.pow_succ] at h; omega
      have h2 := hxN_len k _ h1
      simp only [List.length_append, List.length_singleton]; omega
/-- The text of a rune. -/
def escC (c : Int) : Bys :=
 if mkB c = true then 92 :: uE c
 else if c = 10 then [92, 110] else if c = 9 then [92, 116] else if c = 13 then [92, 114]
 else if c < 32 ∨ (127 ≤ c ∧ c ≤ 160) ∨ (55296 ≤ c ∧ c ≤ 57343) then [92, 117, 123] ++ hxN c.toNat ++ [125]
 else uE c
theorem escC_len {c : Int} (h : c ≤ 1114111) : (escC c).length ≤ 10 := by
 have := uE_len c
 have h2 := hxN_len 5 c.toNat (by omega)
 unfold escC
 repeat' split
 all_goals try simp only [List.length_cons, List.length_nil, List.length_append]
 all_goals omega
def spT (s : Sp) : Bys := escC s.1 ++ (if s.1 + 1 < s.2 then [45] else []) ++ (if s.1 < s.2 then escC s.2 else [])
def spsT : List Sp → Bys
  | [] => []
  | s :: l => spT s ++ spsT l
theorem spsT_app : ∀ (l m : List Sp), spsT (l ++ m) = spsT l ++ spsT m
  | [], _ => rfl
  | s :: l, m => by simp [spsT, spsT_app l m]
/-- The text of a set. -/
def setT (l : List Sp) : Bys :=
 if l.length = 1 ∧ (l.getD 0 (0, 0)).1 = (l.getD 0 (0, 0)).2 then escC (l.getD 0 (0, 0)).1
 else if l = [(0, 1114111)] then [46] else [91] ++ spsT l ++ [93]
def lvl (k : Int) : Nat := if k = 4 then 0 else if k = 7 then 1 else if k = 3 then 2 else if k = 8 then 3 else 4
def bndT (a b : Int) : Bys :=
 if a = 0 ∧ b = 1 then [63] else if a = b then [123] ++ itoa a ++ [125] else [123] ++ itoa a ++ [44] ++ itoa b ++ [125]
def sepT (k : Int) : Bys := if k = 4 then [124] else if k = 7 then [38] else []
def parT (p : Bool) (s : Bys) : Bys := if p then [40] ++ s ++ [41] else s
mutual
/-- The text of an expression that needs no parentheses. -/
def txt : Re → Bys
  | .mk k s ts mn mx ng =>
    if k = 0 then [64] else if k = 1 then [40, 41] else if k = 2 then setT s
    else if k = 3 ∨ k = 4 ∨ k = 7 then join (txts (lvl k + 1) ts) (sepT k)
    else if k = 5 then (txts 4 ts).flatten ++ [42]
    else if k = 6 then (txts 4 ts).flatten ++ bndT mn mx
    else if k = 8 then [126] ++ (txts 3 ts).flatten
    else if k = 9 then [40, 35] ++ itoa mn ++ (txts 0 ts).flatten ++ [41]
    else if ng then [40, 33] ++ (txts 0 ts).flatten ++ [41] else [40, 61] ++ (txts 0 ts).flatten ++ [41]
def txts (at_ : Nat) : List Re → List Bys
  | [] => []
  | t :: ts => parT (decide (lvl t.kind < at_)) (txt t) :: txts at_ ts
end
/-- The text at a level. -/
def txtA (at_ : Nat) (t : Re) : Bys := parT (decide (lvl t.kind < at_)) (txt t)
theorem txts_map (a : Nat) : ∀ ts : List Re, txts a ts = ts.map (txtA a)
  | [] => by rw [txts]; rfl
  | t :: ts => by rw [txts, txts_map a ts]; rfl
theorem txts_one {a : Nat} {ts : List Re} {x : Re} (h : ts = [x]) : (txts a ts).flatten = txtA a x := by
 subst h; rw [txts_map]; simp
theorem txt_eq (t : Re) : txt t =
  if t.kind = 0 then [64] else if t.kind = 1 then [40, 41] else if t.kind = 2 then setT t.set
  else if t.kind = 3 ∨ t.kind = 4 ∨ t.kind = 7 then join (t.args.map (txtA (lvl t.kind + 1))) (sepT t.kind)
  else if t.kind = 5 then (txts 4 t.args).flatten ++ [42]
  else if t.kind = 6 then (txts 4 t.args).flatten ++ bndT t.mn t.mx
  else if t.kind = 8 then [126] ++ (txts 3 t.args).flatten
  else if t.kind = 9 then [40, 35] ++ itoa t.mn ++ (txts 0 t.args).flatten ++ [41]
  else if t.neg then [40, 33] ++ (txts 0 t.args).flatten ++ [41] else [40, 61] ++ (txts 0 t.args).flatten ++ [41] := by
 cases t; rw [txt, txts_map (lvl _ + 1)]; rfl
end Go.Proofs
namespace Go.Proofs
open Go Go.Eng
set_option linter.unusedSectionVars false
variable [Drw]
set_option maxRecDepth 100000
abbrev TSp : Nat := 62
theorem own_low {w : World} {base base' e size n : Nat} {v : Value} {xs : List Value} (h : w.ownsRow base e size v n xs) (hb : base' ≤ base) : w.ownsRow base' e size v n xs := by
 obtain ⟨h1, h2⟩ := h
 refine ⟨h1, h2.imp id ?_⟩
 rintro ⟨g, cap, cur, a, b, r⟩
 exact ⟨g, cap, cur, a, Nat.le_trans hb b, r⟩
/-- A list of spans that lies in memory of one's own. -/
def OwnS (w : World) (base : Nat) (r : Value) (l : List Sp) : Prop := (∃ a c, r = .slice a l.length c) ∧ w.ownsRow base TSp 2 r l.length (l.map spanV).flatten
theorem OwnS.at {w : World} {base : Nat} {r : Value} {l : List Sp} (h : OwnS w base r l) : SpansAt w r l :=
 own_slat h.2 (by intro x hx; simp only [List.mem_map] at hx; obtain ⟨p, _, rfl⟩ := hx; rfl) (by simp) (by decide)
theorem spanV_snoc (l : List Sp) (s : Sp) : ((l ++ [s]).map spanV).flatten = (l.map spanV).flatten ++ [.int .i64 s.1, .int .i64 s.2] := by simp [spanV]
set_option maxHeartbeats 1000000 in
theorem clones_c (w0 : World) (v : Value) (l : List Sp) (h : SpansAt w0 v l) (hl : l.length ≤ 8796093022208) :
  Ret Tryz.prog 55 #[v] w0 fun r w => OwnS w w0.heap.size r l ∧ Ext w0 w := by
 obtain ⟨a, c, rfl⟩ := SlAt.form h
 simp only [List.length_map] at h ⊢
 obtain ⟨base, hbase⟩ : ∃ base, base = w0.heap.size := ⟨_, rfl⟩
 rw [← hbase]
 refine Ret_of Tryz.func55 rfl Tryz.ntmps55 (Nat.le_of_ble_eq_true rfl) ?_
 have E : Chg none1 w0 w0 := Chg.refl _ _
 refine Wp_seq_region ?_
 refine qA (.slice none 0 0) rfl ?_
 refine WpL_nil (Wp_seq (Wp_seq_region ?_))
 refine qM (.slice a l.length c) rfl ?_
 refine WpL_val (v := (.bool a.isNone)) rfl rfl (by decide) (r_eqlNil Tryz.underlying22 rfl rfl) ?_
 refine WpL_nil ?_
 refine Wp_cond (b := a.isNone) rfl (fun hn => ?_) (fun hn => ?_)
 ·have khn := hn
  have hl0 : l.length = 0 := by rcases Nat.eq_zero_or_pos l.length with h0 | h0; exact h0; obtain ⟨b, o, rfl, _⟩ := spans_cells h h0; simp at hn
  have hl1 : l = [] := List.eq_nil_of_length_eq_zero hl0
  refine Wp_seq_region ?_
  refine qA (.slice none 0 0) rfl ?_
  refine WpL_nil (Wp_ret (thn_ret ?_))
  refine fin_tmp Tryz.results55 (v := (.slice none 0 0)) rfl ?_
  subst hl1; exact ⟨⟨⟨none, 0, rfl⟩, World.ownsRow_nil _ _ _ _⟩, E⟩
 ·have khn := hn
  rcases Bool.eq_false_or_eq_true (decide (l.length = 0)) with hz | hz
  ·have khz := hz
   replace khz := of_decide_eq_true khz
   refine Wp_skip (thn_normal (Wp_seq_region ?_))
   refine s_build0 (by decide) Tryz.underlying22 siz62 ?_
   intro bq wq Nq
   have Fq := Nq.ge E
   replace E := E.ext Nq.ext
   have Bq := Nq.blk
   refine qM (.slice a l.length c) rfl ?_
   refine qV (r_append0 Tryz.underlying22 siz62 (a' := a) (c' := c) rfl (Nat.le_refl _) (by show Value.slice a l.length c = _; rw [khz])) ?_
   refine qA (.slice (some ⟨bq, 0, none⟩) 0 0) rfl ?_
   refine WpL_nil (Wp_ret ?_)
   refine fin_tmp Tryz.results55 (v := (.slice (some ⟨bq, 0, none⟩) 0 0)) rfl ?_
   have hl1 : l = [] := List.eq_nil_of_length_eq_zero khz
   subst hl1; exact ⟨⟨⟨_, 0, rfl⟩, own_empty (base := base) (size := 2) Bq (by omega)⟩, E⟩
  ·have khz := hz
   replace khz := of_decide_eq_false khz
   obtain ⟨b, o, rfl, hcl⟩ := spans_cells h (by omega)
   refine Wp_skip (thn_normal (Wp_seq_region ?_))
   refine s_build0 (by decide) Tryz.underlying22 siz62 ?_
   intro bq wq Nq
   have Fq := Nq.ge E
   replace E := E.ext Nq.ext
   have Bq := Nq.blk
   refine qM (.slice (some ⟨b, o, none⟩) l.length c) rfl ?_
   have hown := own_empty (base := base) (size := 2) Bq (by omega)
   have hbs : base ≤ wq.heap.size := by have := Nq.ext.size; omega
   refine s_append (base := base) (n := 0) (m := l.length) (xs := []) (news := (l.map spanV).flatten) (size := 2) (bytes := 16) (v := (.slice (some ⟨bq, 0, none⟩) 0 0)) (by decide) Tryz.underlying22 siz62 byt62 zer62 rfl (by decide) rfl hown rfl (spans_six l) ((spans_flat hcl).ext Nq.ext) (spans_one l) (by unfold maxLen; omega) (by omega) (hbs) ?_
   intro v9 w29 Ov9 Cv9 Dv9
   replace E := E.step Cv9 (fun x hx h => absurd (hown.lt x h).1 (by omega))
   obtain ⟨la, lc, rfl⟩ := own_form Ov9
   refine qA (.slice la (0 + l.length) lc) rfl ?_
   refine WpL_nil (Wp_ret ?_)
   refine fin_tmp Tryz.results55 (v := (.slice la (0 + l.length) lc)) rfl ?_
   simp only [Nat.zero_add, List.nil_append] at Ov9 ⊢
   exact ⟨⟨⟨la, lc, rfl⟩, Ov9⟩, E⟩
end Go.Proofs
namespace Go.Eng
open Go
set_option linter.unusedSectionVars false
variable [Drw]
def IterAt (w : World) (it b n : Nat) (seen : List Nat) : Prop := w.heap[it]? = some (.mapIter (some b) n seen.toArray n)
end Go.Eng
namespace Go.Eng
open Go
set_option linter.unusedSectionVars false
variable [Drw]
def edgeB (l : List Oper) (t u : Nat) : Bool := match l[t]? with
  | some o => o.after.any fun e => Region.binds .any e && Nat.beq e.on u
  | none => false
def guardB (hd : List Bool) (o : Oper) : Bool := match o.guard with | some p => hd.getD p.1 false | none => true
def dagPB (N : Nat) (hd : List Bool) : Nat → List Oper → List Nat → List (List Nat) → List Bool → Bool
  | _, [], [], [], [] => true
  | i, o :: l, d :: ds, ws :: wss, h :: hs => (bif h then dagOne N i o d ws && ((o.after.all fun e => !Region.binds .any e || hd.getD e.on false) && guardB hd o) else Nat.ble N d) && dagPB N hd (i + 1) l ds wss hs
  | _, _, _, _, _ => false
/-- Each operation is of the head or of the tail, and one of the tail waits for the whole head or for another of the tail. -/
def tailPB (l : List Oper) (hd : List Bool) (ts : List Nat) : Bool :=
 (List.range l.length).all fun i => hd.getD i false || (ts.contains i && ((List.range l.length).all (fun u => !hd.getD u false || edgeB l i u) || ts.any fun p => !hd.getD p true && edgeB l i p))
def permB (ops : Array Oper) : List Nat → Array Bool → Bool
  | [], listed => (Region.ready .any ops listed).isEmpty
  | k :: ks, listed => decide (Region.ready .any ops listed = [k]) && permB ops ks (listed.setIfInBounds k true)
theorem wpAny_of_perm {P : Program} {ops : Array Oper} {Q' : Exit → Act → World → Prop} : ∀ (ks : List Nat) (listed : Array Bool) (a : Act) (w : World), permB ops ks listed = true → wpList P ops Q' (ks.filterMap fun k => ops[k]?) a w → wpAny P .any ops Q' ks.length listed a w
  | [], _, _, _, hB, h => ⟨by simpa [permB] using hB, h⟩
  | k :: ks, listed, a, w, hB, h => by
    simp only [permB, Bool.and_eq_true, decide_eq_true_eq] at hB
    refine ⟨fun h1 => (by rw [hB.1] at h1; cases h1), fun i hi => ?_⟩
    have hi0 := hi
    rw [hB.1] at hi
    have hik : i = k := by simpa using hi
    subst hik
    obtain ⟨_, o, h0, _⟩ := mem_ready.1 hi0
    have hw : wpOp P ops Q' i (wpList P ops Q' (ks.filterMap fun k => ops[k]?)) a w := by
      rw [List.filterMap_cons, h0] at h
      unfold wpOp; simp only [h0]; exact h
    exact wpOp_mono (fun a' w' h' => wpAny_of_perm ks _ a' w' hB.2 h') hw
inductive DagStepsP (P : Program) (N : Nat) (ds : List Nat) (Fs : List Fact) (σ : Env) (w : World) : List Oper → List (List Nat) → List Bool → List Fact → Prop where
  | nil : DagStepsP P N ds Fs σ w [] [] [] []
  | cons {o : Oper} {ws : List Nat} {F : Fact} {l : List Oper} {wss : List (List Nat)} {hs : List Bool} {Gs : List Fact} : DagStep P N ds Fs σ w o ws F → DagStepsP P N ds Fs σ w l wss hs Gs → DagStepsP P N ds Fs σ w (o :: l) (ws :: wss) (true :: hs) (F :: Gs)
  | tail {o : Oper} {ws : List Nat} {F : Fact} {l : List Oper} {wss : List (List Nat)} {hs : List Bool} {Gs : List Fact} : DagStepsP P N ds Fs σ w l wss hs Gs → DagStepsP P N ds Fs σ w (o :: l) (ws :: wss) (false :: hs) (F :: Gs)
/-- How many of the head are yet to come. -/
def leftH (hd : List Bool) (listed : List Bool) : Nat := ((hd.zip listed).filter fun p => p.1 && !p.2).length
theorem leftH_set : ∀ {hd listed : List Bool} {i : Nat}, hd[i]? = some true → listed[i]? = some false → leftH hd (listed.set i true) + 1 = leftH hd listed
  | [], _, _, h, _ => by simp at h
  | _ :: _, [], _, _, h => by simp at h
  | h :: hd, x :: listed, 0, h1, h2 => by
    simp at h1 h2
    subst h1; subst h2
    simp [leftH]
  | h :: hd, x :: listed, i + 1, h1, h2 => by
    have := leftH_set (hd := hd) (listed := listed) (i := i) (by simpa using h1) (by simpa using h2)
    simp only [leftH, List.set_cons_succ, List.zip_cons_cons, List.filter_cons] at this ⊢
    split
    · simp only [List.length_cons]; omega
    · exact this
theorem leftH_zero : ∀ {hd listed : List Bool}, hd.length = listed.length → leftH hd listed = 0 → (∀ (i : Nat), hd[i]? = some false → listed[i]? = some false) → listed = hd
  | [], [], _, _, _ => rfl
  | [], _ :: _, h, _, _ => by simp at h
  | _ :: _, [], h, _, _ => by simp at h
  | h :: hd, x :: listed, hl, h0, ht => by
    have e1 : leftH hd listed = 0 := by
      simp only [leftH, List.zip_cons_cons, List.filter_cons] at h0 ⊢
      split at h0
      · simp at h0
      · exact h0
    have e2 := leftH_zero (by simpa using hl) e1 fun i hi => by have := ht (i + 1) (by simpa using hi); simpa using this
    have e3 : x = h := by
      cases h with
      | false => have := ht 0 rfl; simpa using this
      | true =>
        cases x with
        | true => rfl
        | false => simp [leftH] at h0
    rw [e2, e3]
theorem leftH_pos : ∀ {hd listed : List Bool}, 0 < leftH hd listed → ∃ i : Nat, hd[i]? = some true ∧ listed[i]? = some false
  | [], _, h => by simp [leftH] at h
  | _ :: _, [], h => by simp [leftH] at h
  | h :: hd, x :: listed, hp => by
    simp only [leftH, List.zip_cons_cons, List.filter_cons] at hp
    split at hp
    · rename_i hc
      simp at hc
      exact ⟨0, by simp [hc.1], by simp [hc.2]⟩
    · obtain ⟨i, h1, h2⟩ := leftH_pos (hd := hd) (listed := listed) hp
      exact ⟨i + 1, by simpa using h1, by simpa using h2⟩
theorem getD_arr {listed : Array Bool} {i : Nat} {b d : Bool} (h : listed.toList[i]? = some b) : listed.getD i d = b := by
 have : listed[i]? = some b := by simpa using h
 simp [Array.getD_eq_getD_getElem?, this]
end Go.Eng
namespace Go.Eng
open Go
set_option linter.unusedSectionVars false
variable [Drw]
def two (c1 c2 : Nat) (M1 M2 : Nat → Prop) (p : Nat) : Nat → Prop := bif Nat.beq p c1 then M1 else bif Nat.beq p c2 then M2 else none1
/-- Waits that follow from the given ones. -/
def closB1 (wss cl : List (List Nat)) (i : Nat) : Bool := (cl.getD i []).all fun c => (wss.getD i []).contains c || (wss.getD i []).any fun e => (cl.getD e []).contains c
def closB (wss cl : List (List Nat)) : Bool := (List.range wss.length).all (closB1 wss cl)
theorem closB_get {wss cl : List (List Nat)} (h : closB wss cl = true) {i c : Nat} {ws : List Nat} (hw : wss[i]? = some ws) (hc : (cl.getD i []).contains c = true) : c ∈ ws ∨ ∃ e ∈ ws, (cl.getD e []).contains c = true := by
 have h1 := List.all_eq_true.1 h i (List.mem_range.2 (lt_of_get hw))
 have h2 := List.all_eq_true.1 h1 c (by simpa using hc)
 rw [List.getD_eq_getElem?_getD, hw, Option.getD_some, Bool.or_eq_true] at h2
 rcases h2 with h2 | h2
 ·exact .inl (by simpa using h2)
 ·obtain ⟨e, he, h3⟩ := List.any_eq_true.1 h2
  exact .inr ⟨e, he, h3⟩
end Go.Eng
namespace Go.Eng
open Go
set_option linter.unusedSectionVars false
variable [Drw]
abbrev FctS := (Nat → Bool) → Env → Fct
def HoldsS (ds : List Nat) (Fs : List FctS) (S : Nat → Bool) (j : Nat) (σ : Env) (w : World) : Prop := ∀ d F, ds[j]? = some d → Fs[j]? = some F → F S σ (σ d) w
def insS (S : Nat → Bool) (i : Nat) : Nat → Bool := fun j => bif Nat.beq j i then true else S j
theorem insS_self (S : Nat → Bool) (i : Nat) : insS S i i = true := by simp [insS]
theorem insS_ne {S : Nat → Bool} {i j : Nat} (h : j ≠ i) : insS S i j = S j := by
 have : Nat.beq j i = false := by cases hb : Nat.beq j i; rfl; exact absurd (Nat.eq_of_beq_eq_true hb) h
 simp [insS, this]
/-- The blocks that the operations change. -/
def MsL : List (Nat × (Nat → Prop)) → Nat → Nat → Prop
  | [], _, _ => False
  | p :: r, j, y => (j = p.1 ∧ p.2 y) ∨ MsL r j y
def dagOneS (N i : Nat) (hd : List Bool) (o : Oper) (d : Nat) (ws : List Nat) : Bool :=
 (match o.dst with | some d' => Nat.beq d' d && Nat.blt d N | none => Nat.ble N d) && (o.after.all fun e => !Region.binds .any e || (Nat.blt e.on i && hd.getD e.on false)) && (ws.all fun j => o.after.any fun e => Region.binds .any e && Nat.beq e.on j) && guardB hd o
def dagSB (N : Nat) (hd : List Bool) : Nat → List Oper → List Nat → List (List Nat) → List Bool → Bool
  | _, [], [], [], [] => true
  | i, o :: l, d :: ds, ws :: wss, h :: hs => (bif h then dagOneS N i hd o d ws else Nat.ble N d) && dagSB N hd (i + 1) l ds wss hs
  | _, _, _, _, _ => false
theorem dagSB_get {N : Nat} {hd : List Bool} : ∀ {i : Nat} {l : List Oper} {ds : List Nat} {wss : List (List Nat)} {hs : List Bool}, dagSB N hd i l ds wss hs = true → ∀ {j : Nat} {o : Oper}, l[j]? = some o → ∃ d ws h, ds[j]? = some d ∧ wss[j]? = some ws ∧ hs[j]? = some h ∧ (bif h then dagOneS N (i + j) hd o d ws else Nat.ble N d) = true
  | _, [], _, _, _, _, j, o, h => by simp at h
  | i, x :: l, [], _, _, hB, _, _, _ => by simp [dagSB] at hB
  | i, x :: l, d :: ds, [], _, hB, _, _, _ => by simp [dagSB] at hB
  | i, x :: l, d :: ds, ws :: wss, [], hB, _, _, _ => by simp [dagSB] at hB
  | i, x :: l, d :: ds, ws :: wss, h0 :: hs, hB, j, o, h => by
    simp only [dagSB, Bool.and_eq_true] at hB
    cases j with
    | zero => simp at h; subst h; exact ⟨d, ws, h0, rfl, rfl, rfl, hB.1⟩
    | succ j =>
      simp at h
      obtain ⟨d', ws', h', h1, h2, h3, h4⟩ := dagSB_get hB.2 h
      exact ⟨d', ws', h', by simpa using h1, by simpa using h2, by simpa using h3, by rw [show i + (j + 1) = i + 1 + j from by omega]; exact h4⟩
theorem dagSB_len {N : Nat} {hd : List Bool} : ∀ {i : Nat} {l : List Oper} {ds : List Nat} {wss : List (List Nat)} {hs : List Bool}, dagSB N hd i l ds wss hs = true → ds.length = l.length ∧ hs.length = l.length ∧ wss.length = l.length
  | _, [], [], [], [], _ => ⟨rfl, rfl, rfl⟩
  | _, [], [], [], _ :: _, hB => by simp [dagSB] at hB
  | _, [], [], _ :: _, _, hB => by simp [dagSB] at hB
  | _, [], _ :: _, _, _, hB => by simp [dagSB] at hB
  | i, x :: l, [], _, _, hB => by simp [dagSB] at hB
  | i, x :: l, d :: ds, [], _, hB => by simp [dagSB] at hB
  | i, x :: l, d :: ds, ws :: wss, [], hB => by simp [dagSB] at hB
  | i, x :: l, d :: ds, ws :: wss, h0 :: hs, hB => by
    simp only [dagSB, Bool.and_eq_true] at hB
    have := dagSB_len hB.2
    simp [this.1, this.2.1, this.2.2]
def DagStepS (P : Program) (N : Nat) (ds : List Nat) (Fs : List FctS) (σ : Env) (w : World) (Ms : Nat → Nat → Prop) (cl : List (List Nat)) (i : Nat) (o : Oper) (ws : List Nat) (F : FctS) : Prop :=
 ∀ (S : Nat → Bool) σ' w', S i = false → (∀ j, (cl.getD j []).contains i = true → S j = false) → Chg (fun y => ∃ j, S j = true ∧ Ms j y) w w' → (∀ t, ds.contains t = false → σ' t = σ t) → (∀ j d, ds[j]? = some d → S j = false → σ' d = σ d) → (∀ j, ws.contains j = true → S j = true ∧ HoldsS ds Fs S j σ' w') →
  (Guarded ds o σ' ∧ DoesT (Ms i) P N o (fun v w => F (insS S i) σ' (Go.Eng.valOf o v) w) σ' w') ∨ (Unmet ds o σ' ∧ F (insS S i) σ' undef w')
/-- A fact lasts while other operations are done. -/
def StabS (Ms : Nat → Nat → Prop) (i : Nat) (ws : List Nat) (F : FctS) : Prop := ∀ p, p ≠ i → ws.contains p = false → ∀ S σ v w w', S i = true → S p = false → Chg (Ms p) w w' → F S σ v w → F (insS S p) σ v w'
/-- A fact speaks of the values of the operations that it waits for alone. -/
def LocS (ds : List Nat) (ws : List Nat) (F : FctS) : Prop := ∀ S (σ1 σ2 : Env), (∀ j d, ws.contains j = true → ds[j]? = some d → σ2 d = σ1 d) → ∀ v w, F S σ1 v w → F S σ2 v w
inductive DagStepsS (P : Program) (N : Nat) (ds : List Nat) (Fs : List FctS) (σ : Env) (w : World) (Ms : Nat → Nat → Prop) (cl : List (List Nat)) : Nat → List Oper → List (List Nat) → List Bool → List FctS → Prop where
  | nil {i : Nat} : DagStepsS P N ds Fs σ w Ms cl i [] [] [] []
  | cons {i : Nat} {o : Oper} {ws : List Nat} {F : FctS} {l : List Oper} {wss : List (List Nat)} {hs : List Bool} {Gs : List FctS} (s : StabS Ms i ws F) (lc : LocS ds ws F) (h : DagStepS P N ds Fs σ w Ms cl i o ws F) (t : DagStepsS P N ds Fs σ w Ms cl (i + 1) l wss hs Gs) : DagStepsS P N ds Fs σ w Ms cl i (o :: l) (ws :: wss) (true :: hs) (F :: Gs)
  | tail {i : Nat} {o : Oper} {ws : List Nat} {F : FctS} {l : List Oper} {wss : List (List Nat)} {hs : List Bool} {Gs : List FctS} (t : DagStepsS P N ds Fs σ w Ms cl (i + 1) l wss hs Gs) : DagStepsS P N ds Fs σ w Ms cl i (o :: l) (ws :: wss) (false :: hs) (F :: Gs)
def allS (hd : List Bool) : Nat → Bool := fun j => hd.getD j false
def DoesX (M : Nat → Prop) (ch : List PanicEntry) (X : World → Prop) (P : Program) (N : Nat) (o : Oper) (R : Fct) (σ : Env) (w : World) : Prop :=
 ∀ dz a, Ok dz N a → env a = σ → ∀ (Q : Exit → Act → World → Prop) (K : Act → World → Prop), (∀ v w', Chg M w w' → R v w' → K (a.put o.dst v) w') → (∀ w', Chg M w w' → X w' → Q (.panic ch) a w') → o.wp P a w K Q
theorem DoesT.x {M : Nat → Prop} {ch : List PanicEntry} {X : World → Prop} {P : Program} {N : Nat} {o : Oper} {R : Fct} {σ : Env} {w : World} (h : DoesT M P N o R σ w) : DoesX M ch X P N o R σ w := fun dz a ha he Q K hK _ => h dz a ha he Q K hK
theorem DoesX.weak {M : Nat → Prop} {ch : List PanicEntry} {X : World → Prop} {P : Program} {N : Nat} {o : Oper} {R R' : Fct} {σ : Env} {w : World} (h : DoesX M ch X P N o R σ w) (hr : ∀ v w', Chg M w w' → R v w' → R' v w') : DoesX M ch X P N o R' σ w := fun dz a ha he Q K hK hX => h dz a ha he Q K (fun v w' c r => hK v w' c (hr v w' c r)) hX
def DagStepG (P : Program) (N : Nat) (ds : List Nat) (Fs : List FctS) (σ : Env) (w : World) (Ms : Nat → Nat → Prop) (Rs : Nat → World → World → Prop) (ch : List PanicEntry) (X : World → Prop) (cl : List (List Nat)) (i : Nat) (o : Oper) (ws : List Nat) (F : FctS) : Prop :=
 ∀ (S : Nat → Bool) σ' w', S i = false → (∀ j, (cl.getD j []).contains i = true → S j = false) → Chg (fun y => ∃ j, S j = true ∧ Ms j y) w w' → (∀ t, ds.contains t = false → σ' t = σ t) → (∀ j d, ds[j]? = some d → S j = false → σ' d = σ d) → (∀ j, ws.contains j = true → S j = true ∧ HoldsS ds Fs S j σ' w') →
  (Guarded ds o σ' ∧ DoesX (Ms i) ch X P N o (fun v w => F (insS S i) σ' (Go.Eng.valOf o v) w ∧ Rs i w' w) σ' w') ∨ (Unmet ds o σ' ∧ F (insS S i) σ' undef w' ∧ Rs i w' w')
/-- A fact lasts while other operations are done. -/
def StabG (Ms : Nat → Nat → Prop) (Rs : Nat → World → World → Prop) (cl : List (List Nat)) (i : Nat) (ws : List Nat) (F : FctS) : Prop := ∀ p, p ≠ i → ws.contains p = false → ∀ S σ v w w', S i = true → S p = false → (∀ j, (cl.getD p []).contains j = true → S j = true) → Chg (Ms p) w w' → Rs p w w' → F S σ v w → F (insS S p) σ v w'
inductive DagStepsG (P : Program) (N : Nat) (ds : List Nat) (Fs : List FctS) (σ : Env) (w : World) (Ms : Nat → Nat → Prop) (Rs : Nat → World → World → Prop) (ch : List PanicEntry) (X : World → Prop) (cl : List (List Nat)) : Nat → List Oper → List (List Nat) → List Bool → List FctS → Prop where
  | nil {i : Nat} : DagStepsG P N ds Fs σ w Ms Rs ch X cl i [] [] [] []
  | cons {i : Nat} {o : Oper} {ws : List Nat} {F : FctS} {l : List Oper} {wss : List (List Nat)} {hs : List Bool} {Gs : List FctS} (s : StabG Ms Rs cl i ws F) (lc : LocS ds ws F) (h : DagStepG P N ds Fs σ w Ms Rs ch X cl i o ws F) (t : DagStepsG P N ds Fs σ w Ms Rs ch X cl (i + 1) l wss hs Gs) : DagStepsG P N ds Fs σ w Ms Rs ch X cl i (o :: l) (ws :: wss) (true :: hs) (F :: Gs)
  | tail {i : Nat} {o : Oper} {ws : List Nat} {F : FctS} {l : List Oper} {wss : List (List Nat)} {hs : List Bool} {Gs : List FctS} (t : DagStepsG P N ds Fs σ w Ms Rs ch X cl (i + 1) l wss hs Gs) : DagStepsG P N ds Fs σ w Ms Rs ch X cl i (o :: l) (ws :: wss) (false :: hs) (F :: Gs)
theorem DagStepsG.get {P : Program} {N : Nat} {ds : List Nat} {Fs : List FctS} {σ : Env} {w : World} {Ms : Nat → Nat → Prop} {Rs : Nat → World → World → Prop} {ch : List PanicEntry} {X : World → Prop} {cl : List (List Nat)} : ∀ {i : Nat} {l : List Oper} {wss : List (List Nat)} {hs : List Bool} {Gs : List FctS}, DagStepsG P N ds Fs σ w Ms Rs ch X cl i l wss hs Gs → ∀ {j : Nat} {o : Oper}, l[j]? = some o → hs[j]? = some true → ∃ ws F, wss[j]? = some ws ∧ Gs[j]? = some F ∧ StabG Ms Rs cl (i + j) ws F ∧ LocS ds ws F ∧ DagStepG P N ds Fs σ w Ms Rs ch X cl (i + j) o ws F
  | _, _, _, _, _, .nil, j, o, h, _ => by simp at h
  | i, _, _, _, _, .cons s lc h t, 0, o, ho, _ => by
    simp at ho; subst ho
    exact ⟨_, _, rfl, rfl, s, lc, h⟩
  | _, _, _, _, _, .tail t, 0, o, h, ht => by simp at ht
  | i, _, _, _, _, .cons s lc h t, j + 1, o, ho, ht => by
    obtain ⟨ws, F, h1, h2, h3, h5, h4⟩ := t.get (j := j) (by simpa using ho) (by simpa using ht)
    exact ⟨ws, F, by simpa using h1, by simpa using h2, by rw [show i + (j + 1) = i + 1 + j from by omega]; exact h3, h5, by rw [show i + (j + 1) = i + 1 + j from by omega]; exact h4⟩
  | i, _, _, _, _, .tail t, j + 1, o, ho, ht => by
    obtain ⟨ws, F, h1, h2, h3, h5, h4⟩ := t.get (j := j) (by simpa using ho) (by simpa using ht)
    exact ⟨ws, F, by simpa using h1, by simpa using h2, by rw [show i + (j + 1) = i + 1 + j from by omega]; exact h3, h5, by rw [show i + (j + 1) = i + 1 + j from by omega]; exact h4⟩
/-- An operation waits for another, be it by way of others. -/
def reachB (l : List Oper) : Nat → Nat → Nat → Bool
  | 0, i, u => edgeB l i u
  | k + 1, i, u => edgeB l i u || (List.range l.length).any fun v => edgeB l i v && reachB l k v u
def tailQB (l : List Oper) (hd : List Bool) (ts : List Nat) : Bool :=
 (List.range l.length).all fun i => hd.getD i false || (ts.contains i && ((List.range l.length).all (fun u => !hd.getD u false || reachB l 4 i u) || ts.any fun p => !hd.getD p true && edgeB l i p))
theorem reach_listed {l : List Oper} {listed : Array Bool} (hcd : ∀ (j : Nat) oj, l[j]? = some oj → listed.getD j false = true → ∀ e ∈ oj.after, Region.binds .any e = true → listed.getD e.on false = true) :
    ∀ (k j u : Nat), listed.getD j false = true → reachB l k j u = true → listed.getD u false = true := by
  have edge : ∀ j u, listed.getD j false = true → edgeB l j u = true → listed.getD u false = true := fun j u hj hu => by
    unfold edgeB at hu
    cases ho : l[j]? with
    | none => rw [ho] at hu; cases hu
    | some o =>
      rw [ho] at hu
      simp only [Array.any_eq_true', Bool.and_eq_true] at hu
      obtain ⟨e, he, hb1, hb2⟩ := hu
      have := Nat.eq_of_beq_eq_true hb2
      rw [← this]
      exact hcd j o ho hj e he hb1
  intro k
  induction k with
  | zero => intro j u hj h; exact edge j u hj h
  | succ k ih =>
    intro j u hj h
    simp only [reachB, Bool.or_eq_true] at h
    rcases h with h | h
    · exact edge j u hj h
    · obtain ⟨v, _, h2⟩ := List.any_eq_true.1 h
      rw [Bool.and_eq_true] at h2
      exact ih v u (edge j v hj h2.1) h2.2
theorem Wp_dagG {P : Program} {N : Nat} {Q : Post} {σ : Env} {w : World} {id : Nat} {l : List Oper} (Ms : Nat → Nat → Prop) (Rs : Nat → World → World → Prop) (ch : List PanicEntry) (X : World → Prop) (hd : List Bool) (ts : List Nat) (ds : List Nat) (wss cl : List (List Nat)) (Fs : List FctS) {Gs : List FctS} (hG : Fs = Gs) (hC : closB wss cl = true) (hm : P.follows .mixedOrders = true) (hB : dagSB N hd 0 l ds wss hd = true) (hn : nodupB ds = true)
    (hT : (tailQB l hd ts && permB l.toArray ts hd.toArray) = true) (hN : Nat.beq (leftH hd (List.replicate l.length false) + ts.length) l.length = true)
    (steps : ∀ w1, Ext w w1 → DagStepsG P N ds Fs σ w1 Ms Rs ch X cl 0 l cl hd Gs)
    (hX : ∀ σ' w1 w', Ext w w1 → Chg (fun y => ∃ j, Ms j y) w1 w' → X w' → Q (.panic ch) σ' w')
    (k : ∀ σ' w1 w', Ext w w1 → Chg (fun y => ∃ j, hd.getD j false = true ∧ Ms j y) w1 w' → (∀ t, ds.contains t = false → σ' t = σ t) → (∀ j, hd[j]? = some true → HoldsS ds Fs (allS hd) j σ' w') → WpL P N l.toArray (Q .normal) Q (ts.filterMap fun k => l[k]?) σ' w') : Wp P N (.region id l.toArray true) Q σ w := by
  intro dz a ha he
  have eQ : lift dz N (thn (Q .normal) Q) = lift dz N Q := by funext e a w; cases e <;> rfl
  refine wp_region_any hm ?_
  obtain ⟨w1, hw1⟩ : ∃ w1 : World, w1 = { w with drawn := w.drawn + 1 } := ⟨_, rfl⟩
  have hE1 : Ext w w1 := by rw [hw1]; exact drew_ext w
  rw [← hw1]
  have hst := steps w1 hE1
  rw [← hG] at hst
  rw [Bool.and_eq_true] at hT
  obtain ⟨hT1, hT2⟩ := hT
  obtain ⟨hlen, hlen2, hlen3⟩ := dagSB_len hB
  let Lf : Array Bool → Nat → Bool := fun listed j => listed.getD j false
  have key : ∀ (m : Nat) (listed : Array Bool) (a : Act) (w' : World), leftH hd listed.toList = m → listed.size = l.length → (∀ (t : Nat), hd[t]? = some false → listed.toList[t]? = some false) → (∀ (j : Nat) oj, l[j]? = some oj → listed.getD j false = true → ∀ e ∈ oj.after, Region.binds .any e = true → listed.getD e.on false = true) → Ok dz N a → Chg (fun y => ∃ j, listed.getD j false = true ∧ Ms j y) w1 w' → (∀ t, ds.contains t = false → env a t = σ t) → (∀ j d, ds[j]? = some d → listed.getD j false = false → env a d = σ d) → (∀ j, hd[j]? = some true → listed.getD j false = true → HoldsS ds Fs (Lf listed) j (env a) w') →
      wpAny P .any l.toArray (lift dz N Q) (m + ts.length) listed a w' := by
    intro m
    induction m with
    | zero =>
      intro listed a w' hc0 hsz htl hcd ha hx hu hv0 hh
      have hl : listed = hd.toArray := by
        apply Array.ext'
        exact leftH_zero (by simp; omega) hc0 htl
      have hLf : Lf listed = allS hd := by
        funext j
        show listed.getD j false = hd.getD j false
        rw [hl]; simp [List.getD_eq_getElem?_getD]
      rw [Nat.zero_add]
      have h1 := k (env a) w1 w' hE1 (hx.mono fun y _ h => by
        obtain ⟨j, h1, h2⟩ := h
        have : allS hd j = true := by rw [← hLf]; exact h1
        exact ⟨j, this, h2⟩) hu (fun j hj => by rw [← hLf]; exact hh j hj (getD_arr (by rw [hl]; exact hj))) dz a ha rfl
      rw [eQ] at h1
      exact wpAny_of_perm ts listed a w' (by rw [hl]; exact hT2) (by simpa using h1)
    | succ m ih =>
      intro listed a w' hcm hsz htl hcd ha hx hu hv0 hh
      obtain ⟨i0, hi0, hi1⟩ := leftH_pos (hd := hd) (listed := listed.toList) (by omega)
      rw [show m + 1 + ts.length = (m + ts.length) + 1 by omega]
      refine ⟨fun hr => ?_, fun i hi => ?_⟩
      · exfalso
        have hall : ∀ i : Nat, hd[i]? = some true → listed.getD i true = true := by
          intro i
          induction i using Nat.strongRecOn with
          | _ i ihi =>
            intro hi
            cases hv : listed.getD i true with
            | true => rfl
            | false =>
              exfalso
              obtain ⟨o, ho⟩ := get_of_lt (l := l) (i := i) (by have := lt_of_get hi; omega)
              obtain ⟨d, ws, h, _, _, h2, h3⟩ := dagSB_get hB ho
              rw [hi] at h2
              cases h2
              simp only [cond_true, dagOneS, Bool.and_eq_true, Nat.zero_add] at h3
              have : i ∈ Region.ready .any l.toArray listed := by
                refine mem_ready.2 ⟨hv, o, by simpa using ho, fun e he hb => ?_⟩
                have h4 := h3.1.1.2
                simp only [Array.all_eq_true_iff_forall_mem, Bool.or_eq_true, Bool.not_eq_true', Bool.and_eq_true] at h4
                have h6 := (h4 e he).resolve_left (by simp [hb])
                have hlt : e.on < i := by simpa [Nat.blt_eq] using h6.1
                have h7 := h6.2
                have hj0 : e.on < hd.length := by have := lt_of_get hi; omega
                have h8 : hd[e.on]? = some true := by
                  rw [List.getD_eq_getElem?_getD, List.getElem?_eq_getElem hj0, Option.getD_some] at h7
                  rw [List.getElem?_eq_getElem hj0, h7]
                have h9 := ihi e.on hlt h8
                have hj : e.on < listed.size := by omega
                simpa only [Array.getD_eq_getD_getElem?, Array.getElem?_eq_getElem hj, Option.getD_some] using h9
              rw [hr] at this
              cases this
        have := hall i0 hi0
        rw [getD_arr hi1] at this
        cases this
      · obtain ⟨h1, o, h2, h3⟩ := mem_ready.1 hi
        have ho : l[i]? = some o := by simpa using h2
        have hil : i < l.length := lt_of_get ho
        have hih : hd[i]? = some true := by
          obtain ⟨b, hb⟩ := get_of_lt (l := hd) (i := i) (by omega)
          cases b with
          | true => exact hb
          | false =>
            exfalso
            have h4 := List.all_eq_true.1 hT1 i (List.mem_range.2 hil)
            rw [List.getD_eq_getElem?_getD, hb, Option.getD_some, Bool.false_or, Bool.and_eq_true, Bool.or_eq_true] at h4
            have edge : ∀ u, edgeB l i u = true → listed.getD u false = true := fun u hu' => by
              unfold edgeB at hu'
              rw [ho] at hu'
              simp only [Array.any_eq_true', Bool.and_eq_true] at hu'
              obtain ⟨e, he, hb1, hb2⟩ := hu'
              have := Nat.eq_of_beq_eq_true hb2
              rw [← this]
              exact h3 e he hb1
            rcases h4.2 with h5 | h5
            · have h6 := List.all_eq_true.1 h5 i0 (List.mem_range.2 (by have := lt_of_get hi0; omega))
              rw [List.getD_eq_getElem?_getD, hi0, Option.getD_some, Bool.not_true, Bool.false_or] at h6
              have : listed.getD i0 false = true := by
                simp only [reachB, Bool.or_eq_true] at h6
                rcases h6 with h6 | h6
                · exact edge i0 h6
                · obtain ⟨v, _, h7⟩ := List.any_eq_true.1 h6
                  rw [Bool.and_eq_true] at h7
                  refine reach_listed hcd 3 v i0 (edge v h7.1) ?_
                  simp only [reachB]
                  exact h7.2
              rw [getD_arr hi1] at this
              cases this
            · obtain ⟨p, _, h6⟩ := List.any_eq_true.1 h5
              rw [Bool.and_eq_true, Bool.not_eq_true'] at h6
              have h7 := edge p h6.2
              have hp : hd[p]? = some false := by
                have h8 := h6.1
                rw [List.getD_eq_getElem?_getD] at h8
                cases h9 : hd[p]? with
                | none => rw [h9] at h8; cases h8
                | some b => rw [h9, Option.getD_some] at h8; rw [h8]
              rw [getD_arr (htl p hp)] at h7
              cases h7
        obtain ⟨d, ws, h, hd', hws, hhs, h4⟩ := dagSB_get hB ho
        rw [hih] at hhs
        cases hhs
        obtain ⟨ci, F, hci, hF, hstab, hloc, hstep⟩ := hst.get ho hih
        rw [Nat.zero_add] at hstab hstep
        simp only [cond_true, dagOneS, Bool.and_eq_true, List.all_eq_true, Array.any_eq_true', Nat.zero_add] at h4
        obtain ⟨⟨⟨hdst, _⟩, hwait⟩, hgB⟩ := h4
        have hlisted : ∀ j, listed.getD j false = true → hd[j]? = some true := fun j hj => by
          obtain ⟨b, hb⟩ := get_of_lt (l := hd) (i := j) (by
            rcases Nat.lt_or_ge j listed.size with h9 | h9
            · omega
            · simp [Array.getD_eq_getD_getElem?, Array.getElem?_eq_none h9] at hj)
          cases b with
          | true => exact hb
          | false => rw [getD_arr (htl j hb)] at hj; cases hj
        have hcl : ∀ j, listed.getD j false = true → ∀ c, (cl.getD j []).contains c = true → listed.getD c false = true := by
          intro j
          induction j using Nat.strongRecOn with
          | _ j ihj =>
            intro hlj c hc
            have hjh := hlisted j hlj
            obtain ⟨oc, hoc⟩ := get_of_lt (l := l) (i := j) (by have := lt_of_get hjh; omega)
            obtain ⟨dc, wsc, hb, _, hwsc, hhb, h5⟩ := dagSB_get hB hoc
            rw [hjh] at hhb
            cases hhb
            simp only [cond_true, dagOneS, Bool.and_eq_true, List.all_eq_true, Array.any_eq_true', Array.all_eq_true_iff_forall_mem, Bool.or_eq_true, Bool.not_eq_true', Nat.zero_add] at h5
            have hdir : ∀ e' ∈ wsc, listed.getD e' false = true ∧ e' < j := by
              intro e' he'
              obtain ⟨e, he, hb1, hb2⟩ := h5.1.2 e' he'
              have hei : e.on = e' := Nat.eq_of_beq_eq_true hb2
              have h6 := hcd j oc hoc hlj e he hb1
              have h7 := (h5.1.1.2 e he).resolve_left (by simp [hb1])
              rw [hei] at h6 h7
              exact ⟨h6, by simpa [Nat.blt_eq] using h7.1⟩
            rcases closB_get hC hwsc hc with h6 | ⟨e', he', h6⟩
            · exact (hdir c h6).1
            · exact ihj e' (hdir e' he').2 (hdir e' he').1 c h6
        have hclo : ∀ j, ci.contains j = true → listed.getD j false = true := by
          intro j hj
          have hj' : (cl.getD i []).contains j = true := by rw [List.getD_eq_getElem?_getD, hci, Option.getD_some]; exact hj
          have hdir : ∀ e' ∈ ws, listed.getD e' false = true := by
            intro e' he'
            obtain ⟨e, he, hb1, hb2⟩ := hwait e' he'
            have : e.on = e' := Nat.eq_of_beq_eq_true hb2
            exact this ▸ h3 e he hb1
          rcases closB_get hC hws hj' with h6 | ⟨e', he', h6⟩
          · exact hdir j h6
          · exact hcl e' (hdir e' he') j h6
        have hclo0 : ∀ j, (cl.getD i []).contains j = true → Lf listed j = true := fun j hj => hclo j (by rw [List.getD_eq_getElem?_getD, hci, Option.getD_some] at hj; exact hj)
        have hSi : Lf listed i = false := getD_both h1
        have hSn : ∀ j, (cl.getD j []).contains i = true → Lf listed j = false := by
          intro j hj
          cases hlj : Lf listed j with
          | false => rfl
          | true =>
            exfalso
            have := hcl j hlj i hj
            rw [getD_both h1] at this; cases this
        have hH : ∀ j, ci.contains j = true → Lf listed j = true ∧ HoldsS ds Fs (Lf listed) j (env a) w' := fun j hj => ⟨hclo j hj, hh j (hlisted j (hclo j hj)) (hclo j hj)⟩
        have hil2 : i < listed.size := by omega
        have hLs : Lf (listed.setIfInBounds i true) = insS (Lf listed) i := by
          funext j
          by_cases hij : j = i
          · subst hij
            rw [insS_self]
            show (listed.setIfInBounds j true).getD j false = true
            simp [Array.getD_eq_getD_getElem?, hil2]
          · rw [insS_ne hij]
            exact getD_set_ne _ (Ne.symm hij)
        have hstep2 : ∀ w2, Chg (Ms i) w' w2 → Chg (fun y => ∃ j, (listed.setIfInBounds i true).getD j false = true ∧ Ms j y) w1 w2 := by
          intro w2 hx2
          have hg : (listed.setIfInBounds i true).getD i false = true := by simp [Array.getD_eq_getD_getElem?, hil2]
          refine Chg.step (hx.mono fun y _ h => ?_) hx2 (fun y _ h => ⟨i, hg, h⟩)
          obtain ⟨j, h5, h6⟩ := h
          by_cases hij : j = i
          · exact ⟨i, hg, hij ▸ h6⟩
          · exact ⟨j, by rw [getD_set_ne _ (Ne.symm hij)]; exact h5, h6⟩
        have cont : ∀ v w2, Chg (Ms i) w' w2 → F (insS (Lf listed) i) (env a) (Go.Eng.valOf o v) w2 ∧ Rs i w' w2 → wpAny P .any l.toArray (lift dz N Q) (m + ts.length) (listed.setIfInBounds i true) (a.put o.dst v) w2 := by
          rintro v w2 hx2 ⟨hv, hrs⟩
          have henv : (∀ t, t ≠ d → env (a.put o.dst v) t = env a t) ∧ env (a.put o.dst v) d = Go.Eng.valOf o v := by
            cases hod : o.dst with
            | none =>
              rw [hod] at hdst
              have hNd : N ≤ d := Nat.le_of_ble_eq_true hdst
              refine ⟨fun t _ => rfl, ?_⟩
              simp only [Go.Eng.valOf, hod]
              show a.tmps.getD d undef = undef
              have : a.tmps.size ≤ d := by rw [ha.size]; exact hNd
              simp [Array.getElem?_eq_none this]
            | some d' =>
              rw [hod] at hdst
              simp only [Bool.and_eq_true] at hdst
              have hd1 : d' = d := Nat.eq_of_beq_eq_true hdst.1
              have hd2 : d < N := by simpa [Nat.blt_eq] using hdst.2
              subst hd1
              rw [env_put ha hd2 v]
              refine ⟨fun t ht => ?_, ?_⟩
              · have : Nat.beq t d' = false := by cases hb : Nat.beq t d'; rfl; exact absurd (Nat.eq_of_beq_eq_true hb) ht
                simp [upd, this]
              · simp [upd, Go.Eng.valOf, hod]
          have hlf : listed.toList[i]? = some false := by
            simp only [Array.getD_eq_getD_getElem?, Array.getElem?_eq_getElem hil2, Option.getD_some] at h1
            rw [Array.getElem?_toList, Array.getElem?_eq_getElem hil2, h1]
          refine ih _ _ _ ?_ (by simpa using hsz) (fun t ht => ?_) (fun j oj hoj hlj e he hb => ?_) (ha.put _ _) (hstep2 w2 hx2) ?_ ?_ ?_
          · rw [Array.toList_setIfInBounds]
            have := leftH_set hih hlf
            omega
          · rw [Array.toList_setIfInBounds, List.getElem?_set]
            have hne : i ≠ t := fun e => by rw [← e, hih] at ht; cases ht
            rw [if_neg hne]
            exact htl t ht
          · refine getD_set_true ?_
            by_cases hij : j = i
            · subst hij
              rw [ho] at hoj; cases hoj
              exact h3 e he hb
            · rw [getD_set_ne _ (Ne.symm hij)] at hlj
              exact hcd j oj hoj hlj e he hb
          · intro t ht
            rw [henv.1 t (fun h => by
              subst h
              have := List.mem_of_getElem? hd'
              simp [this] at ht), hu t ht]
          · intro j d2 hd2 hj2
            by_cases hij : j = i
            · subst hij
              have hg2 : (listed.setIfInBounds j true).getD j false = true := by simp [Array.getD_eq_getD_getElem?, hil2]
              rw [hg2] at hj2; cases hj2
            · rw [getD_set_ne _ (Ne.symm hij)] at hj2
              rw [henv.1 d2 (fun h => by subst h; exact hij (nodupB_get hn hd2 hd')), hv0 j d2 hd2 hj2]
          · intro j hjh hj d2 F2 hd2 hF2
            rw [hLs]
            by_cases hij : j = i
            · subst hij
              rw [hd'] at hd2; cases hd2
              rw [hF] at hF2; cases hF2
              rw [henv.2]
              refine hloc _ (env a) _ (fun j' d2 hj' hd2 => henv.1 d2 fun he => ?_) _ _ hv
              have := nodupB_get hn (he ▸ hd2) hd'
              subst this
              have := hclo j' hj'
              rw [getD_both h1] at this
              cases this
            · have hne : d2 ≠ d := by
                intro h
                subst h
                exact hij (nodupB_get hn hd2 hd')
              rw [henv.1 d2 hne]
              rw [getD_set_ne _ (Ne.symm hij)] at hj
              have h6 := hh j hjh hj d2 F2 hd2 hF2
              obtain ⟨oj, hoj⟩ := get_of_lt (l := l) (i := j) (by have := lt_of_get hjh; omega)
              obtain ⟨cj, Fj, hcj, hFj, hsj, hlj, _⟩ := hst.get hoj hjh
              rw [hF2] at hFj; cases hFj
              rw [Nat.zero_add] at hsj
              have hgc : cl.getD j [] = cj := by rw [List.getD_eq_getElem?_getD, hcj, Option.getD_some]
              have hcji : cj.contains i = false := by
                cases hcji : cj.contains i with
                | false => rfl
                | true =>
                  exfalso
                  have := hSn j (by rw [hgc]; exact hcji)
                  have hj' : Lf listed j = true := hj
                  rw [hj'] at this; cases this
              refine hlj _ (env a) _ (fun j' d3 hj' hd3 => henv.1 d3 fun he => ?_) _ _ (hsj i (Ne.symm hij) hcji (Lf listed) (env a) _ _ _ hj hSi hclo0 hx2 hrs h6)
              have h8 := nodupB_get hn (he ▸ hd3) hd'
              subst h8
              rw [hcji] at hj'
              cases hj'
        have gd : ∀ j b, o.guard = some (j, b) → ∀ dj, ds[j]? = some dj → ((∃ oj, l[j]? = some oj ∧ oj.dst = some dj) ∧ dj < N) ∨ (N ≤ dj ∧ ∃ oj, l[j]? = some oj ∧ oj.dst = none) := fun j b hgd dj hdj => by
          obtain ⟨oj, hoj⟩ := get_of_lt (l := l) (i := j) (by have := lt_of_get hdj; omega)
          obtain ⟨dj', _, hj, hdj', _, h5, h6⟩ := dagSB_get hB hoj
          rw [hdj] at hdj'
          cases hdj'
          unfold guardB at hgB
          rw [hgd] at hgB
          simp only at hgB
          have h7 : hj = true := by rw [List.getD_eq_getElem?_getD, h5, Option.getD_some] at hgB; exact hgB
          rw [h7] at h6
          simp only [cond_true, Bool.and_eq_true, dagOneS] at h6
          have hdst2 := h6.1.1.1
          split at hdst2
          · rename_i d2 hq
            rw [Bool.and_eq_true] at hdst2
            exact .inl ⟨⟨oj, hoj, by rw [hq, Nat.eq_of_beq_eq_true hdst2.1]⟩, by simpa [Nat.blt_eq] using hdst2.2⟩
          · rename_i hq
            exact .inr ⟨Nat.le_of_ble_eq_true hdst2, oj, hoj, hq⟩
        rcases hstep (Lf listed) (env a) w' hSi hSn hx hu hv0 hH with ⟨hg, hdo⟩ | ⟨⟨j, b, dj, hgd, hdj, hvj⟩, hund, hrs⟩
        · have hw : Region.wanted o (yielded l.toArray a.tmps) = true := by
            cases hgd : o.guard with
            | none => simp [Region.wanted, hgd]
            | some p =>
              obtain ⟨j, b⟩ := p
              obtain ⟨dj, hdj, hvj⟩ := hg j b hgd
              rcases gd j b hgd dj hdj with ⟨hdst2, hdN2⟩ | ⟨hge, _⟩
              · have h6 : a.tmps[dj]? = some (Value.bool b) := by
                  have h2 : a.tmps.getD dj undef = .bool b := hvj
                  have hlt : dj < a.tmps.size := by rw [ha.size]; exact hdN2
                  rw [Array.getElem?_eq_getElem hlt]
                  simpa [hlt] using h2
                obtain ⟨oj, hoj, hdst2⟩ := hdst2
                simp [Region.wanted, hgd, yielded, hoj, hdst2, h6]
              · exfalso
                have h2 : a.tmps.getD dj undef = .bool b := hvj
                have : a.tmps.size ≤ dj := by rw [ha.size]; exact hge
                simp [Array.getElem?_eq_none this, undef] at h2
          unfold wpOp
          simp only [h2, hw, if_true]
          exact Or.inl (hdo _ a ha rfl _ _ cont (fun w2 hx2 hX2 => ⟨ha, hX (env a) w1 w2 hE1 ((hstep2 w2 hx2).mono fun y _ h => h.imp fun j h => h.2) hX2⟩))
        · have hw : Region.wanted o (yielded l.toArray a.tmps) = false := by
            rcases gd j b hgd dj hdj with ⟨hdst2, hdN2⟩ | ⟨_, oj, hoj, hq⟩
            · have hlt : dj < a.tmps.size := by rw [ha.size]; exact hdN2
              have h6 : a.tmps[dj]? = some (env a dj) := by
                rw [Array.getElem?_eq_getElem hlt]
                simp [env, hlt]
              obtain ⟨oj, hoj, hdst2⟩ := hdst2
              rcases hvj with hvj | hvj
              · rw [hvj] at h6
                cases b <;> simp [Region.wanted, hgd, yielded, hoj, hdst2, h6]
              · rw [hvj] at h6
                simp [Region.wanted, hgd, yielded, hoj, hdst2, h6, undef]
            · simp [Region.wanted, hgd, yielded, hoj, hq]
          unfold wpOp
          simp only [h2, hw, Bool.false_eq_true, if_false]
          exact cont undef w' (Chg.refl _ _) (by
            have : Go.Eng.valOf o undef = undef := by unfold Go.Eng.valOf; split <;> rfl
            rw [this]; exact ⟨hund, hrs⟩)
  have h1 := key (leftH hd (Array.replicate l.toArray.size false).toList) (Array.replicate l.toArray.size false) a w1 rfl (by simp) (fun t ht => by have h9 := lt_of_get ht; rw [Array.toList_replicate, List.getElem?_replicate, if_pos (by rw [List.size_toArray]; omega)]) (fun j oj _ hl => (by rw [getD_replicate_false] at hl; cases hl)) ha (Chg.refl _ _) (fun t _ => by rw [he]) (fun j d _ _ => by rw [he]) (fun j _ hj => by rw [getD_replicate_false] at hj; cases hj)
  have e3 : leftH hd (Array.replicate l.toArray.size false).toList + ts.length = l.toArray.size := by have h9 := Nat.eq_of_beq_eq_true hN; simpa using h9
  rw [e3] at h1
  exact h1
theorem DagStepS.toG {P : Program} {N : Nat} {ds : List Nat} {Fs : List FctS} {σ : Env} {w : World} {Ms : Nat → Nat → Prop} {cl : List (List Nat)} {i : Nat} {o : Oper} {ws : List Nat} {F : FctS} (h : DagStepS P N ds Fs σ w Ms cl i o ws F) : DagStepG P N ds Fs σ w Ms (fun _ _ _ => True) [] (fun _ => False) cl i o ws F := fun S σ' w' a b c d e f =>
 (h S σ' w' a b c d e f).imp (fun ⟨g, h⟩ => ⟨g, (DoesT.x h).weak fun _ _ _ r => ⟨r, trivial⟩⟩) fun ⟨u, f⟩ => ⟨u, f, trivial⟩
theorem DagStepsS.toG {P : Program} {N : Nat} {ds : List Nat} {Fs : List FctS} {σ : Env} {w : World} {Ms : Nat → Nat → Prop} {cl : List (List Nat)} : ∀ {i : Nat} {l : List Oper} {wss : List (List Nat)} {hs : List Bool} {Gs : List FctS}, DagStepsS P N ds Fs σ w Ms cl i l wss hs Gs → DagStepsG P N ds Fs σ w Ms (fun _ _ _ => True) [] (fun _ => False) cl i l wss hs Gs
  | _, _, _, _, _, .nil => .nil
  | _, _, _, _, _, .cons s lc h t => .cons (fun p hp hw S σ v w w' hi hS _ hC _ hF => s p hp hw S σ v w w' hi hS hC hF) lc h.toG t.toG
  | _, _, _, _, _, .tail t => .tail t.toG
theorem Wp_dagS {P : Program} {N : Nat} {Q : Post} {σ : Env} {w : World} {id : Nat} {l : List Oper} (Ms : Nat → Nat → Prop) (hd : List Bool) (ts : List Nat) (ds : List Nat) (wss cl : List (List Nat)) (Fs : List FctS) {Gs : List FctS} (hG : Fs = Gs) (hC : closB wss cl = true) (hm : P.follows .mixedOrders = true) (hB : dagSB N hd 0 l ds wss hd = true) (hn : nodupB ds = true)
  (hT : (tailQB l hd ts && permB l.toArray ts hd.toArray) = true) (hN : Nat.beq (leftH hd (List.replicate l.length false) + ts.length) l.length = true)
  (steps : ∀ w1, Ext w w1 → DagStepsS P N ds Fs σ w1 Ms cl 0 l cl hd Gs)
  (k : ∀ σ' w1 w', Ext w w1 → Chg (fun y => ∃ j, hd.getD j false = true ∧ Ms j y) w1 w' → (∀ t, ds.contains t = false → σ' t = σ t) → (∀ j, hd[j]? = some true → HoldsS ds Fs (allS hd) j σ' w') → WpL P N l.toArray (Q .normal) Q (ts.filterMap fun k => l[k]?) σ' w') : Wp P N (.region id l.toArray true) Q σ w :=
 Wp_dagG Ms (fun _ _ _ => True) [] (fun _ => False) hd ts ds wss cl Fs hG hC hm hB hn hT hN (fun w1 e => (steps w1 e).toG) (fun _ _ _ _ _ h => h.elim) k
section
variable {Ms : Nat → Nat → Prop} {i : Nat} {ws ds : List Nat}
theorem StabS.eq {u : Value} : StabS Ms i ws (fun _ _ v _ => v = u) := fun _ _ _ _ _ _ _ _ _ _ _ h => h
theorem LocS.const {G : (Nat → Bool) → Fct} : LocS ds ws (fun S _ => G S) := fun _ _ _ _ _ _ h => h
end
theorem qZ {P : Program} {N : Nat} {ds : List Nat} {Fs : List FctS} {σ : Env} {w : World} {Ms : Nat → Nat → Prop} {cl : List (List Nat)} {i : Nat} {dst : Option Tmp} {op : Op} {ty : TypeId} {pos : String} {af : Array Edge} {ws : List Nat} {u : Value} {l : List Oper} {wss : List (List Nat)} {hs : List Bool} {Gs : List FctS}
  (h : ∀ (S : Nat → Bool) σ' w', S i = false → (∀ j, (cl.getD j []).contains i = true → S j = false) → Chg (fun y => ∃ j, S j = true ∧ Ms j y) w w' → (∀ t, ds.contains t = false → σ' t = σ t) → (∀ j d, ds[j]? = some d → S j = false → σ' d = σ d) → (∀ j, ws.contains j = true → S j = true ∧ HoldsS ds Fs S j σ' w') → DoesT (Ms i) P N ⟨dst, op, ty, pos, af, none⟩ (fun v _ => Go.Eng.valOf ⟨dst, op, ty, pos, af, none⟩ v = u) σ' w')
  (t : DagStepsS P N ds Fs σ w Ms cl (i + 1) l wss hs Gs) : DagStepsS P N ds Fs σ w Ms cl i (⟨dst, op, ty, pos, af, none⟩ :: l) (ws :: wss) (true :: hs) ((fun _ _ v _ => v = u) :: Gs) :=
 .cons StabS.eq LocS.const (fun S s' w' a b c d e f => .inl ⟨Guarded_none rfl, h S s' w' a b c d e f⟩) t
section
variable {M : Nat → Prop} {P : Program} {N : Nat} {o : Oper} {R : Fct} {σ : Env} {w : World} {dst : Option Tmp} {ty : TypeId} {pos : String} {af : Array Edge} {g : Option (Nat × Bool)} {t : TypeId}
theorem DoesT_pure {v : Value} (hr : (execOp (ev σ) o).run P w = .ok (.value v) w) (h : R v w) : DoesT M P N o R σ w := DoesT_val hr (Chg.refl _ _) h
theorem DoesT_callE {f : FuncId} {args : Array Value} (hr : (execOp (ev σ) o).run P w = .ok (.enter f args) w) (hc : Ret P f args w fun v w' => R v w' ∧ Ext w w') : DoesT M P N o R σ w :=
 DoesT_enter hr (hc.mono fun _ _ h => ⟨h.1, Ext.chg h.2⟩)
end
end Go.Eng
namespace Go.Eng
open Go
set_option linter.unusedSectionVars false
variable [Drw]
abbrev fctF (F : Fact) : FctS := fun _ _ v w => F.In v w
theorem closB_self (wss : List (List Nat)) : closB wss wss = true := List.all_eq_true.2 fun i _ => List.all_eq_true.2 fun c hc => by rw [Bool.or_eq_true]; exact .inl (List.contains_iff_mem.2 hc)
theorem dagPB_S {N : Nat} {hd : List Bool} : ∀ {i : Nat} {l : List Oper} {ds : List Nat} {wss : List (List Nat)} {hs : List Bool}, dagPB N hd i l ds wss hs = true → dagSB N hd i l ds wss hs = true
  | _, [], [], [], [], _ => rfl
  | _, [], [], [], _ :: _, h => by simp [dagPB] at h
  | _, [], [], _ :: _, _, h => by simp [dagPB] at h
  | _, [], _ :: _, _, _, h => by simp [dagPB] at h
  | _, _ :: _, [], _, _, h => by simp [dagPB] at h
  | _, _ :: _, _ :: _, [], _, h => by simp [dagPB] at h
  | _, _ :: _, _ :: _, _ :: _, [], h => by simp [dagPB] at h
  | i, o :: l, d :: ds, ws :: wss, b :: hs, h => by
    simp only [dagPB, Bool.and_eq_true] at h
    simp only [dagSB, Bool.and_eq_true]
    refine ⟨?_, dagPB_S h.2⟩
    cases b with
    | false => exact h.1
    | true =>
      have h1 := h.1
      simp only [cond_true, dagOne, dagOneS, Bool.and_eq_true] at h1 ⊢
      obtain ⟨⟨⟨⟨a1, a2⟩, a3⟩, a4⟩, a5, a6⟩ := h1
      refine ⟨⟨⟨?_, ?_⟩, a4⟩, a6⟩
      · cases hd9 : o.dst with
        | none => rw [hd9] at a1; cases a1
        | some d' => rw [hd9] at a1; simp only at a1 ⊢; rw [Nat.eq_of_beq_eq_true a1] at *; simp [a2]
      · rw [Array.all_eq_true_iff_forall_mem] at a3 a5 ⊢
        intro e he
        have h3 := a3 e he
        have h5 := a5 e he
        cases hb : Region.binds .any e with
        | false => rfl
        | true => rw [hb] at h3 h5; simp only [Bool.not_true, Bool.false_or] at h3 h5 ⊢; rw [h3, h5]; rfl
theorem DagStep.toG {P : Program} {N : Nat} {ds : List Nat} {Fs : List Fact} {σ : Env} {w : World} {cl : List (List Nat)} {i : Nat} {o : Oper} {ws : List Nat} {F : Fact} (h : DagStep P N ds Fs σ w o ws F) (hd : ∃ d, o.dst = some d) : DagStepG P N ds (Fs.map fctF) σ w (fun _ => none1) (fun _ _ _ => True) [] (fun _ => False) cl i o ws (fctF F) := fun S σ' w' _ _ hx hu _ hw => by
 rcases h σ' w' (hx.mono fun _ _ ⟨_, _, f⟩ => f) hu (fun j hj d F hd hF => (hw j hj).2 d (fctF F) hd (by simp [hF])) with ⟨g, dd⟩ | ⟨u, f⟩
 ·refine .inl ⟨g, fun dz a ha he Q K hK _ => dd dz a ha he Q K fun v w'' e r => hK v w'' e ⟨?_, trivial⟩⟩
  obtain ⟨d, hd⟩ := hd
  have : Go.Eng.valOf o v = v := by unfold Go.Eng.valOf; rw [hd]
  rw [this]; exact r
 ·exact .inr ⟨u, f, trivial⟩
theorem DagStepsP.toG {P : Program} {N : Nat} {ds : List Nat} {Fs : List Fact} {σ : Env} {w : World} {cl : List (List Nat)} {hd : List Bool} : ∀ {i : Nat} {l : List Oper} {ds2 : List Nat} {wss : List (List Nat)} {hs : List Bool} {Gs : List Fact}, DagStepsP P N ds Fs σ w l wss hs Gs → dagPB N hd i l ds2 wss hs = true → DagStepsG P N ds (Fs.map fctF) σ w (fun _ => none1) (fun _ _ _ => True) [] (fun _ => False) cl i l wss hs (Gs.map fctF)
  | _, _, _, _, _, _, .nil, _ => .nil
  | _, _, [], _, _, _, .cons _ _, h => by simp [dagPB] at h
  | _, _, [], _, _, _, .tail _, h => by simp [dagPB] at h
  | _, _, _ :: _, _, _, _, .cons (o := o) (F := F) s t, h => by
    simp only [dagPB, Bool.and_eq_true, cond_true, dagOne] at h
    refine .cons (fun p _ _ S σ v w w' _ _ _ c _ r => Fact.ext r c) LocS.const (s.toG ?_) (t.toG h.2)
    cases hd9 : o.dst with
    | none => rw [hd9] at h; simp at h
    | some d => exact ⟨d, rfl⟩
  | _, _, _ :: _, _, _, _, .tail t, h => by
    simp only [dagPB, Bool.and_eq_true] at h
    exact .tail (t.toG h.2)
theorem tailPB_Q {l : List Oper} {hd : List Bool} {ts : List Nat} (h : tailPB l hd ts = true) : tailQB l hd ts = true := by
 unfold tailPB at h
 unfold tailQB
 rw [List.all_eq_true] at h ⊢
 intro i hi
 have h1 := h i hi
 simp only [Bool.or_eq_true, Bool.and_eq_true] at h1 ⊢
 refine h1.imp id fun ⟨a, b⟩ => ⟨a, b.imp (fun c => ?_) id⟩
 rw [List.all_eq_true] at c ⊢
 intro u hu
 have h2 := c u hu
 simp only [Bool.or_eq_true, reachB] at h2 ⊢
 exact h2.imp id .inl
theorem Wp_dagP {P : Program} {N : Nat} {Q : Post} {σ : Env} {w : World} {id : Nat} {l : List Oper} (hd : List Bool) (ts : List Nat) (ds : List Nat) (wss : List (List Nat)) (Fs : List Fact) {Gs : List Fact} (hG : Fs = Gs) (hm : P.follows .mixedOrders = true) (hB : dagPB N hd 0 l ds wss hd = true) (hn : nodupB ds = true)
  (hT : (tailPB l hd ts && permB l.toArray ts hd.toArray) = true) (hN : Nat.beq (leftH hd (List.replicate l.length false) + ts.length) l.length = true)
  (steps : ∀ w1, Ext w w1 → DagStepsP P N ds Fs σ w1 l wss hd Gs)
  (k : ∀ σ' w', Ext w w' → (∀ t, ds.contains t = false → σ' t = σ t) → (∀ j, hd[j]? = some true → Holds ds Fs j σ' w') → WpL P N l.toArray (Q .normal) Q (ts.filterMap fun k => l[k]?) σ' w') : Wp P N (.region id l.toArray true) Q σ w := by
 rw [Bool.and_eq_true] at hT
 exact Wp_dagG (fun _ => none1) (fun _ _ _ => True) [] (fun _ => False) hd ts ds wss wss (Fs.map fctF) (Gs := Gs.map fctF) (by rw [hG]) (closB_self wss) hm (dagPB_S hB) hn (by rw [Bool.and_eq_true]; exact ⟨tailPB_Q hT.1, hT.2⟩) hN (fun w1 e => by have h9 := (steps w1 e).toG hB (cl := wss); rw [← hG] at h9 ⊢; exact h9) (fun _ _ _ _ _ h => h.elim)
  fun σ' w1 w' e c hu hh => k σ' w' (e.trans (c.mono fun _ _ ⟨_, _, f⟩ => f)) hu fun j hj d F hd hF => hh j hj d (fctF F) hd (by simp [hF])
end Go.Eng
namespace Go.Proofs
open Go Go.Eng
set_option linter.unusedSectionVars false
variable [Drw]
def Wf (n : Nat) (R : Rl) : Prop := ∀ i j, R i j = true → i ≤ j ∧ j ≤ n
theorem wf_no (n : Nat) : Wf n noR := fun i j h => by simp [noR] at h
theorem wf_id (n : Nat) : Wf n (idR n) := fun i j h => by simp [idR] at h; omega
theorem wf_or {n : Nat} {A B : Rl} (a : Wf n A) (b : Wf n B) : Wf n (orR A B) := fun i j h => by
 simp only [orR, Bool.or_eq_true] at h; rcases h with h | h; exact a i j h; exact b i j h
theorem wf_and {n : Nat} {A B : Rl} (a : Wf n A) : Wf n (andR A B) := fun i j h => by
 simp only [andR, Bool.and_eq_true] at h; exact a i j h.1
theorem wf_then {n : Nat} {A B : Rl} (a : Wf n A) (b : Wf n B) : Wf n (thenR A B n) := fun i k h => by
 simp only [thenR, Bool.and_eq_true, List.any_eq_true] at h
 obtain ⟨_, j, _, h1, h2⟩ := h
 have := a i j h1; have := b j k h2; omega
theorem wf_star {n : Nat} {A : Rl} (a : Wf n A) : ∀ m, Wf n (starN n A m)
  | 0 => wf_id n
  | m + 1 => wf_or (wf_star a m) (wf_then (wf_star a m) a)
theorem wf_pow {n : Nat} {A : Rl} (a : Wf n A) : ∀ m, Wf n (powR n A m)
  | 0 => wf_id n
  | m + 1 => wf_then (wf_pow a m) a
theorem wf_rep {n : Nat} {A : Rl} (a : Wf n A) (mn : Int) : ∀ m, Wf n (repR n A mn m)
  | 0 => wf_no n
  | m + 1 => by
    simp only [repR]
    split
    · exact wf_or (wf_rep a mn m) (wf_pow a m)
    · exact wf_rep a mn m
theorem wf_not (n : Nat) (A : Rl) : Wf n (notR n A) := fun i j h => by simp [notR] at h; omega
theorem wf_look (n : Nat) (A : Rl) (ng : Bool) : Wf n (lookR n A ng) := fun i j h => by simp [lookR] at h; omega
theorem wf_set (text : List Int) (set : List (Int × Int)) : Wf text.length (setR text set) := fun i j h => by
  simp only [setR, Bool.and_eq_true, decide_eq_true_eq] at h
  obtain ⟨h1, rfl⟩ := h
  cases hx : text[i]? with
  | none => simp [hx] at h1
  | some c => have := lt_of_get hx; omega
theorem wf_head {n : Nat} {L : List Rl} (h : ∀ x ∈ L, Wf n x) : Wf n (L.headD noR) := by
  cases L with
  | nil => exact wf_no n
  | cons x r => exact h x (by simp)
theorem wf_foldThen {n : Nat} : ∀ (L : List Rl) (A : Rl), Wf n A → (∀ x ∈ L, Wf n x) → Wf n (L.foldl (fun a x => thenR a x n) A)
  | [], _, h, _ => h
  | x :: L, A, h, hl => wf_foldThen L _ (wf_then h (hl x (by simp))) fun y hy => hl y (by simp [hy])
theorem wf_foldOr {n : Nat} : ∀ (L : List Rl) (A : Rl), Wf n A → (∀ x ∈ L, Wf n x) → Wf n (L.foldl orR A)
  | [], _, h, _ => h
  | x :: L, A, h, hl => wf_foldOr L _ (wf_or h (hl x (by simp))) fun y hy => hl y (by simp [hy])
theorem wf_foldAnd {n : Nat} : ∀ (L : List Rl) (A : Rl), Wf n A → Wf n (L.foldl andR A)
  | [], _, h => h
  | x :: L, A, h => wf_foldAnd L _ (wf_and h)
theorem wf_relK (text : List Int) (k : Int) (set : List (Int × Int)) (L : List Rl) (mn mx : Int) (ng : Bool) (h : ∀ x ∈ L, Wf text.length x) : Wf text.length (relK text k set L mn mx ng) := by
 unfold relK
 repeat' split
 ·exact wf_id _
 ·exact wf_set _ _
 ·exact wf_foldThen _ _ (wf_id _) h
 ·exact wf_foldOr _ _ (wf_no _) h
 ·exact wf_foldAnd _ _ (wf_head h)
 ·exact wf_not _ _
 ·exact wf_star (wf_head h) _
 ·exact wf_rep (wf_head h) _ _
 ·exact wf_head h
 ·exact wf_look _ _ _
 ·exact wf_no _
mutual
theorem wf_rel (text : List Int) : ∀ (t : Re), Wf text.length (relOf text t)
  | .mk k set args mn mx ng => by simp only [relOf]; exact wf_relK _ _ _ _ _ _ _ (wf_rels text args)
theorem wf_rels (text : List Int) : ∀ (ts : List Re), ∀ x ∈ relsOf text ts, Wf text.length x
  | [], _, h => by simp [relsOf] at h
  | t :: ts, x, h => by
    simp only [relsOf, List.mem_cons] at h
    rcases h with rfl | h
    · exact wf_rel text t
    · exact wf_rels text ts x h
end
theorem rl_ext {A B : Rl} (h : ∀ i j, A i j = true ↔ B i j = true) : A = B := by
 funext i j; exact Bool.eq_iff_iff.2 (h i j)
theorem then_iff {n : Nat} (hn : n ≤ 24) {A B : Rl} (a : Wf n A) (i k : Nat) : thenR A B n i k = true ↔ ∃ j, A i j = true ∧ B j k = true := by
 simp only [thenR, Bool.and_eq_true, List.any_eq_true, List.mem_range, decide_eq_true_eq]
 constructor
 ·rintro ⟨_, j, _, h⟩; exact ⟨j, h⟩
 ·rintro ⟨j, h1, h2⟩; have := a i j h1; exact ⟨by omega, j, by omega, h1, h2⟩
theorem id_iff (n i j : Nat) : idR n i j = true ↔ i ≤ n ∧ j = i := by simp [idR]
theorem id_then {n : Nat} (hn : n ≤ 24) {A : Rl} (a : Wf n A) : thenR (idR n) A n = A := rl_ext fun i k => by
 rw [then_iff hn (wf_id n)]
 constructor
 ·rintro ⟨j, h1, h2⟩; rw [id_iff] at h1; obtain ⟨_, rfl⟩ := h1; exact h2
 ·intro h; have := a i k h; exact ⟨i, (id_iff n i i).2 ⟨by omega, rfl⟩, h⟩
theorem then_assoc {n : Nat} (hn : n ≤ 24) {A B C : Rl} (a : Wf n A) (b : Wf n B) : thenR A (thenR B C n) n = thenR (thenR A B n) C n := rl_ext fun i k => by
 rw [then_iff hn a, then_iff hn (wf_then a b)]
 constructor
 ·rintro ⟨j, h1, h2⟩; rw [then_iff hn b] at h2; obtain ⟨m, h3, h4⟩ := h2; exact ⟨m, (then_iff hn a i m).2 ⟨j, h1, h3⟩, h4⟩
 ·rintro ⟨j, h1, h2⟩; rw [then_iff hn a] at h1; obtain ⟨m, h3, h4⟩ := h1; exact ⟨m, h3, (then_iff hn b m k).2 ⟨j, h4, h2⟩⟩
abbrev catLk (s t : Re) : Re := .mk 3 [] [s, t] 0 0 false
section
variable (text : List Int)
theorem rel_cat (hn : text.length ≤ 24) (s t : Re) : relOf text (catLk s t) = thenR (relOf text s) (relOf text t) text.length := by
 simp only [relOf, relsOf, relK, List.foldl]
 simp [id_then hn (wf_rel text s)]
end
theorem ok_two {k : Int} (h : k = 3 ∨ k = 4 ∨ k = 7) {s t : Re} (a : okRe s) (b : okRe t) : okRe (.mk k [] [s, t] 0 0 false) := by simp only [okRe, okRes]; exact ⟨node_two h s t, a, b, trivial⟩
def Txt (text : List Int) : Prop := text.length ≤ 24 ∧ ∀ x ∈ text, runeB x = true
theorem check_zero {t : Re} {text : List Int} (ht : okRe t) (hs : t.size ≤ 40) (h : Txt text) : checkP t text = 0 := by
 have h1 : fitsE t 40 = 0 := (fitsE_zero (by decide) (by decide)).2 ⟨ht, by omega⟩
 unfold checkP
 rw [if_neg (by simp [h1]), if_neg (by have := h.1; omega), if_neg]
 simp only [List.any_eq_true, Bool.not_eq_true', not_exists, not_and]
 intro x hx
 simp [h.2 x hx]
/-- Two expressions of which the program says that they match the same parts of a text. -/
def Sm (s t : Re) (text : List Int) : Prop := checkP s text = 0 ∧ checkP t text = 0 ∧ pairsL (relOf text s) (text.length + 1) = pairsL (relOf text t) (text.length + 1)
theorem sm_mk {s t : Re} {text : List Int} (h : Txt text) (a : okRe s) (b : okRe t) (ha : s.size ≤ 40) (hb : t.size ≤ 40) (he : relOf text s = relOf text t) : Sm s t text :=
 ⟨check_zero a ha h, check_zero b hb h, by rw [he]⟩
section
variable {text : List Int} (h : Txt text) {a b c : Re} (oa : okRe a) (ob : okRe b) (oc : okRe c)
include h oa
theorem kl1 (ob : okRe b) (oc : okRe c) (hs : a.size + b.size + c.size ≤ 18) : Sm (catLk a (catLk b c)) (catLk (catLk a b) c) text :=
 sm_mk h (ok_two (by simp) oa (ok_two (by simp) ob oc)) (ok_two (by simp) (ok_two (by simp) oa ob) oc) (by simp [Re.size, Re.sizes]; omega) (by simp [Re.size, Re.sizes]; omega)
  (by simp only [rel_cat text h.1]; exact then_assoc h.1 (wf_rel text a) (wf_rel text b))
end
end Go.Proofs
namespace Go.Proofs
open Go Go.Eng
set_option linter.unusedSectionVars false
variable [Drw]
set_option maxRecDepth 100000
theorem r_indexStr {P : Program} {σ : Env} {w : World} {dst : Option Tmp} {ty : TypeId} {pos : String} {af : Array Edge} {g : Option (Nat × Bool)} {t : TypeId} {x y : Operand} {s : ByteArray} {k : IntKind} {i : Nat} {b : UInt8} {c : Int} (hu : P.underlying t = some .string) (hx : ev σ x = .string s) (hy : ev σ y = .int k (i : Int)) (hb : s[i]? = some b) (hc : (b.toNat : Int) = c) :
  (execOp (ev σ) ⟨dst, .index t x y, ty, pos, af, g⟩).run P w = .ok (.value (.int .u8 c)) w := by
 subst hc
 simp [execOp, hx, hy, Instr.index, asIntOf, run_underlying hu, hb]
end Go.Proofs
namespace Go.Eng
open Go
set_option linter.unusedSectionVars false
variable [Drw]
section
variable {P : Program} {σ : Env} {w : World} {dst : Option Tmp} {ty : TypeId} {pos : String} {af : Array Edge} {g : Option (Nat × Bool)} {t : TypeId} {x y : Operand}
theorem r_sliceArrLo {e : TypeId} {n b o lo n' : Nat} {k : IntKind} {l : Int} (hu : P.underlying t = some (.array n e)) (hs : Siz P e 1) (hx : ev σ x = .pointer (some ⟨b, o, none⟩)) (hy : ev σ y = .int k l) (hl : l = (lo : Int)) (h1 : lo < n) (hn : n - lo = n') :
  (execOp (ev σ) ⟨dst, .slice t x (some y) none none, ty, pos, af, g⟩).run P w = .ok (.value (.slice (some ⟨b, o + lo, none⟩) n' n')) w := by
 subst hl; subst hn
 have h2 : (0 : Int) ≤ (lo : Int) ∧ (lo : Int) ≤ (n : Int) := by omega
 have h3 : ¬ n = lo := by omega
 have h4 : lo ≤ n := by omega
 simp [execOp, hx, hy, Instr.sliceAt, run_underlying hu, Instr.sureAddr, Instr.sliceBounds, Instr.sliceBound, asIntOf, hs.run, Addr.add_lit, h3, h4]
theorem nums_bS (l : List UInt8) : strOfNums (l.map fun x => ((x.toNat : Nat) : Int)) = bS l := by
 apply ByteArray.ext
 unfold bS
 apply Array.ext'
 rw [strOfNums_data, List.map_map]
 show _ = l
 have : ((fun n : Int => UInt8.ofNat n.toNat) ∘ fun x : UInt8 => ((x.toNat : Nat) : Int)) = id := by funext x; simp
 rw [this, List.map_id]
theorem r_bytesCells {s e : TypeId} {b o n c : Nat} {l : List UInt8} (hs : P.underlying s = some (.slice e)) (he : P.underlying e = some (.int .u8)) (ht : P.underlying t = some .string) (hx : ev σ x = .slice (some ⟨b, o, none⟩) n c)
  (hc : ∀ i u, l[i]? = some u → w.cell? ⟨b, o + i, none⟩ = some (.int .u8 ((u.toNat : Nat) : Int))) (hl : l.length = n) : (execOp (ev σ) ⟨dst, .convert s t x, ty, pos, af, g⟩).run P w = .ok (.value (.string (bS l))) w := by
 have h := run_convert_bytes_arg (P := P) w s e hs he b o n c (l.map fun x => ((x.toNat : Nat) : Int)) (by simpa using hl) (fun i hi => by
  have h1 : l[i]? = some l[i] := List.getElem?_eq_getElem (by omega)
  rw [hc i _ h1]
  simp [List.getD, h1]) t ht
 rw [nums_bS] at h
 simp only [execOp, hx, Sem.run_bind, h, Result.andThen_ok]
 rfl
end
end Go.Eng
namespace Go.Proofs
open Go Go.Eng Go.Sort Go.Lib
set_option linter.unusedSectionVars false
variable [Drw]
set_option maxRecDepth 100000
/-- The 65 cells of formatBits, the last of them filled. -/
def cH (l : Bys) : Array Value := (List.replicate (65 - l.length) (Value.int .u8 0) ++ l.map fun x => Value.int .u8 ((x.toNat : Nat) : Int)).toArray
theorem cH_size {l : Bys} (h : l.length ≤ 65) : (cH l).size = 65 := by unfold cH; simp; omega
theorem cH_set {l : Bys} {d : UInt8} (h : l.length < 65) : (cH l).setIfInBounds (64 - l.length) (.int .u8 ((d.toNat : Nat) : Int)) = cH (d :: l) := by
 unfold cH
 rw [List.setIfInBounds_toArray]
 congr 1
 have e1 : 65 - l.length = (64 - l.length) + 1 := by omega
 have e2 : 65 - (d :: l).length = 64 - l.length := by simp only [List.length_cons]; omega
 rw [e1, e2, List.replicate_succ', List.append_assoc, List.set_append_right _ _ (by simp), List.length_replicate, Nat.sub_self]
 rfl
theorem cH_get {l : Bys} (h : l.length ≤ 65) {i : Nat} {u : UInt8} (hu : l[i]? = some u) : (cH l)[65 - l.length + i]? = some (.int .u8 ((u.toNat : Nat) : Int)) := by
 unfold cH
 rw [List.getElem?_toArray, List.getElem?_append_right (by simp), List.length_replicate, Nat.add_sub_cancel_left, List.getElem?_map, hu]
 rfl
def digS : ByteArray := ⟨#[48, 49, 50, 51, 52, 53, 54, 55, 56, 57, 97, 98, 99, 100, 101, 102, 103, 104, 105, 106, 107, 108, 109, 110, 111, 112, 113, 114, 115, 116, 117, 118, 119, 120, 121, 122]⟩
theorem hx_dig (m : Nat) (h : m < 16) : digS[m]? = some (hxD m) := by
  match m, h with
  | 0, _ => rfl | 1, _ => rfl | 2, _ => rfl | 3, _ => rfl | 4, _ => rfl | 5, _ => rfl | 6, _ => rfl | 7, _ => rfl
  | 8, _ => rfl | 9, _ => rfl | 10, _ => rfl | 11, _ => rfl | 12, _ => rfl | 13, _ => rfl | 14, _ => rfl | 15, _ => rfl
  | m + 16, h => omega
theorem ofInt64 (m : Nat) (h : m < 18446744073709551616) : (BitVec.ofInt 64 (m : Int)).toNat = m := by
 rw [BitVec.toNat_ofInt]; omega
theorem bits_and64 {P : Program} {w : World} (m n : Nat) (hm : m < 18446744073709551616) (hn : n < 18446744073709551616) : (Op.intBits .and .u64 (m : Int) (n : Int)).run P w = .ok (.int .u64 ((m &&& n : Nat) : Int)) w := by
 have h1 : m &&& n < 18446744073709551616 := Nat.lt_of_le_of_lt Nat.and_le_left hm
 show Result.ok (Value.int .u64 (IntKind.u64.wrap ((BitVec.ofInt 64 (m : Int) &&& BitVec.ofInt 64 (n : Int) : BitVec 64).toNat : Int))) w = _
 rw [BitVec.toNat_and, ofInt64 m hm, ofInt64 n hn, wU64 (by omega)]
theorem hxN_pos (n : Nat) : 1 ≤ (hxN n).length := by rw [hxN]; split <;> simp
theorem hxN_step {m : Nat} (h : 16 ≤ m) (l : Bys) : hxN m ++ l = hxN (m / 16) ++ (hxD (m % 16) :: l) := by rw [hxN, dif_neg (by omega)]; simp
theorem hxN_end {m : Nat} (h : m < 16) (l : Bys) : hxN m ++ l = hxD m :: l := by rw [hxN, dif_pos h]; rfl
theorem and15 {P : Program} {w : World} (m : Nat) (h : m < 18446744073709551616) : (Op.intBits .and .u64 (m : Int) 15).run P w = .ok (.int .u64 ((m % 16 : Nat) : Int)) w := by
 have h2 : m &&& 15 = m % 16 := Nat.and_two_pow_sub_one_eq_mod m 4
 have h3 := bits_and64 (P := P) (w := w) m 15 h (by decide)
 rw [h2] at h3
 exact h3
theorem pow16_c (w0 : World) : Ret Tryz.prog 117 #[.int .i64 16] w0 fun r w => r = .bool true ∧ Ext w0 w := by
 refine Ret_of Tryz.func117 rfl Tryz.ntmps117 (Nat.le_of_ble_eq_true rfl) ?_
 have E : Chg none1 w0 w0 := Chg.refl _ _
 refine Wp_seq_region ?_
 refine qA (.bool false) rfl ?_
 refine WpL_nil (Wp_seq_region ?_)
 refine qM (I6 16) rfl ?_
 refine qM (I6 16) rfl ?_
 refine qV (r_sub (k := .i64) (a := 16) (b := 1) (c := 15) rfl rfl (by decide)) ?_
 refine qV (r_bits (k := .i64) (a := 16) (b := 15) (v := .int .i64 0) rfl rfl (by simp) (rfl)) ?_
 refine qV (r_eql (k := .i64) (a := 0) (b := 0) rfl rfl) ?_
 refine qA (.bool true) rfl ?_
 refine WpL_nil (Wp_ret ?_)
 refine fin_tmp Tryz.results117 (v := (.bool true)) rfl ?_
 exact ⟨rfl, E⟩
theorem tz16_c (w0 : World) (hT : TabAt 6 Lib.deBruijn64tab w0) : Ret Tryz.prog 118 #[.int .u64 16] w0 fun r w => r = .int .i64 4 ∧ Ext w0 w := by
 refine (Any7.bits_TrailingZeros Tryz.tzS 16 (by decide) w0 (fun _ => hT)).mono ?_
 rintro e w' ⟨rfl, rfl⟩
 exact ⟨_, rfl, by rw [show Lib.ctz 64 16 = 4 from by decide]; rfl, Ext.refl _⟩
theorem fbits_c (w0 : World) (n : Nat) (hn : n ≤ 1114111) (hT : TabAt 6 Lib.deBruijn64tab w0) : Ret Tryz.prog 98 #[.slice none 0 0, .int .u64 (n : Int), .int .i64 16, .bool false, .bool false] w0 fun r w => r = .tuple #[.slice none 0 0, .string (bS (hxN n))] ∧ Ext w0 w := by
 have hlen := hxN_len 5 n (by omega)
 refine Ret_of Tryz.func98 rfl Tryz.ntmps98 (Nat.le_of_ble_eq_true rfl) ?_
 have E : Chg none1 w0 w0 := Chg.refl _ _
 refine Wp_seq_region ?_
 refine qA (.slice none 0 0) rfl ?_
 refine qA (.string (ByteArray.mk #[])) rfl ?_
 refine WpL_nil (Wp_seq (Wp_seq_region ?_))
 refine qM (I6 16) rfl ?_
 refine qV (r_lss (k := .i64) (a := 16) (b := 2) rfl rfl) ?_
 refine qM (.bool false) rfl ?_
 refine WpL_guard_yes (oj := _) rfl rfl (by decide) rfl ?_
 refine qM (I6 16) rfl ?_
 refine WpL_guard_yes (oj := _) rfl rfl (by decide) rfl ?_
 refine qV (r_eql (k := .i64) (a := 16) (b := 10) rfl rfl) ?_
 refine qV (r_pick (b := false) (v := (.bool false)) rfl rfl) ?_
 refine qM (.bool false) rfl ?_
 refine WpL_guard_yes (oj := _) rfl rfl (by decide) rfl ?_
 refine qM (I6 16) rfl ?_
 refine WpL_guard_yes (oj := _) rfl rfl (by decide) rfl ?_
 refine qV (r_gtr (k := .i64) (a := 16) (b := 36) rfl rfl) ?_
 refine qV (r_pick (b := false) (v := (.bool false)) rfl rfl) ?_
 refine WpL_nil ?_
 refine Wp_cond_false rfl ?_
 refine Wp_skip (thn_normal (Wp_seq_region ?_))
 refine s_alloc (by decide) zer161 rfl ?_
 intro bd wd Nd
 have Fd := Nd.ge E
 replace E := E.ext Nd.ext
 have Bd := Nd.blk
 refine WpL_nil (Wp_seq_region ?_)
 refine qA (I6 65) rfl ?_
 refine WpL_nil (Wp_seq (Wp_seq_region ?_))
 refine qM (.bool false) rfl ?_
 refine WpL_nil ?_
 refine Wp_cond_false rfl ?_
 refine Wp_skip (thn_normal (Wp_seq (Wp_seq_region ?_)))
 refine qM (I6 16) rfl ?_
 refine WpL_enter rfl rfl (by decide) (r_callF (vs := [(I6 16)]) Tryz.func117 nm117 bd117 rfl) (pow16_c _) ?_
 rintro _ w9 ⟨rfl, X9⟩
 replace Bd := X9.keep Bd
 replace E := E.ext X9
 refine WpL_nil ?_
 refine Wp_cond_true rfl ?_
 refine Wp_seq_region ?_
 refine qM (I6 16) rfl ?_
 refine qV (r_convInt (k := .i64) (k' := .u64) (n := 16) (c := 16) ⟨_, Tryz.underlying3⟩ Tryz.underlying84 rfl (by decide)) ?_
 refine WpL_enter rfl rfl (by decide) (r_callF (vs := [(.int .u64 16)]) Tryz.func118 nm118 bd118 rfl) (tz16_c _ (fun j hj => E.cell (fun f => f) (hT j hj))) ?_
 rintro _ w19 ⟨rfl, X19⟩
 replace Bd := X19.keep Bd
 replace E := E.ext X19
 refine qV (r_convInt (k := .i64) (k' := .u64) (n := 4) (c := 4) ⟨_, Tryz.underlying3⟩ Tryz.underlying84 rfl (by decide)) ?_
 refine qA (.int .u64 4) rfl ?_
 refine WpL_nil (Wp_seq_region ?_)
 refine qM (I6 16) rfl ?_
 refine qV (r_convInt (k := .i64) (k' := .u64) (n := 16) (c := 16) ⟨_, Tryz.underlying3⟩ Tryz.underlying113 rfl (wU64 (by omega))) ?_
 refine qA (.int .u64 16) rfl ?_
 refine WpL_nil (Wp_seq_region ?_)
 refine qM (I6 16) rfl ?_
 refine qV (r_convInt (k := .i64) (k' := .u64) (n := 16) (c := 16) ⟨_, Tryz.underlying3⟩ Tryz.underlying84 rfl (wU64 (by omega))) ?_
 refine qV (r_sub (k := .u64) (a := 16) (b := 1) (c := 15) rfl rfl (by decide)) ?_
 refine qA (.int .u64 15) rfl ?_
 refine WpL_nil (Wp_seq (Wp_block ?_))
 replace Bd : Blk _ bd (cH []) 161 := Bd
 refine Wp_loop (fun nn_ σ W1 => ∃ (m : Nat) (l : Bys) (k : Int), (∃ jj_, σ = upds jj_ [(0, (.slice none 0 0)), (3, (.bool false)), (4, (.bool false)), (10, (.slice none 0 0)), (11, (.string (ByteArray.mk #[]))), (12, (P6 bd 0)), (14, (.int .u64 4)), (15, (.int .u64 16)), (16, (.int .u64 15)), (13, (I6 k)), (1, (.int .u64 (m : Int)))]) ∧ Chg none1 w0 W1 ∧ Blk W1 bd (cH l) 161 ∧ (hxN n = hxN m ++ l) ∧ (m ≤ 1114111) ∧ (k = 65 - (l.length : Int)) ∧ nn_ = m + 1) (n := n + 1) ?_ ?_
 ·exact ⟨n, [], 65, Fits.out ⟨rfl, rfl, rfl, rfl, rfl, rfl, rfl, rfl, rfl, rfl, rfl, trivial⟩, E, Bd, (List.append_nil _).symm, hn, rfl, rfl⟩
 ·clear E Bd
  rintro _ _ W1 ⟨m, l, k, ⟨j1, rfl⟩, E, Bd, hl, hm, hk, rfl⟩
  have hll : (hxN n).length = (hxN m).length + l.length := by rw [hl, List.length_append]
  have hmp := hxN_pos m
  refine Wp_seq (Wp_seq_region ?_)
  refine qM (.int .u64 (m : Int)) rfl ?_
  refine qM (.int .u64 16) rfl ?_
  refine qV (r_geq (k := .u64) (a := (m : Int)) (b := 16) rfl rfl) ?_
  refine WpL_nil ?_
  refine Wp_cond (b := decide ((16 : Int) ≤ (m : Int))) rfl (fun hlt => ?_) (fun hlt => ?_)
  ·have khlt := hlt
   replace hlt := of_decide_eq_true hlt
   refine Wp_skip (thn_normal (Wp_block (Wp_seq_region ?_)))
   refine qM (I6 k) rfl ?_
   refine qV (r_sub (k := .i64) (a := k) (b := 1) (c := k - 1) rfl rfl (wI64 (by omega))) ?_
   refine qA (I6 (k - 1)) rfl ?_
   refine WpL_nil (Wp_seq_region ?_)
   refine qM (I6 (k - 1)) rfl ?_
   refine qM (.int .u64 (m : Int)) rfl ?_
   refine qM (.int .u64 15) rfl ?_
   refine qV (r_bits (k := .u64) (a := (m : Int)) (b := 15) (v := .int .u64 ((m % 16 : Nat) : Int)) rfl rfl (by simp) (and15 m (by omega))) ?_
   refine qV (r_indexStr (i := m % 16) (b := hxD (m % 16)) Tryz.underlying9 rfl rfl (hx_dig _ (Nat.mod_lt _ (by decide))) rfl) ?_
   refine qV (r_indexArr (b := bd) (o := 0) (i := 64 - l.length) (o' := 64 - l.length) rfl rfl (by omega) Tryz.underlying161 siz5 (by omega) (by omega)) ?_
   refine s_store (b := bd) (o := 64 - l.length) (c' := cH (hxD (m % 16) :: l)) (v := (.int .u8 (((hxD (m % 16)).toNat : Nat) : Int))) rfl rfl rfl siz5 Bd (by rw [cH_size (by omega)]; omega) (cH_set (by omega)) ?_
   intro w3 S3
   replace E := S3.step E (by first | exact Or.inl (by omega) | assumption | exact Or.inr rfl | exact Or.inr (by assumption) | exact Or.inr (by simp) | exact Or.inr (by omega) | exact Or.inr (by dsimp only; omega))
   replace Bd := S3.blk
   refine WpL_nil (Wp_region ?_)
   refine qM (.int .u64 (m : Int)) rfl ?_
   refine qM (.int .u64 4) rfl ?_
   refine qV (r_shr (k := .u64) (a := (m : Int)) (b := 4) (c := ((m / 16 : Nat) : Int)) (k' := .u64) rfl rfl (by omega) (by simp only [IntKind.bits]; rw [Int.fdiv_eq_ediv_of_nonneg _ (by decide)]; rfl)) ?_
   refine qA (.int .u64 ((m / 16 : Nat) : Int)) rfl ?_
   refine WpL_nil (inB_normal (thn_normal ?_))
   exact ⟨(m / 16) + 1, by omega, m / 16, hxD (m % 16) :: l, k - 1, Fits.out ⟨rfl, rfl, rfl, rfl, rfl, rfl, rfl, rfl, rfl, rfl, rfl, trivial⟩, E, Bd, (by rw [hl]; exact hxN_step (by omega) l), (by omega), (by simp only [List.length_cons]; omega), rfl⟩
  ·have khlt := hlt
   replace hlt := of_decide_eq_false hlt
   have hm16 : m < 16 := by omega
   have hle := hxN_end hm16 l
   refine Wp_exit (thn_exit (thn_exit (inB_here (thn_normal (Wp_seq_region ?_)))))
   refine qM (I6 k) rfl ?_
   refine qV (r_sub (k := .i64) (a := k) (b := 1) (c := k - 1) rfl rfl (wI64 (by omega))) ?_
   refine qA (I6 (k - 1)) rfl ?_
   refine WpL_nil (Wp_region ?_)
   refine qM (I6 (k - 1)) rfl ?_
   refine qM (.int .u64 (m : Int)) rfl ?_
   refine qV (r_indexStr (i := m) (b := hxD m) Tryz.underlying9 rfl rfl (hx_dig _ hm16) rfl) ?_
   refine qV (r_indexArr (b := bd) (o := 0) (i := 64 - l.length) (o' := 64 - l.length) rfl rfl (by omega) Tryz.underlying161 siz5 (by omega) (by omega)) ?_
   refine s_store (b := bd) (o := 64 - l.length) (c' := cH (hxD m :: l)) (v := (.int .u8 (((hxD m).toNat : Nat) : Int))) rfl rfl rfl siz5 Bd (by rw [cH_size (by omega)]; omega) (cH_set (by omega)) ?_
   intro w4 S4
   replace E := S4.step E (by first | exact Or.inl (by omega) | assumption | exact Or.inr rfl | exact Or.inr (by assumption) | exact Or.inr (by simp) | exact Or.inr (by omega) | exact Or.inr (by dsimp only; omega))
   replace Bd := S4.blk
   refine WpL_nil (thn_normal (Wp_seq (Wp_seq_region ?_)))
   refine qM (.bool false) rfl ?_
   refine WpL_nil ?_
   refine Wp_cond_false rfl ?_
   refine Wp_skip (thn_normal (Wp_seq (Wp_seq_region ?_)))
   refine qM (.bool false) rfl ?_
   refine WpL_nil ?_
   refine Wp_cond_false rfl ?_
   refine Wp_skip (thn_normal (Wp_seq_region ?_))
   refine qM (I6 (k - 1)) rfl ?_
   refine qV (r_sliceArrLo (b := bd) (o := 0) (n := 65) (lo := 64 - l.length) (n' := l.length + 1) Tryz.underlying161 siz5 rfl rfl (by omega) (by omega) (by omega)) ?_
   refine qV (r_bytesCells (l := hxN n) Tryz.underlying138 Tryz.underlying5 Tryz.underlying9 rfl (fun i u hu => by rw [hl, hle] at hu; refine Bd.cell ?_; have h9 := cH_get (l := hxD m :: l) (by simp only [List.length_cons]; omega) hu; rw [← h9]; congr 1; simp only [List.length_cons]; omega) (by rw [hl, hle]; rfl)) ?_
   refine qA (.string (bS (hxN n))) rfl ?_
   refine WpL_nil (Wp_ret ?_)
   refine fin_tmp2 Tryz.results98 (v := (.slice none 0 0)) (v' := (.string (bS (hxN n)))) rfl rfl ?_
   exact ⟨rfl, E⟩
theorem fint_c (w0 : World) (n : Nat) (hn : n ≤ 1114111) (hT : TabAt 6 Lib.deBruijn64tab w0) : Ret Tryz.prog 74 #[.int .i64 (n : Int), .int .i64 16] w0 fun r w => r = .string (bS (hxN n)) ∧ Ext w0 w := by
 refine Ret_of Tryz.func74 rfl Tryz.ntmps74 (Nat.le_of_ble_eq_true rfl) ?_
 have E : Chg none1 w0 w0 := Chg.refl _ _
 refine Wp_seq_region ?_
 refine qA (.string (ByteArray.mk #[])) rfl ?_
 refine WpL_nil (Wp_seq (Wp_seq_region ?_))
 refine qM (I6 16) rfl ?_
 refine qV (r_eql (k := .i64) (a := 16) (b := 10) rfl rfl) ?_
 refine WpL_nil ?_
 refine Wp_cond_false rfl ?_
 refine Wp_skip (thn_normal (Wp_seq_region ?_))
 refine qM (I6 (n : Int)) rfl ?_
 refine qV (r_convInt (k := .i64) (k' := .u64) (n := (n : Int)) (c := (n : Int)) ⟨_, Tryz.underlying2⟩ Tryz.underlying113 rfl (wU64 (by omega))) ?_
 refine qM (I6 16) rfl ?_
 refine qM (I6 (n : Int)) rfl ?_
 refine qV (r_lss (k := .i64) (a := (n : Int)) (b := 0) rfl rfl) ?_
 refine WpL_enter rfl rfl (by decide) (r_callF (vs := [(.slice none 0 0), (.int .u64 (n : Int)), (I6 16), (.bool (decide (((n : Int) : Int) < 0))), (.bool false)]) Tryz.func98 nm98 bd98 rfl) (by rw [decide_eq_false (by omega)]; exact fbits_c _ n hn hT) ?_
 rintro _ w9 ⟨rfl, X9⟩
 replace E := E.ext X9
 refine qM (.tuple #[(.slice none 0 0), (.string (bS (hxN n)))]) rfl ?_
 refine qV (r_extract (vs := #[(.slice none 0 0), (.string (bS (hxN n)))]) (v := (.slice none 0 0)) rfl rfl) ?_
 refine qV (r_extract (vs := #[(.slice none 0 0), (.string (bS (hxN n)))]) (v := (.string (bS (hxN n)))) rfl rfl) ?_
 refine qA (.slice none 0 0) rfl ?_
 refine qA (.string (bS (hxN n))) rfl ?_
 refine WpL_nil (Wp_seq_region ?_)
 refine qM (.string (bS (hxN n))) rfl ?_
 refine qA (.string (bS (hxN n))) rfl ?_
 refine WpL_nil (Wp_ret ?_)
 refine fin_tmp Tryz.results74 (v := (.string (bS (hxN n)))) rfl ?_
 exact ⟨rfl, E⟩
theorem sfint_c (w0 : World) (n : Nat) (hn : n ≤ 1114111) (hT : TabAt 6 Lib.deBruijn64tab w0) : Ret Tryz.prog 73 #[.int .i64 (n : Int), .int .i64 16] w0 fun r w => r = .string (bS (hxN n)) ∧ Ext w0 w := by
 refine Ret_of Tryz.func73 rfl Tryz.ntmps73 (Nat.le_of_ble_eq_true rfl) ?_
 have E : Chg none1 w0 w0 := Chg.refl _ _
 refine Wp_seq_region ?_
 refine qA (.string (ByteArray.mk #[])) rfl ?_
 refine WpL_nil (Wp_seq_region ?_)
 refine qM (I6 (n : Int)) rfl ?_
 refine qM (I6 16) rfl ?_
 refine WpL_enter rfl rfl (by decide) (r_callF (vs := [(I6 (n : Int)), (I6 16)]) Tryz.func74 nm74 bd74 rfl) (fint_c _ n hn hT) ?_
 rintro _ w9 ⟨rfl, X9⟩
 replace E := E.ext X9
 refine qA (.string (bS (hxN n))) rfl ?_
 refine WpL_nil (Wp_ret ?_)
 refine fin_tmp Tryz.results73 (v := (.string (bS (hxN n)))) rfl ?_
 exact ⟨rfl, E⟩
end Go.Proofs
namespace Go.Eng
open Go
set_option linter.unusedSectionVars false
variable [Drw]
section
variable {P : Program} {σ : Env} {w : World} {dst : Option Tmp} {ty : TypeId} {pos : String} {af : Array Edge} {g : Option (Nat × Bool)} {t s : TypeId} {x y : Operand}
theorem r_convStr {k k' : IntKind} {n : Int} (hs : P.underlying s = some (.int k')) (ht : P.underlying t = some .string) (hx : ev σ x = .int k n) : (execOp (ev σ) ⟨dst, .convert s t x, ty, pos, af, g⟩).run P w = .ok (.value (.string (Utf8.encode n))) w := by
 simp only [execOp, hx, convert, Sem.run_bind, run_underlying hs, run_underlying ht, Result.andThen_ok]; rfl
end
end Go.Eng
namespace Go.Proofs
open Go Go.Eng Go.Sort Go.Lib
set_option linter.unusedSectionVars false
variable [Drw]
set_option maxRecDepth 100000
theorem ixb_c (w0 : World) (l : Bys) (c : Int) : Ret Tryz.prog 58 #[.string (bS l), .int .u8 c] w0 fun r w => r = .int .i64 (indexByte l c.toNat.toUInt8) ∧ Ext w0 w := by
 refine (Any.strings_IndexByte Tryz.ixbS (bS l) c w0).mono ?_
 rintro e w' ⟨rfl, rfl⟩
 exact ⟨_, rfl, rfl, Ext.refl _⟩
/-- What the texts of runes ask of the world. -/
def Tz (w : World) : Prop := TabAt 6 Lib.deBruijn64tab w
theorem Tz.ext {w w' : World} (h : Tz w) (e : Ext w w') : Tz w' := fun j hj => e.cell (h j hj)
theorem esc_c (w0 : World) (c : Int) (h0 : 0 ≤ c) (h1 : c ≤ 1114111) (hT : Tz w0) : Ret Tryz.prog 69 #[.int .i64 c] w0 fun r w => r = .string (bS (escC c)) ∧ Ext w0 w := by
 refine Ret_of Tryz.func69 rfl Tryz.ntmps69 (Nat.le_of_ble_eq_true rfl) ?_
 have E : Chg none1 w0 w0 := Chg.refl _ _
 refine Wp_seq_region ?_
 refine qA (.string (ByteArray.mk #[])) rfl ?_
 refine WpL_nil (Wp_seq (Wp_block ?_))
 refine Wp_cut (fun σ W1 => ∃ (b : Bool), (∃ jj_, σ = upds jj_ [(0, (I6 c)), (3, (.bool b))]) ∧ Chg none1 w0 W1 ∧ (b = mkB c)) ?_ ?_
 ·skip
  refine Wp_region ?_
  refine qM (I6 c) rfl ?_
  refine qV (r_lss (k := .i64) (a := c) (b := 128) rfl rfl) ?_
  refine qM (.bool (decide ((c : Int) < 128))) rfl ?_
  rcases Bool.eq_false_or_eq_true (decide ((c : Int) < 128)) with h1 | h1
  ·have kh1 := h1
   replace kh1 := of_decide_eq_true kh1
   refine WpL_guard_yes (oj := _) rfl rfl (by decide) (congrArg Value.bool h1) ?_
   refine qM (I6 c) rfl ?_
   refine WpL_guard_yes (oj := _) rfl rfl (by decide) (congrArg Value.bool h1) ?_
   refine qV (r_convInt (k := .i64) (k' := .u8) (n := c) (c := c) ⟨_, Tryz.underlying3⟩ Tryz.underlying5 rfl (wU8 (by omega))) ?_
   refine WpL_guard_yes (oj := _) rfl rfl (by decide) (congrArg Value.bool h1) ?_
   refine WpL_enter rfl rfl (by decide) (r_callF (vs := [(.string (ByteArray.mk #[92, 124, 38, 126, 40, 41, 91, 93, 123, 125, 42, 43, 63, 46, 64, 94, 45, 35, 61, 33])), (.int .u8 c)]) Tryz.func58 nm58 bd58 rfl) (ixb_c _ spc c) ?_
   rintro _ w9 ⟨rfl, X9⟩
   replace E := E.ext X9
   refine WpL_guard_yes (oj := _) rfl rfl (by decide) (congrArg Value.bool h1) ?_
   refine qV (r_geq (k := .i64) (a := indexByte spc c.toNat.toUInt8) (b := 0) rfl rfl) ?_
   refine qV (r_pick (b := decide ((c : Int) < 128)) (v := (.bool (decide ((0 : Int) ≤ indexByte spc c.toNat.toUInt8)))) rfl (by rw [h1]; rfl)) ?_
   refine qA (.bool (decide ((0 : Int) ≤ indexByte spc c.toNat.toUInt8))) rfl ?_
   refine WpL_nil (thn_normal ?_)
   exact ⟨decide (0 ≤ indexByte spc c.toNat.toUInt8), Fits.out ⟨rfl, rfl, trivial⟩, E, (by unfold mkB; rw [h1, Bool.true_and])⟩
  ·have kh1 := h1
   replace kh1 := of_decide_eq_false kh1
   refine WpL_guard_no (oj := _) rfl rfl (by decide) (v := .bool false) (congrArg Value.bool h1) (Or.inl rfl) ?_
   refine WpL_guard_no (oj := _) rfl rfl (by decide) (v := .bool false) (congrArg Value.bool h1) (Or.inl rfl) ?_
   refine WpL_guard_no (oj := _) rfl rfl (by decide) (v := .bool false) (congrArg Value.bool h1) (Or.inl rfl) ?_
   refine WpL_guard_no (oj := _) rfl rfl (by decide) (v := .bool false) (congrArg Value.bool h1) (Or.inl rfl) ?_
   refine qV (r_pick (b := decide ((c : Int) < 128)) (v := (.bool false)) rfl (by rw [h1]; rfl)) ?_
   refine qA (.bool false) rfl ?_
   refine WpL_nil (thn_normal ?_)
   exact ⟨false, Fits.out ⟨rfl, rfl, trivial⟩, E, (by unfold mkB; rw [h1, Bool.false_and])⟩
 ·clear E
  rintro _ W1 ⟨b, ⟨j1, rfl⟩, E, hb⟩
  refine Wp_cond (b := b) rfl (fun hb1 => ?_) (fun hb1 => ?_)
  ·have khb1 := hb1
   refine Wp_seq_region ?_
   refine qM (I6 c) rfl ?_
   refine qV (r_convInt (k := .i64) (k' := .i32) (n := c) (c := c) ⟨_, Tryz.underlying3⟩ Tryz.underlying21 rfl (wI32 (by omega))) ?_
   refine qV ((r_convStr Tryz.underlying21 Tryz.underlying9 rfl).trans (by rw [uE_bS])) ?_
   refine qV (r_bSAdd (l := [92]) (m := uE c) (n := 92 :: uE c) rfl rfl rfl (by have := uE_len c; simp only [List.length_cons]; omega)) ?_
   refine qA (.string (bS (92 :: uE c))) rfl ?_
   refine WpL_nil (Wp_ret (inB_ret (thn_ret ?_)))
   refine fin_tmp Tryz.results69 (v := (.string (bS (92 :: uE c)))) rfl ?_
   exact ⟨by unfold escC; rw [if_pos (hb.symm.trans hb1)], E⟩
  ·have khb1 := hb1
   have hb2 : ¬ mkB c = true := by rw [← hb, hb1]; decide
   refine Wp_seq_region ?_
   refine qM (I6 c) rfl ?_
   refine qV (r_eql (k := .i64) (a := c) (b := 10) rfl rfl) ?_
   refine qA (.bool (decide ((c : Int) = 10))) rfl ?_
   refine WpL_nil ?_
   refine Wp_cond (b := decide ((c : Int) = 10)) rfl (fun h10 => ?_) (fun h10 => ?_)
   ·have kh10 := h10
    replace h10 := of_decide_eq_true h10
    refine Wp_seq_region ?_
    refine qA (.string (ByteArray.mk #[92, 110])) rfl ?_
    refine WpL_nil (Wp_ret (inB_ret (thn_ret ?_)))
    refine fin_tmp Tryz.results69 (v := (.string (ByteArray.mk #[92, 110]))) rfl ?_
    exact ⟨by unfold escC; rw [if_neg hb2, if_pos h10]; rfl, E⟩
   ·have kh10 := h10
    replace h10 := of_decide_eq_false h10
    refine Wp_seq_region ?_
    refine qM (I6 c) rfl ?_
    refine qV (r_eql (k := .i64) (a := c) (b := 9) rfl rfl) ?_
    refine qA (.bool (decide ((c : Int) = 9))) rfl ?_
    refine WpL_nil ?_
    refine Wp_cond (b := decide ((c : Int) = 9)) rfl (fun h9 => ?_) (fun h9 => ?_)
    ·have kh9 := h9
     replace h9 := of_decide_eq_true h9
     refine Wp_seq_region ?_
     refine qA (.string (ByteArray.mk #[92, 116])) rfl ?_
     refine WpL_nil (Wp_ret (inB_ret (thn_ret ?_)))
     refine fin_tmp Tryz.results69 (v := (.string (ByteArray.mk #[92, 116]))) rfl ?_
     exact ⟨by unfold escC; rw [if_neg hb2, if_neg h10, if_pos h9]; rfl, E⟩
    ·have kh9 := h9
     replace h9 := of_decide_eq_false h9
     refine Wp_seq_region ?_
     refine qM (I6 c) rfl ?_
     refine qV (r_eql (k := .i64) (a := c) (b := 13) rfl rfl) ?_
     refine qA (.bool (decide ((c : Int) = 13))) rfl ?_
     refine WpL_nil ?_
     refine Wp_cond (b := decide ((c : Int) = 13)) rfl (fun h13 => ?_) (fun h13 => ?_)
     ·have kh13 := h13
      replace h13 := of_decide_eq_true h13
      refine Wp_seq_region ?_
      refine qA (.string (ByteArray.mk #[92, 114])) rfl ?_
      refine WpL_nil (Wp_ret (inB_ret (thn_ret ?_)))
      refine fin_tmp Tryz.results69 (v := (.string (ByteArray.mk #[92, 114]))) rfl ?_
      exact ⟨by unfold escC; rw [if_neg hb2, if_neg h10, if_neg h9, if_pos h13]; rfl, E⟩
     ·have kh13 := h13
      replace h13 := of_decide_eq_false h13
      refine Wp_seq_region ?_
      refine qM (I6 c) rfl ?_
      obtain ⟨e7, he7⟩ : ∃ e, (decide ((c : Int) < 32)) = e := ⟨_, rfl⟩
      refine qV ((r_lss (k := .i64) (a := c) (b := 32) rfl rfl).trans (by rw [he7]; try rfl)) ?_
      refine qM (.bool e7) rfl ?_
      refine qG (.bool e7) (nU e7 (I6 c)) (by cases e7 <;> first | exact gA | exact gB | exact .inl ⟨rfl, r_move (v := (I6 c)) rfl⟩) ?_
      obtain ⟨e8, he8⟩ : ∃ e, (decide ((127 : Int) ≤ c)) = e := ⟨_, rfl⟩
      refine qG (.bool e7) (nU e7 (.bool e8)) (by cases e7 <;> first | exact gA | exact gB | exact .inl ⟨rfl, (r_geq (k := .i64) (a := c) (b := 127) rfl rfl).trans (by rw [he8]; try rfl)⟩) ?_
      refine qG (.bool e7) (nU e7 (.bool e8)) (by cases e7 <;> first | exact gA | exact gB | exact .inl ⟨rfl, r_move (v := (.bool e8)) rfl⟩) ?_
      refine qG (nU e7 (.bool e8)) (nU e7 (yU e8 (I6 c))) (by cases e7 <;> cases e8 <;> first | exact gA | exact gB | exact .inl ⟨rfl, r_move (v := (I6 c)) rfl⟩) ?_
      obtain ⟨e9, he9⟩ : ∃ e, (decide ((c : Int) ≤ 160)) = e := ⟨_, rfl⟩
      refine qG (nU e7 (.bool e8)) (nU e7 (yU e8 (.bool e9))) (by cases e7 <;> cases e8 <;> first | exact gA | exact gB | exact .inl ⟨rfl, (r_leq (k := .i64) (a := c) (b := 160) rfl rfl).trans (by rw [he9]; try rfl)⟩) ?_
      obtain ⟨e10, he10⟩ : ∃ e, (e8 && e9) = e := ⟨_, rfl⟩
      refine qG (.bool e7) (nU e7 (.bool e10)) (by cases e7 <;> first | exact gA | exact gB | exact .inl ⟨rfl, r_pick (b := e8) (v := .bool e10) rfl (by rw [← he10]; cases e8 <;> rfl)⟩) ?_
      obtain ⟨e11, he11⟩ : ∃ e, (e7 || e10) = e := ⟨_, rfl⟩
      refine qV (r_pick (b := e7) (v := .bool e11) rfl (by rw [← he11]; cases e7 <;> rfl)) ?_
      refine qM (.bool e11) rfl ?_
      refine qG (.bool e11) (nU e11 (I6 c)) (by cases e11 <;> first | exact gA | exact gB | exact .inl ⟨rfl, r_move (v := (I6 c)) rfl⟩) ?_
      obtain ⟨e12, he12⟩ : ∃ e, (decide ((55296 : Int) ≤ c)) = e := ⟨_, rfl⟩
      refine qG (.bool e11) (nU e11 (.bool e12)) (by cases e11 <;> first | exact gA | exact gB | exact .inl ⟨rfl, (r_geq (k := .i64) (a := c) (b := 55296) rfl rfl).trans (by rw [he12]; try rfl)⟩) ?_
      refine qG (.bool e11) (nU e11 (.bool e12)) (by cases e11 <;> first | exact gA | exact gB | exact .inl ⟨rfl, r_move (v := (.bool e12)) rfl⟩) ?_
      refine qG (nU e11 (.bool e12)) (nU e11 (yU e12 (I6 c))) (by cases e11 <;> cases e12 <;> first | exact gA | exact gB | exact .inl ⟨rfl, r_move (v := (I6 c)) rfl⟩) ?_
      obtain ⟨e13, he13⟩ : ∃ e, (decide ((c : Int) ≤ 57343)) = e := ⟨_, rfl⟩
      refine qG (nU e11 (.bool e12)) (nU e11 (yU e12 (.bool e13))) (by cases e11 <;> cases e12 <;> first | exact gA | exact gB | exact .inl ⟨rfl, (r_leq (k := .i64) (a := c) (b := 57343) rfl rfl).trans (by rw [he13]; try rfl)⟩) ?_
      obtain ⟨e14, he14⟩ : ∃ e, (e12 && e13) = e := ⟨_, rfl⟩
      refine qG (.bool e11) (nU e11 (.bool e14)) (by cases e11 <;> first | exact gA | exact gB | exact .inl ⟨rfl, r_pick (b := e12) (v := .bool e14) rfl (by rw [← he14]; cases e12 <;> rfl)⟩) ?_
      obtain ⟨e15, he15⟩ : ∃ e, (e11 || e14) = e := ⟨_, rfl⟩
      refine qV (r_pick (b := e11) (v := .bool e15) rfl (by rw [← he15]; cases e11 <;> rfl)) ?_
      refine qA (.bool e15) rfl ?_
      refine WpL_nil ?_
      subst he15
      subst he14
      subst he13
      subst he12
      subst he11
      subst he10
      subst he9
      subst he8
      subst he7
      refine Wp_cond (b := (((decide ((c : Int) < 32)) || ((decide ((127 : Int) ≤ c)) && (decide ((c : Int) ≤ 160)))) || ((decide ((55296 : Int) ≤ c)) && (decide ((c : Int) ≤ 57343))))) rfl (fun hr => ?_) (fun hr => ?_)
      ·have khr := hr
       have hcn : ((c.toNat : Nat) : Int) = c := Int.toNat_of_nonneg h0
       have hx9 := hxN_len 5 c.toNat (by omega)
       refine Wp_seq_region ?_
       refine qM (I6 c) rfl ?_
       refine WpL_enter rfl rfl (by decide) (r_callF (vs := [(I6 c), (I6 16)]) Tryz.func73 nm73 bd73 rfl) (by have h9 := sfint_c _ c.toNat (by omega) (hT.ext E); rwa [hcn] at h9) ?_
       rintro _ w19 ⟨rfl, X19⟩
       replace E := E.ext X19
       refine qV (r_bSAdd (l := [92, 117, 123]) (m := hxN c.toNat) rfl rfl rfl (by simp only [List.length_append, List.length_cons, List.length_nil]; omega)) ?_
       refine qV (r_bSAdd (l := [92, 117, 123] ++ hxN c.toNat) (m := [125]) rfl rfl rfl (by simp only [List.length_append, List.length_cons, List.length_nil]; omega)) ?_
       refine qA (.string (bS ([92, 117, 123] ++ hxN c.toNat ++ [125]))) rfl ?_
       refine WpL_nil (Wp_ret (inB_ret (thn_ret ?_)))
       refine fin_tmp Tryz.results69 (v := (.string (bS ([92, 117, 123] ++ hxN c.toNat ++ [125])))) rfl ?_
       exact ⟨by unfold escC; rw [if_neg hb2, if_neg h10, if_neg h9, if_neg h13, if_pos (by simp only [Bool.or_eq_true, Bool.and_eq_true, decide_eq_true_eq] at hr; omega)], E⟩
      ·have khr := hr
       refine Wp_skip (inB_normal (thn_normal (Wp_seq_region ?_)))
       refine qM (I6 c) rfl ?_
       refine qV (r_convInt (k := .i64) (k' := .i32) (n := c) (c := c) ⟨_, Tryz.underlying3⟩ Tryz.underlying21 rfl (wI32 (by omega))) ?_
       refine qV ((r_convStr Tryz.underlying21 Tryz.underlying9 rfl).trans (by rw [uE_bS])) ?_
       refine qA (.string (bS (uE c))) rfl ?_
       refine WpL_nil (Wp_ret ?_)
       refine fin_tmp Tryz.results69 (v := (.string (bS (uE c)))) rfl ?_
       exact ⟨by unfold escC; rw [if_neg hb2, if_neg h10, if_neg h9, if_neg h13, if_neg (by simp only [Bool.or_eq_false_iff, Bool.and_eq_false_iff, decide_eq_false_iff_not] at hr; omega)], E⟩
theorem lvl_c (w0 : World) (t : Re) (sa aa : Option Addr) (sc ac : Nat) : Ret Tryz.prog 40 #[.agg #[.int .i64 t.kind, .slice sa t.set.length sc, .slice aa t.args.length ac, .int .i64 t.mn, .int .i64 t.mx, .bool t.neg]] w0 fun r w => r = .int .i64 ((lvl t.kind : Nat) : Int) ∧ Ext w0 w := by
 refine Ret_of Tryz.func40 rfl Tryz.ntmps40 (Nat.le_of_ble_eq_true rfl) ?_
 have E : Chg none1 w0 w0 := Chg.refl _ _
 refine Wp_seq_region ?_
 refine s_box (v := (.agg (R6 t sa sc aa ac))) (c := (R6 t sa sc aa ac)) (by decide) rfl rfl ?_
 intro b1 w1 N1
 have F1 := N1.ge E
 replace E := E.ext N1.ext
 have B1 := N1.blk
 refine qA (I6 0) rfl ?_
 refine WpL_nil (Wp_seq (Wp_seq_region ?_))
 refine qF b1 0 0 rfl Tryz.underlying25 rfl siz3 rfl ?_
 refine qV (r_load (v := (I6 t.kind)) rfl flat3 (B1.cell rfl)) ?_
 refine WpL_nil (Wp_block (Wp_seq_region ?_))
 refine qV (r_eql (k := .i64) (a := t.kind) (b := 4) rfl rfl) ?_
 refine qA (.bool (decide ((t.kind : Int) = 4))) rfl ?_
 refine WpL_nil ?_
 refine Wp_cond (b := decide ((t.kind : Int) = 4)) rfl (fun h4 => ?_) (fun h4 => ?_)
 ·have kh4 := h4
  replace h4 := of_decide_eq_true h4
  refine Wp_seq_region ?_
  refine qA (I6 0) rfl ?_
  refine WpL_nil (Wp_ret (inB_ret (thn_ret ?_)))
  refine fin_tmp Tryz.results40 (v := (.int .i64 0)) rfl ?_
  exact ⟨by unfold lvl; rw [if_pos h4]; rfl, E⟩
 ·have kh4 := h4
  replace h4 := of_decide_eq_false h4
  refine Wp_seq_region ?_
  refine qV (r_eql (k := .i64) (a := t.kind) (b := 7) rfl rfl) ?_
  refine qA (.bool (decide ((t.kind : Int) = 7))) rfl ?_
  refine WpL_nil ?_
  refine Wp_cond (b := decide ((t.kind : Int) = 7)) rfl (fun h7 => ?_) (fun h7 => ?_)
  ·have kh7 := h7
   replace h7 := of_decide_eq_true h7
   refine Wp_seq_region ?_
   refine qA (I6 1) rfl ?_
   refine WpL_nil (Wp_ret (inB_ret (thn_ret ?_)))
   refine fin_tmp Tryz.results40 (v := (.int .i64 1)) rfl ?_
   exact ⟨by unfold lvl; rw [if_neg h4, if_pos h7]; rfl, E⟩
  ·have kh7 := h7
   replace h7 := of_decide_eq_false h7
   refine Wp_seq_region ?_
   refine qV (r_eql (k := .i64) (a := t.kind) (b := 3) rfl rfl) ?_
   refine qA (.bool (decide ((t.kind : Int) = 3))) rfl ?_
   refine WpL_nil ?_
   refine Wp_cond (b := decide ((t.kind : Int) = 3)) rfl (fun h3 => ?_) (fun h3 => ?_)
   ·have kh3 := h3
    replace h3 := of_decide_eq_true h3
    refine Wp_seq_region ?_
    refine qA (I6 2) rfl ?_
    refine WpL_nil (Wp_ret (inB_ret (thn_ret ?_)))
    refine fin_tmp Tryz.results40 (v := (.int .i64 2)) rfl ?_
    exact ⟨by unfold lvl; rw [if_neg h4, if_neg h7, if_pos h3]; rfl, E⟩
   ·have kh3 := h3
    replace h3 := of_decide_eq_false h3
    refine Wp_seq_region ?_
    refine qV (r_eql (k := .i64) (a := t.kind) (b := 8) rfl rfl) ?_
    refine qA (.bool (decide ((t.kind : Int) = 8))) rfl ?_
    refine WpL_nil ?_
    refine Wp_cond (b := decide ((t.kind : Int) = 8)) rfl (fun h8 => ?_) (fun h8 => ?_)
    ·have kh8 := h8
     replace h8 := of_decide_eq_true h8
     refine Wp_seq_region ?_
     refine qA (I6 3) rfl ?_
     refine WpL_nil (Wp_ret (inB_ret (thn_ret ?_)))
     refine fin_tmp Tryz.results40 (v := (.int .i64 3)) rfl ?_
     exact ⟨by unfold lvl; rw [if_neg h4, if_neg h7, if_neg h3, if_pos h8]; rfl, E⟩
    ·have kh8 := h8
     replace h8 := of_decide_eq_false h8
     refine Wp_skip (inB_normal (thn_normal (Wp_seq_region ?_)))
     refine qA (I6 4) rfl ?_
     refine WpL_nil (Wp_ret ?_)
     refine fin_tmp Tryz.results40 (v := (.int .i64 4)) rfl ?_
     exact ⟨by unfold lvl; rw [if_neg h4, if_neg h7, if_neg h3, if_neg h8]; rfl, E⟩
theorem bnd_c (w0 : World) (a b : Int) (ha : 0 ≤ a ∧ a ≤ 2000000) (hb : 0 ≤ b ∧ b ≤ 2000000) (hP : PowOk w0) : Ret Tryz.prog 43 #[.int .i64 a, .int .i64 b] w0 fun r w => r = .string (bS (bndT a b)) ∧ Ext w0 w := by
 have l1 := itoa_len ha.1 ha.2
 have l2 := itoa_len hb.1 hb.2
 refine Ret_of Tryz.func43 rfl Tryz.ntmps43 (Nat.le_of_ble_eq_true rfl) ?_
 have E : Chg none1 w0 w0 := Chg.refl _ _
 refine Wp_seq_region ?_
 refine qA (.string (ByteArray.mk #[])) rfl ?_
 refine WpL_nil (Wp_seq (Wp_block (Wp_seq_region ?_)))
 refine qM (I6 a) rfl ?_
 obtain ⟨e1, he1⟩ : ∃ e, (decide ((a : Int) = 0)) = e := ⟨_, rfl⟩
 refine qV ((r_eql (k := .i64) (a := a) (b := 0) rfl rfl).trans (by rw [he1]; try rfl)) ?_
 refine qM (.bool e1) rfl ?_
 refine qG (.bool e1) (yU e1 (I6 b)) (by cases e1 <;> first | exact gA | exact gB | exact .inl ⟨rfl, r_move (v := (I6 b)) rfl⟩) ?_
 obtain ⟨e2, he2⟩ : ∃ e, (decide ((b : Int) = 1)) = e := ⟨_, rfl⟩
 refine qG (.bool e1) (yU e1 (.bool e2)) (by cases e1 <;> first | exact gA | exact gB | exact .inl ⟨rfl, (r_eql (k := .i64) (a := b) (b := 1) rfl rfl).trans (by rw [he2]; try rfl)⟩) ?_
 obtain ⟨e3, he3⟩ : ∃ e, (e1 && e2) = e := ⟨_, rfl⟩
 refine qV (r_pick (b := e1) (v := .bool e3) rfl (by rw [← he3]; cases e1 <;> rfl)) ?_
 refine qA (.bool e3) rfl ?_
 refine WpL_nil ?_
 subst he3
 subst he2
 subst he1
 refine Wp_cond (b := ((decide ((a : Int) = 0)) && (decide ((b : Int) = 1)))) rfl (fun hq => ?_) (fun hq => ?_)
 ·have khq := hq
  refine Wp_seq_region ?_
  refine qA (.string (ByteArray.mk #[63])) rfl ?_
  refine WpL_nil (Wp_ret (inB_ret (thn_ret ?_)))
  refine fin_tmp Tryz.results43 (v := (.string (ByteArray.mk #[63]))) rfl ?_
  exact ⟨by unfold bndT; rw [if_pos (by simpa using hq)]; rfl, E⟩
 ·have khq := hq
  have hq2 : ¬ (a = 0 ∧ b = 1) := by simpa using hq
  refine Wp_seq_region ?_
  refine qM (I6 a) rfl ?_
  refine qM (I6 b) rfl ?_
  refine qV (r_eql (k := .i64) (a := a) (b := b) rfl rfl) ?_
  refine qA (.bool (decide ((a : Int) = b))) rfl ?_
  refine WpL_nil ?_
  refine Wp_cond (b := decide ((a : Int) = b)) rfl (fun he => ?_) (fun he => ?_)
  ·have khe := he
   replace he := of_decide_eq_true he
   refine Wp_seq_region ?_
   refine qM (I6 a) rfl ?_
   refine WpL_enter rfl rfl (by decide) (r_callF (vs := [(I6 a)]) Tryz.func24 nm24 bd24 rfl) (itoa_c _ a ha.1 ha.2 (hP.ext E)) ?_
   rintro _ w9 ⟨rfl, X9⟩
   replace E := E.ext X9
   refine qV (r_bSAdd (l := [123]) (m := itoa a) rfl rfl rfl (by simp only [List.length_append, List.length_cons, List.length_nil]; omega)) ?_
   refine qV (r_bSAdd (l := [123] ++ itoa a) (m := [125]) rfl rfl rfl (by simp only [List.length_append, List.length_cons, List.length_nil]; omega)) ?_
   refine qA (.string (bS ([123] ++ itoa a ++ [125]))) rfl ?_
   refine WpL_nil (Wp_ret (inB_ret (thn_ret ?_)))
   refine fin_tmp Tryz.results43 (v := (.string (bS ([123] ++ itoa a ++ [125])))) rfl ?_
   exact ⟨by unfold bndT; rw [if_neg hq2, if_pos he], E⟩
  ·have khe := he
   replace he := of_decide_eq_false he
   refine Wp_skip (inB_normal (thn_normal (Wp_seq_region ?_)))
   refine qM (I6 a) rfl ?_
   refine WpL_enter rfl rfl (by decide) (r_callF (vs := [(I6 a)]) Tryz.func24 nm24 bd24 rfl) (itoa_c _ a ha.1 ha.2 (hP.ext E)) ?_
   rintro _ w9 ⟨rfl, X9⟩
   replace E := E.ext X9
   refine qV (r_bSAdd (l := [123]) (m := itoa a) rfl rfl rfl (by simp only [List.length_append, List.length_cons, List.length_nil]; omega)) ?_
   refine qV (r_bSAdd (l := [123] ++ itoa a) (m := [44]) rfl rfl rfl (by simp only [List.length_append, List.length_cons, List.length_nil]; omega)) ?_
   refine qM (I6 b) rfl ?_
   refine WpL_enter rfl rfl (by decide) (r_callF (vs := [(I6 b)]) Tryz.func24 nm24 bd24 rfl) (itoa_c _ b hb.1 hb.2 (hP.ext E)) ?_
   rintro _ w19 ⟨rfl, X19⟩
   replace E := E.ext X19
   refine qV (r_bSAdd (l := [123] ++ itoa a ++ [44]) (m := itoa b) rfl rfl rfl (by simp only [List.length_append, List.length_cons, List.length_nil]; omega)) ?_
   refine qV (r_bSAdd (l := [123] ++ itoa a ++ [44] ++ itoa b) (m := [125]) rfl rfl rfl (by simp only [List.length_append, List.length_cons, List.length_nil]; omega)) ?_
   refine qA (.string (bS ([123] ++ itoa a ++ [44] ++ itoa b ++ [125]))) rfl ?_
   refine WpL_nil (Wp_ret ?_)
   refine fin_tmp Tryz.results43 (v := (.string (bS ([123] ++ itoa a ++ [44] ++ itoa b ++ [125])))) rfl ?_
   exact ⟨by unfold bndT; rw [if_neg hq2, if_neg he], E⟩
end Go.Proofs
namespace Go.Proofs
open Go Go.Eng Go.Sort Go.Lib
set_option linter.unusedSectionVars false
variable [Drw]
set_option maxRecDepth 100000
theorem spT_len {s : Sp} (h : vSp s) : (spT s).length ≤ 21 := by
 unfold vSp at h
 have h1 := escC_len (c := s.1) (by omega)
 have h2 := escC_len (c := s.2) (by omega)
 unfold spT
 simp only [List.length_append]
 have h3 : (if s.1 + 1 < s.2 then [45] else ([] : Bys)).length ≤ 1 := by split <;> simp
 have h4 : (if s.1 < s.2 then escC s.2 else ([] : Bys)).length ≤ 10 := by split; exact h2; exact Nat.zero_le _
 omega
theorem spsT_len : ∀ {l : List Sp}, (∀ s ∈ l, vSp s) → (spsT l).length ≤ 21 * l.length
  | [], _ => Nat.zero_le _
  | s :: l, h => by
    have h1 := spT_len (h s List.mem_cons_self)
    have h2 := spsT_len (l := l) fun q hq => h q (List.mem_cons_of_mem _ hq)
    simp only [spsT, List.length_cons, List.length_append]; omega
theorem spsT_take {l : List Sp} {k : Nat} {s : Sp} (h : l[k]? = some s) : spsT (l.take (k + 1)) = spsT (l.take k) ++ spT s := by
 rw [List.take_add_one, h, Option.toList_some, spsT_app, spsT, spsT, List.append_nil]
def oneB (l : List Sp) : Bool := decide (l.length = 1) && decide ((l.getD 0 (0, 0)).1 = (l.getD 0 (0, 0)).2)
def allB (l : List Sp) : Bool := decide (l.length = 1) && decide ((l.getD 0 (0, 0)).1 = 0) && decide ((l.getD 0 (0, 0)).2 = 1114111)
theorem setT_eq (l : List Sp) : setT l = if oneB l = true then escC (l.getD 0 (0, 0)).1 else if allB l = true then [46] else [91] ++ spsT l ++ [93] := by
  unfold setT oneB allB
  simp only [Bool.and_eq_true, decide_eq_true_eq]
  have : (l = [(0, 1114111)]) ↔ ((l.length = 1 ∧ (l.getD 0 (0, 0)).1 = 0) ∧ (l.getD 0 (0, 0)).2 = 1114111) := by
    constructor
    · rintro rfl; exact ⟨⟨rfl, rfl⟩, rfl⟩
    · rintro ⟨⟨h1, h2⟩, h3⟩
      match l, h1 with
      | [p], _ => obtain ⟨a, b⟩ := p; simp at h2 h3; subst h2; subst h3; rfl
  simp only [this]
theorem rset_c (w0 : World) (v : Value) (a : Option Addr) (c : Nat) (l : List Sp) (h : SpansAt w0 (.slice a l.length c) l) (hl : l.length ≤ 1000000) (hok : ∀ s ∈ l, vSp s) (hT : Tz w0) : Ret Tryz.prog 41 #[.slice a l.length c] w0 fun r w => r = .string (bS (setT l)) ∧ Ext w0 w := by
 have l9 := spsT_len hok
 refine Ret_of Tryz.func41 rfl Tryz.ntmps41 (Nat.le_of_ble_eq_true rfl) ?_
 have E : Chg none1 w0 w0 := Chg.refl _ _
 refine Wp_seq_region ?_
 refine qA (.string (ByteArray.mk #[])) rfl ?_
 refine WpL_nil ?_
 refine Wp_cut (fun σ W1 => (∃ jj_, σ = upds jj_ [(0, (.slice a l.length c))]) ∧ Chg none1 w0 W1 ∧ (oneB l = false)) ?_ ?_
 ·skip
  refine Wp_seq_draw 13 mixed (by kernel_rfl) ?_
  intro w2 X2 _
  replace E := E.ext X2
  refine qT (r_move (v := (.slice a l.length c)) rfl) ?_
  refine qT (r_lenSlice (ad := a) (n := l.length) (cap := c) Tryz.underlying22 rfl) ?_
  refine qT (r_eql (k := .i64) (a := (l.length : Int)) (b := 1) rfl rfl) ?_
  refine qT (r_move (v := (.bool (decide (((l.length : Int) : Int) = 1)))) rfl) ?_
  rcases Bool.eq_false_or_eq_true (decide ((((l.length : Nat) : Int) : Int) = 1)) with h1 | h1
  ·have kh1 := h1
   replace kh1 := of_decide_eq_true kh1
   have h1' : l.length = 1 := by simp at h1; omega
   obtain ⟨b, o, rfl, hcl⟩ := spans_cells h (by omega)
   obtain ⟨s, hs⟩ := get_of_lt (l := l) (i := 0) (by omega)
   refine WpT_guard_yes (oj := _) rfl rfl (by decide) (congrArg Value.bool h1) ?_
   refine qT (r_move (v := (.slice (some ⟨b, o, none⟩) l.length c)) rfl) ?_
   refine WpT_guard_yes (oj := _) rfl rfl (by decide) (congrArg Value.bool h1) ?_
   refine qT (r_indexSlice (b := b) (o := o) (len := l.length) (cap := c) (i := 0) (o' := o + 0 * 2) rfl rfl rfl Tryz.underlying22 siz62 (by omega) (by omega)) ?_
   refine WpT_guard_yes (oj := _) rfl rfl (by decide) (congrArg Value.bool h1) ?_
   refine qT (r_fieldAddr (b := b) (o := o + 0 * 2) (o' := o + 0 * 2) rfl Tryz.underlying62 rfl siz3 rfl) ?_
   refine WpT_guard_yes (oj := _) rfl rfl (by decide) (congrArg Value.bool h1) ?_
   refine qT (r_load (v := (I6 s.1)) rfl flat3 (E.cell (fun f => f) (hcl 0 s hs 0 _ rfl))) ?_
   refine WpT_guard_yes (oj := _) rfl rfl (by decide) (congrArg Value.bool h1) ?_
   refine qT (r_move (v := (.slice (some ⟨b, o, none⟩) l.length c)) rfl) ?_
   refine WpT_guard_yes (oj := _) rfl rfl (by decide) (congrArg Value.bool h1) ?_
   refine qT (r_indexSlice (b := b) (o := o) (len := l.length) (cap := c) (i := 0) (o' := o + 0 * 2) rfl rfl rfl Tryz.underlying22 siz62 (by omega) (by omega)) ?_
   refine WpT_guard_yes (oj := _) rfl rfl (by decide) (congrArg Value.bool h1) ?_
   refine qT (r_fieldAddr (b := b) (o := o + 0 * 2) (o' := o + 0 * 2 + 1) rfl Tryz.underlying62 rfl siz3 rfl) ?_
   refine WpT_guard_yes (oj := _) rfl rfl (by decide) (congrArg Value.bool h1) ?_
   refine qT (r_load (v := (I6 s.2)) rfl flat3 (E.cell (fun f => f) (hcl 0 s hs 1 _ rfl))) ?_
   refine WpT_guard_yes (oj := _) rfl rfl (by decide) (congrArg Value.bool h1) ?_
   refine qT (r_eql (k := .i64) (a := s.1) (b := s.2) rfl rfl) ?_
   refine WpT_zero ?_
   refine qV (r_pick (b := decide (((l.length : Int) : Int) = 1)) (v := (.bool (decide ((s.1 : Int) = s.2)))) rfl (by rw [h1]; rfl)) ?_
   refine WpL_nil ?_
   refine Wp_cond (b := decide ((s.1 : Int) = s.2)) rfl (fun he => ?_) (fun he => ?_)
   ·have khe := he
    replace he := of_decide_eq_true he
    refine Wp_seq_region ?_
    refine qM (.slice (some ⟨b, o, none⟩) l.length c) rfl ?_
    refine qV (r_indexSlice (b := b) (o := o) (len := l.length) (cap := c) (i := 0) (o' := o + 0 * 2) rfl rfl rfl Tryz.underlying22 siz62 (by omega) (by omega)) ?_
    refine qF b (o + 0 * 2) (o + 0 * 2) rfl Tryz.underlying62 rfl siz3 rfl ?_
    refine qV (r_load (v := (I6 s.1)) rfl flat3 (E.cell (fun f => f) (hcl 0 s hs 0 _ rfl))) ?_
    have hs1 := hok s (List.mem_of_getElem? hs)
    have hg1 : l.getD 0 (0, 0) = s := by rw [List.getD, hs]; rfl
    unfold vSp at hs1
    refine WpL_enter rfl rfl (by decide) (r_callF (vs := [(I6 s.1)]) Tryz.func69 nm69 bd69 rfl) (esc_c _ s.1 (by omega) (by omega) (hT.ext E)) ?_
    rintro _ w9 ⟨rfl, X9⟩
    replace E := E.ext X9
    refine qA (.string (bS (escC s.1))) rfl ?_
    refine WpL_nil (Wp_ret (thn_ret ?_))
    refine fin_tmp Tryz.results41 (v := (.string (bS (escC s.1)))) rfl ?_
    exact ⟨by rw [setT_eq, if_pos (by unfold oneB; rw [hg1]; simp [h1', he]), hg1], E⟩
   ·have khe := he
    replace he := of_decide_eq_false he
    refine Wp_skip (thn_normal ?_)
    exact ⟨Fits.out ⟨rfl, trivial⟩, E, (by have hg1 : l.getD 0 (0, 0) = s := by { rw [List.getD, hs]; rfl }; unfold oneB; rw [hg1]; simp only [Bool.and_eq_false_iff, decide_eq_false_iff_not] at he ⊢; omega)⟩
  ·have kh1 := h1
   replace kh1 := of_decide_eq_false kh1
   refine WpT_guard_no (oj := _) rfl rfl (by decide) (v := .bool false) (congrArg Value.bool h1) (Or.inl rfl) ?_
   refine WpT_guard_no (oj := _) rfl rfl (by decide) (v := .bool false) (congrArg Value.bool h1) (Or.inl rfl) ?_
   refine WpT_guard_no (oj := _) rfl rfl (by decide) (v := .bool false) (congrArg Value.bool h1) (Or.inl rfl) ?_
   refine WpT_guard_no (oj := _) rfl rfl (by decide) (v := .bool false) (congrArg Value.bool h1) (Or.inl rfl) ?_
   refine WpT_guard_no (oj := _) rfl rfl (by decide) (v := .bool false) (congrArg Value.bool h1) (Or.inl rfl) ?_
   refine WpT_guard_no (oj := _) rfl rfl (by decide) (v := .bool false) (congrArg Value.bool h1) (Or.inl rfl) ?_
   refine WpT_guard_no (oj := _) rfl rfl (by decide) (v := .bool false) (congrArg Value.bool h1) (Or.inl rfl) ?_
   refine WpT_guard_no (oj := _) rfl rfl (by decide) (v := .bool false) (congrArg Value.bool h1) (Or.inl rfl) ?_
   refine WpT_guard_no (oj := _) rfl rfl (by decide) (v := .bool false) (congrArg Value.bool h1) (Or.inl rfl) ?_
   refine WpT_zero ?_
   refine qV (r_pick (b := decide (((l.length : Int) : Int) = 1)) (v := (.bool false)) rfl (by rw [h1]; rfl)) ?_
   refine WpL_nil ?_
   refine Wp_cond_false rfl ?_
   refine Wp_skip (thn_normal ?_)
   exact ⟨Fits.out ⟨rfl, trivial⟩, E, (by unfold oneB; rw [show decide (l.length = 1) = false from by simp at h1 ⊢; omega]; rfl)⟩
 ·clear E
  rintro _ W1 ⟨⟨j1, rfl⟩, E, h2⟩
  refine Wp_cut (fun σ W5 => (∃ jj_, σ = upds jj_ [(0, (.slice a l.length c))]) ∧ Chg none1 w0 W5 ∧ (allB l = false)) ?_ ?_
  ·skip
   refine Wp_seq_region ?_
   refine qM (.slice a l.length c) rfl ?_
   refine qV (r_lenSlice (ad := a) (n := l.length) (cap := c) Tryz.underlying22 rfl) ?_
   refine qV (r_eql (k := .i64) (a := (l.length : Int)) (b := 1) rfl rfl) ?_
   refine qM (.bool (decide (((l.length : Int) : Int) = 1))) rfl ?_
   rcases Bool.eq_false_or_eq_true (decide ((((l.length : Nat) : Int) : Int) = 1)) with h1 | h1
   ·have kh1 := h1
    replace kh1 := of_decide_eq_true kh1
    have h1' : l.length = 1 := by simp at h1; omega
    obtain ⟨b, o, rfl, hcl⟩ := spans_cells h (by omega)
    obtain ⟨s, hs⟩ := get_of_lt (l := l) (i := 0) (by omega)
    have hg1 : l.getD 0 (0, 0) = s := by rw [List.getD, hs]; rfl
    refine WpL_guard_yes (oj := _) rfl rfl (by decide) (congrArg Value.bool h1) ?_
    refine qM (.slice (some ⟨b, o, none⟩) l.length c) rfl ?_
    refine WpL_guard_yes (oj := _) rfl rfl (by decide) (congrArg Value.bool h1) ?_
    refine qV (r_indexSlice (b := b) (o := o) (len := l.length) (cap := c) (i := 0) (o' := o + 0 * 2) rfl rfl rfl Tryz.underlying22 siz62 (by omega) (by omega)) ?_
    refine WpL_guard_yes (oj := _) rfl rfl (by decide) (congrArg Value.bool h1) ?_
    refine qF b (o + 0 * 2) (o + 0 * 2) rfl Tryz.underlying62 rfl siz3 rfl ?_
    refine WpL_guard_yes (oj := _) rfl rfl (by decide) (congrArg Value.bool h1) ?_
    refine qV (r_load (v := (I6 s.1)) rfl flat3 (E.cell (fun f => f) (hcl 0 s hs 0 _ rfl))) ?_
    refine WpL_guard_yes (oj := _) rfl rfl (by decide) (congrArg Value.bool h1) ?_
    refine qV (r_eql (k := .i64) (a := s.1) (b := 0) rfl rfl) ?_
    refine qV (r_pick (b := decide (((l.length : Int) : Int) = 1)) (v := (.bool (decide ((s.1 : Int) = 0)))) rfl (by rw [h1]; rfl)) ?_
    refine qM (.bool (decide ((s.1 : Int) = 0))) rfl ?_
    rcases Bool.eq_false_or_eq_true (decide ((s.1 : Int) = 0)) with hz | hz
    ·have khz := hz
     replace khz := of_decide_eq_true khz
     refine WpL_guard_yes (oj := _) rfl rfl (by decide) (congrArg Value.bool hz) ?_
     refine qM (.slice (some ⟨b, o, none⟩) l.length c) rfl ?_
     refine WpL_guard_yes (oj := _) rfl rfl (by decide) (congrArg Value.bool hz) ?_
     refine qV (r_indexSlice (b := b) (o := o) (len := l.length) (cap := c) (i := 0) (o' := o + 0 * 2) rfl rfl rfl Tryz.underlying22 siz62 (by omega) (by omega)) ?_
     refine WpL_guard_yes (oj := _) rfl rfl (by decide) (congrArg Value.bool hz) ?_
     refine qF b (o + 0 * 2) (o + 0 * 2 + 1) rfl Tryz.underlying62 rfl siz3 rfl ?_
     refine WpL_guard_yes (oj := _) rfl rfl (by decide) (congrArg Value.bool hz) ?_
     refine qV (r_load (v := (I6 s.2)) rfl flat3 (E.cell (fun f => f) (hcl 0 s hs 1 _ rfl))) ?_
     refine WpL_guard_yes (oj := _) rfl rfl (by decide) (congrArg Value.bool hz) ?_
     refine qV (r_eql (k := .i64) (a := s.2) (b := 1114111) rfl rfl) ?_
     refine qV (r_pick (b := decide ((s.1 : Int) = 0)) (v := (.bool (decide ((s.2 : Int) = 1114111)))) rfl (by rw [hz]; rfl)) ?_
     refine WpL_nil ?_
     refine Wp_cond (b := decide ((s.2 : Int) = 1114111)) rfl (fun hm => ?_) (fun hm => ?_)
     ·have khm := hm
      replace hm := of_decide_eq_true hm
      refine Wp_seq_region ?_
      refine qA (.string (ByteArray.mk #[46])) rfl ?_
      refine WpL_nil (Wp_ret (thn_ret ?_))
      refine fin_tmp Tryz.results41 (v := (.string (ByteArray.mk #[46]))) rfl ?_
      exact ⟨by rw [setT_eq, if_neg (by rw [h2]; decide), if_pos (by unfold allB; rw [hg1]; simp only [Bool.and_eq_true, decide_eq_true_eq] at hz hm ⊢; omega)]; rfl, E⟩
     ·have khm := hm
      replace hm := of_decide_eq_false hm
      refine Wp_skip (thn_normal ?_)
      exact ⟨Fits.out ⟨rfl, trivial⟩, E, (by unfold allB; rw [hg1]; simp only [Bool.and_eq_false_iff, decide_eq_false_iff_not] at hm ⊢; omega)⟩
    ·have khz := hz
     replace khz := of_decide_eq_false khz
     refine WpL_guard_no (oj := _) rfl rfl (by decide) (v := .bool false) (congrArg Value.bool hz) (Or.inl rfl) ?_
     refine WpL_guard_no (oj := _) rfl rfl (by decide) (v := .bool false) (congrArg Value.bool hz) (Or.inl rfl) ?_
     refine WpL_guard_no (oj := _) rfl rfl (by decide) (v := .bool false) (congrArg Value.bool hz) (Or.inl rfl) ?_
     refine WpL_guard_no (oj := _) rfl rfl (by decide) (v := .bool false) (congrArg Value.bool hz) (Or.inl rfl) ?_
     refine WpL_guard_no (oj := _) rfl rfl (by decide) (v := .bool false) (congrArg Value.bool hz) (Or.inl rfl) ?_
     refine qV (r_pick (b := decide ((s.1 : Int) = 0)) (v := (.bool false)) rfl (by rw [hz]; rfl)) ?_
     refine WpL_nil ?_
     refine Wp_cond_false rfl ?_
     refine Wp_skip (thn_normal ?_)
     exact ⟨Fits.out ⟨rfl, trivial⟩, E, (by unfold allB; rw [hg1]; simp only [Bool.and_eq_false_iff, decide_eq_false_iff_not] at hz ⊢; omega)⟩
   ·have kh1 := h1
    replace kh1 := of_decide_eq_false kh1
    refine WpL_guard_no (oj := _) rfl rfl (by decide) (v := .bool false) (congrArg Value.bool h1) (Or.inl rfl) ?_
    refine WpL_guard_no (oj := _) rfl rfl (by decide) (v := .bool false) (congrArg Value.bool h1) (Or.inl rfl) ?_
    refine WpL_guard_no (oj := _) rfl rfl (by decide) (v := .bool false) (congrArg Value.bool h1) (Or.inl rfl) ?_
    refine WpL_guard_no (oj := _) rfl rfl (by decide) (v := .bool false) (congrArg Value.bool h1) (Or.inl rfl) ?_
    refine WpL_guard_no (oj := _) rfl rfl (by decide) (v := .bool false) (congrArg Value.bool h1) (Or.inl rfl) ?_
    refine qV (r_pick (b := decide (((l.length : Int) : Int) = 1)) (v := (.bool false)) rfl (by rw [h1]; rfl)) ?_
    refine qM (.bool false) rfl ?_
    refine WpL_guard_no (oj := _) rfl rfl (by decide) (v := .bool false) rfl (Or.inl rfl) ?_
    refine WpL_guard_no (oj := _) rfl rfl (by decide) (v := .bool false) rfl (Or.inl rfl) ?_
    refine WpL_guard_no (oj := _) rfl rfl (by decide) (v := .bool false) rfl (Or.inl rfl) ?_
    refine WpL_guard_no (oj := _) rfl rfl (by decide) (v := .bool false) rfl (Or.inl rfl) ?_
    refine WpL_guard_no (oj := _) rfl rfl (by decide) (v := .bool false) rfl (Or.inl rfl) ?_
    refine qV (r_pick (b := false) (v := (.bool false)) rfl rfl) ?_
    refine WpL_nil ?_
    refine Wp_cond_false rfl ?_
    refine Wp_skip (thn_normal ?_)
    exact ⟨Fits.out ⟨rfl, trivial⟩, E, (by unfold allB; rw [show decide (l.length = 1) = false from by simp at h1 ⊢; omega]; rfl)⟩
  ·clear E
   rintro _ W5 ⟨⟨j5, rfl⟩, E, h3⟩
   refine Wp_seq_region ?_
   refine qA (.string (ByteArray.mk #[91])) rfl ?_
   refine WpL_nil (Wp_seq (Wp_seq_region ?_))
   refine qM (.slice a l.length c) rfl ?_
   refine qV (r_lenSlice (ad := a) (n := l.length) (cap := c) Tryz.underlying22 rfl) ?_
   refine qM (I6 0) rfl ?_
   refine WpL_nil (Wp_block ?_)
   refine Wp_loop (fun nn_ σ W9 => ∃ (k : Nat), (∃ jj_, σ = upds jj_ [(42, (.slice a l.length c)), (43, (I6 (l.length : Int))), (44, (I6 (k : Int))), (3, (.string (bS ([91] ++ spsT (l.take k)))))]) ∧ Chg none1 w0 W9 ∧ (k ≤ l.length) ∧ nn_ = l.length - k) (n := l.length - 0) ?_ ?_
   ·exact ⟨0, Fits.out ⟨rfl, rfl, rfl, rfl, trivial⟩, E, Nat.zero_le _, rfl⟩
   ·clear E
    rintro _ _ W9 ⟨k, ⟨j9, rfl⟩, E, hk, rfl⟩
    refine Wp_seq_region ?_
    refine qV (r_lss (k := .i64) (a := (k : Int)) (b := (l.length : Int)) rfl rfl) ?_
    refine WpL_nil (Wp_seq ?_)
    refine Wp_cond (b := decide (((k : Int) : Int) < (l.length : Int))) rfl (fun hlt => ?_) (fun hlt => ?_)
    ·have khlt := hlt
     replace hlt := of_decide_eq_true hlt
     obtain ⟨s, hs⟩ := get_of_lt (l := l) (i := k) (by omega)
     obtain ⟨b, o, rfl, hcl⟩ := spans_cells h (by omega)
     have hs1 := hok s (List.mem_of_getElem? hs)
     unfold vSp at hs1
     have l1 := spsT_len (l := l.take k) (fun q hq => hok q (List.mem_of_mem_take hq))
     have l2 := escC_len (c := s.1) (by omega)
     have l3 := escC_len (c := s.2) (by omega)
     rw [List.length_take] at l1
     refine Wp_skip (thn_normal (Wp_seq (Wp_block (Wp_seq_region ?_))))
     refine qV (r_indexSlice (b := b) (o := o) (len := l.length) (cap := c) (i := k) (o' := o + k * 2) rfl rfl rfl Tryz.underlying22 siz62 (by omega) (by omega)) ?_
     refine qV (r_loadAgg (vs := [(I6 s.1), (I6 s.2)]) rfl agg62 siz62 rfl ((hcl k s hs).ext E)) ?_
     refine s_allocStore (v := (.agg #[(I6 s.1), (I6 s.2)])) (c := #[(I6 s.1), (I6 s.2)]) (n := 2) (by decide) zer62 rfl siz62 rfl rfl rfl (by simp [Value.oneCell']) ?_
     intro bz wz Nz
     have Fz := Nz.ge E
     replace E := E.ext Nz.ext
     have Bz := Nz.blk
     refine WpL_nil (Wp_seq_region ?_)
     refine qM (.string (bS ([91] ++ spsT (l.take k)))) rfl ?_
     refine qF bz 0 0 rfl Tryz.underlying62 rfl siz3 rfl ?_
     refine qV (r_load (v := (I6 s.1)) rfl flat3 (Bz.cell rfl)) ?_
     refine WpL_enter rfl rfl (by decide) (r_callF (vs := [(I6 s.1)]) Tryz.func69 nm69 bd69 rfl) (esc_c _ s.1 (by omega) (by omega) (hT.ext E)) ?_
     rintro _ w9 ⟨rfl, X9⟩
     replace Bz := X9.keep Bz
     replace E := E.ext X9
     refine qV (r_bSAdd (l := [91] ++ spsT (l.take k)) (m := escC s.1) rfl rfl rfl (by simp only [List.length_append, List.length_cons, List.length_nil]; omega)) ?_
     refine qA (.string (bS ([91] ++ spsT (l.take k) ++ escC s.1))) rfl ?_
     refine WpL_nil ?_
     refine Wp_cut (fun σ W11 => ∃ (m : Bys), (∃ jj_, σ = upds jj_ [(5, (P6 bz 0)), (42, (.slice (some ⟨b, o, none⟩) l.length c)), (43, (I6 (l.length : Int))), (44, (I6 (k : Int))), (3, (.string (bS m)))]) ∧ Chg none1 w0 W11 ∧ Blk W11 bz #[(I6 s.1), (I6 s.2)] 62 ∧ (m = [91] ++ spsT (l.take k) ++ escC s.1 ++ (if s.1 + 1 < s.2 then [45] else [])) ∧ (m.length ≤ 12 + 21 * l.length)) ?_ ?_
     ·skip
      refine Wp_seq_region ?_
      refine qF bz 0 1 rfl Tryz.underlying62 rfl siz3 rfl ?_
      refine qV (r_load (v := (I6 s.2)) rfl flat3 (Bz.cell rfl)) ?_
      refine qF bz 0 0 rfl Tryz.underlying62 rfl siz3 rfl ?_
      refine qV (r_load (v := (I6 s.1)) rfl flat3 (Bz.cell rfl)) ?_
      refine qV (r_add (k := .i64) (a := s.1) (b := 1) (c := s.1 + 1) rfl rfl (wI64 (by omega))) ?_
      refine qV (r_gtr (k := .i64) (a := s.2) (b := s.1 + 1) rfl rfl) ?_
      refine WpL_nil ?_
      refine Wp_cond (b := decide ((s.1 + 1 : Int) < s.2)) rfl (fun hd => ?_) (fun hd => ?_)
      ·have khd := hd
       replace hd := of_decide_eq_true hd
       refine Wp_region ?_
       refine qM (.string (bS ([91] ++ spsT (l.take k) ++ escC s.1))) rfl ?_
       refine qV (r_bSAdd (l := [91] ++ spsT (l.take k) ++ escC s.1) (m := [45]) rfl rfl rfl (by simp only [List.length_append, List.length_cons, List.length_nil]; omega)) ?_
       refine qA (.string (bS ([91] ++ spsT (l.take k) ++ escC s.1 ++ [45]))) rfl ?_
       refine WpL_nil (thn_normal ?_)
       exact ⟨[91] ++ spsT (l.take k) ++ escC s.1 ++ [45], Fits.out ⟨rfl, rfl, rfl, rfl, rfl, trivial⟩, E, Bz, (by rw [if_pos hd]), (by simp only [List.length_append, List.length_cons, List.length_nil]; omega)⟩
      ·have khd := hd
       replace hd := of_decide_eq_false hd
       refine Wp_skip (thn_normal ?_)
       exact ⟨[91] ++ spsT (l.take k) ++ escC s.1, Fits.out ⟨rfl, rfl, rfl, rfl, rfl, trivial⟩, E, Bz, (by rw [if_neg hd, List.append_nil]), (by simp only [List.length_append, List.length_cons, List.length_nil]; omega)⟩
     ·clear E Bz
      rintro _ W11 ⟨m, ⟨j11, rfl⟩, E, Bz, hm, hml⟩
      refine Wp_seq_region ?_
      refine qF bz 0 1 rfl Tryz.underlying62 rfl siz3 rfl ?_
      refine qV (r_load (v := (I6 s.2)) rfl flat3 (Bz.cell rfl)) ?_
      refine qF bz 0 0 rfl Tryz.underlying62 rfl siz3 rfl ?_
      refine qV (r_load (v := (I6 s.1)) rfl flat3 (Bz.cell rfl)) ?_
      refine qV (r_gtr (k := .i64) (a := s.2) (b := s.1) rfl rfl) ?_
      refine WpL_nil ?_
      refine Wp_cond (b := decide ((s.1 : Int) < s.2)) rfl (fun hd2 => ?_) (fun hd2 => ?_)
      ·have khd2 := hd2
       replace hd2 := of_decide_eq_true hd2
       refine Wp_region ?_
       refine qM (.string (bS m)) rfl ?_
       refine qF bz 0 1 rfl Tryz.underlying62 rfl siz3 rfl ?_
       refine qV (r_load (v := (I6 s.2)) rfl flat3 (Bz.cell rfl)) ?_
       refine WpL_enter rfl rfl (by decide) (r_callF (vs := [(I6 s.2)]) Tryz.func69 nm69 bd69 rfl) (esc_c _ s.2 (by omega) (by omega) (hT.ext E)) ?_
       rintro _ w19 ⟨rfl, X19⟩
       replace Bz := X19.keep Bz
       replace E := E.ext X19
       have hnx : m ++ escC s.2 = [91] ++ spsT (l.take (k + 1)) := by rw [hm, spsT_take hs]; unfold spT; rw [if_pos hd2]; simp
       refine qV (r_bSAdd (l := m) (m := escC s.2) (n := [91] ++ spsT (l.take (k + 1))) rfl rfl hnx (by rw [← hnx, List.length_append]; omega)) ?_
       refine qA (.string (bS ([91] ++ spsT (l.take (k + 1))))) rfl ?_
       refine WpL_nil (inB_normal (thn_normal (Wp_region ?_)))
       refine qV (r_add (k := .i64) (a := (k : Int)) (b := 1) (c := (k : Int) + 1) rfl rfl (wI64 (by omega))) ?_
       refine qM (I6 ((k : Int) + 1)) rfl ?_
       refine WpL_nil (thn_normal ?_)
       exact ⟨l.length - (k + 1), by omega, k + 1, Fits.out ⟨rfl, rfl, rfl, rfl, trivial⟩, E, (by omega), rfl⟩
      ·have khd2 := hd2
       replace hd2 := of_decide_eq_false hd2
       have hnx : m = [91] ++ spsT (l.take (k + 1)) := by rw [hm, spsT_take hs]; unfold spT; rw [if_neg hd2]; simp
       subst hnx
       refine Wp_skip (inB_normal (thn_normal (Wp_region ?_)))
       refine qV (r_add (k := .i64) (a := (k : Int)) (b := 1) (c := (k : Int) + 1) rfl rfl (wI64 (by omega))) ?_
       refine qM (I6 ((k : Int) + 1)) rfl ?_
       refine WpL_nil (thn_normal ?_)
       exact ⟨l.length - (k + 1), by omega, k + 1, Fits.out ⟨rfl, rfl, rfl, rfl, trivial⟩, E, (by omega), rfl⟩
    ·have khlt := hlt
     replace hlt := of_decide_eq_false hlt
     have hke : l.take k = l := List.take_of_length_le (by omega)
     refine Wp_exit (thn_exit (thn_exit (inB_here (thn_normal (Wp_seq_region ?_)))))
     refine qM (.string (bS ([91] ++ spsT (l.take k)))) rfl ?_
     refine qV (r_bSAdd (l := [91] ++ spsT l) (m := [93]) (by rw [hke] at *; rfl) rfl rfl (by simp only [List.length_append, List.length_cons, List.length_nil]; omega)) ?_
     refine qA (.string (bS ([91] ++ spsT l ++ [93]))) rfl ?_
     refine WpL_nil (Wp_ret ?_)
     refine fin_tmp Tryz.results41 (v := (.string (bS ([91] ++ spsT l ++ [93])))) rfl ?_
     exact ⟨by rw [setT_eq, if_neg (by rw [h2]; decide), if_neg (by rw [h3]; decide)], E⟩
end Go.Proofs
namespace Go.Proofs
open Go Go.Eng Go.Sort
set_option linter.unusedSectionVars false
variable [Drw]
set_option maxRecDepth 100000
structure VSp where
 s : Sp
 ok : vSp s
instance : Inhabited VSp := ⟨⟨(0, 0), by unfold vSp; simp⟩⟩
def encV (s : VSp) : List Value := spanV s.s
theorem sortW_chg {α : Type} [Inhabited α] (enc : α → List Value) (k : Nat) (w : World) (g off m : Nat) (dk : Array α) (os : Array Obj) : Chg (fun x => x = g) w (sortWorldK enc k w g off m dk os) := by
 refine ⟨rfl, rfl, rfl, .of (Nat.le_add_right _ _), ?_, fun b hb hne => ?_⟩
 ·simp [sortWorldK, grow, putRowK, putRow, mapBlock, ahead]
 ·simp only [sortWorldK, grow, putRowK, putRow, mapBlock, ahead]
  rw [Array.getElem?_append_left (by simpa using hb), Array.getElem?_modify, if_neg (fun h => hne h.symm)]; rfl
theorem own_holds {w : World} {base g n c : Nat} {d : List VSp} (h : w.ownsRow base TSp 2 (.slice (some ⟨g, 0, none⟩) n c) n ((d.map VSp.s).map spanV).flatten) (hn : d.length = n) : HoldsK encV 2 w g 0 d.toArray := by
 have hat : SpansAt w (.slice (some ⟨g, 0, none⟩) n c) (d.map VSp.s) := own_slat h (by intro x hx; simp only [List.mem_map] at hx; obtain ⟨p, _, rfl⟩ := hx; rfl) (by simpa using hn) (by decide)
 intro j hj
 rw [size_flatK] at hj
 simp only [List.size_toArray] at hj
 have hj2 : j / 2 < d.length := by omega
 obtain ⟨b, o, hab, hcl⟩ := spans_cells hat (by omega)
 simp only [Option.some.injEq, Addr.mk.injEq, and_true] at hab
 obtain ⟨rfl, rfl⟩ := hab
 have hx : (d.map VSp.s)[j / 2]? = some d[j / 2].s := by rw [List.getElem?_map, List.getElem?_eq_getElem hj2]; rfl
 have hc := hcl (j / 2) _ hx
 rw [get_flatK _ _ _ _ (by simpa using hj)]
 have he : d.toArray[j / 2]! = d[j / 2] := by rw [getElem!_pos d.toArray (j / 2) (by simpa using hj2)]; simp
 rw [he]
 constructor
 ·rcases Nat.mod_two_eq_zero_or_one j with h2 | h2
  ·have := hc.at0
   rw [h2]
   rw [show 0 + j / 2 * 2 = 0 + j from by omega] at this
   simpa [encV, spanV] using this
  ·have := hc.at1
   rw [h2]
   rw [show 0 + j / 2 * 2 + 1 = 0 + j from by omega] at this
   simpa [encV, spanV] using this
 ·rcases h.2 with ⟨h1, _⟩ | ⟨g', cap, cur, hv, _, hg, _⟩
  ·simp at h1
  ·simp only [Value.slice.injEq, Option.some.injEq, Addr.mk.injEq, and_true] at hv
   obtain ⟨rfl, _⟩ := hv
   simp [World.frozen?, hg]
theorem holds_spans {w : World} {g n c : Nat} {d : Array VSp} (h : HoldsK encV 2 w g 0 d) (hn : d.size = n) (hc : n ≤ c) (hl : n ≤ 8796093022208) : SpansAt w (.slice (some ⟨g, 0, none⟩) n c) (d.toList.map VSp.s) := by
  refine ⟨_, c, by simp [hn], by simp; omega, by simp; omega, .inr ⟨g, 0, rfl, fun i r hr j u hu => ?_⟩⟩
  simp only [List.getElem?_map, Option.map_eq_some_iff] at hr
  obtain ⟨s, ⟨x, hx, rfl⟩, rfl⟩ := hr
  have hi : i < d.size := by have := lt_of_get hx; simpa using this
  have hj : j < 2 := by have := lt_of_get hu; simpa [spanV] using this
  have h1 := (HoldsK.cell h hi hj).1
  have he : d[i]! = x := by
    rw [getElem!_pos d i hi]
    rw [Array.getElem?_toList, Array.getElem?_eq_getElem hi] at hx
    simpa using hx
  rw [h1, he]
  match j, hj, hu with
  | 0, _, hu => simpa [encV, spanV] using hu
  | 1, _, hu => simpa [encV, spanV] using hu
theorem enters_callee {P : Program} {f : FuncId} {fn : Func} (hf : P.funcs[f]? = some fn) (hn : (fn.name == "runtime.NumGoroutine") = false) (hb : fn.body.isNone = false) : ∀ args w, (callFunc f args).run P w = .ok (.enter f args) w := fun args w => run_callF (vs := args) (w := w) hf hn hb
theorem bitsLen_c (w0 : World) : Ret Tryz.prog 148 #[.int .u64 0] w0 fun v w => v = .int .i64 (Lib.bitLen 0 : Nat) ∧ Ext w0 w :=
 (Any.bits_Len (SlLaysF0.n15.bits (P := Tryz.prog) (ρ := Tryz.sortSp_ren) { Tryz.sortSp with }) 0 w0 (by omega) (by omega)).mono fun _ _ ⟨he, hw⟩ => ⟨_, he, rfl, by rw [hw]; exact Ext.refl _⟩
theorem ins0_c (w0 : World) (a : Option Addr) (c : Nat) (fv : Value) : Ret Tryz.prog 171 #[.slice a 0 c, .int .i64 0, .int .i64 0, fv] w0 fun v w => v = .tuple #[] ∧ Ext w0 w := by
 refine Ret_of Tryz.func171 rfl Tryz.ntmps171 (Nat.le_of_ble_eq_true rfl) ?_
 have E : Chg none1 w0 w0 := Chg.refl _ _
 refine Wp_seq_region ?_
 refine qM (I6 0) rfl ?_
 refine qV (r_add (k := .i64) (a := 0) (b := 1) (c := 1) rfl rfl (by decide)) ?_
 refine qA (I6 1) rfl ?_
 refine WpL_nil (Wp_block ?_)
 refine Wp_loop (fun nn_ σ W1 => (∃ jj_, σ = upds jj_ [(0, (.slice a 0 c)), (1, (I6 0)), (2, (I6 0)), (3, fv), (8, (I6 1))]) ∧ Chg none1 w0 W1 ∧ nn_ = (0 : Nat)) (n := (0 : Nat)) ?_ ?_
 ·exact ⟨Fits.out ⟨rfl, rfl, rfl, rfl, rfl, trivial⟩, E, rfl⟩
 ·clear E
  rintro _ _ W1 ⟨⟨j1, rfl⟩, E, rfl⟩
  refine Wp_seq (Wp_seq_region ?_)
  refine qM (I6 1) rfl ?_
  refine qM (I6 0) rfl ?_
  refine qV (r_lss (k := .i64) (a := 1) (b := 0) rfl rfl) ?_
  refine WpL_nil ?_
  refine Wp_cond_false rfl ?_
  refine Wp_exit (thn_exit (thn_exit (inB_here ?_)))
  refine fin_none Tryz.results171 ?_
  exact ⟨rfl, E⟩
theorem pdq0_c (w0 : World) (a : Option Addr) (c : Nat) (n : Int) (fv : Value) : Ret Tryz.prog 149 #[.slice a 0 c, .int .i64 0, .int .i64 0, .int .i64 n, fv] w0 fun v w => v = .tuple #[] ∧ Ext w0 w := by
 refine Ret_of Tryz.func149 rfl Tryz.ntmps149 (Nat.le_of_ble_eq_true rfl) ?_
 have E : Chg none1 w0 w0 := Chg.refl _ _
 refine Wp_seq_region ?_
 refine qA (.bool true) rfl ?_
 refine WpL_nil (Wp_seq_region ?_)
 refine qA (.bool true) rfl ?_
 refine WpL_nil (Wp_block ?_)
 refine Wp_loop (fun nn_ σ W1 => (∃ jj_, σ = upds jj_ [(0, (.slice a 0 c)), (1, (I6 0)), (2, (I6 0)), (4, fv)]) ∧ Chg none1 w0 W1 ∧ nn_ = (0 : Nat)) (n := (0 : Nat)) ?_ ?_
 ·exact ⟨Fits.out ⟨rfl, rfl, rfl, rfl, trivial⟩, E, rfl⟩
 ·clear E
  rintro _ _ W1 ⟨⟨j1, rfl⟩, E, rfl⟩
  refine Wp_block (Wp_seq_region ?_)
  refine qM (I6 0) rfl ?_
  refine qM (I6 0) rfl ?_
  refine qV (r_sub (k := .i64) (a := 0) (b := 0) (c := 0) rfl rfl (by decide)) ?_
  refine qA (I6 0) rfl ?_
  refine WpL_nil (Wp_seq (Wp_seq_region ?_))
  refine qM (I6 0) rfl ?_
  refine qV (r_leq (k := .i64) (a := 0) (b := 12) rfl rfl) ?_
  refine WpL_nil ?_
  refine Wp_cond_true rfl ?_
  refine Wp_seq_region ?_
  refine qM (.slice a 0 c) rfl ?_
  refine qM (I6 0) rfl ?_
  refine qM (I6 0) rfl ?_
  refine qM fv rfl ?_
  refine WpL_enter rfl rfl (by decide) (r_callF (vs := [(.slice a 0 c), (I6 0), (I6 0), fv]) Tryz.func171 nm171 bd171 rfl) (ins0_c _ a c fv) ?_
  rintro _ w9 ⟨rfl, X9⟩
  replace E := E.ext X9
  refine WpL_nil (Wp_ret (thn_ret (inB_ret (thn_ret (inB_ret ?_)))))
  refine fin_noneR Tryz.results149 ?_
  exact ⟨rfl, E⟩
theorem sort0_c (w0 : World) (a : Option Addr) (c : Nat) (fv : Value) : Ret Tryz.prog 143 #[.slice a 0 c, fv] w0 fun v w => v = .tuple #[] ∧ Ext w0 w := by
 refine Ret_of Tryz.func143 rfl Tryz.ntmps143 (Nat.le_of_ble_eq_true rfl) ?_
 have E : Chg none1 w0 w0 := Chg.refl _ _
 refine Wp_seq_region ?_
 refine qM (.slice a 0 c) rfl ?_
 refine qV (r_lenSlice (ad := a) (n := 0) (cap := c) Tryz.underlying22 rfl) ?_
 refine qA (I6 0) rfl ?_
 refine WpL_nil (Wp_region ?_)
 refine qM (.slice a 0 c) rfl ?_
 refine qM (I6 0) rfl ?_
 refine qM (I6 0) rfl ?_
 refine qV (r_convInt (k := .i64) (k' := .u64) (n := 0) (c := 0) ⟨_, Tryz.underlying3⟩ Tryz.underlying84 rfl (wU64 (by omega))) ?_
 refine WpL_enter rfl rfl (by decide) (r_callF (vs := [(.int .u64 0)]) Tryz.func148 nm148 bd148 rfl) (bitsLen_c _) ?_
 rintro _ w8 ⟨rfl, X8⟩
 replace E := E.ext X8
 refine qM fv rfl ?_
 refine WpL_enter rfl rfl (by decide) (r_callF (vs := [(.slice a 0 c), (I6 0), (I6 0), (I6 (Lib.bitLen 0 : Nat)), fv]) Tryz.func149 nm149 bd149 rfl) (pdq0_c _ a c _ fv) ?_
 rintro _ w9 ⟨rfl, X9⟩
 replace E := E.ext X9
 refine WpL_nil ?_
 refine fin_none Tryz.results143 ?_
 exact ⟨rfl, E⟩
theorem sorts_c (cf : VSp → VSp → Int) (hO : SWO (ltOf cf)) {f : FuncId} {fn : Func} (hf : (Tryz.prog).funcs[f]? = some fn) (hn : (fn.name == "runtime.NumGoroutine") = false) (hb : fn.body.isNone = false)
  (hcmp : ∀ (W : World) (x y : VSp), Ret Tryz.prog f #[.agg #[.int .i64 x.s.1, .int .i64 x.s.2], .agg #[.int .i64 y.s.1, .int .i64 y.s.2]] W fun v w => v = .int .i64 (cf x y) ∧ ExtT W w)
  (w0 : World) (base : Nat) (v : Value) (l : List Sp) (h : OwnS w0 base v l) (hl : l.length ≤ 8796093022208) (hok : ∀ s ∈ l, vSp s) :
  Ret Tryz.prog 143 #[v, .func (.func f) #[] #[]] w0 fun r w => r = .tuple #[] ∧ (∃ l' : List VSp, (l'.map VSp.s).Perm l ∧ l'.Pairwise (fun s t => ¬ cf t s < 0) ∧ SpansAt w v (l'.map VSp.s)) ∧ Chg (fun x => v.ownBlock = some x) w0 w := by
 have eg := enters_callee hf hn hb
 obtain ⟨d, rfl⟩ : ∃ d : List VSp, d.map VSp.s = l := ⟨l.pmap VSp.mk hok, by rw [List.map_pmap]; simp⟩
 have ht : ∀ w, (isAgg (Tryz.sortSp_ren.t 24)).run Tryz.prog w = .ok true w := fun w => aggB.run agg62 w
 have hs : ∀ w, (Go.sizeOf (Tryz.sortSp_ren.t 24)).run Tryz.prog w = .ok 2 w := fun w => siz62.run w
 rcases h.2.2 with ⟨rfl, h0⟩ | ⟨g, cap, cur, rfl, hbg, hg, hnc, hcm, hcs, htake⟩
 ·have hd : d = [] := List.eq_nil_of_length_eq_zero (by simpa using h0)
  subst hd
  exact (sort0_c w0 none 0 (.func (.func f) #[] #[])).mono fun v w' ⟨hv, hw⟩ => ⟨hv, ⟨[], List.Perm.refl _, List.Pairwise.nil, SlAt.nil _ _ _ _⟩, Ext.chg hw⟩
 ·simp only [List.length_map] at *
  have hH := own_holds (d := d) (n := d.length) (by have := h.2; rwa [List.length_map] at this) rfl
  have hblk : g < w0.heap.size := (Array.getElem?_eq_some_iff.1 hg).1
  have hc : CmpLays Tryz.prog f #[] encV 2 cf g 0 d.toArray.size w0 := fun m os dk _ x y => by
   refine Calls.mono (hcmp _ x y) ?_
   rintro e w' ⟨v, rfl, rfl, hx⟩
   obtain ⟨q, os', hw⟩ := Ext.grown hx
   exact ⟨rfl, q, os', hw⟩
  have hcon := AnyQ.slices_SortFunc Tryz.sortSp 2 ht hs encV (fun _ => rfl) (fun x u hu => by simp [encV, spanV] at hu; rcases hu with rfl | rfl <;> rfl) cf hO f #[] g 0 cap d.toArray w0 eg hc hH hblk (by simp; omega)
  refine Calls.mono hcon ?_
  rintro e w' ⟨rfl, d', n, os, hp, hso, rfl⟩
  have hsz : d'.size = d.length := by have := hp.1; simpa using this
  have hperm : d'.toList.Perm d := by
   have h3 := hp.2.2
   simp only [List.size_toArray] at h3
   rw [show d.length = d'.size from hsz.symm, Array.extract_size] at h3
   rw [hsz] at h3
   simpa using h3
  refine ⟨_, rfl, rfl, ⟨d'.toList, hperm.map _, ?_, ?_⟩, (sortW_chg encV 2 w0 g 0 n d' os).mono fun x _ hx => by subst hx; rfl⟩
  ·rw [List.pairwise_iff_getElem]
   intro i j hi hj hij
   have h4 := hso i j (Nat.zero_le _) hij (by simp at hj ⊢; omega)
   simp only [Array.length_toList] at hi hj
   rw [getElem!_pos d' i hi, getElem!_pos d' j hj] at h4
   simpa [ltOf] using h4
  ·exact holds_spans (holdsK_sortWorldK_c encV 2 w0 g 0 d.toArray d' n os hH hblk (by simpa using hsz)) hsz hnc hl
end Go.Proofs
namespace Go.Proofs
open Go Go.Eng Go.Sort
set_option linter.unusedSectionVars false
variable [Drw]
set_option maxRecDepth 100000
def orL : List Int → Int
  | [] => 0
  | x :: r => if x ≠ 0 then x else orL r
theorem sor_c (w0 : World) (v : Value) (l : List Int) (h : IntsAt w0 v l) : Ret Tryz.prog 150 #[v] w0 fun r w => r = .int .i64 (orL l) ∧ Ext w0 w := by
 obtain ⟨a, c, rfl⟩ := SlAt.form h
 have hlen : l.length ≤ 9223372036854775807 := by simpa using SlAt.le h
 simp only [List.length_map] at h ⊢
 refine Ret_of Tryz.func150 rfl Tryz.ntmps150 (Nat.le_of_ble_eq_true rfl) ?_
 have E : Chg none1 w0 w0 := Chg.refl _ _
 refine Wp_seq_region ?_
 refine qA (I6 0) rfl ?_
 refine WpL_nil (Wp_seq_region ?_)
 refine qA (I6 0) rfl ?_
 refine WpL_nil (Wp_seq (Wp_seq_region ?_))
 refine qM (.slice a l.length c) rfl ?_
 refine qV (r_lenSlice (ad := a) (n := l.length) (cap := c) Tryz.underlying108 rfl) ?_
 refine qM (I6 0) rfl ?_
 refine WpL_nil (Wp_block ?_)
 refine Wp_loop (fun nn_ σ W1 => ∃ (k : Nat), (∃ jj_, σ = upds jj_ [(3, (I6 0)), (6, (.slice a l.length c)), (7, (I6 (l.length : Int))), (8, (I6 (k : Int)))]) ∧ Chg none1 w0 W1 ∧ (k ≤ l.length) ∧ (orL (l.drop k) = orL l) ∧ nn_ = l.length - k) (n := l.length - 0) ?_ ?_
 ·exact ⟨0, Fits.out ⟨rfl, rfl, rfl, rfl, trivial⟩, E, Nat.zero_le _, rfl, rfl⟩
 ·clear E
  rintro _ _ W1 ⟨k, ⟨j1, rfl⟩, E, hk, ho, rfl⟩
  refine Wp_seq_region ?_
  refine qV (r_lss (k := .i64) (a := (k : Int)) (b := (l.length : Int)) rfl rfl) ?_
  refine WpL_nil (Wp_seq ?_)
  refine Wp_cond (b := decide (((k : Int) : Int) < (l.length : Int))) rfl (fun hlt => ?_) (fun hlt => ?_)
  ·have khlt := hlt
   replace hlt := of_decide_eq_true hlt
   obtain ⟨x, hx⟩ := get_of_lt (l := l) (i := k) (by omega)
   obtain ⟨b, o, rfl, hcl⟩ := ints_cells h (by omega)
   rw [drop_cons hx] at ho
   refine Wp_skip (thn_normal (Wp_seq (Wp_block (Wp_seq_region ?_))))
   refine qV (r_indexSlice (b := b) (o := o) (len := l.length) (cap := c) (i := k) (o' := o + k) rfl rfl rfl Tryz.underlying108 siz3 (by omega) (by omega)) ?_
   refine qV (r_load (v := (I6 x)) rfl flat3 (E.cell (fun f => f) (hcl k x hx))) ?_
   refine qA (I6 x) rfl ?_
   refine WpL_nil (Wp_seq_region ?_)
   refine qM (I6 x) rfl ?_
   refine qM (I6 0) rfl ?_
   refine qV (r_neq (k := .i64) (a := x) (b := 0) rfl rfl) ?_
   refine WpL_nil ?_
   refine Wp_cond (b := decide ((x : Int) ≠ 0)) rfl (fun hne => ?_) (fun hne => ?_)
   ·have khne := hne
    replace hne := of_decide_eq_true hne
    refine Wp_seq_region ?_
    refine qM (I6 x) rfl ?_
    refine qA (I6 x) rfl ?_
    refine WpL_nil (Wp_ret (inB_ret (thn_ret (thn_ret (inB_ret (thn_ret ?_))))))
    refine fin_tmp Tryz.results150 (v := (.int .i64 x)) rfl ?_
    exact ⟨int_eq (by rw [← ho, orL, if_pos hne]), E⟩
   ·have khne := hne
    replace hne := of_decide_eq_false hne
    refine Wp_skip (inB_normal (thn_normal (Wp_region ?_)))
    refine qV (r_add (k := .i64) (a := (k : Int)) (b := 1) (c := (k : Int) + 1) rfl rfl (wI64 (by omega))) ?_
    refine qM (I6 ((k : Int) + 1)) rfl ?_
    refine WpL_nil (thn_normal ?_)
    exact ⟨l.length - (k + 1), by omega, k + 1, Fits.out ⟨rfl, rfl, rfl, rfl, trivial⟩, E, (by omega), (by rw [← ho, orL, if_neg hne]), rfl⟩
  ·have khlt := hlt
   replace hlt := of_decide_eq_false hlt
   have hkk : k = l.length := by omega
   refine Wp_exit (thn_exit (thn_exit (inB_here (thn_normal (Wp_seq_region ?_)))))
   refine qM (I6 0) rfl ?_
   refine qA (I6 0) rfl ?_
   refine WpL_nil (Wp_ret ?_)
   refine fin_tmp Tryz.results150 (v := (.int .i64 0)) rfl ?_
   exact ⟨int_eq (by rw [← ho, hkk, List.drop_length]; rfl), E⟩
def ints2F (a b : Int) : Fct := fun v w => ∃ bb, v = .slice (some ⟨bb, 0, none⟩) 2 2 ∧ IntsAt w v [a, b]
theorem ints2F_ext (a b : Int) : Stable (ints2F a b) := by
 rintro v w w' e ⟨bb, h1, h2⟩
 exact ⟨bb, h1, h2.ext e⟩
theorem Does_ints2 {N : Nat} {σ : Env} {w : World} {dst : Option Tmp} {ty : TypeId} {pos : String} {af : Array Edge} {g : Option (Nat × Bool)} {x y : Operand} {a b : Int} (hx : ev σ x = .int .i64 a) (hy : ev σ y = .int .i64 b) :
  Does Tryz.prog N ⟨dst, .buildSlice 108 2 #[(0, x), (1, y)], ty, pos, af, g⟩ (ints2F a b) σ w := by
 have hn := New.mk' w #[.int .i64 a, .int .i64 b] 3
 refine Does_val (run_buildSlice (parts := [(0, x), (1, y)]) (ps := [(0, .int .i64 a), (1, .int .i64 b)]) (by simp only [List.map, hx, hy]) Tryz.underlying108 siz3 zer3 (by decide) (by decide) (by kernel_rfl)) hn.ext ?_
 exact ⟨_, rfl, ints_of_blk [a, b] hn.blk (by simp) (by simp)⟩
end Go.Proofs
namespace Go.Proofs
open Go Go.Eng Go.Sort
set_option linter.unusedSectionVars false
variable [Drw]
set_option maxRecDepth 100000
def cfS (x y : VSp) : Int := orL [cmpI x.s.1 y.s.1, cmpI x.s.2 y.s.2]
theorem cfS_c (w0 : World) (x y : VSp) : Ret Tryz.prog 144 #[.agg #[.int .i64 x.s.1, .int .i64 x.s.2], .agg #[.int .i64 y.s.1, .int .i64 y.s.2]] w0 fun v w => v = .int .i64 (cfS x y) ∧ Ext w0 w := by
 refine Ret_of Tryz.func144 rfl Tryz.ntmps144 (Nat.le_of_ble_eq_true rfl) ?_
 have E : Chg none1 w0 w0 := Chg.refl _ _
 refine Wp_seq_region ?_
 refine s_box (v := (.agg #[(I6 x.s.1), (I6 x.s.2)])) (c := #[(I6 x.s.1), (I6 x.s.2)]) (by decide) rfl rfl ?_
 intro b1 w1 N1
 have F1 := N1.ge E
 replace E := E.ext N1.ext
 have B1 := N1.blk
 refine s_box (v := (.agg #[(I6 y.s.1), (I6 y.s.2)])) (c := #[(I6 y.s.1), (I6 y.s.2)]) (by decide) rfl rfl ?_
 intro b2 w2 N2
 have F2 := N2.ge E
 have O2_b1 := N2.lt B1
 replace B1 := N2.keep B1
 replace E := E.ext N2.ext
 have B2 := N2.blk
 refine qA (I6 0) rfl ?_
 refine WpL_nil (Wp_seq ?_)
 obtain ⟨Fs3, hFs3⟩ : ∃ Fs : List Fact, Fs = [.eq (P6 b1 0), .eq (I6 x.s.1), .eq (P6 b2 0), .eq (I6 y.s.1), .eq (I6 (cmpI x.s.1 y.s.1)), .eq (P6 b1 1), .eq (I6 x.s.2), .eq (P6 b2 1), .eq (I6 y.s.2), .eq (I6 (cmpI x.s.2 y.s.2)), .gen (ints2F (cmpI x.s.1 y.s.1) (cmpI x.s.2 y.s.2)) (ints2F_ext _ _), .eq (I6 (cfS x y)), .eq (I6 (cfS x y))] := ⟨_, rfl⟩
 refine Wp_dagP [true, true, true, true, true, true, true, true, true, true, true, true, true] [] [5, 6, 7, 8, 9, 10, 11, 12, 13, 14, 15, 16, 4] [[], [0], [], [2], [1, 3], [], [5], [], [7], [4, 6, 8], [4, 9], [9, 10], [0, 1, 2, 3, 4, 5, 6, 7, 8, 9, 10, 11]] Fs3 hFs3 mixed (by kernel_rfl) (by kernel_rfl) (by kernel_rfl) (by kernel_rfl) ?_ ?_
 ·intro wd X0
  refine DagStepsP.cons (fun s' w' X U H => Or.inl ⟨?_, ?_⟩) ?_
  ·exact Guarded_none rfl
  ·exact Does_val (r_fieldAddr (b := b1) (o := 0) (o' := 0) (U 2 rfl) Tryz.underlying62 rfl siz3 rfl) (Ext.refl _) rfl
  refine DagStepsP.cons (fun s' w' X U H => Or.inl ⟨?_, ?_⟩) ?_
  ·exact Guarded_none rfl
  ·have e5 : s' 5 = (.pointer (some ⟨b1, 0, none⟩)) := H 0 rfl 5 (.eq (.pointer (some ⟨b1, 0, none⟩))) rfl (by rw [hFs3]; rfl)
   exact Does_val (r_load (v := (I6 x.s.1)) e5 flat3 (((X0.trans X).keep B1).cell rfl)) (Ext.refl _) rfl
  refine DagStepsP.cons (fun s' w' X U H => Or.inl ⟨?_, ?_⟩) ?_
  ·exact Guarded_none rfl
  ·exact Does_val (r_fieldAddr (b := b2) (o := 0) (o' := 0) (U 3 rfl) Tryz.underlying62 rfl siz3 rfl) (Ext.refl _) rfl
  refine DagStepsP.cons (fun s' w' X U H => Or.inl ⟨?_, ?_⟩) ?_
  ·exact Guarded_none rfl
  ·have e7 : s' 7 = (.pointer (some ⟨b2, 0, none⟩)) := H 2 rfl 7 (.eq (.pointer (some ⟨b2, 0, none⟩))) rfl (by rw [hFs3]; rfl)
   exact Does_val (r_load (v := (I6 y.s.1)) e7 flat3 (((X0.trans X).keep B2).cell rfl)) (Ext.refl _) rfl
  refine DagStepsP.cons (fun s' w' X U H => Or.inl ⟨?_, ?_⟩) ?_
  ·exact Guarded_none rfl
  ·have e6 : s' 6 = (.int .i64 x.s.1) := H 1 rfl 6 (.eq (.int .i64 x.s.1)) rfl (by rw [hFs3]; rfl)
   have e8 : s' 8 = (.int .i64 y.s.1) := H 3 rfl 8 (.eq (.int .i64 y.s.1)) rfl (by rw [hFs3]; rfl)
   exact Does_enter (r_callF (vs := [(I6 x.s.1), (I6 y.s.1)]) Tryz.func151 nm151 bd151 (lst2 e6 e8)) (compare_c _ _ _)
  refine DagStepsP.cons (fun s' w' X U H => Or.inl ⟨?_, ?_⟩) ?_
  ·exact Guarded_none rfl
  ·exact Does_val (r_fieldAddr (b := b1) (o := 0) (o' := 1) (U 2 rfl) Tryz.underlying62 rfl siz3 rfl) (Ext.refl _) rfl
  refine DagStepsP.cons (fun s' w' X U H => Or.inl ⟨?_, ?_⟩) ?_
  ·exact Guarded_none rfl
  ·have e10 : s' 10 = (.pointer (some ⟨b1, 1, none⟩)) := H 5 rfl 10 (.eq (.pointer (some ⟨b1, 1, none⟩))) rfl (by rw [hFs3]; rfl)
   exact Does_val (r_load (v := (I6 x.s.2)) e10 flat3 (((X0.trans X).keep B1).cell rfl)) (Ext.refl _) rfl
  refine DagStepsP.cons (fun s' w' X U H => Or.inl ⟨?_, ?_⟩) ?_
  ·exact Guarded_none rfl
  ·exact Does_val (r_fieldAddr (b := b2) (o := 0) (o' := 1) (U 3 rfl) Tryz.underlying62 rfl siz3 rfl) (Ext.refl _) rfl
  refine DagStepsP.cons (fun s' w' X U H => Or.inl ⟨?_, ?_⟩) ?_
  ·exact Guarded_none rfl
  ·have e12 : s' 12 = (.pointer (some ⟨b2, 1, none⟩)) := H 7 rfl 12 (.eq (.pointer (some ⟨b2, 1, none⟩))) rfl (by rw [hFs3]; rfl)
   exact Does_val (r_load (v := (I6 y.s.2)) e12 flat3 (((X0.trans X).keep B2).cell rfl)) (Ext.refl _) rfl
  refine DagStepsP.cons (fun s' w' X U H => Or.inl ⟨?_, ?_⟩) ?_
  ·exact Guarded_none rfl
  ·have e11 : s' 11 = (.int .i64 x.s.2) := H 6 rfl 11 (.eq (.int .i64 x.s.2)) rfl (by rw [hFs3]; rfl)
   have e13 : s' 13 = (.int .i64 y.s.2) := H 8 rfl 13 (.eq (.int .i64 y.s.2)) rfl (by rw [hFs3]; rfl)
   exact Does_enter (r_callF (vs := [(I6 x.s.2), (I6 y.s.2)]) Tryz.func151 nm151 bd151 (lst2 e11 e13)) (compare_c _ _ _)
  refine DagStepsP.cons (fun s' w' X U H => Or.inl ⟨?_, ?_⟩) ?_
  ·exact Guarded_none rfl
  ·have e9 : s' 9 = (.int .i64 (cmpI x.s.1 y.s.1)) := H 4 rfl 9 (.eq (.int .i64 (cmpI x.s.1 y.s.1))) rfl (by rw [hFs3]; rfl)
   have e14 : s' 14 = (.int .i64 (cmpI x.s.2 y.s.2)) := H 9 rfl 14 (.eq (.int .i64 (cmpI x.s.2 y.s.2))) rfl (by rw [hFs3]; rfl)
   exact Does_ints2 e9 e14
  refine DagStepsP.cons (fun s' w' X U H => Or.inl ⟨?_, ?_⟩) ?_
  ·exact Guarded_none rfl
  ·obtain ⟨b15, e15, i15⟩ := H 10 rfl 15 (.gen (ints2F (cmpI x.s.1 y.s.1) (cmpI x.s.2 y.s.2)) (ints2F_ext _ _)) rfl (by rw [hFs3]; rfl)
   exact Does_enter (r_callF (vs := [(.slice (some ⟨b15, 0, none⟩) 2 2)]) Tryz.func150 nm150 bd150 (lst1 e15)) (sor_c _ _ _ (e15 ▸ i15))
  refine DagStepsP.cons (fun s' w' X U H => Or.inl ⟨?_, ?_⟩) ?_
  ·exact Guarded_none rfl
  ·have e16 : s' 16 = (.int .i64 (cfS x y)) := H 11 rfl 16 (.eq (.int .i64 (cfS x y))) rfl (by rw [hFs3]; rfl)
   exact Does_val (r_assign (v := (I6 (cfS x y))) e16) (Ext.refl _) rfl
  exact DagStepsP.nil
 ·intro s' w3 X3 U H
  obtain ⟨j3, rfl⟩ := Fits.out (σ := s') (l := [(4, (.int .i64 (cfS x y)))]) ⟨(show s' 4 = (.int .i64 (cfS x y)) from H 12 rfl 4 (.eq (.int .i64 (cfS x y))) rfl (by rw [hFs3]; rfl)), trivial⟩
  clear U H
  replace B1 := X3.keep B1
  replace B2 := X3.keep B2
  replace E := E.ext X3
  refine WpL_nil (thn_normal (Wp_ret ?_))
  refine fin_tmp Tryz.results144 (v := (.int .i64 (cfS x y))) rfl ?_
  exact ⟨rfl, E⟩
theorem cfS_lt (x y : VSp) : cfS x y < 0 ↔ x.s.1 < y.s.1 ∨ x.s.1 = y.s.1 ∧ x.s.2 < y.s.2 := by
 unfold cfS orL orL orL cmpI
 (repeat' split) <;> omega
theorem swoS : SWO (ltOf cfS) := by
 refine ⟨fun x => ?_, fun x y z => ?_, fun x y z => ?_⟩ <;> simp only [ltOf, decide_eq_true_eq, decide_eq_false_iff_not, cfS_lt] <;> omega
theorem sortC_c (w0 : World) (base : Nat) (v : Value) (l : List Sp) (h : OwnS w0 base v l) (hl : l.length ≤ 8796093022208) (hok : ∀ s ∈ l, vSp s) :
  Ret Tryz.prog 143 #[v, .func (.func 144) #[] #[]] w0 fun r w => r = .tuple #[] ∧ (∃ ls : List Sp, ls.Perm l ∧ ls.Pairwise (fun s t => s.1 ≤ t.1) ∧ SpansAt w v ls) ∧ Chg (fun x => v.ownBlock = some x) w0 w :=
 (sorts_c cfS swoS Tryz.func144 nm144 bd144 (@cfS_c ⟨True⟩) w0 base v l h hl hok).mono fun r w ⟨h1, ⟨l', h2, h3, h4⟩, h5⟩ =>
  ⟨h1, ⟨_, h2, List.pairwise_map.2 (h3.imp fun {s t} hst => by rw [cfS_lt] at hst; omega), h4⟩, h5⟩
theorem own_write {w w' : World} {base e size n cap g i : Nat} {xs : List Value} {cur : Array Value} {v : Value} (h : w.ownsRow base e size (.slice (some ⟨g, 0, none⟩) n cap) n xs) (hB : Blk w g cur e) (hi : i < n * size) (hB' : Blk w' g (cur.setIfInBounds i v) e) : w'.ownsRow base e size (.slice (some ⟨g, 0, none⟩) n cap) n (xs.set i v) := by
 rcases h.2 with ⟨h1, _⟩ | ⟨g', cap', cur', hv, hbg, hg, hnc, hcm, hcs, htake⟩
 ·simp at h1
 ·simp only [Value.slice.injEq, Option.some.injEq, Addr.mk.injEq, and_true] at hv
  obtain ⟨rfl, _, rfl⟩ := hv
  unfold Blk at hB hB'
  rw [hB] at hg
  simp only [Option.some.injEq, Obj.cells.injEq, and_true] at hg
  obtain ⟨rfl, _⟩ := hg
  refine ⟨by simpa using h.1, .inr ⟨g, cap, _, rfl, hbg, hB', hnc, hcm, by simpa using hcs, ?_⟩⟩
  rw [← htake, Array.toList_setIfInBounds, List.take_set]
theorem own_blk {w : World} {base e size n cap g : Nat} {xs : List Value} (h : w.ownsRow base e size (.slice (some ⟨g, 0, none⟩) n cap) n xs) : ∃ cur, Blk w g cur e ∧ n * size ≤ cur.size := by
 rcases h.2 with ⟨h1, _⟩ | ⟨g', cap', cur', hv, hbg, hg, hnc, hcm, hcs, htake⟩
 ·simp at h1
 ·simp only [Value.slice.injEq, Option.some.injEq, Addr.mk.injEq, and_true] at hv
  obtain ⟨rfl, _, rfl⟩ := hv
  exact ⟨cur', hg, by rw [hcs]; exact Nat.mul_le_mul_right _ hnc⟩
theorem span_last (o : List Sp) (c : Sp) : ((o ++ [c]).map spanV).flatten[o.length * 2 + 1]? = some (.int .i64 c.2) := by
 rw [spanV_snoc, List.getElem?_append_right (by rw [spans_six]; omega), spans_six]
 rw [show o.length * 2 + 1 - o.length * 2 = 1 from by omega]; rfl
theorem span_set (o : List Sp) (c : Sp) (x : Int) : ((o ++ [c]).map spanV).flatten.set (o.length * 2 + 1) (.int .i64 x) = ((o ++ [(c.1, x)]).map spanV).flatten := by
 rw [spanV_snoc, spanV_snoc, List.set_append, if_neg (by rw [spans_six]; omega), spans_six, show o.length * 2 + 1 - o.length * 2 = 1 from by omega]; rfl
set_option maxHeartbeats 2000000 in
theorem join_c (w0 : World) (v : Value) (l : List Sp) (h : SpansAt w0 v l) (hl : l.length ≤ 8796093022208) (hok : ∀ s ∈ l, vSp s) :
  Ret Tryz.prog 138 #[v] w0 fun r w => (∃ out, JoinOf l out ∧ OwnS w w0.heap.size r out) ∧ Ext w0 w := by
 refine Ret_of Tryz.func138 rfl Tryz.ntmps138 (Nat.le_of_ble_eq_true rfl) ?_
 have E : Chg none1 w0 w0 := Chg.refl _ _
 refine Wp_seq_region ?_
 refine qA (.slice none 0 0) rfl ?_
 refine WpL_nil (Wp_seq_region ?_)
 refine qM v rfl ?_
 refine WpL_enter rfl rfl (by decide) (r_callF (vs := [v]) Tryz.func55 nm55 bd55 rfl) (clones_c _ v l h (by omega)) ?_
 rintro _ w9 ⟨⟨⟨a9, c9, rfl⟩, O9⟩, X9⟩
 replace E := E.ext X9
 refine qA (.slice a9 l.length c9) rfl ?_
 refine WpL_nil (Wp_seq_region ?_)
 refine qM (.slice a9 l.length c9) rfl ?_
 refine WpL_enter rfl rfl (by decide) (r_callF (vs := [(.slice a9 l.length c9), (.func (.func 144) #[] #[])]) Tryz.func143 nm143 bd143 rfl) (sortC_c _ w0.heap.size (.slice a9 l.length c9) l ⟨⟨_, _, rfl⟩, O9⟩ (by omega) hok) ?_
 rintro _ w10 ⟨rfl, ⟨ls, hperm, hsort, hat⟩, C10⟩
 replace E := E.step C10 (fun x hx hm => absurd (O9.lt x hm).1 (by omega))
 have hlen : ls.length = l.length := hperm.length_eq
 have hokl : ∀ s ∈ ls, vSp s := fun s hs => hok s (hperm.mem_iff.1 hs)
 have hsz0 : w0.heap.size ≤ w10.heap.size := E.size
 obtain ⟨base, hbase⟩ : ∃ base, base = w10.heap.size := ⟨_, rfl⟩
 have E2 : Chg none1 w10 w10 := Chg.refl _ _
 refine WpL_nil (Wp_seq_region ?_)
 refine qA (.slice none 0 0) rfl ?_
 refine WpL_nil (Wp_seq (Wp_seq_region ?_))
 refine qM (.slice a9 l.length c9) rfl ?_
 refine qV (r_lenSlice (ad := a9) (n := l.length) (cap := c9) Tryz.underlying22 rfl) ?_
 refine qM (I6 0) rfl ?_
 refine WpL_nil (Wp_block ?_)
 refine Wp_loop (fun nn_ σ W1 => ∃ (k : Nat) (la : Option Addr) (lc : Nat) (m : Nat) (ou : List Sp), (∃ jj_, σ = upds jj_ [(11, (.slice a9 l.length c9)), (12, (I6 (l.length : Int))), (13, (I6 (k : Int))), (3, (.slice la m lc))]) ∧ Chg none1 w0 W1 ∧ Chg none1 w10 W1 ∧ (k ≤ l.length) ∧ (m = ou.length) ∧ (m ≤ k) ∧ (∀ s ∈ ou, 0 ≤ s.2 ∧ s.2 ≤ 1114111) ∧ ((ls.drop k).foldl jstep ou = joinF ls) ∧ (W1.ownsRow base TSp 2 (.slice la m lc) m (ou.map spanV).flatten) ∧ (base ≤ W1.heap.size) ∧ nn_ = l.length - k) (n := l.length - 0) ?_ ?_
 ·exact ⟨0, none, 0, 0, [], Fits.out ⟨rfl, rfl, rfl, rfl, trivial⟩, E, E2, Nat.zero_le _, rfl, Nat.le_refl _, (fun s hs => absurd hs List.not_mem_nil), rfl, World.ownsRow_nil _ _ _ _, (by omega), rfl⟩
 ·clear E E2
  rintro _ _ W1 ⟨k, la, lc, m, ou, ⟨j1, rfl⟩, E, E2, hk, hm, hlo, hvo, hou, hown, hbs, rfl⟩
  refine Wp_seq_region ?_
  refine qV (r_lss (k := .i64) (a := (k : Int)) (b := (l.length : Int)) rfl rfl) ?_
  refine WpL_nil (Wp_seq ?_)
  refine Wp_cond (b := decide (((k : Int) : Int) < (l.length : Int))) rfl (fun hlt => ?_) (fun hlt => ?_)
  ·have khlt := hlt
   replace hlt := of_decide_eq_true hlt
   obtain ⟨s, hs⟩ := get_of_lt (l := ls) (i := k) (by omega)
   have hv := hokl s (List.mem_of_getElem? hs)
   unfold vSp at hv
   obtain ⟨b, o, hab, hcl⟩ := spans_cells hat (by omega)
   subst hab
   rw [drop_cons hs, List.foldl_cons] at hou
   have hown0 := hown
   refine Wp_skip (thn_normal (Wp_seq (Wp_block (Wp_seq_region ?_))))
   refine qV (r_indexSlice (b := b) (o := o) (len := l.length) (cap := c9) (i := k) (o' := o + k * 2) rfl rfl rfl Tryz.underlying22 siz62 (by omega) (by omega)) ?_
   refine qV (r_loadAgg (vs := [(I6 s.1), (I6 s.2)]) rfl agg62 siz62 rfl ((hcl k s hs).ext E2)) ?_
   refine s_allocStore (v := (.agg #[(I6 s.1), (I6 s.2)])) (c := #[(I6 s.1), (I6 s.2)]) (n := 2) (by decide) zer62 rfl siz62 rfl rfl rfl (by simp [Value.oneCell']) ?_
   intro bq wq Nq
   have Fq := Nq.ge E
   have Fq_E2 := Nq.ge E2
   replace hown := own_ext hown Nq.ext
   replace hbs := Nat.le_trans hbs Nq.ext.size
   replace E := E.ext Nq.ext
   have Bq := Nq.blk
   replace E2 := E2.ext Nq.ext
   refine WpL_nil ?_
   rcases Bool.eq_false_or_eq_true (decide ((0 : Int) < ((m : Nat) : Int))) with hm0 | hm0
   ·have khm0 := hm0
    replace khm0 := of_decide_eq_true khm0
    obtain ⟨oo, cc, hoc⟩ : ∃ oo cc, ou = oo ++ [cc] := by rcases snoc_cases ou with rfl | h1; simp at hm; omega; exact h1
    subst hoc
    have hvc := hvo cc (by simp)
    have hmo : m = oo.length + 1 := by simpa using hm
    obtain ⟨g, rfl, hgb, hgc⟩ := own_cells hown (by omega)
    have hgn : g ≠ bq := fun h1 => by have := (hown0.lt g rfl).2; have := Nq.eq; omega
    refine Wp_seq_region ?_
    refine qM (.slice (some ⟨g, 0, none⟩) m lc) rfl ?_
    refine qV (r_lenSlice (ad := some ⟨g, 0, none⟩) (n := m) (cap := lc) Tryz.underlying22 rfl) ?_
    refine qA (I6 (m : Int)) rfl ?_
    refine WpL_nil ?_
    refine Wp_seq_draw 13 mixed (by kernel_rfl) ?_
    intro w3 X3 _
    replace Bq := X3.keep Bq
    replace hown := own_ext hown X3
    replace hbs := Nat.le_trans hbs X3.size
    replace E := E.ext X3
    replace E2 := E2.ext X3
    refine qT (r_move (v := (I6 (m : Int))) rfl) ?_
    refine qT (r_gtr (k := .i64) (a := (m : Int)) (b := 0) rfl rfl) ?_
    refine qT (r_move (v := (.bool (decide ((0 : Int) < (m : Int))))) rfl) ?_
    refine WpT_guard_yes (oj := _) rfl rfl (by decide) (congrArg Value.bool hm0) ?_
    refine qT (r_fieldAddr (b := bq) (o := 0) (o' := 0) rfl Tryz.underlying62 rfl siz3 rfl) ?_
    refine WpT_guard_yes (oj := _) rfl rfl (by decide) (congrArg Value.bool hm0) ?_
    refine qT (r_load (v := (I6 s.1)) rfl flat3 (Bq.cell rfl)) ?_
    refine WpT_guard_yes (oj := _) rfl rfl (by decide) (congrArg Value.bool hm0) ?_
    refine qT (r_move (v := (.slice (some ⟨g, 0, none⟩) m lc)) rfl) ?_
    refine WpT_guard_yes (oj := _) rfl rfl (by decide) (congrArg Value.bool hm0) ?_
    refine qT (r_move (v := (I6 (m : Int))) rfl) ?_
    refine WpT_guard_yes (oj := _) rfl rfl (by decide) (congrArg Value.bool hm0) ?_
    refine qT (r_sub (k := .i64) (a := (m : Int)) (b := 1) (c := (m : Int) - 1) rfl rfl (wI64 (by omega))) ?_
    refine WpT_guard_yes (oj := _) rfl rfl (by decide) (congrArg Value.bool hm0) ?_
    refine qT (r_indexSlice (b := g) (o := 0) (len := m) (cap := lc) (i := m - 1) (o' := 0 + (m - 1) * 2) rfl rfl (by omega) Tryz.underlying22 siz62 (by omega) (by omega)) ?_
    refine WpT_guard_yes (oj := _) rfl rfl (by decide) (congrArg Value.bool hm0) ?_
    refine qT (r_fieldAddr (b := g) (o := 0 + (m - 1) * 2) (o' := 0 + (m - 1) * 2 + 1) rfl Tryz.underlying62 rfl siz3 rfl) ?_
    refine WpT_guard_yes (oj := _) rfl rfl (by decide) (congrArg Value.bool hm0) ?_
    refine qT (r_load (v := (I6 cc.2)) rfl flat3 ((by have h1 := (hown.cells (g := g) rfl) (oo.length * 2 + 1) _ (span_last oo cc); rwa [Addr.add_lit, show 0 + (oo.length * 2 + 1) = 0 + (m - 1) * 2 + 1 from by omega] at h1))) ?_
    refine WpT_guard_yes (oj := _) rfl rfl (by decide) (congrArg Value.bool hm0) ?_
    refine qT (r_add (k := .i64) (a := cc.2) (b := 1) (c := cc.2 + 1) rfl rfl (wI64 (by omega))) ?_
    refine WpT_guard_yes (oj := _) rfl rfl (by decide) (congrArg Value.bool hm0) ?_
    refine qT (r_leq (k := .i64) (a := s.1) (b := cc.2 + 1) rfl rfl) ?_
    refine WpT_zero ?_
    refine qV (r_pick (b := decide ((0 : Int) < (m : Int))) (v := (.bool (decide ((s.1 : Int) ≤ cc.2 + 1)))) rfl (by rw [hm0]; rfl)) ?_
    refine WpL_nil ?_
    refine Wp_cond (b := decide ((s.1 : Int) ≤ cc.2 + 1)) rfl (fun hj => ?_) (fun hj => ?_)
    ·have khj := hj
     replace hj := of_decide_eq_true hj
     obtain ⟨cur, hB, hcs⟩ := own_blk hown
     refine Wp_draw 14 mixed (by kernel_rfl) ?_
     intro w5 X5 _
     replace Bq := X5.keep Bq
     replace hB := X5.keep hB
     replace hown := own_ext hown X5
     replace hbs := Nat.le_trans hbs X5.size
     replace E := E.ext X5
     replace E2 := E2.ext X5
     refine qT (r_move (v := (.slice (some ⟨g, 0, none⟩) m lc)) rfl) ?_
     refine qT (r_move (v := (I6 (m : Int))) rfl) ?_
     refine qT (r_sub (k := .i64) (a := (m : Int)) (b := 1) (c := (m : Int) - 1) rfl rfl (wI64 (by omega))) ?_
     refine qT (r_move (v := (.slice (some ⟨g, 0, none⟩) m lc)) rfl) ?_
     refine qT (r_move (v := (I6 (m : Int))) rfl) ?_
     refine qT (r_sub (k := .i64) (a := (m : Int)) (b := 1) (c := (m : Int) - 1) rfl rfl (wI64 (by omega))) ?_
     refine qT (r_indexSlice (b := g) (o := 0) (len := m) (cap := lc) (i := m - 1) (o' := 0 + (m - 1) * 2) rfl rfl (by omega) Tryz.underlying22 siz62 (by omega) (by omega)) ?_
     refine qT (r_fieldAddr (b := g) (o := 0 + (m - 1) * 2) (o' := 0 + (m - 1) * 2 + 1) rfl Tryz.underlying62 rfl siz3 rfl) ?_
     refine qT (r_load (v := (I6 cc.2)) rfl flat3 ((by have h1 := (hown.cells (g := g) rfl) (oo.length * 2 + 1) _ (span_last oo cc); rwa [Addr.add_lit, show 0 + (oo.length * 2 + 1) = 0 + (m - 1) * 2 + 1 from by omega] at h1))) ?_
     refine qT (r_fieldAddr (b := bq) (o := 0) (o' := 1) rfl Tryz.underlying62 rfl siz3 rfl) ?_
     refine qT (r_load (v := (I6 s.2)) rfl flat3 (Bq.cell rfl)) ?_
     refine qT (r_maxI rfl rfl rfl) ?_
     refine qT (r_indexSlice (b := g) (o := 0) (len := m) (cap := lc) (i := m - 1) (o' := 0 + (m - 1) * 2) rfl rfl (by omega) Tryz.underlying22 siz62 (by omega) (by omega)) ?_
     refine qT (r_fieldAddr (b := g) (o := 0 + (m - 1) * 2) (o' := 0 + (m - 1) * 2 + 1) rfl Tryz.underlying62 rfl siz3 rfl) ?_
     refine WpT_zero ?_
     have hB0 := hB
     refine s_store (b := g) (o := 0 + (m - 1) * 2 + 1) (c' := cur.setIfInBounds (0 + (m - 1) * 2 + 1) (I6 (max cc.2 s.2))) (v := (I6 (max cc.2 s.2))) rfl rfl rfl siz3 hB (by omega) (rfl) ?_
     intro w6 S6
     replace Bq := S6.keep (by omega) Bq
     replace E := S6.step E (by first | exact Or.inl (by omega) | assumption | exact Or.inr rfl | exact Or.inr (by assumption) | exact Or.inr (by simp) | exact Or.inr (by omega) | exact Or.inr (by dsimp only; omega))
     replace E2 := S6.step E2 (Or.inl (by omega))
     replace hB := S6.blk
     have hown1 := own_write hown hB0 (i := 0 + (m - 1) * 2 + 1) (by omega) hB
     refine WpL_nil (inB_normal (thn_normal (Wp_region ?_)))
     refine qV (r_add (k := .i64) (a := (k : Int)) (b := 1) (c := (k : Int) + 1) rfl rfl (wI64 (by omega))) ?_
     refine qM (I6 ((k : Int) + 1)) rfl ?_
     refine WpL_nil (thn_normal ?_)
     exact ⟨l.length - (k + 1), by omega, k + 1, some ⟨g, 0, none⟩, lc, m, oo ++ [(cc.1, max cc.2 s.2)], Fits.out ⟨rfl, rfl, rfl, rfl, trivial⟩, E, E2, (by omega), (by simp [hmo]), (by omega), (fun u hu => by rcases List.mem_append.1 hu with hu | hu; exact hvo u (by simp [hu]); rw [List.mem_singleton] at hu; subst hu; simp only; omega), (by rw [← hou, jstep_snoc, if_pos hj]), (by rw [show 0 + (m - 1) * 2 + 1 = oo.length * 2 + 1 from by omega, span_set] at hown1; exact hown1), (by have := hown1.lt g rfl; omega), rfl⟩
    ·have khj := hj
     replace hj := of_decide_eq_false hj
     refine Wp_region ?_
     refine qM (.slice (some ⟨g, 0, none⟩) m lc) rfl ?_
     refine qV (r_loadAgg (vs := [(I6 s.1), (I6 s.2)]) rfl agg62 siz62 rfl (Bq.cells rfl)) ?_
     refine s_buildSlice (ps := [(0, (.agg #[(I6 s.1), (I6 s.2)]))]) (c := #[(I6 s.1), (I6 s.2)]) (by decide) rfl Tryz.underlying22 siz62 zer62 (by decide) (by decide) (by kernel_rfl) ?_
     intro br wr Nr
     have Fr := Nr.ge E
     have Fr_E2 := Nr.ge E2
     have Or_bq := Nr.lt Bq
     replace Bq := Nr.keep Bq
     replace hown := own_ext hown Nr.ext
     replace hbs := Nat.le_trans hbs Nr.ext.size
     replace E := E.ext Nr.ext
     have Br := Nr.blk
     replace E2 := E2.ext Nr.ext
     refine s_append (base := base) (n := m) (m := 1) (xs := ((oo ++ [cc]).map spanV).flatten) (news := [(I6 s.1), (I6 s.2)]) (size := 2) (bytes := 16) (v := (.slice (some ⟨g, 0, none⟩) m lc)) (by decide) Tryz.underlying22 siz62 byt62 zer62 rfl (by decide) rfl hown rfl (rfl) (Br.cells rfl) (by simp [Value.oneCell']) (by unfold maxLen; omega) (by omega) (hbs) ?_
     intro v9 w29 Ov9 Cv9 Dv9
     replace Bq := Cv9.keep (fun h => by have := (hown0.lt _ h).2; have := Nq.eq; omega) Bq
     replace E := E.step Cv9 (fun x hx h => absurd (hown.lt x h).1 (by omega))
     replace E2 := E2.step Cv9 (fun x hx h => absurd (hown.lt x h).1 (by omega))
     obtain ⟨la2, lc2, rfl⟩ := own_form Ov9
     refine qA (.slice la2 (m + 1) lc2) rfl ?_
     refine WpL_nil (inB_normal (thn_normal (Wp_region ?_)))
     refine qV (r_add (k := .i64) (a := (k : Int)) (b := 1) (c := (k : Int) + 1) rfl rfl (wI64 (by omega))) ?_
     refine qM (I6 ((k : Int) + 1)) rfl ?_
     refine WpL_nil (thn_normal ?_)
     exact ⟨l.length - (k + 1), by omega, k + 1, la2, lc2, m + 1, oo ++ [cc] ++ [s], Fits.out ⟨rfl, rfl, rfl, rfl, trivial⟩, E, E2, (by omega), (by simp [hmo]), (by omega), (fun u hu => by rcases List.mem_append.1 hu with hu | hu; exact hvo u hu; rw [List.mem_singleton] at hu; subst hu; omega), (by rw [← hou, jstep_snoc, if_neg hj]), (by rw [spanV_snoc]; exact Ov9), Nat.le_trans hbs Cv9.size, rfl⟩
   ·have khm0 := hm0
    replace khm0 := of_decide_eq_false khm0
    have hm1 : m = 0 := by omega
    have hou0 : ou = [] := List.eq_nil_of_length_eq_zero (by omega)
    subst hou0
    refine Wp_seq_region ?_
    refine qM (.slice la m lc) rfl ?_
    refine qV (r_lenSlice (ad := la) (n := m) (cap := lc) Tryz.underlying22 rfl) ?_
    refine qA (I6 (m : Int)) rfl ?_
    refine WpL_nil ?_
    refine Wp_seq_draw 13 mixed (by kernel_rfl) ?_
    intro w7 X7 _
    replace Bq := X7.keep Bq
    replace hown := own_ext hown X7
    replace hbs := Nat.le_trans hbs X7.size
    replace E := E.ext X7
    replace E2 := E2.ext X7
    refine qT (r_move (v := (I6 (m : Int))) rfl) ?_
    refine qT (r_gtr (k := .i64) (a := (m : Int)) (b := 0) rfl rfl) ?_
    refine qT (r_move (v := (.bool (decide ((0 : Int) < (m : Int))))) rfl) ?_
    refine WpT_guard_no (oj := _) rfl rfl (by decide) (v := .bool false) (congrArg Value.bool hm0) (Or.inl rfl) ?_
    refine WpT_guard_no (oj := _) rfl rfl (by decide) (v := .bool false) (congrArg Value.bool hm0) (Or.inl rfl) ?_
    refine WpT_guard_no (oj := _) rfl rfl (by decide) (v := .bool false) (congrArg Value.bool hm0) (Or.inl rfl) ?_
    refine WpT_guard_no (oj := _) rfl rfl (by decide) (v := .bool false) (congrArg Value.bool hm0) (Or.inl rfl) ?_
    refine WpT_guard_no (oj := _) rfl rfl (by decide) (v := .bool false) (congrArg Value.bool hm0) (Or.inl rfl) ?_
    refine WpT_guard_no (oj := _) rfl rfl (by decide) (v := .bool false) (congrArg Value.bool hm0) (Or.inl rfl) ?_
    refine WpT_guard_no (oj := _) rfl rfl (by decide) (v := .bool false) (congrArg Value.bool hm0) (Or.inl rfl) ?_
    refine WpT_guard_no (oj := _) rfl rfl (by decide) (v := .bool false) (congrArg Value.bool hm0) (Or.inl rfl) ?_
    refine WpT_guard_no (oj := _) rfl rfl (by decide) (v := .bool false) (congrArg Value.bool hm0) (Or.inl rfl) ?_
    refine WpT_guard_no (oj := _) rfl rfl (by decide) (v := .bool false) (congrArg Value.bool hm0) (Or.inl rfl) ?_
    refine WpT_zero ?_
    refine qV (r_pick (b := decide ((0 : Int) < (m : Int))) (v := (.bool false)) rfl (by rw [hm0]; rfl)) ?_
    refine WpL_nil ?_
    refine Wp_cond_false rfl ?_
    refine Wp_region ?_
    refine qM (.slice la m lc) rfl ?_
    refine qV (r_loadAgg (vs := [(I6 s.1), (I6 s.2)]) rfl agg62 siz62 rfl (Bq.cells rfl)) ?_
    refine s_buildSlice (ps := [(0, (.agg #[(I6 s.1), (I6 s.2)]))]) (c := #[(I6 s.1), (I6 s.2)]) (by decide) rfl Tryz.underlying22 siz62 zer62 (by decide) (by decide) (by kernel_rfl) ?_
    intro b8 w8 N8
    have F8 := N8.ge E
    have F8_E2 := N8.ge E2
    have O8_bq := N8.lt Bq
    replace Bq := N8.keep Bq
    replace hown := own_ext hown N8.ext
    replace hbs := Nat.le_trans hbs N8.ext.size
    replace E := E.ext N8.ext
    have B8 := N8.blk
    replace E2 := E2.ext N8.ext
    refine s_append (base := base) (n := m) (m := 1) (xs := []) (news := [(I6 s.1), (I6 s.2)]) (size := 2) (bytes := 16) (v := (.slice la m lc)) (by decide) Tryz.underlying22 siz62 byt62 zer62 rfl (by decide) rfl hown rfl (rfl) (B8.cells rfl) (by simp [Value.oneCell']) (by unfold maxLen; omega) (by omega) (hbs) ?_
    intro v9 w29 Ov9 Cv9 Dv9
    replace Bq := Cv9.keep (fun h => by have := (hown0.lt _ h).2; have := Nq.eq; omega) Bq
    replace E := E.step Cv9 (fun x hx h => absurd (hown.lt x h).1 (by omega))
    replace E2 := E2.step Cv9 (fun x hx h => absurd (hown.lt x h).1 (by omega))
    obtain ⟨la2, lc2, rfl⟩ := own_form Ov9
    refine qA (.slice la2 (m + 1) lc2) rfl ?_
    refine WpL_nil (inB_normal (thn_normal (Wp_region ?_)))
    refine qV (r_add (k := .i64) (a := (k : Int)) (b := 1) (c := (k : Int) + 1) rfl rfl (wI64 (by omega))) ?_
    refine qM (I6 ((k : Int) + 1)) rfl ?_
    refine WpL_nil (thn_normal ?_)
    exact ⟨l.length - (k + 1), by omega, k + 1, la2, lc2, m + 1, [s], Fits.out ⟨rfl, rfl, rfl, rfl, trivial⟩, E, E2, (by omega), (by simp [hm1]), (by omega), (fun u hu => by rw [List.mem_singleton] at hu; subst hu; omega), (by rw [← hou, jstep_nil]), (by simpa [spanV] using Ov9), Nat.le_trans hbs Cv9.size, rfl⟩
  ·have khlt := hlt
   replace hlt := of_decide_eq_false hlt
   have hkk : ls.drop k = [] := List.drop_eq_nil_of_le (by omega)
   rw [hkk, List.foldl_nil] at hou
   refine Wp_exit (thn_exit (thn_exit (inB_here (thn_normal (Wp_seq_region ?_)))))
   refine qM (.slice la m lc) rfl ?_
   refine qA (.slice la m lc) rfl ?_
   refine WpL_nil (Wp_ret ?_)
   refine fin_tmp Tryz.results138 (v := (.slice la m lc)) rfl ?_
   subst hou; subst hm
   exact ⟨⟨joinF ls, ⟨ls, hperm, hsort, rfl⟩, ⟨la, lc, rfl⟩, own_low hown (by omega)⟩, E⟩
theorem checkL_canon : ∀ (l : List Sp) (p : Option Int), checkL p l = 0 → Canon l ∧ (∀ h, p = some h → ∀ s ∈ l, h + 2 ≤ s.1)
  | [], _, _ => ⟨Canon.nil, fun _ _ _ h => absurd h List.not_mem_nil⟩
  | s :: r, p, h0 => by
    rw [checkL_cons] at h0
    by_cases hv : validB s = false
    · rw [if_pos hv] at h0; cases h0
    rw [if_neg hv] at h0
    have hg : checkL (some s.2) r = 0 ∧ ∀ h, p = some h → h + 2 ≤ s.1 := by
      cases p with
      | none => exact ⟨by simpa using h0, fun _ he => by cases he⟩
      | some q =>
        by_cases hq : s.1 < q + 2
        · simp [hq] at h0
        · simp [hq] at h0; exact ⟨h0, fun h he => by cases he; omega⟩
    obtain ⟨h1, h2⟩ := checkL_canon r (some s.2) hg.1
    have hv2 : vSp s := by unfold vSp; unfold validB at hv; simp at hv; omega
    have h3 := h2 s.2 rfl
    refine ⟨Canon.cons hv2 h3 h1, fun h he t ht => ?_⟩
    have h4 := hg.2 h he
    rcases List.mem_cons.1 ht with rfl | ht
    · omega
    · have := h3 t ht; unfold vSp at hv2; omega
theorem checkE_canon {l : List Sp} (h : checkE l = 0) : Canon l ∧ l.length ≤ 16 := by
 unfold checkE at h
 split at h
 ·cases h
 ·exact ⟨(checkL_canon l none h).1, by omega⟩
theorem own_sin {w : World} {base : Nat} {v : Value} {l : List Sp} (h : OwnS w base v l) : SlIn (fun y => base ≤ y) w 2 v (l.map spanV) := by
 have hat : SpansAt w v l := h.at
 obtain ⟨⟨a, c, rfl⟩, ho⟩ := h
 obtain ⟨a', cap, e, h1, h2, h3⟩ := hat
 simp only [List.length_map, Value.slice.injEq, true_and] at e
 obtain ⟨rfl, rfl⟩ := e
 refine ⟨a, c, by rw [List.length_map], h1, h2, ?_⟩
 rcases h3 with h | ⟨b, o, rfl, hc⟩
 ·exact .inl h
 ·exact .inr ⟨b, o, (ho.lt b rfl).1, rfl, hc⟩
end Go.Proofs
namespace Go.Proofs
open Go Go.Eng Go.Sort Go.Lib
set_option linter.unusedSectionVars false
variable [Drw]
set_option maxRecDepth 100000
theorem bndT_len {a b : Int} (ha : 0 ≤ a ∧ a ≤ 2000000) (hb : 0 ≤ b ∧ b ≤ 2000000) : (bndT a b).length ≤ 17 := by
 have h1 := itoa_len ha.1 ha.2
 have h2 := itoa_len hb.1 hb.2
 unfold bndT
 split
 ·simp
 ·split <;> simp only [List.length_append, List.length_cons, List.length_nil] <;> omega
theorem setT_len {l : List Sp} (h : ∀ s ∈ l, vSp s) : (setT l).length ≤ 21 * l.length + 2 := by
  have h1 := spsT_len h
  unfold setT
  split
  · rename_i hh
    match l, hh, h with
    | [p], _, h =>
      have := h p (by simp)
      unfold vSp at this
      have h2 := escC_len (c := p.1) (by omega)
      simp [List.getD]; omega
  · split
    · rename_i hl; rw [hl]; simp
    · simp only [List.length_append, List.length_cons, List.length_nil]; omega
theorem parT_len (p : Bool) (s : Bys) : (parT p s).length ≤ s.length + 2 := by unfold parT; split <;> simp
theorem sepT_len (k : Int) : (sepT k).length ≤ 1 := by unfold sepT; (repeat' split) <;> simp
theorem join_len : ∀ (xs : List Bys) (s : Bys), s.length ≤ 1 → (join xs s).length ≤ xs.flatten.length + xs.length
  | [], s, h => by simp [join_nil]
  | [x], s, h => by rw [join_one]; simp
  | x :: y :: r, s, h => by
    have h1 := join_len (y :: r) s h
    have h2 : join (x :: y :: r) s = x ++ s ++ join (y :: r) s := by simp [join, List.intercalate, List.intersperse]
    rw [h2]
    simp only [List.length_append, List.flatten_cons, List.length_cons] at h1 ⊢
    omega
/-- What is asked of a node for its text to be short. -/
theorem okRe_mm {t : Re} (h : okRe t) : (0 ≤ t.mn ∧ t.mn ≤ 9) ∧ (0 ≤ t.mx ∧ t.mx ≤ 8) ∧ t.set.length ≤ 16 ∧ ∀ s ∈ t.set, vSp s := by
 have hn := okRe_node h
 obtain ⟨hk0, hk1, hf⟩ := okRe_form h
 simp only [formB, Bool.and_eq_true, Bool.or_eq_true, decide_eq_true_eq] at hf
 obtain ⟨⟨⟨⟨f0, f1⟩, f2⟩, f3⟩, f4⟩ := hf
 have hset : t.kind ≠ 2 → t.set = [] := fun hk => by
  rcases f1 with f1 | f1
  ·exact absurd f1 hk
  ·exact List.eq_nil_of_length_eq_zero (by omega)
 unfold nodeE at hn
 rw [if_neg (by omega), if_neg (by rw [(okRe_form h).2.2]; decide)] at hn
 by_cases h2 : t.kind = 2
 ·rw [if_pos h2] at hn
  have hc : checkE t.set = 0 := by
   split at hn
   ·exact hn
   ·rename_i hx; simpa using hx
  have hl : t.set.length ≤ 16 := by unfold checkE at hc; split at hc <;> omega
  exact ⟨by omega, by omega, hl, fun s hs => (checkE_canon hc).1.ok s hs⟩
 ·rw [if_neg h2] at hn
  rw [hset h2]
  refine ⟨?_, ?_, Nat.zero_le _, fun s hs => (by cases hs)⟩
  ·by_cases h6 : t.kind = 6
   ·rw [if_pos h6] at hn; split at hn <;> omega
   ·rw [if_neg h6] at hn
    by_cases h9 : t.kind = 9
    ·rw [if_pos h9] at hn; split at hn <;> omega
    ·omega
  ·by_cases h6 : t.kind = 6
   ·rw [if_pos h6] at hn; split at hn <;> omega
   ·omega
mutual
theorem txt_len : ∀ {t : Re}, okRe t → (txt t).length + 4 ≤ 400 * t.size
  | .mk k s ts mn mx ng, h => by
    obtain ⟨h1, h2, h3, h4⟩ := okRe_mm h
    have l1 := itoa_len h1.1 (Int.le_trans h1.2 (by decide))
    have l2 := bndT_len (a := (Re.mk k s ts mn mx ng).mn) (b := (Re.mk k s ts mn mx ng).mx) (by omega) (by omega)
    have l3 := setT_len h4
    have h5 : okRes ts := by simp only [okRe] at h; exact h.2
    have r0 := txts_len (a := 0) h5
    have r3 := txts_len (a := 3) h5
    have r4 := txts_len (a := 4) h5
    have rk := txts_len (a := lvl k + 1) h5
    have l4 := join_len (txts (lvl k + 1) ts) (sepT k) (sepT_len k)
    have l5 : (txts (lvl k + 1) ts).length = ts.length := by rw [txts_map]; simp
    simp only [Re.set, Re.mn, Re.mx] at l1 l2 l3 h3
    rw [txt]
    simp only [Re.size]
    repeat' split
    all_goals try simp only [List.length_append, List.length_cons, List.length_nil]
    all_goals omega
theorem txts_len {a : Nat} : ∀ {ts : List Re}, okRes ts → (txts a ts).flatten.length + ts.length ≤ 400 * Re.sizes ts
  | [], _ => by rw [txts]; simp [Re.sizes]
  | t :: ts, h => by
    have h1 := txt_len h.1
    have h2 := txts_len (a := a) h.2
    have h3 := parT_len (decide (lvl t.kind < a)) (txt t)
    rw [txts]
    simp only [List.flatten_cons, List.length_append, List.length_cons, Re.sizes]
    omega
end
theorem bex : Builder.Extra Tryz.prog Tryz.joinS_ren where
 sizeBuilder := by kernel_rfl
 liesBuilder := by kernel_rfl
 t5 := Tryz.underlying5
 a5 := fun w => flatB.run flat5 w
 z5 := fun w => siz5.run w
 v5 := fun w => zer5.run w
 infoByte := by kernel_rfl
 cellsByte := by kernel_rfl
 sizeByte := by kernel_rfl
 neB5 := by decide
theorem Ext.of_belowW (hD : ¬ Drw.D) {w w' : World} (h : RowKit.Below w.heap.size w w') : Ext w w' := ⟨h.os, h.tape, h.output, fun d => absurd d hD, h.size, fun k hk _ => h.block k hk⟩
def strV (l : Bys) : Value := .string (bS l)
/-- A slice of one's own of strings. -/
def OwnB (w : World) (base : Nat) (v : Value) (n : Nat) (xs : List Bys) : Prop := w.ownsRow base 9 1 v n (xs.map strV)
/-- What the world holds of the library's tables. -/
structure Lay (w : World) : Prop where
 nd : ¬ Drw.D
 tz : Tz w
 pow : PowOk w
 u8 : Lib.Utf8Tabs 0 1 w
theorem Lay.ext {w w' : World} (h : Lay w) (e : Ext w w') : Lay w' := ⟨h.nd, h.tz.ext e, h.pow.ext e, fun c hc => e.cell (h.u8.1 c hc), fun i hi => ⟨e.cell (h.u8.2 i hi).1, e.cell (h.u8.2 i hi).2⟩⟩
theorem sjoin_c (w0 : World) (hD : Lay w0) (base n c : Nat) (a : Option Addr) (xs : List Bys) (s : Bys) (h : OwnB w0 base (.slice a n c) n xs) (hn : n = xs.length) (hxl : xs.length ≤ 1000000) (hl : (join xs s).length ≤ 1000000000) : Ret Tryz.prog 70 #[.slice a n c, .string (bS s)] w0 fun r w => r = .string (bS (join xs s)) ∧ Ext w0 w := by
  subst hn
  have e1 : (xs.map fun x => bS x).map (fun b => b.data.toList) = xs := by
    rw [List.map_map]
    conv => rhs; rw [← List.map_id xs]
    exact List.map_congr_left fun x _ => by simp [bS]
  rcases h.2 with ⟨h1, h2⟩ | ⟨g, cap, cur, hv, hbg, hg, hnc, hcm, hcs, htake⟩
  · have h3 : xs = [] := List.eq_nil_of_length_eq_zero h2
    subst h3
    refine (Any.strings_Join_none Tryz.joinS bex a c (bS s) w0).mono ?_
    rintro e w' ⟨rfl, rfl⟩
    exact ⟨_, rfl, rfl, Ext.refl _⟩
  · simp only [Value.slice.injEq] at hv
    obtain ⟨rfl, _, rfl⟩ := hv
    have hr := Any.strings_Join Tryz.joinS bex g 0 c (xs.map fun x => bS x) (bS s) w0 (fun j x hx => by
      rw [Nat.zero_add]
      have h4 : cur.toList[j]? = some (.string x) := by
        have h5 : j < xs.length * 1 := by have := lt_of_get hx; rw [List.length_map] at this; omega
        have h6 : (cur.toList.take (xs.length * 1))[j]? = some (.string x) := by
          rw [htake, List.getElem?_map]
          rw [List.getElem?_map] at hx
          cases hxs : xs[j]? with
          | none => rw [hxs] at hx; cases hx
          | some u => rw [hxs] at hx; cases hx; rfl
        rwa [List.getElem?_take_of_lt h5] at h6
      exact Blk.cell (t := 9) hg (by simpa using h4)) (Array.getElem?_eq_some_iff.1 hg).1 (by rw [List.length_map]; omega) (by simpa using hnc) (by rw [e1]; simp [bS]; omega)
    rw [e1, List.length_map] at hr
    refine hr.mono ?_
    rintro e w' ⟨rfl, hb⟩
    exact ⟨_, rfl, by simp [bS], Ext.of_belowW hD.nd hb⟩
/-- The contract of retext.text at one expression. -/
def TextOk (a : Nat) (x : Re) : Prop := ∀ (w : World) (us : List Value), Lay w → ReAt w x us → Ret Tryz.prog 18 #[.agg us.toArray, .int .i64 (a : Int)] w fun r w' => r = .string (bS (txtA a x)) ∧ Ext w w'
theorem joined_c (w0 : World) (hL : Lay w0) (ts : List Re) (aa : Option Addr) (ac a : Nat) (s : Bys) (h : ts = [] ∨ ∃ b o, aa = some ⟨b, o, none⟩ ∧ ResAt w0 b o ts) (hn : ts.length ≤ 1000000) (hj : (join (ts.map (txtA a)) s).length ≤ 1000000000) (ih : ∀ x ∈ ts, TextOk a x) :
  Ret Tryz.prog 42 #[.slice aa ts.length ac, .string (bS s), .int .i64 (a : Int)] w0 fun r w => r = .string (bS (join (ts.map (txtA a)) s)) ∧ Ext w0 w := by
 refine Ret_of Tryz.func42 rfl Tryz.ntmps42 (Nat.le_of_ble_eq_true rfl) ?_
 have E : Chg none1 w0 w0 := Chg.refl _ _
 refine Wp_seq_region ?_
 refine qA (.string (ByteArray.mk #[])) rfl ?_
 refine WpL_nil (Wp_seq_region ?_)
 refine qA (.slice none 0 0) rfl ?_
 refine WpL_nil (Wp_seq (Wp_seq_region ?_))
 refine qM (.slice aa ts.length ac) rfl ?_
 refine qV (r_lenSlice (ad := aa) (n := ts.length) (cap := ac) Tryz.underlying23 rfl) ?_
 refine qM (I6 0) rfl ?_
 refine WpL_nil (Wp_block ?_)
 refine Wp_loop (fun nn_ σ W1 => ∃ (k : Nat) (pa : Option Addr) (pc : Nat), (∃ jj_, σ = upds jj_ [(1, (.string (bS s))), (2, (I6 (a : Int))), (10, (.slice aa ts.length ac)), (11, (I6 (ts.length : Int))), (12, (I6 (k : Int))), (7, (.slice pa k pc))]) ∧ Chg none1 w0 W1 ∧ (k ≤ ts.length) ∧ (OwnB W1 w0.heap.size (.slice pa k pc) k ((ts.take k).map (txtA a))) ∧ nn_ = ts.length - k) (n := ts.length - 0) ?_ ?_
 ·exact ⟨0, none, 0, Fits.out ⟨rfl, rfl, rfl, rfl, rfl, rfl, trivial⟩, E, Nat.zero_le _, ⟨by simp, .inl ⟨rfl, by simp⟩⟩, rfl⟩
 ·clear E
  rintro _ _ W1 ⟨k, pa, pc, ⟨j1, rfl⟩, E, hk, hO, rfl⟩
  refine Wp_seq_region ?_
  refine qV (r_lss (k := .i64) (a := (k : Int)) (b := (ts.length : Int)) rfl rfl) ?_
  refine WpL_nil (Wp_seq ?_)
  refine Wp_cond (b := decide (((k : Int) : Int) < (ts.length : Int))) rfl (fun hlt => ?_) (fun hlt => ?_)
  ·have khlt := hlt
   replace hlt := of_decide_eq_true hlt
   obtain ⟨x, hx⟩ := get_of_lt (l := ts) (i := k) (by omega)
   obtain ⟨b, o, rfl, hres⟩ := args_at h (by omega)
   obtain ⟨us, hus, hxt⟩ := hres.get hx
   have hxt0 := hxt
   obtain ⟨xsa, xsc, xaa, xac, rfl, _, _, _⟩ := hxt.form
   refine Wp_skip (thn_normal (Wp_seq (Wp_block (Wp_seq_region ?_))))
   refine qV (r_indexSlice (b := b) (o := o) (len := ts.length) (cap := ac) (i := k) (o' := o + k * 6) rfl rfl rfl Tryz.underlying23 siz25 (by omega) (by omega)) ?_
   refine qV (r_loadAgg (vs := [(I6 x.kind), (.slice xsa x.set.length xsc), (.slice xaa x.args.length xac), (I6 x.mn), (I6 x.mx), (.bool x.neg)]) rfl agg25 siz25 rfl (hus.ext E)) ?_
   refine s_allocStore (v := (.agg (R6 x xsa xsc xaa xac))) (c := (R6 x xsa xsc xaa xac)) (n := 6) (by decide) zer25 rfl siz25 rfl rfl rfl (by simp [Value.oneCell']) ?_
   intro bz wz Nz
   have Fz := Nz.ge E
   replace hO := own_ext hO Nz.ext
   replace E := E.ext Nz.ext
   have Bz := Nz.blk
   refine WpL_nil (Wp_region ?_)
   refine qM (.slice pa k pc) rfl ?_
   refine qV (r_loadAgg (vs := [(I6 x.kind), (.slice xsa x.set.length xsc), (.slice xaa x.args.length xac), (I6 x.mn), (I6 x.mx), (.bool x.neg)]) rfl agg25 siz25 rfl (Bz.cells rfl)) ?_
   refine qM (I6 (a : Int)) rfl ?_
   refine WpL_enter rfl rfl (by decide) (r_callF (vs := [(.agg (R6 x xsa xsc xaa xac)), (I6 (a : Int))]) Tryz.func18 nm18 bd18 rfl) (ih x (List.mem_of_getElem? hx) _ _ (hL.ext E) (ReAt.ext E x hxt0)) ?_
   rintro _ w9 ⟨rfl, X9⟩
   replace Bz := X9.keep Bz
   replace hO := own_ext hO X9
   replace E := E.ext X9
   refine s_buildSlice (ps := [(0, (.string (bS (txtA a x))))]) (c := #[(.string (bS (txtA a x)))]) (by decide) rfl Tryz.underlying45 siz9 zer9 (by decide) (by decide) (by kernel_rfl) ?_
   intro b3 w3 N3
   have F3 := N3.ge E
   have O3_bz := N3.lt Bz
   replace Bz := N3.keep Bz
   replace hO := own_ext hO N3.ext
   replace E := E.ext N3.ext
   have B3 := N3.blk
   refine s_append (base := w0.heap.size) (n := k) (m := 1) (xs := (((ts.take k).map (txtA a)).map strV)) (news := [(.string (bS (txtA a x)))]) (size := 1) (bytes := 16) (v := (.slice pa k pc)) (by decide) Tryz.underlying45 siz9 byt9 zer9 rfl (by decide) rfl hO rfl (rfl) (B3.cells rfl) (by simp [Value.oneCell']) (by unfold maxLen; omega) (by omega) (E.size) ?_
   intro v7 w59 Ov7 Cv7 Dv7
   replace E := E.step Cv7 (fun x hx h => absurd (hO.lt x h).1 (by omega))
   obtain ⟨pa2, pc2, rfl⟩ := own_form Ov7
   refine qA (.slice pa2 (k + 1) pc2) rfl ?_
   refine WpL_nil (inB_normal (thn_normal (Wp_region ?_)))
   refine qV (r_add (k := .i64) (a := (k : Int)) (b := 1) (c := (k : Int) + 1) rfl rfl (wI64 (by omega))) ?_
   refine qM (I6 ((k : Int) + 1)) rfl ?_
   refine WpL_nil (thn_normal ?_)
   exact ⟨ts.length - (k + 1), by omega, k + 1, pa2, pc2, Fits.out ⟨rfl, rfl, rfl, rfl, rfl, rfl, trivial⟩, E, (by omega), (by unfold OwnB; rw [List.take_add_one, hx, Option.toList_some, List.map_append, List.map_append]; exact Ov7), rfl⟩
  ·have khlt := hlt
   replace hlt := of_decide_eq_false hlt
   have hke : ts.take k = ts := List.take_of_length_le (by omega)
   rw [hke] at hO
   refine Wp_exit (thn_exit (thn_exit (inB_here (thn_normal (Wp_seq_region ?_)))))
   refine qM (.slice pa k pc) rfl ?_
   refine qM (.string (bS s)) rfl ?_
   refine WpL_enter rfl rfl (by decide) (r_callF (vs := [(.slice pa k pc), (.string (bS s))]) Tryz.func70 nm70 bd70 rfl) (sjoin_c _ (hL.ext E) _ k pc pa _ s hO (by rw [List.length_map]; omega) (by rw [List.length_map]; omega) hj) ?_
   rintro _ w19 ⟨rfl, X19⟩
   replace hO := own_ext hO X19
   replace E := E.ext X19
   refine qA (.string (bS (join (ts.map (txtA a)) s))) rfl ?_
   refine WpL_nil (Wp_ret ?_)
   refine fin_tmp Tryz.results42 (v := (.string (bS (join (ts.map (txtA a)) s)))) rfl ?_
   exact ⟨rfl, E⟩
end Go.Proofs
namespace Go.Eng
open Go
set_option linter.unusedSectionVars false
variable [Drw]
abbrev TRe : Nat := 25
mutual
def Tree (Z : Nat → Prop) (w : World) : Re → List Value → (Nat → Prop) → Prop
  | .mk k set args mn mx ng, vs, L => ∃ sa sc aa ac, vs = [.int .i64 k, .slice sa set.length sc, .slice aa args.length ac, .int .i64 mn, .int .i64 mx, .bool ng] ∧ SlIn Z w 2 (.slice sa set.length sc) (set.map spanV) ∧ (args.length ≤ ac ∧ ac ≤ 9223372036854775807) ∧
      (args = [] ∨ ∃ b rows rest L', L b ∧ aa = some ⟨b, 0, none⟩ ∧ Blk w b (rows.flatten ++ rest).toArray TRe ∧ (∀ r ∈ rows, r.length = 6) ∧ Trees Z w args rows L' ∧ (∀ x, L' x → L x ∧ x ≠ b))
def Trees (Z : Nat → Prop) (w : World) : List Re → List (List Value) → (Nat → Prop) → Prop
  | [], rows, _ => rows = []
  | t :: ts, rows, L => ∃ vs rs L1 L2, rows = vs :: rs ∧ Tree Z w t vs L1 ∧ Trees Z w ts rs L2 ∧ (∀ x, L1 x → L x ∧ ¬ L2 x) ∧ (∀ x, L2 x → L x)
end
mutual
theorem Tree.chg {Z M : Nat → Prop} {w w' : World} (c : Chg M w w') (hz : ∀ b, Z b → ¬ M b) : ∀ (t : Re) {vs : List Value} {L : Nat → Prop}, (∀ b, L b → ¬ M b) → Tree Z w t vs L → Tree Z w' t vs L
  | .mk k set args mn mx ng, vs, L, hl, h => by
    simp only [Tree] at h ⊢
    obtain ⟨sa, sc, aa, ac, hv, hs, hn, ha⟩ := h
    refine ⟨sa, sc, aa, ac, hv, hs.chg c hz, hn, ?_⟩
    rcases ha with h | ⟨b, rows, rest, L', h1, h2, h3, h4, h5, h6⟩
    · exact .inl h
    · exact .inr ⟨b, rows, rest, L', h1, h2, c.keep (hl b h1) h3, h4, Trees.chg c hz args (fun x hx => hl x (h6 x hx).1) h5, h6⟩
theorem Trees.chg {Z M : Nat → Prop} {w w' : World} (c : Chg M w w') (hz : ∀ b, Z b → ¬ M b) : ∀ (ts : List Re) {rows : List (List Value)} {L : Nat → Prop}, (∀ b, L b → ¬ M b) → Trees Z w ts rows L → Trees Z w' ts rows L
  | [], _, _, _, h => by simp only [Trees] at h ⊢; exact h
  | t :: ts, rows, L, hl, h => by
    simp only [Trees] at h ⊢
    obtain ⟨vs, rs, L1, L2, h1, h2, h3, h4, h5⟩ := h
    exact ⟨vs, rs, L1, L2, h1, Tree.chg c hz t (fun x hx => hl x (h4 x hx).1) h2, Trees.chg c hz ts (fun x hx => hl x (h5 x hx)) h3, h4, h5⟩
end
theorem Tree.ext {Z : Nat → Prop} {w w' : World} (e : Ext w w') (t : Re) {vs : List Value} {L : Nat → Prop} (h : Tree Z w t vs L) : Tree Z w' t vs L := Tree.chg e (fun _ _ f => f) t (fun _ _ f => f) h
theorem Trees.ext {Z : Nat → Prop} {w w' : World} (e : Ext w w') (ts : List Re) {rows : List (List Value)} {L : Nat → Prop} (h : Trees Z w ts rows L) : Trees Z w' ts rows L := Trees.chg e (fun _ _ f => f) ts (fun _ _ f => f) h
mutual
theorem Tree.mono {Z Z' : Nat → Prop} {w : World} (hz : ∀ b, Z b → Z' b) : ∀ (t : Re) {vs : List Value} {L L' : Nat → Prop}, (∀ b, L b → L' b) → Tree Z w t vs L → Tree Z' w t vs L'
  | .mk k set args mn mx ng, vs, L, L', hl, h => by
    simp only [Tree] at h ⊢
    obtain ⟨sa, sc, aa, ac, hv, hs, hn, ha⟩ := h
    refine ⟨sa, sc, aa, ac, hv, hs.mono hz, hn, ?_⟩
    rcases ha with h | ⟨b, rows, rest, K, h1, h2, h3, h4, h5, h6⟩
    · exact .inl h
    · exact .inr ⟨b, rows, rest, K, hl b h1, h2, h3, h4, Trees.mono hz args (fun _ h => h) h5, fun x hx => ⟨hl x (h6 x hx).1, (h6 x hx).2⟩⟩
theorem Trees.mono {Z Z' : Nat → Prop} {w : World} (hz : ∀ b, Z b → Z' b) : ∀ (ts : List Re) {rows : List (List Value)} {L L' : Nat → Prop}, (∀ b, L b → L' b) → Trees Z w ts rows L → Trees Z' w ts rows L'
  | [], _, _, _, _, h => by simp only [Trees] at h ⊢; exact h
  | t :: ts, rows, L, L', hl, h => by
    simp only [Trees] at h ⊢
    obtain ⟨vs, rs, L1, L2, h1, h2, h3, h4, h5⟩ := h
    exact ⟨vs, rs, L1, L2, h1, Tree.mono hz t (fun _ h => h) h2, Trees.mono hz ts (fun _ h => h) h3, fun x hx => ⟨hl x (h4 x hx).1, (h4 x hx).2⟩, fun x hx => hl x (h5 x hx)⟩
end
theorem Tree.form {Z : Nat → Prop} {w : World} {t : Re} {vs : List Value} {L : Nat → Prop} (h : Tree Z w t vs L) : ∃ sa sc aa ac, vs = [.int .i64 t.kind, .slice sa t.set.length sc, .slice aa t.args.length ac, .int .i64 t.mn, .int .i64 t.mx, .bool t.neg] ∧ SlIn Z w 2 (.slice sa t.set.length sc) (t.set.map spanV) ∧ (t.args.length ≤ ac ∧ ac ≤ 9223372036854775807) ∧
   (t.args = [] ∨ ∃ b rows rest L', L b ∧ aa = some ⟨b, 0, none⟩ ∧ Blk w b (rows.flatten ++ rest).toArray TRe ∧ (∀ r ∈ rows, r.length = 6) ∧ Trees Z w t.args rows L' ∧ (∀ x, L' x → L x ∧ x ≠ b)) := by
 cases t; simp only [Tree] at h; exact h
theorem Tree.len {Z : Nat → Prop} {w : World} {t : Re} {vs : List Value} {L : Nat → Prop} (h : Tree Z w t vs L) : vs.length = 6 := by
 obtain ⟨_, _, _, _, rfl, _⟩ := h.form; rfl
theorem Tree.one {Z : Nat → Prop} {w : World} {t : Re} {vs : List Value} {L : Nat → Prop} (h : Tree Z w t vs L) : ∀ u ∈ vs, u.oneCell' = true := by
 obtain ⟨_, _, _, _, rfl, _⟩ := h.form
 simp [Value.oneCell']
theorem Trees.len {Z : Nat → Prop} {w : World} : ∀ {ts : List Re} {rows : List (List Value)} {L : Nat → Prop}, Trees Z w ts rows L → rows.length = ts.length
  | [], _, _, h => by simp only [Trees] at h; subst h; rfl
  | t :: ts, rows, L, h => by
    simp only [Trees] at h
    obtain ⟨vs, rs, L1, L2, rfl, _, h3, _⟩ := h
    simp [Trees.len h3]
theorem Trees.six {Z : Nat → Prop} {w : World} : ∀ {ts : List Re} {rows : List (List Value)} {L : Nat → Prop}, Trees Z w ts rows L → ∀ r ∈ rows, r.length = 6
  | [], _, _, h => by simp only [Trees] at h; subst h; simp
  | t :: ts, rows, L, h => by
    simp only [Trees] at h
    obtain ⟨vs, rs, L1, L2, rfl, h2, h3, _⟩ := h
    intro r hr
    rcases List.mem_cons.1 hr with rfl | hr
    · exact h2.len
    · exact Trees.six h3 r hr
theorem Trees.snoc {Z : Nat → Prop} {w : World} {t : Re} {vs : List Value} {K : Nat → Prop} (ht : Tree Z w t vs K) : ∀ {ts : List Re} {rows : List (List Value)} {L : Nat → Prop}, Trees Z w ts rows L → (∀ x, L x → ¬ K x) → Trees Z w (ts ++ [t]) (rows ++ [vs]) (fun x => L x ∨ K x)
  | [], rows, L, h, hd => by
    simp only [Trees] at h
    subst h
    simp only [List.nil_append, Trees]
    exact ⟨vs, [], K, fun _ => False, rfl, ht, rfl, fun x hx => ⟨.inr hx, fun f => f⟩, fun x f => f.elim⟩
  | u :: ts, rows, L, h, hd => by
    simp only [Trees] at h
    obtain ⟨us, rs, L1, L2, rfl, h2, h3, h4, h5⟩ := h
    have := Trees.snoc ht h3 fun x hx => hd x (h5 x hx)
    simp only [List.cons_append, Trees]
    exact ⟨us, rs ++ [vs], L1, _, rfl, h2, this, fun x hx => ⟨.inl (h4 x hx).1, fun hh => hh.elim (h4 x hx).2 (hd x (h4 x hx).1)⟩, fun x hx => hx.elim (fun h => .inl (h5 x h)) .inr⟩
theorem rows_cells {rows : List (List Value)} {rest : List Value} {k : Nat} (hk : ∀ r ∈ rows, r.length = k) : ∀ {i : Nat} {r : List Value}, rows[i]? = some r → ∀ (j : Nat) (u : Value), r[j]? = some u → (rows.flatten ++ rest)[i * k + j]? = some u := by
  induction rows with
  | nil => intro i r h; simp at h
  | cons x rs ih =>
    intro i r hr j u hu
    have hx : x.length = k := hk x (by simp)
    cases i with
    | zero =>
      simp at hr; subst hr
      have hj := lt_of_get hu
      simp only [List.flatten_cons, Nat.zero_mul, Nat.zero_add, List.append_assoc]
      rw [List.getElem?_append_left hj]; exact hu
    | succ i =>
      simp at hr
      simp only [List.flatten_cons, List.append_assoc]
      rw [List.getElem?_append_right (by rw [hx, Nat.succ_mul]; omega)]
      rw [show (i + 1) * k + j - x.length = i * k + j from by rw [hx, Nat.succ_mul]; omega]
      exact ih (fun r hr => hk r (by simp [hr])) hr j u hu
theorem rows_at {w : World} {b T k : Nat} {rows : List (List Value)} {rest : List Value} (h : Blk w b (rows.flatten ++ rest).toArray T) (hk : ∀ r ∈ rows, r.length = k) {i : Nat} {r : List Value} (hr : rows[i]? = some r) : CellsAt w b (i * k) r := by
 intro j u hu
 exact h.cell (by simpa using rows_cells hk hr j u hu)
theorem resin_of {S : Nat → Prop} {w : World} {b : Nat} : ∀ {ts : List Re} {o : Nat}, (∀ i t, ts[i]? = some t → ∃ vs, CellsAt w b (o + i * 6) vs ∧ ReIn S w t vs) → ResIn S w b o ts
  | [], _, _ => by simp only [ResIn]
  | t :: ts, o, h => by
    simp only [ResIn]
    refine ⟨by simpa using h 0 t rfl, resin_of fun i u hu => ?_⟩
    have := h (i + 1) u (by simpa using hu)
    rwa [show o + (i + 1) * 6 = o + 6 + i * 6 from by omega] at this
end Go.Eng
