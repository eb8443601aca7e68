/- Contracts and plain lemmas, part 2. -/
import Derived.Tactics
import Derived.Deep.Quiet
import Derived.Laws.AppendOwn
import Derived.KernelRfl
import Derived.Laws.Entries
import Derived.Laws.Build
import Derived.Below
import Derived.RowKit3
import Derived.StillTail
import Derived.Sort.Grow
import Derived.Deep.Draws
import Derived.Test.YtdcgaapnkflhmaaGreatChecked
import Derived.Laws.StructEq
import Derived.MapKept
import Derived.Laws.BytesArg
import Derived.Defers
import Derived.Recover
import Derived.Shelf.SlSortCmp.WholeK
import Derived.Shelf.Sort.Plain
import Derived.Shelf.Slices.CompactI
import Derived.Test.YtdcgaapnkflhmaaGreatProg
import Derived.Shelf.Small.Bits
import Derived.DeepKeys3
import Derived.OpenShut
import Derived.ChangeSlices
import Derived.Test.YtdcgaapnkflhmaaGreatRows
import Derived.SizedLaws
import Derived.Test.YtdcgaapnkflhmaaGreatZn1
namespace Go.Proofs
open Go Go.Eng
set_option maxRecDepth 100000
section
variable {P : Program} {σ : Env} {w : World} {dst : Option Tmp} {ty : TypeId} {pos : String} {af : Array Edge} {g : Option (Nat × Bool)} {t t' e : TypeId} {x y : Operand}
theorem r_eqlNil {a : Option Addr} {n c n' c' : Nat} (hu : P.underlying t = some (.slice e)) (hx : ev σ x = .slice a n c) (hy : ev σ y = .slice none n' c') :
  (execOp (ev σ) ⟨dst, .binOp .eql t x y t', ty, pos, af, g⟩).run P w = .ok (.value (.bool a.isNone)) w := by
 have h : (Op.equalIn 10000 t (.slice a n c) (.slice none n' c')).run P w = .ok a.isNone w := by
  rw [Op.equalIn]
  cases a <;> simp [run_underlying hu]
 cases a <;> simp_all [execOp, eqGuard, binOp, Op.equal, Op.maxDepth]
theorem r_append0 {s : Operand} {a a' : Option Addr} {n c c' size : Nat} (hu : P.underlying t = some (.slice e)) (hs : Siz P e size) (hx : ev σ s = .slice a n c) (hn : n ≤ c) (hy : ev σ x = .slice a' 0 c') :
  (execOp (ev σ) ⟨dst, .call ⟨.builtin .append, #[s, x], #[t, t]⟩, ty, pos, af, g⟩).run P w = .ok (.value (.slice a n c)) w := by
 have hz : size * 0 = 0 := Nat.mul_zero _
 cases a <;> cases a' <;> simp [execOp, resolve, invoke, builtin, Builtin.append_, hx, hy, run_underlying hu, hs.run, Builtin.lenOf, Builtin.firstCells, loadCells, loadCellsFrom, storeCells, hn]
theorem s_build0 {N : Nat} {Q : Post} {K : Env → World → Prop} {ops : Array Oper} {rest : List Oper} {d size : Nat} (hN : d < N) (hu : P.underlying t = some (.slice e)) (hs : Siz P e size)
  (k : ∀ b w', New w w' b #[] e → WpL P N ops K Q rest (upd σ d (.slice (some ⟨b, 0, none⟩) 0 0)) w') : WpL P N ops K Q (⟨some d, .buildSlice t 0 #[], ty, pos, af, none⟩ :: rest) σ w := by
 refine WpL_val (v := .slice (some ⟨w.heap.size, 0, none⟩) 0 0) (w' := { w with heap := w.heap.push (.cells #[] e (0, 0)) }) rfl rfl hN ?_ (k _ _ (New.mk' w #[] e))
 have h0 : Array.range 0 = #[] := rfl
 simp [execOp, Instr.buildSlice, run_underlying hu, hs.run, Instr.fill, newRow, h0]
end
theorem own_empty {w : World} {b e base size : Nat} (h : Blk w b #[] e) (hb : base ≤ b) : w.ownsRow base e size (.slice (some ⟨b, 0, none⟩) 0 0) 0 [] :=
 ⟨by simp, .inr ⟨b, 0, #[], rfl, hb, h, Nat.le_refl _, by simp [maxLen], by simp, by simp⟩⟩
theorem flat_intV (l : List Int) : (l.map intV).flatten = l.map (Value.int .i64) := by
  induction l with
  | nil => rfl
  | cons x l ih => simp only [List.map_cons, List.flatten_cons, ih]; rfl
theorem idxi_c (w0 : World) (v : Value) (x : Int) (l : List Int) (hs : IntsAt w0 v l) :
  Ret Tryz.prog 150 #[v, .int .i64 x] w0 fun r w => r = .int .i64 (idx (fun y => decide (x = y)) l) ∧ Ext w0 w := by
 obtain ⟨a, c, rfl⟩ := SlAt.form hs
 have hlen : l.length ≤ 9223372036854775807 := by simpa using SlAt.le hs
 simp only [List.length_map] at hs ⊢
 refine Ret_of Tryz.func150 rfl Tryz.ntmps150 (Nat.le_of_ble_eq_true rfl) ?_
 have E : Chg none1 w0 w0 := Chg.refl _ _
 refine Wp_seq_region ?_
 refine qA (I6 0) rfl ?_
 refine WpL_nil (Wp_seq (Wp_seq_region ?_))
 refine qM (.slice a l.length c) rfl ?_
 refine qV (r_lenSlice (ad := a) (n := l.length) (cap := c) Tryz.underlying22 rfl) ?_
 refine qM (I6 0) rfl ?_
 refine WpL_nil (Wp_block ?_)
 refine Wp_loop (fun nn_ σ W1 => ∃ (k : Nat), (∃ jj_, σ = upds jj_ [(0, (.slice a l.length c)), (1, (I6 x)), (7, (I6 (l.length : Int))), (8, (I6 (k : Int)))]) ∧ Chg none1 w0 W1 ∧ (k ≤ l.length) ∧ (∀ (i : Nat) (y : Int), i < k → l[i]? = some y → decide (x = y) = false) ∧ nn_ = l.length - k) (n := l.length - 0) ?_ ?_
 ·exact ⟨0, Fits.out ⟨rfl, rfl, rfl, rfl, trivial⟩, E, Nat.zero_le _, (fun i y h => absurd h (Nat.not_lt_zero _)), rfl⟩
 ·clear E
  rintro _ _ W1 ⟨k, ⟨j1, rfl⟩, E, hk, hno, rfl⟩
  refine Wp_seq_region ?_
  refine qV (r_lss (k := .i64) (a := (k : Int)) (b := (l.length : Int)) rfl rfl) ?_
  refine WpL_nil (Wp_seq ?_)
  refine Wp_cond (b := decide (((k : Int) : Int) < (l.length : Int))) rfl (fun hlt => ?_) (fun hlt => ?_)
  ·have khlt := hlt
   replace hlt := of_decide_eq_true hlt
   obtain ⟨y, hy⟩ := get_of_lt (l := l) (i := k) (by omega)
   obtain ⟨b, o, rfl, hcells⟩ := ints_cells hs (by omega)
   refine Wp_skip (thn_normal (Wp_seq (Wp_block (Wp_seq_region ?_))))
   refine qM (I6 (k : Int)) rfl ?_
   refine qA (I6 (k : Int)) rfl ?_
   refine WpL_nil (Wp_seq_region ?_)
   refine qM (I6 x) rfl ?_
   refine qM (.slice (some ⟨b, o, none⟩) l.length c) rfl ?_
   refine qM (I6 (k : Int)) rfl ?_
   refine qV (r_indexSlice (b := b) (o := o) (len := l.length) (cap := c) (i := k) (o' := o + k) rfl rfl rfl Tryz.underlying22 siz3 (by omega) (by omega)) ?_
   refine qV (r_load (v := (I6 y)) rfl flat3 (E.cell (fun f => f) (hcells k y hy))) ?_
   refine qV (r_eql (k := .i64) (a := x) (b := y) rfl rfl) ?_
   refine WpL_nil ?_
   refine Wp_cond (b := decide ((x : Int) = y)) rfl (fun hp => ?_) (fun hp => ?_)
   ·have khp := hp
    replace hp := of_decide_eq_true hp
    refine Wp_seq_region ?_
    refine qM (I6 (k : Int)) rfl ?_
    refine qA (I6 (k : Int)) rfl ?_
    refine WpL_nil (Wp_ret (inB_ret (thn_ret (thn_ret (inB_ret (thn_ret ?_))))))
    refine fin_tmp Tryz.results150 (v := (.int .i64 ((k : Nat) : Int))) rfl ?_
    exact ⟨int_eq (idx_hit hy (by simpa using hp) hno).symm, E⟩
   ·have khp := hp
    replace hp := of_decide_eq_false hp
    refine Wp_skip (inB_normal (thn_normal (Wp_region ?_)))
    refine qV (r_add (k := .i64) (a := (k : Int)) (b := 1) (c := (k : Int) + 1) rfl rfl (wI64 (by omega))) ?_
    refine qM (I6 ((k : Int) + 1)) rfl ?_
    refine WpL_nil (thn_normal ?_)
    exact ⟨l.length - (k + 1), by omega, k + 1, Fits.out ⟨rfl, rfl, rfl, rfl, trivial⟩, E, (by omega), below_next hy (by simpa using hp) hno, rfl⟩
  ·have khlt := hlt
   replace hlt := of_decide_eq_false hlt
   have hkk : k = l.length := by omega
   refine Wp_exit (thn_exit (thn_exit (inB_here (thn_normal (Wp_seq_region ?_)))))
   refine qA (I6 (-1)) rfl ?_
   refine WpL_nil (Wp_ret ?_)
   refine fin_tmp Tryz.results150 (v := (.int .i64 (-1))) rfl ?_
   exact ⟨int_eq (idx_miss fun i y hy => hno i y (by have := lt_of_get hy; omega) hy).symm, E⟩
theorem hasi_c (w0 : World) (v : Value) (x : Int) (l : List Int) (hs : IntsAt w0 v l) :
  Ret Tryz.prog 106 #[v, .int .i64 x] w0 fun r w => r = .bool (l.contains x) ∧ Ext w0 w := by
 refine Ret_of Tryz.func106 rfl Tryz.ntmps106 (Nat.le_of_ble_eq_true rfl) ?_
 have E : Chg none1 w0 w0 := Chg.refl _ _
 refine Wp_seq_region ?_
 refine qA (.bool false) rfl ?_
 refine WpL_nil (Wp_seq_region ?_)
 refine qM v rfl ?_
 refine qM (I6 x) rfl ?_
 refine WpL_enter rfl rfl (by decide) (r_callF (vs := [v, (I6 x)]) Tryz.func150 kQ kQ rfl) (idxi_c _ v x l hs) ?_
 rintro _ w9 ⟨rfl, X9⟩
 replace E := E.ext X9
 refine qV (r_geq (k := .i64) (a := idx (fun y => decide (x = y)) l) (b := 0) rfl rfl) ?_
 refine qA (.bool (decide ((0 : Int) ≤ idx (fun y => decide (x = y)) l))) rfl ?_
 refine WpL_nil (Wp_ret ?_)
 refine fin_tmp Tryz.results106 (v := (.bool (decide ((0 : Int) ≤ idx (fun y => decide (x = y)) l)))) rfl ?_
 exact ⟨bool_eq ((idx_any _ l).trans (by rw [List.contains_eq_any_beq]; congr 1)), E⟩
set_option maxHeartbeats 400000 in
theorem clonei_c (w0 : World) (v : Value) (l : List Int) (h : IntsAt w0 v l) (hl : l.length ≤ 2000000) :
  Ret Tryz.prog 96 #[v] w0 fun r w => ∃ a c, r = .slice a l.length c ∧ l.length ≤ c ∧ (l = [] ∨ ∃ b rest, a = some ⟨b, 0, none⟩ ∧ w0.heap.size ≤ b ∧ Blk w b (l.map (Value.int .i64) ++ rest).toArray 3) ∧ Ext w0 w := by
 obtain ⟨a, c, rfl⟩ := SlAt.form h
 simp only [List.length_map] at h ⊢
 obtain ⟨base, hbase⟩ : ∃ base, base = w0.heap.size := ⟨_, rfl⟩
 refine Ret_of Tryz.func96 rfl Tryz.ntmps96 (Nat.le_of_ble_eq_true rfl) ?_
 have E : Chg none1 w0 w0 := Chg.refl _ _
 refine Wp_seq_region ?_
 refine qA (.slice none 0 0) rfl ?_
 refine WpL_nil (Wp_seq (Wp_seq_region ?_))
 refine qM (.slice a l.length c) rfl ?_
 refine WpL_val (v := (.bool a.isNone)) rfl rfl (by decide) (r_eqlNil Tryz.underlying22 rfl rfl) ?_
 refine WpL_nil ?_
 refine Wp_cond (b := a.isNone) rfl (fun hn => ?_) (fun hn => ?_)
 ·have khn := hn
  have hl0 : l.length = 0 := by rcases Nat.eq_zero_or_pos l.length with h0 | h0; exact h0; obtain ⟨b, o, rfl, _⟩ := ints_cells h h0; simp at hn
  have hl1 : l = [] := List.eq_nil_of_length_eq_zero hl0
  refine Wp_seq_region ?_
  refine qA (.slice none 0 0) rfl ?_
  refine WpL_nil (Wp_ret (thn_ret ?_))
  refine fin_tmp Tryz.results96 (v := (.slice none 0 0)) rfl ?_
  exact ⟨none, 0, by rw [hl0], by omega, .inl hl1, E⟩
 ·have khn := hn
  rcases Bool.eq_false_or_eq_true (decide (l.length = 0)) with hz | hz
  ·have khz := hz
   replace khz := of_decide_eq_true khz
   refine Wp_skip (thn_normal (Wp_seq_region ?_))
   refine s_build0 (by decide) Tryz.underlying22 siz3 ?_
   intro bq wq Nq
   have Fq := Nq.ge E
   replace E := E.ext Nq.ext
   have Bq := Nq.blk
   refine qM (.slice a l.length c) rfl ?_
   refine qV (r_append0 Tryz.underlying22 siz3 (a' := a) (c' := c) rfl (Nat.le_refl _) (by show Value.slice a l.length c = _; rw [khz])) ?_
   refine qA (.slice (some ⟨bq, 0, none⟩) 0 0) rfl ?_
   refine WpL_nil (Wp_ret ?_)
   refine fin_tmp Tryz.results96 (v := (.slice (some ⟨bq, 0, none⟩) 0 0)) rfl ?_
   have hl1 : l = [] := List.eq_nil_of_length_eq_zero khz
   exact ⟨some ⟨bq, 0, none⟩, 0, by rw [khz], by omega, .inl hl1, E⟩
  ·have khz := hz
   replace khz := of_decide_eq_false khz
   obtain ⟨b, o, rfl, hcl⟩ := ints_cells h (by omega)
   refine Wp_skip (thn_normal (Wp_seq_region ?_))
   refine s_build0 (by decide) Tryz.underlying22 siz3 ?_
   intro bq wq Nq
   have Fq := Nq.ge E
   replace E := E.ext Nq.ext
   have Bq := Nq.blk
   refine qM (.slice (some ⟨b, o, none⟩) l.length c) rfl ?_
   have hown := own_empty (base := base) (size := 1) Bq (by omega)
   have hbs : base ≤ wq.heap.size := by have := Nq.ext.size; omega
   refine s_append (base := base) (n := 0) (m := l.length) (xs := []) (news := l.map (Value.int .i64)) (size := 1) (bytes := 8) (v := (.slice (some ⟨bq, 0, none⟩) 0 0)) (by decide) Tryz.underlying22 siz3 byt3 zer3 rfl (by decide) rfl hown rfl (by simp) (fun i u hu => by rw [List.getElem?_map, Option.map_eq_some_iff] at hu; obtain ⟨x, hx, rfl⟩ := hu; exact Nq.ext.cell (hcl i x hx)) (by simp [Value.oneCell']) (by unfold maxLen; omega) (by omega) (hbs) ?_
   intro v9 w29 Ov9 Cv9 Dv9
   replace E := E.step Cv9 (fun x hx h => absurd (hown.lt x h).1 (by omega))
   obtain ⟨la, lc, rfl⟩ := own_form Ov9
   refine qA (.slice la (0 + l.length) lc) rfl ?_
   refine WpL_nil (Wp_ret ?_)
   refine fin_tmp Tryz.results96 (v := (.slice la (0 + l.length) lc)) rfl ?_
   simp only [Nat.zero_add, List.nil_append] at Ov9
   simp only [Nat.zero_add]
   rcases Ov9.2 with ⟨_, h2⟩ | ⟨g, cap, cur, h1, h2, h3, h4, h5, h6, h7⟩
   ·omega
   ·simp only [Value.slice.injEq] at h1
    obtain ⟨rfl, _, rfl⟩ := h1
    refine ⟨some ⟨g, 0, none⟩, lc, rfl, h4, .inr ⟨g, cur.toList.drop (l.length * 1), rfl, by omega, ?_⟩, E⟩
    have : (l.map (Value.int .i64) ++ cur.toList.drop (l.length * 1)).toArray = cur := by rw [← h7, List.take_append_drop]
    rw [this]; exact h3
end Go.Proofs
namespace Go.Proofs
open Go Go.Eng
set_option maxRecDepth 100000
theorem part_int {P : Program} {w : World} {e : TypeId} {cs : Array Value} {o : Nat} {v : Value} (hf : flatB P e = true) (hv : cs[o]? = some v) : (part e cs o).run P w = .ok v w := by
 simp [part, flatB.run hf, hv]
theorem get_ext {α : Type} {l m : List α} (hl : l.length = m.length) (h : ∀ i, i < l.length → l[i]? = m[i]?) : l = m := by
 apply List.ext_getElem?
 intro i
 rcases Nat.lt_or_ge i l.length with h' | h'
 ·exact h i h'
 ·rw [List.getElem?_eq_none h', List.getElem?_eq_none (by omega)]
section
variable {P : Program} {σ : Env} {w : World} {dst : Option Tmp} {ty : TypeId} {pos : String} {af : Array Edge} {g : Option (Nat × Bool)} {t t' e : TypeId} {x y : Operand}
theorem equalIn_span {f0 f1 : Field} (d : Nat) (a b c f : Int) (hp : P.stoodInHeld t = false) (ht : P.underlying t = some (.struct #[f0, f1])) (hn0 : f0.name ≠ "_") (hn1 : f1.name ≠ "_") (ho0 : f0.offset = 0) (ho1 : f1.offset = 1) (h0 : f0.type = e) (h1 : f1.type = e) (he : P.underlying e = some (.int .i64)) (hf : flatB P e = true) :
  (Op.equalIn (d + 2) t (.agg #[.int .i64 a, .int .i64 b]) (.agg #[.int .i64 c, .int .i64 f])).run P w = .ok (decide (a = c) && decide (b = f)) w := by
 have q1 : ∀ x y : Int, (Op.equalIn (d + 1) e (.int .i64 x) (.int .i64 y)).run P w = .ok (x == y) w := fun x y => run_equalIn_int w d e .i64 .i64 x y he
 have p0 : ∀ x y : Int, (part e #[.int .i64 x, .int .i64 y] 0).run P w = .ok (.int .i64 x) w := fun x y => part_int hf rfl
 have p1 : ∀ x y : Int, (part e #[.int .i64 x, .int .i64 y] 1).run P w = .ok (.int .i64 y) w := fun x y => part_int hf rfl
 have hpr : (program).run P w = .ok P w := rfl
 rw [Op.equalIn]
 simp only [Sem.run_bind, run_underlying ht, Result.andThen_ok, hpr, hp]
 by_cases hac : a = c
 ·by_cases hbf : b = f
  ·simp [hn0, hn1, ho0, ho1, h0, h1, p0, p1, q1, hac, hbf]
  ·simp [hn0, hn1, ho0, ho1, h0, h1, p0, p1, q1, hac, hbf]
 ·simp [hn0, hn1, ho0, ho1, h0, h1, p0, p1, q1, hac]
theorem r_neqSpan {f0 f1 : Field} {a b c f : Int} (hp : P.stoodInHeld t = false) (ht : P.underlying t = some (.struct #[f0, f1])) (hn0 : f0.name ≠ "_") (hn1 : f1.name ≠ "_") (ho0 : f0.offset = 0) (ho1 : f1.offset = 1) (h0 : f0.type = e) (h1 : f1.type = e) (he : P.underlying e = some (.int .i64)) (hf : flatB P e = true) (hm : P.eqGuardType P.depth t = false)
  (hx : ev σ x = .agg #[.int .i64 a, .int .i64 b]) (hy : ev σ y = .agg #[.int .i64 c, .int .i64 f]) :
  (execOp (ev σ) ⟨dst, .binOp .neq t x y t', ty, pos, af, g⟩).run P w = .ok (.value (.bool (!(decide (a = c) && decide (b = f))))) w := by
 have h := equalIn_span (P := P) (w := w) 9998 a b c f hp ht hn0 hn1 ho0 ho1 h0 h1 he hf
 simp only [execOp, hx, hy, Sem.run_bind, run_eqGuard_agg w .neq t x y _ _ hm, Result.andThen_ok, run_neq_struct, h]
 rfl
end
theorem eqgSpan : Tryz.prog.eqGuardType Tryz.prog.depth 80 = false := by kernel_rfl
theorem stoodSpan : Tryz.prog.stoodInHeld 80 = false := by kernel_rfl
theorem spans_flat {w : World} {b o : Nat} {l : List (Int × Int)} (h : ∀ i s, l[i]? = some s → CellsAt w b (o + i * 2) [.int .i64 s.1, .int .i64 s.2]) : CellsAt w b o (l.map spanV).flatten := by
  induction l generalizing o with
  | nil => intro i v hv; simp at hv
  | cons s l ih =>
    have h0 := h 0 s rfl
    have h1 := ih (o := o + 2) (fun i u hu => by have := h (i + 1) u (by simpa using hu); rwa [show o + (i + 1) * 2 = o + 2 + i * 2 from by omega] at this)
    intro i v hv
    simp only [List.map_cons, List.flatten_cons] at hv
    have hl : (spanV s).length = 2 := rfl
    rcases Nat.lt_or_ge i 2 with hi | hi
    · rw [List.getElem?_append_left (by omega)] at hv
      have := h0 i v hv
      simpa using this
    · rw [List.getElem?_append_right (by omega)] at hv
      have := h1 (i - 2) v (by rw [hl] at hv; exact hv)
      rwa [show o + 2 + (i - 2) = o + i from by omega] at this
theorem spans_six (l : List (Int × Int)) : (l.map spanV).flatten.length = l.length * 2 := by
  induction l with
  | nil => rfl
  | cons s l ih => simp only [List.map_cons, List.flatten_cons, List.length_append, ih, List.length_cons]; have : (spanV s).length = 2 := rfl; omega
theorem spans_one (l : List (Int × Int)) : ∀ u ∈ (l.map spanV).flatten, u.oneCell' = true := by
 intro u hu
 simp only [List.mem_flatten, List.mem_map] at hu
 obtain ⟨r, ⟨s, _, rfl⟩, hu⟩ := hu
 simp [spanV] at hu
 rcases hu with rfl | rfl <;> rfl
def cmpI (x y : Int) : Int := if x < y then -1 else if y < x then 1 else 0
theorem nan_c (w0 : World) (x : Int) : Ret Tryz.prog 142 #[.int .i64 x] w0 fun v w => v = .bool false ∧ Ext w0 w := by
 refine Ret_of Tryz.func142 rfl Tryz.ntmps142 (Nat.le_of_ble_eq_true rfl) ?_
 have E : Chg none1 w0 w0 := Chg.refl _ _
 refine Wp_seq_region ?_
 refine qA (.bool false) rfl ?_
 refine WpL_nil (Wp_seq_region ?_)
 refine qM (I6 x) rfl ?_
 refine qM (I6 x) rfl ?_
 refine qV (r_neq (k := .i64) (a := x) (b := x) rfl rfl) ?_
 refine qA (.bool (decide ((x : Int) ≠ x))) rfl ?_
 refine WpL_nil (Wp_ret ?_)
 refine fin_tmp Tryz.results142 (v := (.bool (decide ((x : Int) ≠ x)))) rfl ?_
 exact ⟨bool_eq (by simp), E⟩
theorem compare_c (w0 : World) (x y : Int) : Ret Tryz.prog 89 #[.int .i64 x, .int .i64 y] w0 fun v w => v = .int .i64 (cmpI x y) ∧ Ext w0 w := by
 refine Ret_of Tryz.func89 rfl Tryz.ntmps89 (Nat.le_of_ble_eq_true rfl) ?_
 have E : Chg none1 w0 w0 := Chg.refl _ _
 refine Wp_seq_region ?_
 refine qA (I6 0) rfl ?_
 refine WpL_nil (Wp_seq_region ?_)
 refine qM (I6 x) rfl ?_
 refine WpL_enter rfl rfl (by decide) (r_callF (vs := [(I6 x)]) Tryz.func142 kQ kQ rfl) (nan_c _ x) ?_
 rintro _ w9 ⟨rfl, X9⟩
 replace E := E.ext X9
 refine qA (.bool false) rfl ?_
 refine WpL_nil (Wp_seq_region ?_)
 refine qM (I6 y) rfl ?_
 refine WpL_enter rfl rfl (by decide) (r_callF (vs := [(I6 y)]) Tryz.func142 kQ kQ rfl) (nan_c _ y) ?_
 rintro _ w19 ⟨rfl, X19⟩
 replace E := E.ext X19
 refine qA (.bool false) rfl ?_
 refine WpL_nil (Wp_seq (Wp_seq_region ?_))
 refine qM (.bool false) rfl ?_
 refine WpL_nil ?_
 refine Wp_cond_false rfl ?_
 refine Wp_skip (thn_normal (Wp_seq (Wp_seq_region ?_)))
 refine qM (.bool false) rfl ?_
 refine WpL_nil ?_
 refine Wp_cond_false rfl ?_
 refine Wp_skip (thn_normal (Wp_seq (Wp_seq_region ?_)))
 refine qM (I6 x) rfl ?_
 refine qM (I6 y) rfl ?_
 refine qV (r_lss (k := .i64) (a := x) (b := y) rfl rfl) ?_
 refine WpL_nil ?_
 refine Wp_cond (b := decide ((x : Int) < y)) rfl (fun h1 => ?_) (fun h1 => ?_)
 ·have kh1 := h1
  replace h1 := of_decide_eq_true h1
  refine Wp_seq_region ?_
  refine qA (I6 (-1)) rfl ?_
  refine WpL_nil (Wp_ret (thn_ret ?_))
  refine fin_tmp Tryz.results89 (v := (.int .i64 (-1))) rfl ?_
  exact ⟨int_eq (by unfold cmpI; rw [if_pos h1]), E⟩
 ·have kh1 := h1
  replace h1 := of_decide_eq_false h1
  refine Wp_skip (thn_normal (Wp_seq (Wp_seq_region ?_)))
  refine qM (I6 x) rfl ?_
  refine qM (I6 y) rfl ?_
  refine qV (r_gtr (k := .i64) (a := x) (b := y) rfl rfl) ?_
  refine WpL_nil ?_
  refine Wp_cond (b := decide ((y : Int) < x)) rfl (fun h2 => ?_) (fun h2 => ?_)
  ·have kh2 := h2
   replace h2 := of_decide_eq_true h2
   refine Wp_seq_region ?_
   refine qA (I6 1) rfl ?_
   refine WpL_nil (Wp_ret (thn_ret ?_))
   refine fin_tmp Tryz.results89 (v := (.int .i64 1)) rfl ?_
   exact ⟨int_eq (by unfold cmpI; rw [if_neg h1, if_pos h2]), E⟩
  ·have kh2 := h2
   replace h2 := of_decide_eq_false h2
   refine Wp_skip (thn_normal (Wp_seq_region ?_))
   refine qA (I6 0) rfl ?_
   refine WpL_nil (Wp_ret ?_)
   refine fin_tmp Tryz.results89 (v := (.int .i64 0)) rfl ?_
   exact ⟨int_eq (by unfold cmpI; rw [if_neg h1, if_neg h2]), E⟩
end Go.Proofs
namespace Go.Proofs
open Go Go.Eng
def Txt (text : List Int) : Prop := text.length ≤ 24 ∧ ∀ x ∈ text, runeB x = true
end Go.Proofs
namespace Go.Proofs
open Go Go.Eng
def isL (k : Int) : Prop := k = 3 ∨ k = 4 ∨ k = 7
end Go.Proofs
namespace Go.Proofs
open Go Go.Eng
set_option maxRecDepth 100000
abbrev Sp := Int × Int
end Go.Proofs
namespace Go.Proofs
open Go Go.Eng
set_option maxRecDepth 100000
abbrev TSp : Nat := 80
theorem own_low {w : World} {base base' e size n : Nat} {v : Value} {xs : List Value} (h : w.ownsRow base e size v n xs) (hb : base' ≤ base) : w.ownsRow base' e size v n xs := by
 obtain ⟨h1, h2⟩ := h
 refine ⟨h1, h2.imp id ?_⟩
 rintro ⟨g, cap, cur, a, b, r⟩
 exact ⟨g, cap, cur, a, Nat.le_trans hb b, r⟩
theorem own_le {w : World} {base e size n c : Nat} {a : Option Addr} {xs : List Value} (h : w.ownsRow base e size (.slice a n c) n xs) : n ≤ c := by
 rcases h.2 with ⟨h1, h2⟩ | ⟨g, cap, cur, hv, _, _, hnc, _⟩
 ·omega
 ·simp only [Value.slice.injEq] at hv
  obtain ⟨_, _, rfl⟩ := hv
  exact hnc
/-- A list of spans that lies in memory of one's own. -/
def OwnS (w : World) (base : Nat) (r : Value) (l : List Sp) : Prop := (∃ a c, r = .slice a l.length c) ∧ w.ownsRow base TSp 2 r l.length (l.map spanV).flatten
theorem OwnS.at {w : World} {base : Nat} {r : Value} {l : List Sp} (h : OwnS w base r l) : SpansAt w r l :=
 own_slat h.2 (by intro x hx; simp only [List.mem_map] at hx; obtain ⟨p, _, rfl⟩ := hx; rfl) (by simp) (by decide)
theorem OwnS.ext {w w' : World} {base : Nat} {r : Value} {l : List Sp} (h : OwnS w base r l) (e : Ext w w') : OwnS w' base r l := ⟨h.1, own_ext h.2 e⟩
set_option maxHeartbeats 1000000 in
theorem clones_c (w0 : World) (v : Value) (l : List Sp) (h : SpansAt w0 v l) (hl : l.length ≤ 8796093022208) :
  Ret Tryz.prog 38 #[v] w0 fun r w => OwnS w w0.heap.size r l ∧ Ext w0 w := by
 obtain ⟨a, c, rfl⟩ := SlAt.form h
 simp only [List.length_map] at h ⊢
 obtain ⟨base, hbase⟩ : ∃ base, base = w0.heap.size := ⟨_, rfl⟩
 rw [← hbase]
 refine Ret_of Tryz.func38 rfl Tryz.ntmps38 (Nat.le_of_ble_eq_true rfl) ?_
 have E : Chg none1 w0 w0 := Chg.refl _ _
 refine Wp_seq_region ?_
 refine qA (.slice none 0 0) rfl ?_
 refine WpL_nil (Wp_seq (Wp_seq_region ?_))
 refine qM (.slice a l.length c) rfl ?_
 refine WpL_val (v := (.bool a.isNone)) rfl rfl (by decide) (r_eqlNil Tryz.underlying37 rfl rfl) ?_
 refine WpL_nil ?_
 refine Wp_cond (b := a.isNone) rfl (fun hn => ?_) (fun hn => ?_)
 ·have khn := hn
  have hl0 : l.length = 0 := by rcases Nat.eq_zero_or_pos l.length with h0 | h0; exact h0; obtain ⟨b, o, rfl, _⟩ := spans_cells h h0; simp at hn
  have hl1 : l = [] := List.eq_nil_of_length_eq_zero hl0
  refine Wp_seq_region ?_
  refine qA (.slice none 0 0) rfl ?_
  refine WpL_nil (Wp_ret (thn_ret ?_))
  refine fin_tmp Tryz.results38 (v := (.slice none 0 0)) rfl ?_
  subst hl1; exact ⟨⟨⟨none, 0, rfl⟩, World.ownsRow_nil _ _ _ _⟩, E⟩
 ·have khn := hn
  rcases Bool.eq_false_or_eq_true (decide (l.length = 0)) with hz | hz
  ·have khz := hz
   replace khz := of_decide_eq_true khz
   refine Wp_skip (thn_normal (Wp_seq_region ?_))
   refine s_build0 (by decide) Tryz.underlying37 siz80 ?_
   intro bq wq Nq
   have Fq := Nq.ge E
   replace E := E.ext Nq.ext
   have Bq := Nq.blk
   refine qM (.slice a l.length c) rfl ?_
   refine qV (r_append0 Tryz.underlying37 siz80 (a' := a) (c' := c) rfl (Nat.le_refl _) (by show Value.slice a l.length c = _; rw [khz])) ?_
   refine qA (.slice (some ⟨bq, 0, none⟩) 0 0) rfl ?_
   refine WpL_nil (Wp_ret ?_)
   refine fin_tmp Tryz.results38 (v := (.slice (some ⟨bq, 0, none⟩) 0 0)) rfl ?_
   have hl1 : l = [] := List.eq_nil_of_length_eq_zero khz
   subst hl1; exact ⟨⟨⟨_, 0, rfl⟩, own_empty (base := base) (size := 2) Bq (by omega)⟩, E⟩
  ·have khz := hz
   replace khz := of_decide_eq_false khz
   obtain ⟨b, o, rfl, hcl⟩ := spans_cells h (by omega)
   refine Wp_skip (thn_normal (Wp_seq_region ?_))
   refine s_build0 (by decide) Tryz.underlying37 siz80 ?_
   intro bq wq Nq
   have Fq := Nq.ge E
   replace E := E.ext Nq.ext
   have Bq := Nq.blk
   refine qM (.slice (some ⟨b, o, none⟩) l.length c) rfl ?_
   have hown := own_empty (base := base) (size := 2) Bq (by omega)
   have hbs : base ≤ wq.heap.size := by have := Nq.ext.size; omega
   refine s_append (base := base) (n := 0) (m := l.length) (xs := []) (news := (l.map spanV).flatten) (size := 2) (bytes := 16) (v := (.slice (some ⟨bq, 0, none⟩) 0 0)) (by decide) Tryz.underlying37 siz80 byt80 zer80 rfl (by decide) rfl hown rfl (spans_six l) ((spans_flat hcl).ext Nq.ext) (spans_one l) (by unfold maxLen; omega) (by omega) (hbs) ?_
   intro v9 w29 Ov9 Cv9 Dv9
   replace E := E.step Cv9 (fun x hx h => absurd (hown.lt x h).1 (by omega))
   obtain ⟨la, lc, rfl⟩ := own_form Ov9
   refine qA (.slice la (0 + l.length) lc) rfl ?_
   refine WpL_nil (Wp_ret ?_)
   refine fin_tmp Tryz.results38 (v := (.slice la (0 + l.length) lc)) rfl ?_
   simp only [Nat.zero_add, List.nil_append] at Ov9 ⊢
   exact ⟨⟨⟨la, lc, rfl⟩, Ov9⟩, E⟩
/-- One append of whatever slice, an empty one too. -/
theorem s_appendAny {P : Program} {N : Nat} {Q : Post} {σ : Env} {w : World} {K : Env → World → Prop} {ops : Array Oper} {rest : List Oper} {d : Nat} {ty : TypeId} {pos : String} {af : Array Edge} {t : TypeId} {s x : Operand}
  {base e size bytes n m c : Nat} {ax : Option Addr} {z v : Value} {xs news : List Value} (hN : d < N) (hu : P.underlying t = some (.slice e)) (hsz : Siz P e size) (hby : Byt P e bytes) (hz : Zer P e z) (hzs : z.cells.size = size) (h0 : 0 < size)
  (hs : ev σ s = v) (hown : w.ownsRow base e size v n xs) (hx : ev σ x = .slice ax m c) (hl : news.length = m * size) (hany : (m = 0 ∧ news = []) ∨ ∃ bx ox, ax = some ⟨bx, ox, none⟩ ∧ CellsAt w bx ox news) (h1 : ∀ u ∈ news, u.oneCell' = true)
  (h63 : n + m ≤ maxLen) (hbytes : (n + m) * bytes ≤ 140737488355328) (hbase : base ≤ w.heap.size)
  (k : ∀ v' w', w'.ownsRow base e size v' (n + m) (xs ++ news) → Chg (fun x => v.ownBlock = some x) w w' → (∀ k, v'.ownBlock = some k → v.ownBlock = some k ∨ w.heap.size ≤ k) → WpL P N ops K Q rest (upd σ d v') w') :
  WpL P N ops K Q (⟨some d, .call ⟨.builtin .append, #[s, x], #[t, t]⟩, ty, pos, af, none⟩ :: rest) σ w := by
 rcases hany with ⟨rfl, rfl⟩ | ⟨bx, ox, rfl, hc⟩
 ·obtain ⟨a, c', rfl⟩ := own_form hown
  refine WpL_val rfl rfl hN (r_append0 hu hsz hs (own_le hown) hx) (k _ w (by simpa using hown) (Chg.refl _ _) fun _ h => .inl h)
 ·exact s_append hN hu hsz hby hz hzs h0 hs hown hx hl hc h1 h63 hbytes hbase k
theorem ints_any {w : World} {a : Option Addr} {n c : Nat} {l : List Int} (h : IntsAt w (.slice a n c) l) : (n = 0 ∧ l.map (Value.int .i64) = []) ∨ ∃ b o, a = some ⟨b, o, none⟩ ∧ CellsAt w b o (l.map (Value.int .i64)) := by
 have hn : n = l.length := by have := (SlAt.cap h).2; simpa using this.symm
 rcases Nat.eq_zero_or_pos n with h0 | h0
 ·left; exact ⟨h0, by rw [List.eq_nil_of_length_eq_zero (show l.length = 0 by omega)]; rfl⟩
 ·right
  obtain ⟨b, o, ha, hc⟩ := ints_cells h h0
  exact ⟨b, o, ha, fun i u hu => by rw [List.getElem?_map, Option.map_eq_some_iff] at hu; obtain ⟨x, hx, rfl⟩ := hu; exact hc i x hx⟩
theorem s_appendZ {P : Program} {N : Nat} {Q : Post} {σ : Env} {w : World} {K : Env → World → Prop} {ops : Array Oper} {rest : List Oper} {d : Nat} {ty : TypeId} {pos : String} {af : Array Edge} {t ti : TypeId} {s x : Operand} {ik : IntKind}
    {base e size bytes n : Nat} {z : Value} (hN : d < N) (hu : P.underlying t = some (.slice e)) (hti : P.underlying ti = some (.int ik)) (hsz : Siz P e size) (hby : Byt P e bytes) (hz : Zer P e z) (hzs : z.cells.size = size) (h0 : 0 < size)
    (hs : ev σ s = .slice none 0 0) (hx : ev σ x = .int .i64 ((n : Nat) : Int)) (hn : 0 < n) (hbytes : n * bytes ≤ 140737488355328 ∧ n ≤ 8796093022208) (hbase : base ≤ w.heap.size)
    (k : ∀ cc w', Ext w w' → w'.ownsRow base e size (.slice (some ⟨w.heap.size, 0, none⟩) 0 cc) 0 [] → n ≤ cc → WpL P N ops K Q rest (upd σ d (.slice (some ⟨w.heap.size, 0, none⟩) n cc)) w') :
    WpL P N ops K Q (⟨some d, .call ⟨.builtin .append, #[s, x], #[t, ti]⟩, ty, pos, af, none⟩ :: rest) σ w := by
  unfold Siz at hsz; unfold Byt at hby; unfold Zer at hz
  cases hi : P.info? e with
  | none => rw [hi] at hsz; simp at hsz
  | some i =>
  rw [hi] at hsz hby hz
  simp at hsz hby hz
  subst hsz; subst hby
  have hge := grownCap_ge w n 0 e
  have hcm := grownCap_le_maxLen w n 0 e (by simp only [maxLen]; omega)
  refine WpL_val (v := .slice (some ⟨w.heap.size, 0, none⟩) n (grownCap w n 0 e)) (w' := w.drew.alloc (.cells (Builtin.zeroCells z.cells n ++ Builtin.zeroCells z.cells (grownCap w n 0 e - n)) e)) rfl rfl hN ?_ (k _ _ ?_ ?_ hge)
  · have hn0 : n ≠ 0 := by omega
    have h1 : IntKind.i64.wrap ((n : Nat) : Int) = n := wI64 (by omega)
    have h2 : ¬ ((n : Int) < 0) := by omega
    have h3 : ¬ ((281474976710656 : Int) < (n : Int) * (i.bytes : Int)) := by
      have : ((n * i.bytes : Nat) : Int) = (n : Int) * (i.bytes : Int) := by simp
      omega
    have h4 : ¬ (9223372036854775807 < (n : Int)) := by omega
    have h5 : ¬ (281474976710656 < Builtin.nextslicecap n 0 * i.bytes) := by rw [nextslicecap_zero hn]; omega
    have h6 : ¬ (n * i.size = 0) := fun h => by rcases Nat.mul_eq_zero.1 h with h | h <;> omega
    have h7 : i.size ≠ 0 := by omega
    simp [execOp, resolve, invoke, builtin, hs, hx, Builtin.append_, run_underlying hu, run_underlying hti, sizeOf, typeInfo, zeroValue, hi, hz, hn0, h1, h2, h3, h4, h5, h7, asInt, asIntOf, Question.forced, run_firstCells_none, newRow, grownCap]
    exact fun h => absurd h h6
  · exact ⟨rfl, rfl, rfl, Nat.le_succ _, by simp, fun b hb _ => by first | exact heap_alloc_old w.drew _ b hb | exact heap_alloc_old w.drew _ hb⟩
  · refine ⟨by simp, .inr ⟨w.heap.size, _, _, rfl, hbase, heap_alloc_new w.drew _, Nat.zero_le _, hcm, ?_, by simp⟩⟩
    simp only [Array.size_append, size_zeroCells, hzs, ← Nat.add_mul]
    congr 1
    omega
theorem r_capSlice {P : Program} {σ : Env} {w : World} {dst : Option Tmp} {ty : TypeId} {pos : String} {af : Array Edge} {g : Option (Nat × Bool)} {t e : TypeId} {x : Operand} {ad : Option Addr} {n cap : Nat} (hu : P.underlying t = some (.slice e)) (hx : ev σ x = .slice ad n cap) :
  (execOp (ev σ) ⟨dst, .call ⟨.builtin .cap, #[x], #[t]⟩, ty, pos, af, g⟩).run P w = .ok (.value (.int .i64 cap)) w := by
 simp only [execOp, resolve, List.map_toArray, List.map_cons, List.map_nil, hx]
 simp [invoke, builtin, Builtin.cap_, run_underlying hu, goInt]
end Go.Proofs
namespace Go.Proofs
open Go Go.Eng Go.Sort
set_option maxRecDepth 100000
def orL : List Int → Int
  | [] => 0
  | x :: r => if x ≠ 0 then x else orL r
theorem sor_c (w0 : World) (v : Value) (l : List Int) (h : IntsAt w0 v l) : Ret Tryz.prog 88 #[v] w0 fun r w => r = .int .i64 (orL l) ∧ Ext w0 w := by
 obtain ⟨a, c, rfl⟩ := SlAt.form h
 have hlen : l.length ≤ 9223372036854775807 := by simpa using SlAt.le h
 simp only [List.length_map] at h ⊢
 refine Ret_of Tryz.func88 rfl Tryz.ntmps88 (Nat.le_of_ble_eq_true rfl) ?_
 have E : Chg none1 w0 w0 := Chg.refl _ _
 refine Wp_seq_region ?_
 refine qA (I6 0) rfl ?_
 refine WpL_nil (Wp_seq_region ?_)
 refine qA (I6 0) rfl ?_
 refine WpL_nil (Wp_seq (Wp_seq_region ?_))
 refine qM (.slice a l.length c) rfl ?_
 refine qV (r_lenSlice (ad := a) (n := l.length) (cap := c) Tryz.underlying22 rfl) ?_
 refine qM (I6 0) rfl ?_
 refine WpL_nil (Wp_block ?_)
 refine Wp_loop (fun nn_ σ W1 => ∃ (k : Nat), (∃ jj_, σ = upds jj_ [(3, (I6 0)), (6, (.slice a l.length c)), (7, (I6 (l.length : Int))), (8, (I6 (k : Int)))]) ∧ Chg none1 w0 W1 ∧ (k ≤ l.length) ∧ (orL (l.drop k) = orL l) ∧ nn_ = l.length - k) (n := l.length - 0) ?_ ?_
 ·exact ⟨0, Fits.out ⟨rfl, rfl, rfl, rfl, trivial⟩, E, Nat.zero_le _, rfl, rfl⟩
 ·clear E
  rintro _ _ W1 ⟨k, ⟨j1, rfl⟩, E, hk, ho, rfl⟩
  refine Wp_seq_region ?_
  refine qV (r_lss (k := .i64) (a := (k : Int)) (b := (l.length : Int)) rfl rfl) ?_
  refine WpL_nil (Wp_seq ?_)
  refine Wp_cond (b := decide (((k : Int) : Int) < (l.length : Int))) rfl (fun hlt => ?_) (fun hlt => ?_)
  ·have khlt := hlt
   replace hlt := of_decide_eq_true hlt
   obtain ⟨x, hx⟩ := get_of_lt (l := l) (i := k) (by omega)
   obtain ⟨b, o, rfl, hcl⟩ := ints_cells h (by omega)
   rw [drop_cons hx] at ho
   refine Wp_skip (thn_normal (Wp_seq (Wp_block (Wp_seq_region ?_))))
   refine qV (r_indexSlice (b := b) (o := o) (len := l.length) (cap := c) (i := k) (o' := o + k) rfl rfl rfl Tryz.underlying22 siz3 (by omega) (by omega)) ?_
   refine qV (r_load (v := (I6 x)) rfl flat3 (E.cell (fun f => f) (hcl k x hx))) ?_
   refine qA (I6 x) rfl ?_
   refine WpL_nil (Wp_seq_region ?_)
   refine qM (I6 x) rfl ?_
   refine qM (I6 0) rfl ?_
   refine qV (r_neq (k := .i64) (a := x) (b := 0) rfl rfl) ?_
   refine WpL_nil ?_
   refine Wp_cond (b := decide ((x : Int) ≠ 0)) rfl (fun hne => ?_) (fun hne => ?_)
   ·have khne := hne
    replace hne := of_decide_eq_true hne
    refine Wp_seq_region ?_
    refine qM (I6 x) rfl ?_
    refine qA (I6 x) rfl ?_
    refine WpL_nil (Wp_ret (inB_ret (thn_ret (thn_ret (inB_ret (thn_ret ?_))))))
    refine fin_tmp Tryz.results88 (v := (.int .i64 x)) rfl ?_
    exact ⟨int_eq (by rw [← ho, orL, if_pos hne]), E⟩
   ·have khne := hne
    replace hne := of_decide_eq_false hne
    refine Wp_skip (inB_normal (thn_normal (Wp_region ?_)))
    refine qV (r_add (k := .i64) (a := (k : Int)) (b := 1) (c := (k : Int) + 1) rfl rfl (wI64 (by omega))) ?_
    refine qM (I6 ((k : Int) + 1)) rfl ?_
    refine WpL_nil (thn_normal ?_)
    exact ⟨l.length - (k + 1), by omega, k + 1, Fits.out ⟨rfl, rfl, rfl, rfl, trivial⟩, E, (by omega), (by rw [← ho, orL, if_neg hne]), rfl⟩
  ·have khlt := hlt
   replace hlt := of_decide_eq_false hlt
   have hkk : k = l.length := by omega
   refine Wp_exit (thn_exit (thn_exit (inB_here (thn_normal (Wp_seq_region ?_)))))
   refine qM (I6 0) rfl ?_
   refine qA (I6 0) rfl ?_
   refine WpL_nil (Wp_ret ?_)
   refine fin_tmp Tryz.results88 (v := (.int .i64 0)) rfl ?_
   exact ⟨int_eq (by rw [← ho, hkk, List.drop_length]; rfl), E⟩
def ints2F (a b : Int) : Fct := fun v w => ∃ bb, v = .slice (some ⟨bb, 0, none⟩) 2 2 ∧ IntsAt w v [a, b]
theorem ints2F_ext (a b : Int) : Stable (ints2F a b) := by
 rintro v w w' e ⟨bb, h1, h2⟩
 exact ⟨bb, h1, h2.ext e⟩
theorem Does_ints2 {N : Nat} {σ : Env} {w : World} {dst : Option Tmp} {ty : TypeId} {pos : String} {af : Array Edge} {g : Option (Nat × Bool)} {x y : Operand} {a b : Int} (hx : ev σ x = .int .i64 a) (hy : ev σ y = .int .i64 b) :
  Does Tryz.prog N ⟨dst, .buildSlice 22 2 #[(0, x), (1, y)], ty, pos, af, g⟩ (ints2F a b) σ w := by
 have hn := New.mk' w #[.int .i64 a, .int .i64 b] 3
 refine Does_val (run_buildSlice (parts := [(0, x), (1, y)]) (ps := [(0, .int .i64 a), (1, .int .i64 b)]) (by simp only [List.map, hx, hy]) Tryz.underlying22 siz3 zer3 (by decide) (by decide) (by kernel_rfl)) hn.ext ?_
 exact ⟨_, rfl, ints_of_blk [a, b] hn.blk (by simp) (by simp)⟩
end Go.Proofs
namespace Go.Proofs
open Go Go.Eng Go.Sort
set_option maxRecDepth 100000
def lexI (p q : Int) : Int := if p ≠ 0 then p else q
/-- Two comparisons, there and back. -/
def Sy (p p' : Int) : Prop := (p < 0 ↔ 0 < p') ∧ (0 < p ↔ p' < 0)
/-- Comparisons of one with another, of this with a third, and of the first with the third. -/
def Tr3 (p q r : Int) : Prop := (p ≤ 0 → q ≤ 0 → r ≤ 0) ∧ (p < 0 → q ≤ 0 → r < 0) ∧ (p ≤ 0 → q < 0 → r < 0)
theorem lexI_sg (p q : Int) : (lexI p q < 0 ↔ p < 0 ∨ (p = 0 ∧ q < 0)) ∧ (0 < lexI p q ↔ 0 < p ∨ (p = 0 ∧ 0 < q)) := by unfold lexI; split <;> omega
theorem Sy.lex {p p' P P' : Int} (h : Sy p p') (k : Sy P P') : Sy (lexI p P) (lexI p' P') := by
 unfold Sy at *
 have h1 := lexI_sg p P
 have h2 := lexI_sg p' P'
 omega
theorem Tr3.lex {p q r P Q R : Int} (h : Tr3 p q r) (k : Tr3 P Q R) : Tr3 (lexI p P) (lexI q Q) (lexI r R) := by
 unfold Tr3 at *
 have h1 := lexI_sg p P
 have h2 := lexI_sg q Q
 have h3 := lexI_sg r R
 refine ⟨fun a b => ?_, fun a b => ?_, fun a b => ?_⟩ <;> omega
theorem cmpI_sg (a b : Int) : (cmpI a b < 0 ↔ a < b) ∧ (0 < cmpI a b ↔ b < a) := by unfold cmpI; (repeat' split) <;> omega
theorem sy_cmp (a b : Int) : Sy (cmpI a b) (cmpI b a) := by
 have h1 := cmpI_sg a b
 have h2 := cmpI_sg b a
 unfold Sy
 omega
theorem tr_cmp (a b c : Int) : Tr3 (cmpI a b) (cmpI b c) (cmpI a c) := by
 have h1 := cmpI_sg a b
 have h2 := cmpI_sg b c
 have h3 := cmpI_sg a c
 unfold Tr3
 omega
theorem sy_zero : Sy 0 0 := by unfold Sy; omega
theorem tr_zero : Tr3 0 0 0 := by unfold Tr3; omega
def cmpSp (s t : Int × Int) : Int := orL [cmpI s.1 t.1, cmpI s.2 t.2]
theorem orL_cons (x : Int) (r : List Int) : orL (x :: r) = lexI x (orL r) := rfl
theorem orL_nil : orL [] = 0 := rfl
theorem sy_sp (a b : Int × Int) : Sy (cmpSp a b) (cmpSp b a) := by
 simp only [cmpSp, orL_cons, orL_nil]
 exact (sy_cmp _ _).lex ((sy_cmp _ _).lex sy_zero)
theorem tr_sp (a b c : Int × Int) : Tr3 (cmpSp a b) (cmpSp b c) (cmpSp a c) := by
 simp only [cmpSp, orL_cons, orL_nil]
 exact (tr_cmp _ _ _).lex ((tr_cmp _ _ _).lex tr_zero)
/-- Lists compared one by one; what ends earlier is less. -/
def cmpL {α : Type} (f : α → α → Int) : List α → List α → Int
  | [], [] => 0
  | [], _ :: _ => -1
  | _ :: _, [] => 1
  | x :: l, y :: m => lexI (f x y) (cmpL f l m)
theorem sy_list {α : Type} {f : α → α → Int} (hf : ∀ a b, Sy (f a b) (f b a)) : ∀ a b : List α, Sy (cmpL f a b) (cmpL f b a)
  | x :: a, y :: b => (hf x y).lex (sy_list hf a b)
  | [], [] => sy_zero
  | [], _ :: _ => by simp only [cmpL]; unfold Sy; omega
  | _ :: _, [] => by simp only [cmpL]; unfold Sy; omega
theorem tr_list {α : Type} {f : α → α → Int} (hf : ∀ a b c, Tr3 (f a b) (f b c) (f a c)) : ∀ a b c : List α, Tr3 (cmpL f a b) (cmpL f b c) (cmpL f a c)
  | x :: a, y :: b, z :: c => (hf x y z).lex (tr_list hf a b c)
  | [], [], [] => tr_zero
  | [], [], _ :: _ => by simp only [cmpL]; unfold Tr3; omega
  | [], _ :: _, [] => by simp only [cmpL]; unfold Tr3; omega
  | [], _ :: _, _ :: _ => by simp only [cmpL]; unfold Tr3; omega
  | _ :: _, [], [] => by simp only [cmpL]; unfold Tr3; omega
  | _ :: _, [], _ :: _ => by simp only [cmpL]; unfold Tr3; omega
  | _ :: _, _ :: _, [] => by simp only [cmpL]; unfold Tr3; omega
theorem lexI_zero {p q : Int} : lexI p q = 0 ↔ p = 0 ∧ q = 0 := by unfold lexI; split <;> omega
theorem cmpI_zero {a b : Int} : cmpI a b = 0 ↔ a = b := by unfold cmpI; (repeat' split) <;> omega
theorem cmpSp_zero {a b : Int × Int} : cmpSp a b = 0 ↔ a = b := by
 simp only [cmpSp, orL_cons, orL_nil, lexI_zero, cmpI_zero, and_true, Prod.ext_iff]
theorem cmpL_zero {α : Type} {f : α → α → Int} (hf : ∀ a b, f a b = 0 ↔ a = b) : ∀ {a b : List α}, cmpL f a b = 0 ↔ a = b
  | [], [] => by simp [cmpL]
  | [], _ :: _ => by simp [cmpL]
  | _ :: _, [] => by simp [cmpL]
  | x :: l, y :: m => by simp only [cmpL, lexI_zero, hf, cmpL_zero hf, List.cons.injEq]
end Go.Proofs
namespace Go.Eng
open Go
theorem rows_cells {rows : List (List Value)} {rest : List Value} {k : Nat} (hk : ∀ r ∈ rows, r.length = k) : ∀ {i : Nat} {r : List Value}, rows[i]? = some r → ∀ (j : Nat) (u : Value), r[j]? = some u → (rows.flatten ++ rest)[i * k + j]? = some u := by
  induction rows with
  | nil => intro i r h; simp at h
  | cons x rs ih =>
    intro i r hr j u hu
    have hx : x.length = k := hk x (by simp)
    cases i with
    | zero =>
      simp at hr; subst hr
      have hj := lt_of_get hu
      simp only [List.flatten_cons, Nat.zero_mul, Nat.zero_add, List.append_assoc]
      rw [List.getElem?_append_left hj]; exact hu
    | succ i =>
      simp at hr
      simp only [List.flatten_cons, List.append_assoc]
      rw [List.getElem?_append_right (by rw [hx, Nat.succ_mul]; omega)]
      rw [show (i + 1) * k + j - x.length = i * k + j from by rw [hx, Nat.succ_mul]; omega]
      exact ih (fun r hr => hk r (by simp [hr])) hr j u hu
theorem rows_at {w : World} {b T k : Nat} {rows : List (List Value)} {rest : List Value} (h : Blk w b (rows.flatten ++ rest).toArray T) (hk : ∀ r ∈ rows, r.length = k) {i : Nat} {r : List Value} (hr : rows[i]? = some r) : CellsAt w b (i * k) r := by
 intro j u hu
 exact h.cell (by simpa using rows_cells hk hr j u hu)
theorem rows_set {k : Nat} {v : List Value} (hv : v.length = k) : ∀ {rows : List (List Value)} {rest : List Value} {i : Nat}, (∀ r ∈ rows, r.length = k) → i < rows.length → (rows.flatten ++ rest).take (i * k) ++ v ++ (rows.flatten ++ rest).drop (i * k + k) = (rows.set i v).flatten ++ rest
  | [], _, _, _, hi => by simp at hi
  | x :: rs, rest, 0, hk, hi => by
    have hx : x.length = k := hk x (by simp)
    simp only [List.flatten_cons, Nat.zero_mul, List.take_zero, Nat.zero_add, List.set_cons_zero, List.nil_append, List.append_assoc]
    rw [List.drop_append_of_le_length (by omega), List.drop_of_length_le (by omega)]; simp
  | x :: rs, rest, i + 1, hk, hi => by
    have hx : x.length = k := hk x (by simp)
    have ih := rows_set hv (rows := rs) (rest := rest) (i := i) (fun r hr => hk r (by simp [hr])) (by simpa using hi)
    simp only [List.flatten_cons, List.set_cons_succ, List.append_assoc] at ih ⊢
    rw [← ih, Nat.succ_mul]
    have e1 : ∀ (A : List Value) (m : Nat), (x ++ A).take (x.length + m) = x ++ A.take m := fun A m => by rw [List.take_append, List.take_of_length_le (by omega), Nat.add_sub_cancel_left]
    have e2 : ∀ (A : List Value) (m : Nat), (x ++ A).drop (x.length + m) = A.drop m := fun A m => by rw [List.drop_append, List.drop_of_length_le (by omega), Nat.add_sub_cancel_left, List.nil_append]
    rw [show i * k + k = x.length + i * k from by omega, e1, show x.length + i * k + k = x.length + (i * k + k) from by omega, e2]
    rw [List.append_assoc, show x.length + i * k = i * k + k from by omega]
theorem rows_len {k : Nat} : ∀ {rows : List (List Value)}, (∀ r ∈ rows, r.length = k) → rows.flatten.length = rows.length * k
  | [], _ => by simp
  | x :: rs, h => by
    have := rows_len (rows := rs) (fun r hr => h r (by simp [hr]))
    have hx : x.length = k := h x (by simp)
    simp only [List.flatten_cons, List.length_append, List.length_cons, this, hx, Nat.succ_mul]; omega
end Go.Eng
namespace Go.Proofs
open Go Go.Eng Go.Sort
set_option maxRecDepth 100000
theorem cmpsp_c (w0 : World) (x y : Int × Int) : Ret Tryz.prog 144 #[.agg #[.int .i64 x.1, .int .i64 x.2], .agg #[.int .i64 y.1, .int .i64 y.2]] w0 fun v w => v = .int .i64 (cmpSp x y) ∧ Ext w0 w := by
 refine Ret_of Tryz.func144 rfl Tryz.ntmps144 (Nat.le_of_ble_eq_true rfl) ?_
 have E : Chg none1 w0 w0 := Chg.refl _ _
 refine Wp_seq_region ?_
 refine s_box (v := (.agg #[(I6 x.1), (I6 x.2)])) (c := #[(I6 x.1), (I6 x.2)]) (by decide) rfl rfl ?_
 intro b1 w1 N1
 have F1 := N1.ge E
 replace E := E.ext N1.ext
 have B1 := N1.blk
 refine s_box (v := (.agg #[(I6 y.1), (I6 y.2)])) (c := #[(I6 y.1), (I6 y.2)]) (by decide) rfl rfl ?_
 intro b2 w2 N2
 have F2 := N2.ge E
 have O2_b1 := N2.lt B1
 replace B1 := N2.keep B1
 replace E := E.ext N2.ext
 have B2 := N2.blk
 refine qA (I6 0) rfl ?_
 refine WpL_nil (Wp_seq ?_)
 obtain ⟨Fs3, hFs3⟩ : ∃ Fs : List Fact, Fs = [.eq (P6 b1 0), .eq (I6 x.1), .eq (P6 b2 0), .eq (I6 y.1), .eq (I6 (cmpI x.1 y.1)), .eq (P6 b1 1), .eq (I6 x.2), .eq (P6 b2 1), .eq (I6 y.2), .eq (I6 (cmpI x.2 y.2)), .gen (ints2F (cmpI x.1 y.1) (cmpI x.2 y.2)) (ints2F_ext _ _), .eq (I6 (cmpSp x y)), .eq (I6 (cmpSp x y))] := ⟨_, rfl⟩
 refine Wp_dag [5, 6, 7, 8, 9, 10, 11, 12, 13, 14, 15, 16, 4] [[], [0], [], [2], [1, 3], [], [5], [], [7], [4, 6, 8], [4, 9], [9, 10], [0, 1, 2, 3, 4, 5, 6, 7, 8, 9, 10, 11]] Fs3 hFs3 mixed (by kernel_rfl) (by kernel_rfl) ?_ ?_
 ·intro wd X0
  refine DagSteps.cons (fun s' w' X U H => Or.inl ⟨?_, ?_⟩) ?_
  ·exact Guarded_none rfl
  ·exact Does_val (r_fieldAddr (b := b1) (o := 0) (o' := 0) (U 2 rfl) Tryz.underlying80 rfl siz3 rfl) (Ext.refl _) rfl
  refine DagSteps.cons (fun s' w' X U H => Or.inl ⟨?_, ?_⟩) ?_
  ·exact Guarded_none rfl
  ·have e5 : s' 5 = (.pointer (some ⟨b1, 0, none⟩)) := H 0 rfl 5 (.eq (.pointer (some ⟨b1, 0, none⟩))) rfl (by rw [hFs3]; rfl)
   exact Does_val (r_load (v := (I6 x.1)) e5 flat3 (((X0.trans X).keep B1).cell rfl)) (Ext.refl _) rfl
  refine DagSteps.cons (fun s' w' X U H => Or.inl ⟨?_, ?_⟩) ?_
  ·exact Guarded_none rfl
  ·exact Does_val (r_fieldAddr (b := b2) (o := 0) (o' := 0) (U 3 rfl) Tryz.underlying80 rfl siz3 rfl) (Ext.refl _) rfl
  refine DagSteps.cons (fun s' w' X U H => Or.inl ⟨?_, ?_⟩) ?_
  ·exact Guarded_none rfl
  ·have e7 : s' 7 = (.pointer (some ⟨b2, 0, none⟩)) := H 2 rfl 7 (.eq (.pointer (some ⟨b2, 0, none⟩))) rfl (by rw [hFs3]; rfl)
   exact Does_val (r_load (v := (I6 y.1)) e7 flat3 (((X0.trans X).keep B2).cell rfl)) (Ext.refl _) rfl
  refine DagSteps.cons (fun s' w' X U H => Or.inl ⟨?_, ?_⟩) ?_
  ·exact Guarded_none rfl
  ·have e6 : s' 6 = (.int .i64 x.1) := H 1 rfl 6 (.eq (.int .i64 x.1)) rfl (by rw [hFs3]; rfl)
   have e8 : s' 8 = (.int .i64 y.1) := H 3 rfl 8 (.eq (.int .i64 y.1)) rfl (by rw [hFs3]; rfl)
   exact Does_enter (r_callF (vs := [(I6 x.1), (I6 y.1)]) Tryz.func89 kQ kQ (lst2 e6 e8)) (compare_c _ _ _)
  refine DagSteps.cons (fun s' w' X U H => Or.inl ⟨?_, ?_⟩) ?_
  ·exact Guarded_none rfl
  ·exact Does_val (r_fieldAddr (b := b1) (o := 0) (o' := 1) (U 2 rfl) Tryz.underlying80 rfl siz3 rfl) (Ext.refl _) rfl
  refine DagSteps.cons (fun s' w' X U H => Or.inl ⟨?_, ?_⟩) ?_
  ·exact Guarded_none rfl
  ·have e10 : s' 10 = (.pointer (some ⟨b1, 1, none⟩)) := H 5 rfl 10 (.eq (.pointer (some ⟨b1, 1, none⟩))) rfl (by rw [hFs3]; rfl)
   exact Does_val (r_load (v := (I6 x.2)) e10 flat3 (((X0.trans X).keep B1).cell rfl)) (Ext.refl _) rfl
  refine DagSteps.cons (fun s' w' X U H => Or.inl ⟨?_, ?_⟩) ?_
  ·exact Guarded_none rfl
  ·exact Does_val (r_fieldAddr (b := b2) (o := 0) (o' := 1) (U 3 rfl) Tryz.underlying80 rfl siz3 rfl) (Ext.refl _) rfl
  refine DagSteps.cons (fun s' w' X U H => Or.inl ⟨?_, ?_⟩) ?_
  ·exact Guarded_none rfl
  ·have e12 : s' 12 = (.pointer (some ⟨b2, 1, none⟩)) := H 7 rfl 12 (.eq (.pointer (some ⟨b2, 1, none⟩))) rfl (by rw [hFs3]; rfl)
   exact Does_val (r_load (v := (I6 y.2)) e12 flat3 (((X0.trans X).keep B2).cell rfl)) (Ext.refl _) rfl
  refine DagSteps.cons (fun s' w' X U H => Or.inl ⟨?_, ?_⟩) ?_
  ·exact Guarded_none rfl
  ·have e11 : s' 11 = (.int .i64 x.2) := H 6 rfl 11 (.eq (.int .i64 x.2)) rfl (by rw [hFs3]; rfl)
   have e13 : s' 13 = (.int .i64 y.2) := H 8 rfl 13 (.eq (.int .i64 y.2)) rfl (by rw [hFs3]; rfl)
   exact Does_enter (r_callF (vs := [(I6 x.2), (I6 y.2)]) Tryz.func89 kQ kQ (lst2 e11 e13)) (compare_c _ _ _)
  refine DagSteps.cons (fun s' w' X U H => Or.inl ⟨?_, ?_⟩) ?_
  ·exact Guarded_none rfl
  ·have e9 : s' 9 = (.int .i64 (cmpI x.1 y.1)) := H 4 rfl 9 (.eq (.int .i64 (cmpI x.1 y.1))) rfl (by rw [hFs3]; rfl)
   have e14 : s' 14 = (.int .i64 (cmpI x.2 y.2)) := H 9 rfl 14 (.eq (.int .i64 (cmpI x.2 y.2))) rfl (by rw [hFs3]; rfl)
   exact Does_ints2 e9 e14
  refine DagSteps.cons (fun s' w' X U H => Or.inl ⟨?_, ?_⟩) ?_
  ·exact Guarded_none rfl
  ·obtain ⟨b15, e15, i15⟩ := H 10 rfl 15 (.gen (ints2F (cmpI x.1 y.1) (cmpI x.2 y.2)) (ints2F_ext _ _)) rfl (by rw [hFs3]; rfl)
   exact Does_enter (r_callF (vs := [(.slice (some ⟨b15, 0, none⟩) 2 2)]) Tryz.func88 kQ kQ (lst1 e15)) (sor_c _ _ _ (e15 ▸ i15))
  refine DagSteps.cons (fun s' w' X U H => Or.inl ⟨?_, ?_⟩) ?_
  ·exact Guarded_none rfl
  ·have e16 : s' 16 = (.int .i64 (cmpSp x y)) := H 11 rfl 16 (.eq (.int .i64 (cmpSp x y))) rfl (by rw [hFs3]; rfl)
   exact Does_val (r_assign (v := (I6 (cmpSp x y))) e16) (Ext.refl _) rfl
  exact DagSteps.nil
 ·intro s' w3 X3 U H
  obtain ⟨j3, rfl⟩ := Fits.out (σ := s') (l := [(4, (.int .i64 (cmpSp x y)))]) ⟨(show s' 4 = (.int .i64 (cmpSp x y)) from H 12 4 (.eq (.int .i64 (cmpSp x y))) rfl (by rw [hFs3]; rfl)), trivial⟩
  clear U H
  replace B1 := X3.keep B1
  replace B2 := X3.keep B2
  replace E := E.ext X3
  refine thn_normal (Wp_ret ?_)
  refine fin_tmp Tryz.results144 (v := (.int .i64 (cmpSp x y))) rfl ?_
  exact ⟨rfl, E⟩
set_option maxHeartbeats 1000000 in
theorem cmpfs_c (w0 : World) (v1 v2 fv : Value) (l1 l2 : List (Int × Int)) (f : Int × Int → Int × Int → Int) (h1 : SpansAt w0 v1 l1) (h2 : SpansAt w0 v2 l2)
  (hf : ∀ (w : World) (x y : Int × Int), Ext w0 w → CallV Tryz.prog fv #[.agg #[.int .i64 x.1, .int .i64 x.2], .agg #[.int .i64 y.1, .int .i64 y.2]] w fun r w' => r = .int .i64 (f x y) ∧ Ext w w') :
  Ret Tryz.prog 143 #[v1, v2, fv] w0 fun v w => v = .int .i64 (cmpL f l1 l2) ∧ Ext w0 w := by
 obtain ⟨a1, c1, rfl⟩ := SlAt.form h1
 obtain ⟨a2, c2, rfl⟩ := SlAt.form h2
 have hle1 := SlAt.le h1
 have hle2 := SlAt.le h2
 simp only [List.length_map] at h1 h2 hle1 hle2 ⊢
 refine Ret_of Tryz.func143 rfl Tryz.ntmps143 (Nat.le_of_ble_eq_true rfl) ?_
 have E : Chg none1 w0 w0 := Chg.refl _ _
 refine Wp_seq_region ?_
 refine qA (I6 0) rfl ?_
 refine WpL_nil (Wp_seq (Wp_seq_region ?_))
 refine qM (.slice a1 l1.length c1) rfl ?_
 refine qV (r_lenSlice (ad := a1) (n := l1.length) (cap := c1) Tryz.underlying37 rfl) ?_
 refine qM (I6 0) rfl ?_
 refine WpL_nil (Wp_block ?_)
 refine Wp_loop (fun nn_ σ W1 => ∃ (k : Nat), (∃ jj_, σ = upds jj_ [(0, (.slice a1 l1.length c1)), (1, (.slice a2 l2.length c2)), (2, fv), (11, (.slice a1 l1.length c1)), (12, (I6 (l1.length : Int))), (13, (I6 (k : Int)))]) ∧ Chg none1 w0 W1 ∧ (k ≤ l1.length) ∧ (k ≤ l2.length) ∧ (cmpL f l1 l2 = cmpL f (l1.drop k) (l2.drop k)) ∧ nn_ = l1.length - k) (n := l1.length - 0) ?_ ?_
 ·exact ⟨0, Fits.out ⟨rfl, rfl, rfl, rfl, rfl, rfl, trivial⟩, E, Nat.zero_le _, Nat.zero_le _, rfl, rfl⟩
 ·clear E
  rintro _ _ W1 ⟨k, ⟨j1, rfl⟩, E, hk, hk2, heq, rfl⟩
  refine Wp_seq_region ?_
  refine qV (r_lss (k := .i64) (a := (k : Int)) (b := (l1.length : Int)) rfl rfl) ?_
  refine WpL_nil (Wp_seq ?_)
  refine Wp_cond (b := decide (((k : Int) : Int) < (l1.length : Int))) rfl (fun hlt => ?_) (fun hlt => ?_)
  ·have khlt := hlt
   replace hlt := of_decide_eq_true hlt
   obtain ⟨p, hp⟩ := get_of_lt (l := l1) (i := k) (by omega)
   obtain ⟨b1, o1, rfl, hc1⟩ := spans_cells h1 (by omega)
   rw [drop_cons hp] at heq
   refine Wp_skip (thn_normal (Wp_seq (Wp_block (Wp_seq_region ?_))))
   refine qM (I6 (k : Int)) rfl ?_
   refine qV (r_indexSlice (b := b1) (o := o1) (len := l1.length) (cap := c1) (i := k) (o' := o1 + k * 2) rfl rfl rfl Tryz.underlying37 siz80 (by omega) (by omega)) ?_
   refine qV (r_loadAgg (vs := [(I6 p.1), (I6 p.2)]) rfl agg80 siz80 rfl ((hc1 k p hp).ext E)) ?_
   refine s_alloc (c := #[(I6 0), (I6 0)]) (by decide) zer80 rfl ?_
   intro bp wp Np
   have Fp := Np.ge E
   replace E := E.ext Np.ext
   have Bp := Np.blk
   refine qA (I6 (k : Int)) rfl ?_
   refine s_storeAgg (b := bp) (o := 0) (c' := #[(I6 p.1), (I6 p.2)]) rfl rfl (by simp [Value.oneCell']) siz80 rfl Bp (by first | (simp; done) | exact Nat.le_of_ble_eq_true rfl) rfl ?_
   intro w3 S3
   replace E := S3.step E (by first | exact Or.inl (by omega) | exact Or.inr rfl | exact Or.inr (by assumption) | exact Or.inr (by simp) | exact Or.inr (by omega) | exact Or.inr (by dsimp only; omega))
   replace Bp := S3.blk
   refine WpL_nil (Wp_seq (Wp_seq_region ?_))
   refine qM (I6 (k : Int)) rfl ?_
   refine qM (.slice a2 l2.length c2) rfl ?_
   refine qV (r_lenSlice (ad := a2) (n := l2.length) (cap := c2) Tryz.underlying37 rfl) ?_
   refine qV (r_geq (k := .i64) (a := (k : Int)) (b := (l2.length : Int)) rfl rfl) ?_
   refine WpL_nil ?_
   refine Wp_cond (b := decide (((l2.length : Int) : Int) ≤ (k : Int))) rfl (fun hge => ?_) (fun hge => ?_)
   ·have khge := hge
    replace hge := of_decide_eq_true hge
    refine Wp_seq_region ?_
    refine qA (I6 1) rfl ?_
    refine WpL_nil (Wp_ret (thn_ret (inB_ret (thn_ret (thn_ret (inB_ret (thn_ret ?_)))))))
    refine fin_tmp Tryz.results143 (v := (.int .i64 1)) rfl ?_
    exact ⟨int_eq (by rw [heq, List.drop_eq_nil_of_le (show l2.length ≤ k by omega)]; rfl), E⟩
   ·have khge := hge
    replace hge := of_decide_eq_false hge
    obtain ⟨q, hq⟩ := get_of_lt (l := l2) (i := k) (by omega)
    obtain ⟨b2, o2, rfl, hc2⟩ := spans_cells h2 (by omega)
    rw [drop_cons hq] at heq
    refine Wp_skip (thn_normal (Wp_seq_region ?_))
    refine qM (.slice (some ⟨b2, o2, none⟩) l2.length c2) rfl ?_
    refine qM (I6 (k : Int)) rfl ?_
    refine qV (r_indexSlice (b := b2) (o := o2) (len := l2.length) (cap := c2) (i := k) (o' := o2 + k * 2) rfl rfl rfl Tryz.underlying37 siz80 (by omega) (by omega)) ?_
    refine qV (r_loadAgg (vs := [(I6 q.1), (I6 q.2)]) rfl agg80 siz80 rfl ((hc2 k q hq).ext E)) ?_
    refine s_allocStore (v := (.agg #[(I6 q.1), (I6 q.2)])) (c := #[(I6 q.1), (I6 q.2)]) (n := 2) (by decide) zer80 rfl siz80 rfl rfl rfl (by simp [Value.oneCell']) ?_
    intro bq wq Nq
    have Fq := Nq.ge E
    have Oq_bp := Nq.lt Bp
    replace Bp := Nq.keep Bp
    replace E := E.ext Nq.ext
    have Bq := Nq.blk
    refine WpL_nil (Wp_seq_region ?_)
    refine qM fv rfl ?_
    refine qV (r_loadAgg (vs := [(I6 p.1), (I6 p.2)]) rfl agg80 siz80 rfl (Bp.cells rfl)) ?_
    refine qV (r_loadAgg (vs := [(I6 q.1), (I6 q.2)]) rfl agg80 siz80 rfl (Bq.cells rfl)) ?_
    refine WpL_callV (fv := fv) (vs := [(.agg #[(I6 p.1), (I6 p.2)]), (.agg #[(I6 q.1), (I6 q.2)])]) (by decide) rfl rfl (hf _ p q E) ?_
    rintro _ w9 ⟨rfl, X9⟩
    replace Bp := X9.keep Bp
    replace Bq := X9.keep Bq
    replace E := E.ext X9
    refine qA (I6 (f p q)) rfl ?_
    refine WpL_nil (Wp_seq_region ?_)
    refine qM (I6 (f p q)) rfl ?_
    refine qV (r_neq (k := .i64) (a := f p q) (b := 0) rfl rfl) ?_
    refine WpL_nil ?_
    refine Wp_cond (b := decide ((f p q : Int) ≠ 0)) rfl (fun hne => ?_) (fun hne => ?_)
    ·have khne := hne
     replace hne := of_decide_eq_true hne
     refine Wp_seq_region ?_
     refine qM (I6 (f p q)) rfl ?_
     refine qA (I6 (f p q)) rfl ?_
     refine WpL_nil (Wp_ret (inB_ret (thn_ret (thn_ret (inB_ret (thn_ret ?_))))))
     refine fin_tmp Tryz.results143 (v := (.int .i64 (f p q))) rfl ?_
     exact ⟨int_eq (by rw [heq, cmpL, lexI, if_pos hne]), E⟩
    ·have khne := hne
     replace hne := of_decide_eq_false hne
     refine Wp_skip (inB_normal (thn_normal (Wp_region ?_)))
     refine qV (r_add (k := .i64) (a := (k : Int)) (b := 1) (c := (k : Int) + 1) rfl rfl (wI64 (by omega))) ?_
     refine qM (I6 ((k : Int) + 1)) rfl ?_
     refine WpL_nil (thn_normal ?_)
     exact ⟨l1.length - (k + 1), by omega, k + 1, Fits.out ⟨rfl, rfl, rfl, rfl, rfl, rfl, trivial⟩, E, (by omega), (by omega), (by rw [heq, cmpL, lexI, if_neg hne]), rfl⟩
  ·have khlt := hlt
   replace hlt := of_decide_eq_false hlt
   have hkk : k = l1.length := by omega
   rw [hkk, List.drop_length] at heq
   refine Wp_exit (thn_exit (thn_exit (inB_here (thn_normal (Wp_seq (Wp_seq_region ?_))))))
   refine qM (.slice a1 l1.length c1) rfl ?_
   refine qV (r_lenSlice (ad := a1) (n := l1.length) (cap := c1) Tryz.underlying37 rfl) ?_
   refine qM (.slice a2 l2.length c2) rfl ?_
   refine qV (r_lenSlice (ad := a2) (n := l2.length) (cap := c2) Tryz.underlying37 rfl) ?_
   refine qV (r_lss (k := .i64) (a := (l1.length : Int)) (b := (l2.length : Int)) rfl rfl) ?_
   refine WpL_nil ?_
   refine Wp_cond (b := decide (((l1.length : Int) : Int) < (l2.length : Int))) rfl (fun hl => ?_) (fun hl => ?_)
   ·have khl := hl
    replace hl := of_decide_eq_true hl
    obtain ⟨q, hq⟩ := get_of_lt (l := l2) (i := l1.length) (by omega)
    refine Wp_seq_region ?_
    refine qA (I6 (-1)) rfl ?_
    refine WpL_nil (Wp_ret (thn_ret ?_))
    refine fin_tmp Tryz.results143 (v := (.int .i64 (-1))) rfl ?_
    exact ⟨int_eq (by rw [heq, drop_cons hq]; rfl), E⟩
   ·have khl := hl
    replace hl := of_decide_eq_false hl
    refine Wp_skip (thn_normal (Wp_seq_region ?_))
    refine qA (I6 0) rfl ?_
    refine WpL_nil (Wp_ret ?_)
    refine fin_tmp Tryz.results143 (v := (.int .i64 0)) rfl ?_
    exact ⟨int_eq (by rw [heq, List.drop_eq_nil_of_le (by omega)]; rfl), E⟩
theorem spord_c (w0 : World) (v1 v2 : Value) (l1 l2 : List (Int × Int)) (h1 : SpansAt w0 v1 l1) (h2 : SpansAt w0 v2 l2) :
  Ret Tryz.prog 90 #[v1, v2] w0 fun v w => v = .int .i64 (cmpL cmpSp l1 l2) ∧ Ext w0 w := by
 refine Ret_of Tryz.func90 rfl Tryz.ntmps90 (Nat.le_of_ble_eq_true rfl) ?_
 have E : Chg none1 w0 w0 := Chg.refl _ _
 refine Wp_seq_region ?_
 refine qA (I6 0) rfl ?_
 refine WpL_nil (Wp_seq_region ?_)
 refine qM v1 rfl ?_
 refine qM v2 rfl ?_
 refine WpL_enter rfl rfl (by decide) (r_callF (vs := [v1, v2, (.func (.func 144) #[] #[])]) Tryz.func143 kQ kQ rfl) (cmpfs_c _ v1 v2 _ l1 l2 cmpSp h1 h2 (fun w x y _ => CallV.mk (first := #[]) (cap := #[]) Tryz.func144 kQ kQ rfl (cmpsp_c w x y))) ?_
 rintro _ w9 ⟨rfl, X9⟩
 replace E := E.ext X9
 refine qA (I6 (cmpL cmpSp l1 l2)) rfl ?_
 refine WpL_nil (Wp_ret ?_)
 refine fin_tmp Tryz.results90 (v := (.int .i64 (cmpL cmpSp l1 l2))) rfl ?_
 exact ⟨rfl, E⟩
end Go.Proofs
namespace Go.Proofs
open Go Go.Eng
abbrev Ed := Int × Int × List Sp
structure Nf where
 states : Int
 start : Int
 ends : List Int
 eps : List (Int × Int)
 edges : List Ed
inductive EpsR (eps : List (Int × Int)) : Int → Int → Prop
  | refl (s : Int) : EpsR eps s s
  | tail {s t u : Int} : EpsR eps s t → (t, u) ∈ eps → EpsR eps s u
theorem EpsR.trans {eps : List (Int × Int)} {s t u : Int} (h : EpsR eps s t) (k : EpsR eps t u) : EpsR eps s u := by
  induction k with
  | refl => exact h
  | tail _ h2 ih => exact .tail ih h2
theorem EpsR.head {eps : List (Int × Int)} {s t u : Int} (h : (s, t) ∈ eps) (k : EpsR eps t u) : EpsR eps s u := (EpsR.tail (.refl s) h).trans k
inductive Pth (n : Nf) : Int → List Int → Int → Prop
  | nil (s : Int) : Pth n s [] s
  | eps {s t u : Int} {w : List Int} : (s, t) ∈ n.eps → Pth n t w u → Pth n s w u
  | edge {s t u c : Int} {z : List Sp} {w : List Int} : (s, t, z) ∈ n.edges → inS z c = true → Pth n t w u → Pth n s (c :: w) u
def Nf.rev (n : Nf) (e : Int) : Nf := ⟨n.states, e, [n.start], n.eps.map fun p => (p.2, p.1), n.edges.map fun e => (e.2.1, e.1, e.2.2)⟩
def Acc (n : Nf) (w : List Int) : Prop := ∃ e ∈ n.ends, Pth n n.start w e
def cloP (eps : List (Int × Int)) (I : Int → Prop) : Int → Prop := fun t => ∃ s, I s ∧ EpsR eps s t
def stpP (n : Nf) (I : Int → Prop) (c : Int) : Int → Prop := fun t => ∃ e ∈ n.edges, I e.1 ∧ inS e.2.2 c = true ∧ e.2.1 = t
def setP (n : Nf) (I : Int → Prop) (w : List Int) : Int → Prop := w.foldl (fun J c => cloP n.eps (stpP n J c)) I
theorem cloP_self {eps : List (Int × Int)} {I : Int → Prop} {s : Int} (h : I s) : cloP eps I s := ⟨s, h, .refl s⟩
theorem cloP_step {eps : List (Int × Int)} {I : Int → Prop} {s t : Int} (h : cloP eps I s) (k : EpsR eps s t) : cloP eps I t := by
 obtain ⟨r, h1, h2⟩ := h; exact ⟨r, h1, h2.trans k⟩
theorem EpsR.pth {n : Nf} {s t u : Int} {w : List Int} (h : EpsR n.eps s t) : Pth n t w u → Pth n s w u := by
  induction h with
  | refl => exact id
  | tail _ k ih => exact fun h => ih (.eps k h)
theorem pth_nil {n : Nf} {s t : Int} {w : List Int} (h : Pth n s w t) (hw : w = []) : EpsR n.eps s t := by
  induction h with
  | nil s => exact .refl s
  | eps h _ ih => exact .head h (ih hw)
  | edge => cases hw
theorem pth_cons {n : Nf} {s t c : Int} {v w : List Int} (h : Pth n s v t) (hv : v = c :: w) : ∃ a e, EpsR n.eps s a ∧ e ∈ n.edges ∧ e.1 = a ∧ inS e.2.2 c = true ∧ Pth n e.2.1 w t := by
  induction h with
  | nil s => cases hv
  | eps h _ ih =>
    obtain ⟨a, e, h1, h2⟩ := ih hv
    exact ⟨a, e, .head h h1, h2⟩
  | @edge s t u c' z w' h hc hp _ =>
    cases hv
    exact ⟨s, (s, t, z), .refl s, h, rfl, hc, hp⟩
theorem setP_pth (n : Nf) (t : Int) : ∀ (w : List Int) (I : Int → Prop), (∀ a b, I a → EpsR n.eps a b → I b) → (setP n I w t ↔ ∃ s, I s ∧ Pth n s w t)
  | [], I, hI => by
    constructor
    · exact fun h => ⟨t, h, .nil t⟩
    · rintro ⟨s, h1, h2⟩
      exact hI s t h1 (pth_nil h2 rfl)
  | c :: w, I, hI => by
    have ih := setP_pth n t w (cloP n.eps (stpP n I c)) (fun a b h k => cloP_step h k)
    show setP n (cloP n.eps (stpP n I c)) w t ↔ _
    rw [ih]
    constructor
    · rintro ⟨s, ⟨r, ⟨e, he, hi, hc, hr⟩, hk⟩, hp⟩
      subst hr
      exact ⟨e.1, hi, .edge (z := e.2.2) he hc (hk.pth hp)⟩
    · rintro ⟨s, hi, hp⟩
      obtain ⟨a, e, h1, h2, h3, h4, h5⟩ := pth_cons hp rfl
      exact ⟨e.2.1, cloP_self ⟨e, h2, by rw [h3]; exact hI s a hi h1, h4, rfl⟩, h5⟩
theorem acc_set (n : Nf) (w : List Int) : Acc n w ↔ ∃ e ∈ n.ends, setP n (cloP n.eps fun s => s = n.start) w e := by
 unfold Acc
 have h := fun e => setP_pth n e w (cloP n.eps fun s => s = n.start) (fun a b h k => cloP_step h k)
 constructor
 ·rintro ⟨e, he, hp⟩
  exact ⟨e, he, (h e).2 ⟨n.start, cloP_self rfl, hp⟩⟩
 ·rintro ⟨e, he, hp⟩
  obtain ⟨s, ⟨r, h1, h2⟩, h3⟩ := (h e).1 hp
  exact ⟨e, he, by rw [← h1]; exact h2.pth h3⟩
def MarkOf (m : List Bool) (I : Int → Prop) : Prop := ∀ k : Nat, k < m.length → (m[k]? = some true ↔ I (k : Int))
/-- Closing under way: w waits, the states of o are at work. -/
structure CloSt (eps : List (Int × Int)) (n : Nat) (I : Int → Prop) (m : List Bool) (w o : List Int) : Prop where
 len : m.length = n
 mkd : ∀ k : Nat, m[k]? = some true → cloP eps I k
 st : ∀ k : Nat, k < n → I k → m[k]? = some true
 wm : ∀ s ∈ w, ∃ k : Nat, s = (k : Int) ∧ m[k]? = some true
 cl : ∀ k : Nat, m[k]? = some true → (k : Int) ∈ w ∨ (k : Int) ∈ o ∨ ∀ u : Nat, ((k : Int), (u : Int)) ∈ eps → m[u]? = some true
def cntT (m : List Bool) : Nat := m.countP fun b => !b
theorem cntT_set {m : List Bool} {k : Nat} (h : m[k]? = some false) : cntT (m.set k true) + 1 = cntT m := by
  induction m generalizing k with
  | nil => simp at h
  | cons b m ih =>
    cases k with
    | zero => simp at h; subst h; simp [cntT]
    | succ k =>
      have := ih (k := k) (by simpa using h)
      simp only [cntT, List.set_cons_succ, List.countP_cons] at this ⊢
      omega
theorem CloSt.start {eps : List (Int × Int)} {n : Nat} {m : List Bool} {I : Int → Prop} (hl : m.length = n) (h : MarkOf m I) {w : List Int} (hw : ∀ k : Nat, m[k]? = some true → (k : Int) ∈ w) (hw2 : ∀ s ∈ w, ∃ k : Nat, s = (k : Int) ∧ m[k]? = some true) : CloSt eps n I m w [] :=
 ⟨hl, fun k hk => cloP_self ((h k (lt_of_get hk)).1 hk), fun k hk hi => (h k (by omega)).2 hi, hw2, fun k hk => .inl (hw k hk)⟩
theorem CloSt.fin {eps : List (Int × Int)} {n : Nat} {m : List Bool} {I : Int → Prop} (h : CloSt eps n I m [] []) (hI : ∀ s, I s → 0 ≤ s ∧ s < n) (he : ∀ p ∈ eps, 0 ≤ p.2 ∧ p.2 < n) : MarkOf m (cloP eps I) := by
  intro k hk
  constructor
  · exact h.mkd k
  · rintro ⟨s, hs, hr⟩
    have : ∀ t, EpsR eps s t → ∃ u : Nat, t = (u : Int) ∧ m[u]? = some true := by
      intro t ht
      induction ht with
      | refl =>
        obtain ⟨h1, h2⟩ := hI s hs
        refine ⟨s.toNat, by omega, h.st _ (by omega) ?_⟩
        rw [Int.toNat_of_nonneg h1]; exact hs
      | @tail t u _ hp ih =>
        obtain ⟨q, rfl, hq⟩ := ih
        obtain ⟨h1, h2⟩ := he _ hp
        refine ⟨u.toNat, by omega, ?_⟩
        rcases h.cl q hq with h3 | h3 | h3
        · cases h3
        · cases h3
        · refine h3 u.toNat ?_
          rw [Int.toNat_of_nonneg h1]; exact hp
    obtain ⟨u, hu, hm⟩ := this _ hr
    rw [show k = u by omega]; exact hm
/-- The last of those that wait is taken. -/
theorem CloSt.pop {eps : List (Int × Int)} {n : Nat} {m : List Bool} {I : Int → Prop} {w : List Int} {s : Int} (h : CloSt eps n I m (w ++ [s]) []) : CloSt eps n I m w [s] :=
 ⟨h.len, h.mkd, h.st, fun t ht => h.wm t (List.mem_append_left _ ht), fun k hk => by
  rcases h.cl k hk with h1 | h1 | h1
  ·rcases List.mem_append.1 h1 with h2 | h2
   ·exact .inl h2
   ·exact .inr (.inl h2)
  ·cases h1
  ·exact .inr (.inr h1)⟩
theorem CloSt.mark {eps : List (Int × Int)} {n : Nat} {m : List Bool} {I : Int → Prop} {w : List Int} {s : Int} (h : CloSt eps n I m w [s]) {t : Nat} (ht : t < n) (hs : ∃ k : Nat, s = (k : Int) ∧ m[k]? = some true) (hp : (s, (t : Int)) ∈ eps) : CloSt eps n I (m.set t true) (w ++ [(t : Int)]) [s] := by
 have hg : ∀ k : Nat, (m.set t true)[k]? = some true ↔ (k = t ∨ m[k]? = some true) := by
  intro k
  rw [List.getElem?_set]
  by_cases e : t = k
  ·subst e; rw [if_pos rfl, if_pos (by rw [h.len]; exact ht)]; simp
  ·rw [if_neg e]; constructor
   ·exact .inr
   ·rintro (h1 | h1)
    ·exact absurd h1.symm e
    ·exact h1
 refine ⟨by rw [List.length_set]; exact h.len, fun k hk => ?_, fun k hk hi => (hg k).2 (.inr (h.st k hk hi)), fun u hu => ?_, fun k hk => ?_⟩
 ·rcases (hg k).1 hk with rfl | h1
  ·obtain ⟨q, rfl, hq⟩ := hs
   exact cloP_step (h.mkd q hq) (.tail (.refl _) hp)
  ·exact h.mkd k h1
 ·rcases List.mem_append.1 hu with h1 | h1
  ·obtain ⟨k, rfl, hk⟩ := h.wm u h1
   exact ⟨k, rfl, (hg k).2 (.inr hk)⟩
  ·exact ⟨t, List.mem_singleton.1 h1, (hg t).2 (.inl rfl)⟩
 ·rcases (hg k).1 hk with rfl | h1
  ·exact .inl (List.mem_append_right _ (List.mem_singleton_self _))
  ·rcases h.cl k h1 with h2 | h2 | h2
   ·exact .inl (List.mem_append_left _ h2)
   ·exact .inr (.inl h2)
   ·exact .inr (.inr fun u hu => (hg u).2 (.inr (h2 u hu)))
theorem CloSt.done {eps : List (Int × Int)} {n : Nat} {m : List Bool} {I : Int → Prop} {w : List Int} {s : Int} (h : CloSt eps n I m w [s]) (hp : ∀ u : Nat, (s, (u : Int)) ∈ eps → m[u]? = some true) : CloSt eps n I m w [] :=
 ⟨h.len, h.mkd, h.st, h.wm, fun k hk => by
  rcases h.cl k hk with h1 | h1 | h1
  ·exact .inl h1
  ·rw [List.mem_singleton.1 h1]; exact .inr (.inr hp)
  ·exact .inr (.inr h1)⟩
/-- What follows a state, in order. -/
def sucL (eps : List (Int × Int)) (s : Nat) : List Int := (eps.filter fun p => p.1 == (s : Int)).map (·.2)
theorem sucL_mem {eps : List (Int × Int)} {s : Nat} {t : Int} : t ∈ sucL eps s ↔ ((s : Int), t) ∈ eps := by
 unfold sucL
 simp only [List.mem_map, List.mem_filter, beq_iff_eq]
 constructor
 ·rintro ⟨⟨a, b⟩, ⟨h1, h2⟩, h3⟩
  simp only at h2 h3
  rw [← h2, ← h3]; exact h1
 ·exact fun h => ⟨((s : Int), t), ⟨h, rfl⟩, rfl⟩
theorem sucL_snoc {eps : List (Int × Int)} {p : Int × Int} {a s : Nat} (h : p.1 = (a : Int)) : sucL (eps ++ [p]) s = if s = a then sucL eps s ++ [p.2] else sucL eps s := by
 unfold sucL
 rw [List.filter_append, List.map_append]
 by_cases e : s = a
 ·subst e; rw [if_pos rfl]; simp [h]
 ·rw [if_neg e]
  have : ((p.1 == (s : Int)) = false) := by rw [h]; simp; omega
  simp [this]
theorem sucL_len (eps : List (Int × Int)) (s : Nat) : (sucL eps s).length ≤ eps.length := by
 unfold sucL; rw [List.length_map]; exact List.length_filter_le _ _
end Go.Proofs
namespace Go.Proofs
open Go Go.Eng
/-- What is built so far: the number of states, the steps for nothing, the edges. -/
structure ThS where
 n : Nat
 eps : List (Int × Int)
 edges : List Ed
def epN (s : ThS) (q : Int) : Nat := s.eps.countP fun p => p.1 == q
def edN (s : ThS) (q : Int) : Nat := s.edges.countP fun e => e.1 == q
def zero (s : ThS) (q : Nat) : Prop := epN s q = 0 ∧ edN s q = 0
end Go.Proofs
namespace Go.Proofs
open Go Go.Eng
set_option maxRecDepth 100000
mutual
def usesB (ks : List Int) : Re → Bool
  | .mk k _ args _ _ _ => ks.contains k || usesBs ks args
def usesBs (ks : List Int) : List Re → Bool
  | [] => false
  | t :: ts => usesB ks t || usesBs ks ts
end
def useF (ks : List Int) : Unit → Re → Bool × Unit := fun _ t => (!ks.contains t.kind, ())
mutual
theorem walk_use (ks : List Int) : ∀ (t : Re), (walkF (useF ks) t ()).1 = !usesB ks t
  | .mk k set args mn mx ng => by
    have h := walks_use ks args
    rw [walkF_eq]
    split
    · rename_i hk
      have hk : ks.contains k = false := by simpa only [useF, Re.kind, Bool.not_eq_true'] using hk
      show (walkFs (useF ks) args ()).1 = _
      rw [h]
      simp only [usesB, hk, Bool.false_or]
    · rename_i hk
      have hk : ks.contains k = true := by
        cases hc : ks.contains k with
        | true => rfl
        | false => exact absurd (show (useF ks () (.mk k set args mn mx ng)).1 = true by simp only [useF, Re.kind, hc, Bool.not_false]) hk
      simp only [usesB, hk, Bool.true_or, Bool.not_true]
theorem walks_use (ks : List Int) : ∀ (ts : List Re), (walkFs (useF ks) ts ()).1 = !usesBs ks ts
  | [] => rfl
  | t :: ts => by
    have h1 := walk_use ks t
    have h := walks_use ks ts
    rw [walkFs_cons]
    split
    · rename_i hk
      rw [hk] at h1
      have hu : usesB ks t = false := by simpa using h1.symm
      show (walkFs (useF ks) ts ()).1 = _
      rw [h]
      simp only [usesBs, hu, Bool.false_or]
    · rename_i hk
      have hu : usesB ks t = true := by
        cases hc : usesB ks t with
        | true => rfl
        | false => rw [hc] at h1; exact absurd h1 hk
      simp only [usesBs, hu, Bool.true_or, Bool.not_true]
end
theorem uses1_c (w0 : World) (t : Re) (vs : List Value) (ks : List Int) (v : Value) (b : Nat) (ht : ReAt w0 t vs) (hB : Blk w0 b #[v] 22) (hks : IntsAt w0 v ks) :
  Ret Tryz.prog 105 #[.agg vs.toArray, .pointer (some ⟨b, 0, none⟩)] w0 fun r w => r = .bool (!ks.contains t.kind) ∧ Ext w0 w := by
 obtain ⟨sa, sc, aa, ac, rfl, _, _, _⟩ := ht.form
 refine Ret_of Tryz.func105 rfl Tryz.ntmps105 (Nat.le_of_ble_eq_true rfl) ?_
 have E : Chg none1 w0 w0 := Chg.refl _ _
 refine Wp_seq_region ?_
 refine s_box (v := (.agg (R6 t sa sc aa ac))) (c := (R6 t sa sc aa ac)) (by decide) rfl rfl ?_
 intro b1 w1 N1
 have F1 := N1.ge E
 have O1_b := N1.lt hB
 replace hB := N1.keep hB
 replace E := E.ext N1.ext
 have B1 := N1.blk
 refine qA (.bool false) rfl ?_
 refine WpL_nil (Wp_seq_region ?_)
 refine qV (r_load (v := v) rfl flat22 (hB.cell rfl)) ?_
 refine qF b1 0 0 rfl Tryz.underlying48 rfl siz3 rfl ?_
 refine qV (r_load (v := (I6 t.kind)) rfl flat3 (B1.cell rfl)) ?_
 refine WpL_enter rfl rfl (by decide) (r_callF (vs := [v, (I6 t.kind)]) Tryz.func106 kQ kQ rfl) (hasi_c _ v t.kind ks (hks.ext E)) ?_
 rintro _ w9 ⟨rfl, X9⟩
 replace hB := X9.keep hB
 replace B1 := X9.keep B1
 replace E := E.ext X9
 refine qV (r_not (b := ks.contains t.kind) rfl) ?_
 refine qA (.bool (!(ks.contains t.kind))) rfl ?_
 refine WpL_nil (Wp_ret ?_)
 refine fin_tmp Tryz.results105 (v := (.bool (!(ks.contains t.kind)))) rfl ?_
 exact ⟨rfl, E⟩
set_option maxHeartbeats 1000000 in
theorem uses_c (w0 : World) (t : Re) (vs : List Value) (ks : List Int) (v : Value) (ht : ReAt w0 t vs) (hks : IntsAt w0 v ks) :
  Ret Tryz.prog 56 #[.agg vs.toArray, v] w0 fun r w => r = .bool (usesB ks t) ∧ Ext w0 w := by
 have ht0 := ht
 obtain ⟨sa, sc, aa, ac, rfl, _, _, _⟩ := ht.form
 obtain ⟨ka, kc, rfl⟩ := SlAt.form hks
 simp only [List.length_map] at hks ⊢
 refine Ret_of Tryz.func56 rfl Tryz.ntmps56 (Nat.le_of_ble_eq_true rfl) ?_
 have E : Chg none1 w0 w0 := Chg.refl _ _
 refine Wp_seq_region ?_
 refine s_box (v := (.agg (R6 t sa sc aa ac))) (c := (R6 t sa sc aa ac)) (by decide) rfl rfl ?_
 intro br wr Nr
 have Fr := Nr.ge E
 replace E := E.ext Nr.ext
 have Br := Nr.blk
 refine s_box (v := (.slice ka ks.length kc)) (c := #[(.slice ka ks.length kc)]) (by decide) rfl rfl ?_
 intro bp wp Np
 have Fp := Np.ge E
 have Op_br := Np.lt Br
 replace Br := Np.keep Br
 replace E := E.ext Np.ext
 have Bp := Np.blk
 refine qA (.bool false) rfl ?_
 refine WpL_nil (Wp_seq_region ?_)
 refine qV (r_loadAgg (vs := [(I6 t.kind), (.slice sa t.set.length sc), (.slice aa t.args.length ac), (I6 t.mn), (I6 t.mx), (.bool t.neg)]) rfl agg48 siz48 rfl (Br.cells rfl)) ?_
 refine qV (r_makeFunc (vs := []) (us := [(P6 bp 0)]) rfl rfl) ?_
 have hf : ∀ (s : Unit) (w : World) (t : Re) (vs : List Value), bp + 1 ≤ w.heap.size → Ext wp w → Blk w bp #[.slice ka ks.length kc] 22 → ReAt wp t vs → CallV Tryz.prog (.func (.func 105) #[] #[.pointer (some ⟨bp, 0, none⟩)]) #[.agg vs.toArray] w fun r w' => r = .bool (useF ks s t).1 ∧ Chg none1 w w' ∧ Blk w' bp #[.slice ka ks.length kc] 22 := fun s w t vs _ hE hI ht => CallV.mk (first := #[]) (cap := #[.pointer (some ⟨bp, 0, none⟩)]) Tryz.func105 kQ kQ rfl ((uses1_c w t vs ks (.slice ka ks.length kc) bp (ReAt.ext hE t ht) hI ((hks.ext E).ext hE)).mono fun r w' h => ⟨h.1, h.2, Ext.keep h.2 hI⟩)
 refine WpL_enter rfl rfl (by decide) (r_callF (vs := [(.agg (R6 t sa sc aa ac)), (.func (.func 105) #[] #[(P6 bp 0)])]) Tryz.func104 kQ kQ rfl) ((walk_c (useF ks) (fun _ w => Blk w bp #[.slice ka ks.length kc] 22) none1 (bp + 1) _ wp (fun b hb => hb.elim) (fun s w w' hI e => e.keep hI) hf t.size t (Nat.le_refl _) () _ _ (by have := Bp.lt; omega) (Ext.refl _) Bp (ReAt.ext E t ht0)).mono (R' := fun r w => r = .bool (walkF (useF ks) t ()).1 ∧ Ext wp w) (fun r w h => ⟨h.1, h.2.1⟩)) ?_
 rintro _ w9 ⟨rfl, X9⟩
 replace Br := X9.keep Br
 replace Bp := X9.keep Bp
 replace E := E.ext X9
 refine qV (r_not (b := (walkF (useF ks) t ()).1) rfl) ?_
 refine qA (.bool (!((walkF (useF ks) t ()).1))) rfl ?_
 refine WpL_nil (Wp_ret ?_)
 refine fin_tmp Tryz.results56 (v := (.bool (!((walkF (useF ks) t ()).1)))) rfl ?_
 exact ⟨bool_eq (by rw [walk_use]; simp), E⟩
structure NodeI (t : Re) : Prop where
 k : 0 ≤ t.kind ∧ t.kind ≤ 10
 two : t.kind = 3 ∨ t.kind = 4 ∨ t.kind = 7 → 2 ≤ t.args.length
 one : t.kind = 5 ∨ t.kind = 6 ∨ t.kind = 8 ∨ t.kind = 9 ∨ t.kind = 10 → t.args.length = 1
 rep : t.kind = 6 → 0 ≤ t.mn ∧ t.mn ≤ t.mx ∧ t.mx ≤ 8
 grp : t.kind = 9 → 0 ≤ t.mn ∧ t.mn ≤ 9
 sett : t.kind = 2 → t.set ≠ []
theorem node_inv {t : Re} (h : nodeE t = 0) : NodeI t := by
 unfold nodeE at h
 split at h
 ·cases h
 rename_i h1
 split at h
 ·cases h
 rename_i h2
 have h3 : formB t = true := by simpa using h2
 unfold formB at h3
 simp only [Bool.and_eq_true] at h3
 have h4 := h3.1.1.1.1
 unfold okB at h4
 refine ⟨by omega, fun hk => ?_, fun hk => ?_, fun hk => ?_, fun hk => ?_, fun hk => ?_⟩
 ·rw [if_pos hk] at h4
  have := of_decide_eq_true h4; omega
 ·rw [if_neg (by omega), if_pos hk] at h4
  have := of_decide_eq_true h4; omega
 ·rw [if_neg (by omega), if_pos hk] at h
  split at h
  ·cases h
  ·omega
 ·rw [if_neg (by omega), if_neg (by omega), if_pos hk] at h
  split at h
  ·cases h
  ·omega
 ·rw [if_pos hk] at h
  intro e
  rw [e] at h
  simp [checkE, checkL] at h
end Go.Proofs
namespace Go.Proofs
open Go Go.Eng
/-- What Check takes. -/
structure OkN (n : Nf) : Prop where
 st : n.states ≤ 500
 s0 : 0 ≤ n.start ∧ n.start < n.states
 el : n.ends.length ≤ 500
 pl : n.eps.length ≤ 20000
 xl : n.edges.length ≤ 20000
 en : ∀ s ∈ n.ends, 0 ≤ s ∧ s < n.states
 ep : ∀ p ∈ n.eps, (0 ≤ p.1 ∧ p.1 < n.states) ∧ 0 ≤ p.2 ∧ p.2 < n.states
 ed : ∀ e ∈ n.edges, (0 ≤ e.1 ∧ e.1 < n.states) ∧ (0 ≤ e.2.1 ∧ e.2.1 < n.states) ∧ checkE e.2.2 = 0
theorem node_chk {t : Re} (h : nodeE t = 0) (hk : t.kind = 2) : checkE t.set = 0 := by
 unfold nodeE at h
 split at h
 ·cases h
 split at h
 ·cases h
 split at h
 ·assumption
 ·rename_i hc
  exact Classical.byContradiction hc
end Go.Proofs
namespace Go.Eng
open Go
section
variable {κ ν : Type} [DecidableEq κ]
def getM : List (κ × ν) → κ → Option ν
  | [], _ => none
  | p :: r, k => if p.1 = k then some p.2 else getM r k
def putM : List (κ × ν) → κ → ν → List (κ × ν)
  | [], k, v => [(k, v)]
  | p :: r, k, v => if p.1 = k then (k, v) :: r else p :: putM r k v
def findM (eV : ν → Value) : List (κ × ν) → κ → Nat → Option (Nat × Value)
  | [], _, _ => none
  | p :: r, k, i => if p.1 = k then some (i, eV p.2) else findM eV r k (i + 1)
theorem findM_none {eV : ν → Value} : ∀ {es : List (κ × ν)} {k : κ} {i : Nat}, getM es k = none → findM eV es k i = none
  | [], _, _, _ => rfl
  | p :: r, k, i, h => by
    unfold getM at h
    unfold findM
    split at h
    · cases h
    · rename_i hne; rw [if_neg hne]; exact findM_none h
theorem findM_some {eV : ν → Value} : ∀ {es : List (κ × ν)} {k : κ} {i : Nat} {v : ν}, getM es k = some v → ∃ j, findM eV es k i = some (i + j, eV v) ∧ es[j]? = some (k, v) ∧ ∀ u, putM es k u = es.set j (k, u)
  | [], _, _, _, h => by cases h
  | p :: r, k, i, v, h => by
    unfold getM at h
    unfold findM
    split at h
    · rename_i he
      cases h
      rw [if_pos he]
      exact ⟨0, rfl, by obtain ⟨a, b⟩ := p; simp at he; subst he; rfl, fun u => by unfold putM; rw [if_pos he]; rfl⟩
    · rename_i hne
      rw [if_neg hne]
      obtain ⟨j, h1, h2, h3⟩ := findM_some (eV := eV) (i := i + 1) h
      exact ⟨j + 1, by rw [h1]; congr 2; omega, by simpa using h2, fun u => by unfold putM; rw [if_neg hne, h3 u]; rfl⟩
theorem putM_none : ∀ {es : List (κ × ν)} {k : κ} (v : ν), getM es k = none → putM es k v = es ++ [(k, v)]
  | [], _, _, _ => rfl
  | p :: r, k, v, h => by
    unfold getM at h
    unfold putM
    split at h
    · cases h
    · rename_i hne; rw [if_neg hne, putM_none v h]; rfl
theorem getM_some_mem {es : List (κ × ν)} {k : κ} {v : ν} (h : getM es k = some v) : (k, v) ∈ es := by
 obtain ⟨j, _, h2, _⟩ := findM_some (eV := fun _ => undef) (i := 0) h
 exact List.mem_of_getElem? h2
theorem getM_isSome {es : List (κ × ν)} {k : κ} : (getM es k).isSome = true ↔ k ∈ es.map (·.1) := by
  induction es with
  | nil => simp [getM]
  | cons p r ih =>
    unfold getM
    by_cases h : p.1 = k
    · simp [h]
    · rw [if_neg h, ih]
      simp [Ne.symm h]
end
/-- A map in memory: its entries in the order in which the keys came. -/
def ents {κ ν : Type} (ek : κ → Value) (eV : ν → Value) (es : List (κ × ν)) : List MapEntry := es.zipIdx.map fun p => { key := ek p.1.1, val := eV p.1.2, born := p.2 }
def MapAt {κ ν : Type} (w : World) (b : Nat) (ek : κ → Value) (eV : ν → Value) (es : List (κ × ν)) : Prop := w.heap[b]? = some (.map (ents ek eV es).toArray es.length)
theorem ents_len {κ ν : Type} (ek : κ → Value) (eV : ν → Value) (es : List (κ × ν)) : (ents ek eV es).length = es.length := by simp [ents]
theorem ents_get {κ ν : Type} {ek : κ → Value} {eV : ν → Value} {es : List (κ × ν)} {i : Nat} : (ents ek eV es)[i]? = (es[i]?).map fun p => { key := ek p.1, val := eV p.2, born := i } := by
 unfold ents; rw [List.getElem?_map, List.getElem?_zipIdx]; cases es[i]? <;> simp
theorem ents_kv {κ ν : Type} (ek : κ → Value) (eV : ν → Value) (es : List (κ × ν)) : (ents ek eV es).map (fun e => (e.key, e.val)) = es.map fun p => (ek p.1, eV p.2) := by
 apply List.ext_getElem?
 intro i
 rw [List.getElem?_map, ents_get, List.getElem?_map]
 cases es[i]? <;> rfl
section
variable {κ ν : Type} {ek : κ → Value} {eV : ν → Value} {es : List (κ × ν)} {w w' : World} {b : Nat}
theorem MapAt.lt (h : MapAt w b ek eV es) : b < w.heap.size := (Array.getElem?_eq_some_iff.1 h).1
theorem Chg.keepM {M : Nat → Prop} (h : Chg M w w') (hm : ¬ M b) (hb : MapAt w b ek eV es) : MapAt w' b ek eV es := (h.blk b hb.lt hm).trans hb
theorem Ext.keepM (h : Ext w w') (hb : MapAt w b ek eV es) : MapAt w' b ek eV es := Chg.keepM h (fun f => f) hb
theorem New.keepM {n : Nat} {c : Array Value} {t : TypeId} (h : New w w' n c t) (hb : MapAt w b ek eV es) : MapAt w' b ek eV es := h.ext.keepM hb
theorem New.ltM {n : Nat} {c : Array Value} {t : TypeId} (h : New w w' n c t) (hb : MapAt w b ek eV es) : b < n := by rw [h.eq]; exact hb.lt
end
/-- A new object that is no row of cells. -/
structure NewO (w w' : World) (b : Nat) (o : Obj) : Prop where
 at' : w'.heap[b]? = some o
 ext : Ext w w'
 eq : b = w.heap.size
 size : w'.heap.size = w.heap.size + 1
theorem NewO.mk' (w : World) (o : Obj) : NewO w { w with heap := w.heap.push o } w.heap.size o :=
 ⟨by simp, ⟨rfl, rfl, rfl, Nat.le_refl _, by simp, fun x hx _ => by simp [Array.getElem?_push, Nat.ne_of_lt hx]⟩, rfl, by simp⟩
section
variable {w w' : World} {b : Nat} {o : Obj}
theorem NewO.keep (h : NewO w w' b o) {b' : Nat} {c' : Array Value} {t' : TypeId} (hb : Blk w b' c' t') : Blk w' b' c' t' := h.ext.keep hb
theorem NewO.lt (h : NewO w w' b o) {b' : Nat} {c' : Array Value} {t' : TypeId} (hb : Blk w b' c' t') : b' < b := by rw [h.eq]; exact hb.lt
theorem NewO.ge (h : NewO w w' b o) {w0 : World} {M : Nat → Prop} (e : Chg M w0 w) : w0.heap.size ≤ b := by rw [h.eq]; exact e.size
variable {κ ν : Type} {ek : κ → Value} {eV : ν → Value} {es : List (κ × ν)} {b' : Nat}
theorem NewO.keepM (h : NewO w w' b o) (hb : MapAt w b' ek eV es) : MapAt w' b' ek eV es := h.ext.keepM hb
theorem NewO.ltM (h : NewO w w' b o) (hb : MapAt w b' ek eV es) : b' < b := by rw [h.eq]; exact hb.lt
end
/-- An object that is no row of cells is replaced. -/
structure PutO (w w' : World) (b : Nat) (o : Obj) : Prop where
 at' : w'.heap[b]? = some o
 chg : Chg (fun x => x = b) w w'
 size : w'.heap.size = w.heap.size
theorem PutO.mk' {w : World} {b : Nat} (o : Obj) (hb : b < w.heap.size) : PutO w { w with heap := w.heap.setIfInBounds b o } b o :=
 ⟨by simp [hb], ⟨rfl, rfl, rfl, Nat.le_refl _, by simp, fun x hx hne => by simp [Array.getElem?_setIfInBounds, Ne.symm hne]⟩, by simp⟩
section
variable {w w' : World} {b : Nat} {o : Obj}
theorem PutO.keep (h : PutO w w' b o) {b' : Nat} {c' : Array Value} {t' : TypeId} (hne : b' ≠ b) (hb : Blk w b' c' t') : Blk w' b' c' t' := h.chg.keep hne hb
theorem PutO.step (h : PutO w w' b o) {w0 : World} {M : Nat → Prop} (e : Chg M w0 w) (hb : w0.heap.size ≤ b ∨ M b) : Chg M w0 w' :=
 e.step h.chg fun x hx hm => by subst hm; rcases hb with hb | hb; omega; exact hb
variable {κ ν : Type} {ek : κ → Value} {eV : ν → Value} {es : List (κ × ν)} {b' : Nat}
theorem PutO.keepM (h : PutO w w' b o) (hne : b' ≠ b) (hb : MapAt w b' ek eV es) : MapAt w' b' ek eV es := h.chg.keepM hne hb
end
/-- What is asked of a key's type. -/
structure KeyOk (P : Program) (kt : TypeId) {κ : Type} [DecidableEq κ] (ek : κ → Value) : Prop where
 check : ∀ (b : Bool) (w : World) (k : κ), (Instr.checkKey b 10000 kt (ek k)).run P w = .ok () w
 find : ∀ (ν : Type) (w : World) (k : κ) (es : List (κ × ν)) (eV : ν → Value) (L : List MapEntry), L.map (fun e => (e.key, e.val)) = es.map (fun p => (ek p.1, eV p.2)) → (Instr.findKey kt (ek k) L).run P w = .ok (findM eV es k 0) w
 same : ∀ k, Instr.sameBits 10000 (ek k) (ek k) = true
def kInt (x : Int) : Value := .int .i64 x
def kBool (x : Bool) : Value := .bool x
theorem keyInt {P : Program} {kt : TypeId} (hu : P.underlying kt = some (.int .i64)) : KeyOk P kt kInt where
  check := fun b w k => by rw [show (10000 : Nat) = 9999 + 1 from rfl, Instr.checkKey]; simp only [Sem.run_bind, run_underlying hu, Result.andThen_ok, kInt]; rfl
  find := fun ν w k es eV L hL => by
    have key : ∀ (L : List MapEntry) (es : List (Int × ν)) (i : Nat), L.map (fun e => (e.key, e.val)) = es.map (fun p => (kInt p.1, eV p.2)) → Instr.findNow (.int .i64) (kInt k) L i = some (findM eV es k i) := by
      intro L
      induction L with
      | nil =>
        intro es i h
        cases es with
        | nil => rfl
        | cons _ _ => simp at h
      | cons e L ih =>
        intro es i h
        cases es with
        | nil => simp at h
        | cons p es =>
          simp only [List.map_cons, List.cons.injEq, Prod.mk.injEq] at h
          obtain ⟨⟨h1, h2⟩, h3⟩ := h
          unfold Instr.findNow findM
          rw [h1]
          simp only [kInt, Instr.sameNow, if_true]
          by_cases hk : p.1 = k
          · rw [if_pos hk, hk]; simp [h2]
          · have : (k == p.1) = false := by simp; exact fun h => hk h.symm
            rw [if_neg hk, this]
            exact ih es (i + 1) h3
    simp [Instr.findKey, run_underlying hu, key L es 0 hL]
  same := fun k => by unfold kInt; rw [Instr.sameBits]; simp
section
variable {P : Program} {N : Nat} {Q : Post} {σ : Env} {w : World} {K : Env → World → Prop} {ops : Array Oper} {rest : List Oper} {d : Nat} {ty : TypeId} {pos : String} {af : Array Edge} {g : Option (Nat × Bool)} {dst : Option Tmp} {t kt et : TypeId} {m x y : Operand} {b : Nat}
variable {κ ν : Type} [DecidableEq κ] {ek : κ → Value} {eV : ν → Value} {es : List (κ × ν)} {k : κ} {v : ν}
omit [DecidableEq κ] in
theorem s_makeMap (ek : κ → Value) (eV : ν → Value) (hN : d < N) (kk : ∀ b w', NewO w w' b (.map #[] 0) → MapAt w' b ek eV [] → WpL P N ops K Q rest (upd σ d (.map (some b))) w') :
  WpL P N ops K Q (⟨some d, .makeMap t none, ty, pos, af, none⟩ :: rest) σ w := by
 refine WpL_val (v := .map (some w.heap.size)) (w' := { w with heap := w.heap.push (.map #[] 0) }) rfl rfl hN ?_ (kk _ _ (NewO.mk' w _) (NewO.mk' w _).at')
 simp [execOp, Instr.makeMap]
theorem run_mapUpdate (hu : P.underlying t = some (.map kt et)) (hk : KeyOk P kt ek) (hm : MapAt w b ek eV es) :
    (Instr.mapUpdate t (.map (some b)) (ek k) (eV v)).run P w = .ok () { w with heap := w.heap.setIfInBounds b (.map (ents ek eV (putM es k v)).toArray (putM es k v).length) } := by
  have hlt := hm.lt
  unfold MapAt at hm
  have hg : (getObj b).run P w = .ok (.map (ents ek eV es).toArray es.length) w := by simp [getObj, Sem.run, hm]
  have hs : ∀ o, (setObj b o).run P w = .ok () { w with heap := w.heap.setIfInBounds b o } := fun o => by simp [setObj, Sem.run, hm]
  have hf := hk.find ν w k es eV (ents ek eV es) (ents_kv ek eV es)
  simp only [Instr.mapUpdate, Sem.run_bind, run_underlying hu, Result.andThen_ok, hg, hk.check, hf]
  cases hgm : getM es k with
  | none =>
    rw [findM_none hgm]
    simp only [hs]
    congr 4
    · apply Array.ext'
      rw [putM_none v hgm]
      simp [ents, List.zipIdx_append]
    · rw [putM_none v hgm]; simp
  | some u =>
    obtain ⟨j, h1, h2, h3⟩ := findM_some (eV := eV) (i := 0) hgm
    rw [Nat.zero_add] at h1
    rw [h1]
    have hj := lt_of_get h2
    have he : (ents ek eV es).toArray[j]? = some { key := ek k, val := eV u, born := j } := by rw [List.getElem?_toArray, ents_get, h2]; rfl
    simp only [he, Option.map_some, Option.getD_some, Instr.keyThatStays, hk.same, if_true, Sem.run_bind, Sem.run_pure, Result.andThen_ok, hs]
    congr 4
    · apply Array.ext'
      rw [h3 v]
      apply List.ext_getElem?
      intro i
      rw [List.getElem?_toArray.symm.trans (by rfl)] <;> simp only [Array.getElem?_toList, Array.getElem?_modify, List.getElem?_toArray, ents_get, List.getElem?_set]
      by_cases hi : j = i
      · subst hi; simp [h2, hj]
      · simp [hi]
    · rw [h3 v]; simp
theorem s_mapUpdate (hu : P.underlying t = some (.map kt et)) (hk : KeyOk P kt ek) (hm : MapAt w b ek eV es) (h1 : ev σ m = .map (some b)) (h2 : ev σ x = ek k) (h3 : ev σ y = eV v)
  (kk : ∀ w', PutO w w' b (.map (ents ek eV (putM es k v)).toArray (putM es k v).length) → MapAt w' b ek eV (putM es k v) → WpL P N ops K Q rest σ w') :
  WpL P N ops K Q (⟨none, .mapUpdate t m x y, ty, pos, af, none⟩ :: rest) σ w := by
 have hr := run_mapUpdate (k := k) (v := v) hu hk hm
 refine WpL_skip rfl rfl (w' := { w with heap := w.heap.setIfInBounds b (.map (ents ek eV (putM es k v)).toArray (putM es k v).length) }) ?_ (kk _ (PutO.mk' _ hm.lt) (PutO.mk' _ hm.lt).at')
 simp [execOp, h1, h2, h3, hr]
theorem run_lookup (c : Bool) {z : ν} (hu : P.underlying t = some (.map kt et)) (hk : KeyOk P kt ek) (hz : Zer P et (eV z)) (hm : MapAt w b ek eV es) :
    (Instr.lookup t (.map (some b)) (ek k) c).run P w = .ok (if c then .tuple #[eV ((getM es k).getD z), .bool (getM es k).isSome] else eV ((getM es k).getD z)) w := by
  unfold MapAt at hm
  have hg : (getObj b).run P w = .ok (.map (ents ek eV es).toArray es.length) w := by simp [getObj, Sem.run, hm]
  have hf := hk.find ν w k es eV (ents ek eV es) (ents_kv ek eV es)
  simp only [Instr.lookup, Sem.run_bind, run_underlying hu, Result.andThen_ok, hg, Sem.run_pure, hk.check, hf]
  cases hgm : getM es k with
  | none => rw [findM_none hgm]; simp [hz.run]
  | some u =>
    obtain ⟨j, h1, _, _⟩ := findM_some (eV := eV) (i := 0) hgm
    rw [h1]; simp
theorem r_lookup {z : ν} (hu : P.underlying t = some (.map kt et)) (hk : KeyOk P kt ek) (hz : Zer P et (eV z)) (hm : MapAt w b ek eV es) (h1 : ev σ m = .map (some b)) (h2 : ev σ x = ek k) :
  (execOp (ev σ) ⟨dst, .lookup t m x false, ty, pos, af, g⟩).run P w = .ok (.value (eV ((getM es k).getD z))) w := by
 simp [execOp, h1, h2, run_lookup false hu hk hz hm]
end
def IterAt (w : World) (it b n : Nat) (seen : List Nat) : Prop := w.heap[it]? = some (.mapIter (some b) n seen.toArray n)
theorem IterAt.lt {w : World} {it b n : Nat} {seen : List Nat} (h : IterAt w it b n seen) : it < w.heap.size := (Array.getElem?_eq_some_iff.1 h).1
theorem IterAt.chg {M : Nat → Prop} {w w' : World} {it b n : Nat} {seen : List Nat} (h : IterAt w it b n seen) (c : Chg M w w') (hm : ¬ M it) : IterAt w' it b n seen := (c.blk it h.lt hm).trans h
theorem IterAt.ext {w w' : World} {it b n : Nat} {seen : List Nat} (h : IterAt w it b n seen) (c : Ext w w') : IterAt w' it b n seen := h.chg c fun f => f
section
variable {w w' : World} {it b n : Nat} {seen : List Nat} (hb : IterAt w it b n seen)
include hb
theorem Chg.keepI {M : Nat → Prop} (h : Chg M w w') (hm : ¬ M it) : IterAt w' it b n seen := hb.chg h hm
theorem New.keepI {q : Nat} {c : Array Value} {t : TypeId} (h : New w w' q c t) : IterAt w' it b n seen := hb.ext h.ext
theorem New.ltI {q : Nat} {c : Array Value} {t : TypeId} (h : New w w' q c t) : it < q := by rw [h.eq]; exact hb.lt
end
section
variable {P : Program} {N : Nat} {Q : Post} {σ : Env} {w : World} {K : Env → World → Prop} {ops : Array Oper} {rest : List Oper} {d : Nat} {ty : TypeId} {pos : String} {af : Array Edge} {g : Option (Nat × Bool)} {dst : Option Tmp} {t kt et : TypeId} {x : Operand} {b it : Nat}
variable {κ ν : Type} {ek : κ → Value} {eV : ν → Value} {es : List (κ × ν)} {seen : List Nat}
theorem s_range (hN : d < N) (hu : P.underlying t = some (.map kt et)) (hm : MapAt w b ek eV es) (h1 : ev σ x = .map (some b))
  (kk : ∀ it w', NewO w w' it (.mapIter (some b) es.length #[] es.length) → WpL P N ops K Q rest (upd σ d (.pointer (some ⟨it, 0, none⟩))) w') :
  WpL P N ops K Q (⟨some d, .range t x, ty, pos, af, none⟩ :: rest) σ w := by
 unfold MapAt at hm
 have hg : (getObj b).run P w = .ok (.map (ents ek eV es).toArray es.length) w := by simp [getObj, Sem.run, hm]
 refine WpL_val (v := .pointer (some ⟨w.heap.size, 0, none⟩)) (w' := { w with heap := w.heap.push (.mapIter (some b) es.length #[] es.length) }) rfl rfl hN ?_ (kk _ _ (NewO.mk' w _))
 simp [execOp, h1, Instr.range, run_underlying hu, hg]
theorem ents_born {e : MapEntry} (h : e ∈ ents ek eV es) : ∃ p, es[e.born]? = some p ∧ e.key = ek p.1 ∧ e.val = eV p.2 := by
  obtain ⟨i, hi⟩ := List.mem_iff_getElem?.1 h
  rw [ents_get] at hi
  cases hp : es[i]? with
  | none => rw [hp] at hi; cases hi
  | some p =>
    rw [hp] at hi
    simp at hi
    subst hi
    exact ⟨p, hp, rfl, rfl⟩
theorem s_next (hN : d < N) (hm : MapAt w b ek eV es) (hi : IterAt w it b es.length seen) (h1 : ev σ x = .pointer (some ⟨it, 0, none⟩))
    (k1 : (∀ i, i < es.length → i ∈ seen) → WpL P N ops K Q rest (upd σ d (.tuple #[.bool false])) w)
    (k2 : ∀ i p w', es[i]? = some p → i ∉ seen → PutO w w' it (.mapIter (some b) es.length (seen ++ [i]).toArray es.length) → WpL P N ops K Q rest (upd σ d (.tuple #[.bool true, ek p.1, eV p.2])) w') :
    WpL P N ops K Q (⟨some d, .next x false, ty, pos, af, none⟩ :: rest) σ w := by
  have hit := hi.lt
  have hgm : (getObj b).run P w = .ok (.map (ents ek eV es).toArray es.length) w := by unfold MapAt at hm; simp [getObj, Sem.run, hm]
  have hgi : (getObj it).run P w = .ok (.mapIter (some b) es.length seen.toArray es.length) w := by unfold IterAt at hi; simp [getObj, Sem.run, hi]
  have hall : ((!seen.toArray.isEmpty && !(ents ek eV es).toArray.isEmpty) && (ents ek eV es).toArray.all (fun e => decide (e.born ≥ es.length))) = false := by
    cases es with
    | nil => simp [ents]
    | cons p r =>
      have hm0 : ({ key := ek p.1, val := eV p.2, born := 0 } : MapEntry) ∈ ents ek eV (p :: r) := List.mem_of_getElem? (i := 0) (by rw [ents_get]; rfl)
      have : (ents ek eV (p :: r)).toArray.all (fun e => decide (e.born ≥ (p :: r).length)) = false := by
        rw [List.all_toArray, List.all_eq_false]
        exact ⟨_, hm0, by simp⟩
      rw [this, Bool.and_false]
  obtain ⟨left, hleft⟩ : ∃ left, left = (ents ek eV es).toArray.filter fun e => !seen.toArray.contains e.born := ⟨_, rfl⟩
  have hmemL : ∀ e, e ∈ left → e ∈ ents ek eV es ∧ e.born ∉ seen := fun e he => by rw [hleft] at he; simpa using he
  have hold : left.filter (fun e => decide (e.born < es.length)) = left := by
    rw [Array.filter_eq_self]
    intro e he
    obtain ⟨p, hp, _⟩ := ents_born (hmemL e he).1
    simpa using lt_of_get hp
  have hnew : left.filter (fun e => decide (e.born ≥ es.length)) = #[] := by
    rw [Array.filter_eq_empty_iff]
    intro e he
    obtain ⟨p, hp, _⟩ := ents_born (hmemL e he).1
    have := lt_of_get hp
    simp; omega
  by_cases hemp : left = #[]
  · have hk1 := k1 fun i hi' => by
      by_cases hin : i ∈ seen
      · exact hin
      · exfalso
        obtain ⟨p, hp⟩ : ∃ p, es[i]? = some p := ⟨_, List.getElem?_eq_getElem hi'⟩
        have he : ({ key := ek p.1, val := eV p.2, born := i } : MapEntry) ∈ ents ek eV es := List.mem_of_getElem? (i := i) (by rw [ents_get, hp]; rfl)
        have : ({ key := ek p.1, val := eV p.2, born := i } : MapEntry) ∈ left := by rw [hleft]; simpa using ⟨he, hin⟩
        rw [hemp] at this; simp at this
    refine WpL_val (v := .tuple #[.bool false]) (w' := w) rfl rfl hN ?_ hk1
    have hfo : Question.forced (.mapNext 1) = true := rfl
    have hch : (choose (.mapNext 1)).run P w = .ok 0 w := by simp [choose, Sem.run, hfo]
    simp only [execOp, h1, Instr.next, Sem.run_bind, hgi, Result.andThen_ok, hgm, hall, Bool.false_eq_true, if_false, Sem.run_pure, ← hleft, hold, hnew, hemp]
    have hf1 : Array.filter (fun x : MapEntry => decide (x.born < es.length)) #[] = #[] := by simp
    have hf2 : Array.filter (fun x : MapEntry => decide (x.born ≥ es.length)) #[] = #[] := by simp
    have hc1 : ((if (#[] : Array MapEntry).isEmpty = true then #[none] else #[]) ++ Array.map some ((#[] : Array MapEntry) ++ #[]) : Array (Option MapEntry)) = #[none] := by simp
    simp only [hf1, hf2, hc1]
    rw [show (#[none] : Array (Option MapEntry)).size = 1 from rfl, hch]
    rfl
  · have hsz : 0 < left.size := by rcases Nat.eq_zero_or_pos left.size with h | h; exact absurd (Array.eq_empty_of_size_eq_zero h) hemp; exact h
    have hemp2 : left.isEmpty = false := by simpa using hemp
    obtain ⟨j, dr, hj, hch⟩ : ∃ j dr, j < left.size ∧ (choose (.mapNext left.size)).run P w = .ok j { w with drawn := w.drawn + dr } := by
      by_cases hf : Question.forced (.mapNext left.size) = true
      · exact ⟨0, 0, hsz, by simp [choose, Sem.run, hf]⟩
      · exact ⟨_, 1, Nat.mod_lt (w.tape w.drawn (.mapNext left.size)) hsz, by simp [choose, Sem.run, hf, Question.cut]⟩
    obtain ⟨e, he⟩ : ∃ e, left[j]? = some e := ⟨_, Array.getElem?_eq_getElem hj⟩
    obtain ⟨hmem, hns⟩ := hmemL e (Array.mem_of_getElem? he)
    obtain ⟨p, hp, hk, hv⟩ := ents_born hmem
    have hiw : ({ w with drawn := w.drawn + dr } : World).heap[it]? = some (.mapIter (some b) es.length seen.toArray es.length) := hi
    refine WpL_val (v := .tuple #[.bool true, ek p.1, eV p.2]) (w' := { w with drawn := w.drawn + dr, heap := w.heap.setIfInBounds it (.mapIter (some b) es.length (seen ++ [e.born]).toArray es.length) }) rfl rfl hN ?_ (k2 e.born p _ hp hns ?_)
    · have hso : (setObj it (.mapIter (some b) es.length (seen.toArray.push e.born) es.length)).run P { w with drawn := w.drawn + dr } = .ok () { w with drawn := w.drawn + dr, heap := w.heap.setIfInBounds it (.mapIter (some b) es.length (seen.toArray.push e.born) es.length) } := by simp [setObj, Sem.run, hiw]
      have hcand : ((#[] : Array (Option MapEntry)) ++ (left ++ #[]).map some)[j]? = some (some e) := by simp [he]
      have hcsz : ((#[] : Array (Option MapEntry)) ++ (left ++ #[]).map some).size = left.size := by simp
      simp only [execOp, h1, Instr.next, Sem.run_bind, hgi, Result.andThen_ok, hgm, hall, Bool.false_eq_true, if_false, Sem.run_pure, ← hleft, hold, hnew, hemp2, hcsz, hch, hcand, hso, hk, hv]
      simp
    · refine ⟨by simp [hit], ⟨rfl, rfl, rfl, Nat.le_add_right _ _, by simp, fun y hy hne => by simp [Array.getElem?_setIfInBounds, Ne.symm hne]⟩, by simp⟩
theorem r_entry {i : Nat} {p : κ × ν} (hm : MapAt w b ek eV es) (hi : IterAt w it b es.length (seen ++ [i])) (hp : es[i]? = some p) (h1 : ev σ x = .pointer (some ⟨it, 0, none⟩)) :
  (execOp (ev σ) ⟨dst, .entry x, ty, pos, af, g⟩).run P w = .ok (.value (.tuple #[ek p.1, eV p.2])) w := by
 have hgm : (getObj b).run P w = .ok (.map (ents ek eV es).toArray es.length) w := by unfold MapAt at hm; simp [getObj, Sem.run, hm]
 have hgi : (getObj it).run P w = .ok (.mapIter (some b) es.length (seen ++ [i]).toArray es.length) w := by unfold IterAt at hi; simp [getObj, Sem.run, hi]
 have hb : (seen ++ [i]).toArray.back? = some i := by simp [Array.back?]
 have hlt := lt_of_get hp
 have hf : (ents ek eV es).find? (fun e => e.born == i) = some { key := ek p.1, val := eV p.2, born := i } := by
  rw [List.find?_eq_some_iff_getElem]
  refine ⟨by simp, i, by rw [ents_len]; exact hlt, ?_, fun j hj => ?_⟩
  ·have := ents_get (ek := ek) (eV := eV) (es := es) (i := i)
   rw [hp, List.getElem?_eq_getElem (by rw [ents_len]; exact hlt)] at this
   simpa using this
  ·have h2 := ents_get (ek := ek) (eV := eV) (es := es) (i := j)
   have hjl : j < es.length := by omega
   rw [List.getElem?_eq_getElem (by rw [ents_len]; exact hjl), List.getElem?_eq_getElem hjl] at h2
   simp at h2
   rw [h2]; simp; omega
 have hf2 : (ents ek eV es).toArray.find? (fun e => e.born == i) = some { key := ek p.1, val := eV p.2, born := i } := by simpa using hf
 simp only [execOp, h1, Instr.entry, Sem.run_bind, hgi, Result.andThen_ok, hb, hgm, hf2, Sem.run_pure]
 simp
end
theorem cnt1 {l : List Nat} (hd : l.Nodup) {a : Nat} (h : a ∈ l) : l.count a = 1 := by
  induction l with
  | nil => cases h
  | cons x r ih =>
    rw [List.nodup_cons] at hd
    rw [List.count_cons]
    rcases List.mem_cons.1 h with rfl | h
    · rw [List.count_eq_zero_of_not_mem hd.1]; simp
    · have : x ≠ a := fun e => hd.1 (e ▸ h)
      rw [ih hd.2 h]; simp [this]
theorem seen_perm {n : Nat} {seen : List Nat} (hd : seen.Nodup) (hl : ∀ i ∈ seen, i < n) (ha : ∀ i, i < n → i ∈ seen) : seen.Perm (List.range n) := by
 rw [List.perm_iff_count]
 intro a
 by_cases h : a ∈ seen
 ·rw [cnt1 hd h, cnt1 List.nodup_range (List.mem_range.2 (hl a h))]
 ·rw [List.count_eq_zero_of_not_mem h, List.count_eq_zero_of_not_mem (fun h2 => h (ha a (List.mem_range.1 h2)))]
theorem seen_len {n : Nat} {seen : List Nat} (hd : seen.Nodup) (hl : ∀ i ∈ seen, i < n) : seen.length ≤ n := by
 have h : seen.Subset (List.range n) := fun i hi => List.mem_range.2 (hl i hi)
 have := hd.length_le_of_subset h
 simpa using this
end Go.Eng
namespace Go.Proofs
open Go Go.Eng Go.Sort
section
variable {P : Program} {N : Nat} {Q : Post} {σ : Env} {w : World} {K : Env → World → Prop} {ops : Array Oper} {rest : List Oper} {d : Nat} {ty : TypeId} {pos : String} {af : Array Edge} {t : TypeId} {x y : Operand}
theorem s_make {e bytes n : Nat} {z : Value} (hN : d < N) (hu : P.underlying t = some (.slice e)) (hsz : Siz P e 1) (hby : Byt P e bytes) (hz : Zer P e z) (hz1 : z.cells = #[z]) (hx : ev σ x = .int .i64 ((n : Nat) : Int)) (hy : ev σ y = .int .i64 ((n : Nat) : Int)) (hb : n * bytes ≤ 140737488355328) (hn : n ≤ 140737488355328)
    (k : ∀ b w', New w w' b (List.replicate n z).toArray e → WpL P N ops K Q rest (upd σ d (.slice (some ⟨b, 0, none⟩) n n)) w') : WpL P N ops K Q (⟨some d, .makeSlice t x y, ty, pos, af, none⟩ :: rest) σ w := by
  refine WpL_val (v := .slice (some ⟨w.heap.size, 0, none⟩) n n) (w' := { w with heap := w.heap.push (.cells (List.replicate n z).toArray e (0, 0)) }) rfl rfl hN ?_ (k _ _ (New.mk' w _ e))
  unfold Siz at hsz; unfold Byt at hby; unfold Zer at hz
  cases hi : P.info? e with
  | none => rw [hi] at hsz; simp at hsz
  | some i =>
  rw [hi] at hsz hby hz
  simp at hsz hby hz
  have h := run_make (P := P) w t e i _ hu hi hz .i64 .i64 ((n : Nat) : Int) ((n : Nat) : Int) (by omega) (Int.le_refl _) (by rw [hby]; have : ((bytes : Nat) : Int) * ((n : Nat) : Int) = (((n * bytes : Nat) : Nat) : Int) := (by rw [Int.natCast_mul, Int.mul_comm]); rw [this]; omega) (by omega)
  have hc : madeCells z.cells (n * i.size) = (List.replicate n z).toArray := by
    rw [hsz, Nat.mul_one, hz1]
    apply Array.ext'
    simp only [madeCells]
    apply List.ext_getElem?
    intro j
    simp only [Array.toList_map, List.getElem?_map, List.getElem?_replicate]
    rcases Nat.lt_or_ge j n with hj | hj
    · have h1 : (Array.range n).toList[j]? = some j := by simp [hj]
      rw [h1, if_pos hj]
      simp [Nat.mod_one]
    · have h1 : (Array.range n).toList[j]? = none := by simp; omega
      rw [h1, if_neg (by omega)]; rfl
  simp only [Int.toNat_natCast, hc] at h
  simp only [execOp, hx, hy, Sem.run_bind, h, Result.andThen_ok]
  rfl
end
def appF (base e size n : Nat) (xs : List Value) (old : Value) (hs : Nat) : Fct := fun v w => (∃ a c, v = .slice a n c) ∧ w.ownsRow base e size v n xs ∧ ∀ k, v.ownBlock = some k → old.ownBlock = some k ∨ hs ≤ k
theorem appF_ext (base e size n : Nat) (xs : List Value) (old : Value) (hs : Nat) : ∀ v w w', Ext w w' → appF base e size n xs old hs v w → appF base e size n xs old hs v w' := by
 rintro v w w' e ⟨h1, h2, h3⟩
 exact ⟨h1, own_ext h2 e, h3⟩
/-- The append to a slice of one's own, in a region that draws its order. -/
theorem DoesT_append {P : Program} {N : Nat} {σ : Env} {w : World} {dst : Option Tmp} {ty : TypeId} {pos : String} {af : Array Edge} {g : Option (Nat × Bool)} {M : Nat → Prop} {t : TypeId} {s x : Operand} {base e size bytes n m c bx ox hs : Nat} {z v : Value} {xs news : List Value} (hu : P.underlying t = some (.slice e)) (hsz : Siz P e size) (hby : Byt P e bytes) (hz : Zer P e z) (hzs : z.cells.size = size) (h0 : 0 < size)
    (he : ev σ s = v) (hown : w.ownsRow base e size v n xs) (hx : ev σ x = .slice (some ⟨bx, ox, none⟩) m c) (hl : news.length = m * size) (hnews : CellsAt w bx ox news) (h1 : ∀ u ∈ news, u.oneCell' = true)
    (h63 : n + m ≤ maxLen) (hbytes : (n + m) * bytes ≤ 140737488355328) (hbase : base ≤ w.heap.size) (hM : ∀ y, v.ownBlock = some y → M y) (hhs : hs ≤ w.heap.size) :
    DoesT M P N ⟨dst, .call ⟨.builtin .append, #[s, x], #[t, t]⟩, ty, pos, af, g⟩ (appF base e size (n + m) (xs ++ news) v hs) σ w := by
  unfold Siz at hsz; unfold Byt at hby; unfold Zer at hz
  cases hi : P.info? e with
  | none => rw [hi] at hsz; simp at hsz
  | some i =>
  rw [hi] at hsz hby hz
  simp at hsz hby hz
  have hcells : ∀ j u, news[j]? = some u → w.cell? ((⟨bx, ox, none⟩ : Addr).add j) = some u := fun j u hj => by rw [Addr.add_lit]; exact hnews j u hj
  obtain ⟨v', w', hr, h2, h3, _⟩ := run_append_own (P := P) w base t ty e i z size bytes hu hi hz hsz hby hzs h0 v n xs hown ⟨bx, ox, none⟩ m c news hl hcells h1 h63 hbytes hbase
  have hC : Chg (fun x => v.ownBlock = some x) w w' := ⟨h3.os, h3.tape, h3.output, append_drawn (P := P) hu hi hz hsz hby hown hl hcells h1 h63 hbytes hr, h3.size, fun b hb hn => h3.block b hb (fun h => hn h.symm)⟩
  have hW := append_where (P := P) hu hi hz hsz hby hzs h0 hown hl hcells h1 h63 hbytes hr
  refine DoesT_val (v := v') (w' := w') (by simp [execOp, resolve, invoke, builtin, he, hx, hr]) (hC.mono fun y _ hy => hM y hy) ⟨own_form h2, h2, fun k hk => ?_⟩
  rcases hW k hk with h4 | h4
  · exact .inl h4
  · exact .inr (Nat.le_trans hhs h4)
/-- A slice of one new element, whose cells are known. -/
def litF (e : Nat) (c : Array Value) (hs : Nat) : Fct := fun v w => ∃ b, v = .slice (some ⟨b, 0, none⟩) 1 1 ∧ Blk w b c e ∧ hs ≤ b
theorem litF_ext (e : Nat) (c : Array Value) (hs : Nat) : ∀ v w w', Ext w w' → litF e c hs v w → litF e c hs v w' := by
 rintro v w w' x ⟨b, h1, h2, h3⟩
 exact ⟨b, h1, Ext.keep x h2, h3⟩
theorem DoesT_lit {P : Program} {N : Nat} {σ : Env} {w : World} {dst : Option Tmp} {ty : TypeId} {pos : String} {af : Array Edge} {g : Option (Nat × Bool)} {M : Nat → Prop} {t e n hs : Nat} {x : Operand} {v z : Value} {c : Array Value} (hu : P.underlying t = some (.slice e)) (hsz : Siz P e n) (hz : Zer P e z) (hx : ev σ x = v)
  (hl : ¬ (1 * n > 2 ^ 24)) (h0 : 1 * n ≠ 0) (hc : Instr.fill (fun i => some (i * n, n)) ((Array.range (1 * n)).map (z.cells[· % z.cells.size]!)) [(0, v)] = some c) (hhs : hs ≤ w.heap.size) :
  DoesT M P N ⟨dst, .buildSlice t 1 #[(0, x)], ty, pos, af, g⟩ (litF e c hs) σ w := by
 have hn := New.mk' w c e
 exact DoesT_val (run_buildSlice (parts := [(0, x)]) (ps := [(0, v)]) (by simp only [List.map, hx]) hu hsz hz hl h0 hc) (Ext.chg hn.ext) ⟨_, rfl, hn.blk, hhs⟩
theorem own_lit1 {w : World} {b e base : Nat} {v : Value} (h : Blk w b #[v] e) (hb : base ≤ b) : w.ownsRow base e 1 (.slice (some ⟨b, 0, none⟩) 1 1) 1 [v] :=
 ⟨rfl, .inr ⟨b, 1, #[v], rfl, hb, h, Nat.le_refl _, by decide, rfl, rfl⟩⟩
abbrev TB : Nat := 4
structure LSt (To e sz : Nat) (w : World) (base : Nat) (vo : Value) (vs : List Value) (ns : List (Nat × List Value)) : Prop where
 o : w.ownsRow base To 1 vo ns.length vs
 len : vs.length = ns.length
 inn : ∀ (i : Nat) v p, vs[i]? = some v → ns[i]? = some p → w.ownsRow base e sz v p.1 p.2
 apo : ∀ (i : Nat) v b, vs[i]? = some v → v.ownBlock = some b → vo.ownBlock ≠ some b
theorem LSt.chg {M : Nat → Prop} {To e sz base : Nat} {w w' : World} {vo : Value} {vs : List Value} {ns : List (Nat × List Value)} (h : LSt To e sz w base vo vs ns) (c : Chg M w w') (hM : ∀ b, base ≤ b → b < w.heap.size → ¬ M b) : LSt To e sz w' base vo vs ns :=
 ⟨own_chg h.o c fun k hk => hM k (h.o.lt k hk).1 (h.o.lt k hk).2, h.len, fun i v l hv hl => own_chg (h.inn i v l hv hl) c fun k hk => hM k ((h.inn i v l hv hl).lt k hk).1 ((h.inn i v l hv hl).lt k hk).2, h.apo⟩
theorem LSt.ext {To e sz base : Nat} {w w' : World} {vo : Value} {vs : List Value} {ns : List (Nat × List Value)} (h : LSt To e sz w base vo vs ns) (c : Ext w w') : LSt To e sz w' base vo vs ns := h.chg c fun _ _ _ f => f
theorem LSt.on {To e sz base n : Nat} {w : World} {vo : Value} {vs : List Value} {ns : List (Nat × List Value)} (h : LSt To e sz w base vo vs ns) (hn : n = ns.length) : w.ownsRow base To 1 vo n vs := by subst hn; exact h.o
/-- A slice that was made later is appended. -/
theorem LSt.push {To e sz base bu n m : Nat} {w w' : World} {vo v' u : Value} {vs us : List Value} {ns : List (Nat × List Value)} (h : LSt To e sz w base vo vs ns) (hn : n = ns.length) (hu : w.ownsRow bu e sz u m us) (hb : base ≤ bu) (hbu : ∀ k, vo.ownBlock = some k → k < bu)
  (Ov : w'.ownsRow base To 1 v' (n + 1) (vs ++ [u])) (Cv : Chg (fun x => vo.ownBlock = some x) w w') (Wv : ∀ k, v'.ownBlock = some k → vo.ownBlock = some k ∨ w.heap.size ≤ k) : LSt To e sz w' base v' (vs ++ [u]) (ns ++ [(m, us)]) := by
 have hold : ∀ (i : Nat) v, (vs ++ [u])[i]? = some v → vs[i]? = some v ∨ (i = vs.length ∧ v = u) := by
  intro i v hv
  rcases Nat.lt_or_ge i vs.length with h1 | h1
  ·left; rwa [List.getElem?_append_left h1] at hv
  ·right
   rw [List.getElem?_append_right h1] at hv
   have h2 := lt_of_get hv
   simp at h2
   obtain rfl : i = vs.length := by omega
   simp at hv
   exact ⟨rfl, hv.symm⟩
 have hun : ∀ b, u.ownBlock = some b → vo.ownBlock ≠ some b := fun b hb' e' => by
  have h1 := hbu b e'
  have h2 := (hu.lt b hb').1
  omega
 refine ⟨by rw [List.length_append, ← hn]; exact Ov, by simp [h.len], ?_, ?_⟩
 ·intro i v p hv hp
  rcases hold i v hv with h1 | ⟨h1, rfl⟩
  ·rw [List.getElem?_append_left (by have := lt_of_get h1; have := h.len; omega)] at hp
   exact own_chg (h.inn i v p h1 hp) Cv fun k hk => h.apo i v k h1 hk
  ·rw [h1, h.len] at hp
   simp at hp
   subst hp
   exact own_low (own_chg hu Cv fun k hk => hun k hk) hb
 ·intro i v b hv hb1 hb2
  rcases hold i v hv with h1 | ⟨_, rfl⟩
  ·rcases Wv b hb2 with h2 | h2
   ·exact h.apo i v b h1 hb1 h2
   ·obtain ⟨p, hp⟩ := get_of_lt (l := ns) (i := i) (by have := lt_of_get h1; have := h.len; omega)
    have := ((h.inn i v p h1 hp).lt b hb1).2
    omega
  ·rcases Wv b hb2 with h2 | h2
   ·exact hun b hb1 h2
   ·have := (hu.lt b hb1).2; omega
theorem own_writeG {w w' : World} {base e size n cap g i : Nat} {xs : List Value} {cur : Array Value} {v : Value} (h : w.ownsRow base e size (.slice (some ⟨g, 0, none⟩) n cap) n xs) (hB : Blk w g cur e) (hi : i < n * size) (hB' : Blk w' g (cur.setIfInBounds i v) e) : w'.ownsRow base e size (.slice (some ⟨g, 0, none⟩) n cap) n (xs.set i v) := by
 rcases h.2 with ⟨h1, _⟩ | ⟨g', cap', cur', hv, hbg, hg, hnc, hcm, hcs, htake⟩
 ·simp at h1
 ·simp only [Value.slice.injEq, Option.some.injEq, Addr.mk.injEq, and_true] at hv
  obtain ⟨rfl, _, rfl⟩ := hv
  unfold Blk at hB hB'
  rw [hB] at hg
  simp only [Option.some.injEq, Obj.cells.injEq, and_true] at hg
  obtain ⟨rfl, _⟩ := hg
  refine ⟨by simpa using h.1, .inr ⟨g, cap, _, rfl, hbg, hB', hnc, hcm, by simpa using hcs, ?_⟩⟩
  rw [← htake, Array.toList_setIfInBounds, List.take_set]
theorem own_blkG {w : World} {base e size n cap g : Nat} {xs : List Value} (h : w.ownsRow base e size (.slice (some ⟨g, 0, none⟩) n cap) n xs) : ∃ cur, Blk w g cur e ∧ n * size ≤ cur.size := by
 rcases h.2 with ⟨h1, _⟩ | ⟨g', cap', cur', hv, hbg, hg, hnc, hcm, hcs, htake⟩
 ·simp at h1
 ·simp only [Value.slice.injEq, Option.some.injEq, Addr.mk.injEq, and_true] at hv
  obtain ⟨rfl, _, rfl⟩ := hv
  exact ⟨cur', hg, by rw [hcs]; exact Nat.mul_le_mul_right _ hnc⟩
/-- The same, and no two members share a block: a member may grow. -/
structure GSt (To e sz : Nat) (w : World) (base : Nat) (vo : Value) (vs : List Value) (ns : List (Nat × List Value)) : Prop where
 l : LSt To e sz w base vo vs ns
 ap : ∀ (i j : Nat) v u b, vs[i]? = some v → vs[j]? = some u → v.ownBlock = some b → u.ownBlock = some b → i = j
theorem GSt.chg {M : Nat → Prop} {To e sz base : Nat} {w w' : World} {vo : Value} {vs : List Value} {ns : List (Nat × List Value)} (h : GSt To e sz w base vo vs ns) (c : Chg M w w') (hM : ∀ b, base ≤ b → b < w.heap.size → ¬ M b) : GSt To e sz w' base vo vs ns := ⟨h.l.chg c hM, h.ap⟩
theorem GSt.ext {To e sz base : Nat} {w w' : World} {vo : Value} {vs : List Value} {ns : List (Nat × List Value)} (h : GSt To e sz w base vo vs ns) (c : Ext w w') : GSt To e sz w' base vo vs ns := ⟨h.l.ext c, h.ap⟩
theorem GSt.made {To e sz base b n : Nat} {w : World} (hB : Blk w b (List.replicate n (Value.slice none 0 0)).toArray To) (hb : base ≤ b) (hn : n ≤ 9223372036854775807) (hbw : base ≤ b) : GSt To e sz w base (.slice (some ⟨b, 0, none⟩) n n) (List.replicate n (.slice none 0 0)) (List.replicate n (0, [])) := by
 have hv : ∀ (i : Nat) v, (List.replicate n (Value.slice none 0 0))[i]? = some v → v = .slice none 0 0 := fun i v h => by
  have := List.mem_of_getElem? h
  exact (List.mem_replicate.1 this).2
 refine ⟨⟨?_, by simp, fun i v p h hp => ?_, fun i v b h h2 => ?_⟩, fun i j v u b h _ h2 => ?_⟩
 ·rw [List.length_replicate]
  exact ⟨by simp, .inr ⟨b, n, _, rfl, hb, hB, Nat.le_refl _, hn, by simp, by simp⟩⟩
 ·have hp2 := (List.mem_replicate.1 (List.mem_of_getElem? hp)).2
  subst hp2
  rw [hv i v h]
  exact World.ownsRow_nil _ _ _ _
 ·rw [hv i v h] at h2; cases h2
 ·rw [hv i v h] at h2; cases h2
/-- One member grows, and its new slice is stored in the outer one. -/
theorem GSt.grow {To e sz : Nat} {w w' w2 : World} {base g cap k n m m' : Nat} {v v' : Value} {vs : List Value} {ns : List (Nat × List Value)} {xs xs' : List Value} {cur : Array Value} (h : GSt To e sz w base (.slice (some ⟨g, 0, none⟩) n cap) vs ns) (hn : n = ns.length) (hv : vs[k]? = some v) (hp : ns[k]? = some (m, xs))
  (Ov : w'.ownsRow base e sz v' m' xs') (Cv : Chg (fun x => v.ownBlock = some x) w w') (Wv : ∀ k, v'.ownBlock = some k → v.ownBlock = some k ∨ w.heap.size ≤ k)
  (hB : Blk w' g cur To) (P2 : Put w' w2 g (cur.setIfInBounds k v') To) : GSt To e sz w2 base (.slice (some ⟨g, 0, none⟩) n cap) (vs.set k v') (ns.set k (m', xs')) := by
 have hkl := lt_of_get hv
 have hgv : v.ownBlock ≠ some g := fun e => h.l.apo k v g hv e rfl
 have hgl := (h.l.o.lt g rfl).2
 have hv'g : v'.ownBlock ≠ some g := fun e => by rcases Wv g e with h1 | h1; exact hgv h1; omega
 have ho1 : w'.ownsRow base To 1 (.slice (some ⟨g, 0, none⟩) n cap) ns.length vs := own_chg h.l.o Cv fun q hq => by cases hq; exact hgv
 rw [← hn] at ho1
 have ho2 := own_writeG ho1 hB (i := k) (by have := h.l.len; omega) P2.blk
 have hset : ∀ (i : Nat) u, (vs.set k v')[i]? = some u → (i = k ∧ u = v') ∨ (i ≠ k ∧ vs[i]? = some u) := by
  intro i u hu
  rw [List.getElem?_set] at hu
  split at hu
  ·rename_i he
   exact .inl ⟨he.symm, (Option.some.inj hu).symm⟩
  ·rename_i he
   exact .inr ⟨fun e => he e.symm, hu⟩
 have hsome : ∀ (i : Nat) u, vs[i]? = some u → ∃ q, ns[i]? = some q := fun i u hu => get_of_lt (by have := lt_of_get hu; have := h.l.len; omega)
 have hne : ∀ (i : Nat) u b, i ≠ k → vs[i]? = some u → u.ownBlock = some b → v.ownBlock ≠ some b ∧ v'.ownBlock ≠ some b ∧ b ≠ g := by
  intro i u b hi hu hb
  have h1 : v.ownBlock ≠ some b := fun e => hi (h.ap i k u v b hu hv hb e)
  refine ⟨h1, fun e => ?_, fun e => h.l.apo i u b hu hb (by rw [e]; rfl)⟩
  rcases Wv b e with h2 | h2
  ·exact h1 h2
  ·obtain ⟨q, hq⟩ := hsome i u hu
   have := ((h.l.inn i u q hu hq).lt b hb).2
   omega
 refine ⟨⟨by rw [List.length_set, ← hn]; exact ho2, by simp [h.l.len], ?_, ?_⟩, ?_⟩
 ·intro i u q hu hq
  rcases hset i u hu with ⟨rfl, rfl⟩ | ⟨h1, h2⟩
  ·rw [List.getElem?_set, if_pos rfl, if_pos (by have := h.l.len; omega)] at hq
   have hq' := Option.some.inj hq
   subst hq'
   exact own_chg Ov P2.chg fun b hb e => hv'g (e ▸ hb)
  ·rw [List.getElem?_set, if_neg (fun e => h1 e.symm)] at hq
   exact own_chg (own_chg (h.l.inn i u q h2 hq) Cv fun b hb => (hne i u b h1 h2 hb).1) P2.chg fun b hb e => (hne i u b h1 h2 hb).2.2 e
 ·intro i u b hu hb
  rcases hset i u hu with ⟨rfl, rfl⟩ | ⟨h1, h2⟩
  ·intro e; cases e; exact hv'g hb
  ·exact h.l.apo i u b h2 hb
 ·intro i j u z b hu hz hb hb'
  rcases hset i u hu with ⟨rfl, rfl⟩ | ⟨h1, h2⟩ <;> rcases hset j z hz with ⟨rfl, rfl⟩ | ⟨h3, h4⟩
  ·rfl
  ·exact absurd hb (hne j z b h3 h4 hb').2.1
  ·exact absurd hb' (hne i u b h1 h2 hb).2.1
  ·exact h.ap i j u z b h2 h4 hb hb'
end Go.Proofs
namespace Go.Proofs
open Go Go.Eng Go.Sort
set_option maxRecDepth 100000
abbrev TEd : Nat := 39
abbrev TPr : Nat := 36
def edRow (e : Ed) (u : Value) : List Value := [.int .i64 e.1, .int .i64 e.2.1, u]
def EdgesAt (w : World) (v : Value) (es : List Ed) : Prop := ∃ rows : List (List Value), SlAt w 3 v rows ∧ rows.length = es.length ∧ ∀ (i : Nat) e row, es[i]? = some e → rows[i]? = some row → ∃ u, row = edRow e u ∧ SpansAt w u e.2.2
theorem EdgesAt.ext {w w' : World} {v : Value} {es : List Ed} (h : EdgesAt w v es) (x : Ext w w') : EdgesAt w' v es := by
 obtain ⟨rows, h1, h2, h3⟩ := h
 exact ⟨rows, h1.ext x, h2, fun i e row he hr => let ⟨u, h4, h5⟩ := h3 i e row he hr; ⟨u, h4, h5.ext x⟩⟩
theorem EdgesAt.form {w : World} {v : Value} {es : List Ed} (h : EdgesAt w v es) : ∃ a c, v = .slice a es.length c ∧ es.length ≤ c ∧ es.length ≤ 9223372036854775807 := by
 obtain ⟨rows, h1, h2, _⟩ := h
 obtain ⟨a, c, rfl⟩ := SlAt.form h1
 have h4 := SlAt.cap h1
 have h5 := SlAt.le h1
 rw [← h2]
 exact ⟨a, c, rfl, h4.1, h5⟩
theorem edges_cells {w : World} {a : Option Addr} {n c : Nat} {es : List Ed} (h : EdgesAt w (.slice a n c) es) (hn : 0 < n) :
  ∃ b o, a = some ⟨b, o, none⟩ ∧ ∀ (i : Nat) e, es[i]? = some e → ∃ ra rc, CellsAt w b (o + i * 3) [.int .i64 e.1, .int .i64 e.2.1, .slice ra e.2.2.length rc] ∧ SpansAt w (.slice ra e.2.2.length rc) e.2.2 := by
 obtain ⟨rows, h1, h2, h3⟩ := h
 obtain ⟨b, o, ha, h4⟩ := SlAt.at h1 hn
 refine ⟨b, o, ha, fun i e he => ?_⟩
 obtain ⟨row, hr⟩ := get_of_lt (l := rows) (i := i) (by have := lt_of_get he; omega)
 obtain ⟨u, rfl, h5⟩ := h3 i e row he hr
 obtain ⟨ra, rc, rfl⟩ := SlAt.form h5
 rw [List.length_map] at h5
 exact ⟨ra, rc, by simpa [edRow] using h4 i _ hr, h5⟩
def NfAt (w : World) (n : Nf) (vs : List Value) : Prop := ∃ ea ec pa pc xa xc, vs = [.int .i64 n.states, .int .i64 n.start, .slice ea n.ends.length ec, .slice pa n.eps.length pc, .slice xa n.edges.length xc] ∧
 IntsAt w (.slice ea n.ends.length ec) n.ends ∧ SpansAt w (.slice pa n.eps.length pc) n.eps ∧ EdgesAt w (.slice xa n.edges.length xc) n.edges
theorem NfAt.ext {w w' : World} {n : Nf} {vs : List Value} (h : NfAt w n vs) (x : Ext w w') : NfAt w' n vs := by
 obtain ⟨ea, ec, pa, pc, xa, xc, h1, h2, h3, h4⟩ := h
 exact ⟨ea, ec, pa, pc, xa, xc, h1, h2.ext x, h3.ext x, h4.ext x⟩
def SucP (eps : List (Int × Int)) (n k : Nat) (to : List (List Int)) : Prop := to.length = n ∧ ∀ s : Nat, s < n → to[s]? = some (sucL (eps.take k) s)
theorem SucP.start (eps : List (Int × Int)) (n : Nat) : SucP eps n 0 (List.replicate n []) := by
 refine ⟨by simp, fun s hs => ?_⟩
 rw [List.getElem?_replicate, if_pos hs]; rfl
theorem SucP.add {eps : List (Int × Int)} {n k : Nat} {to : List (List Int)} (h : SucP eps n k to) {p : Int × Int} (hp : eps[k]? = some p) {a : Nat} (ha : p.1 = (a : Int)) {l : List Int} (hl : to[a]? = some l) : SucP eps n (k + 1) (to.set a (l ++ [p.2])) := by
 refine ⟨by rw [List.length_set]; exact h.1, fun s hs => ?_⟩
 have ht : eps.take (k + 1) = eps.take k ++ [p] := by rw [List.take_add_one, hp]; rfl
 have hal := lt_of_get hl
 rw [ht, sucL_snoc ha, List.getElem?_set]
 by_cases e : a = s
 ·subst e
  have := h.2 a hs
  rw [hl] at this
  rw [if_pos rfl, if_pos hal, if_pos rfl, Option.some.inj this]
 ·rw [if_neg e, if_neg (fun h => e h.symm)]
  exact h.2 s hs
theorem SucP.len {eps : List (Int × Int)} {n k : Nat} {to : List (List Int)} (h : SucP eps n k to) {s : Nat} {l : List Int} (hl : to[s]? = some l) : l.length ≤ eps.length := by
 have h1 := h.2 s (by rw [← h.1]; exact lt_of_get hl)
 rw [hl] at h1
 rw [Option.some.inj h1]
 exact Nat.le_trans (sucL_len _ _) (by rw [List.length_take]; exact Nat.min_le_right _ _)
theorem SucP.full {eps : List (Int × Int)} {n k : Nat} {to : List (List Int)} (h : SucP eps n k to) (hk : eps.length ≤ k) {s : Nat} {l : List Int} (hl : to[s]? = some l) (t : Int) : t ∈ l ↔ ((s : Int), t) ∈ eps := by
 have h1 := h.2 s (by rw [← h.1]; exact lt_of_get hl)
 rw [hl, List.take_of_length_le hk] at h1
 rw [Option.some.inj h1]
 exact sucL_mem
end Go.Proofs
namespace Go.Proofs
open Go Go.Eng Go.Sort
set_option maxRecDepth 100000
def edO (a b : Ed) : Int := orL [cmpI a.1 b.1, cmpI a.2.1 b.2.1, cmpL cmpSp a.2.2 b.2.2]
theorem sy_ed (a b : Ed) : Sy (edO a b) (edO b a) := by
 simp only [edO, orL_cons, orL_nil]
 exact (sy_cmp _ _).lex ((sy_cmp _ _).lex ((sy_list sy_sp _ _).lex sy_zero))
theorem tr_ed (a b c : Ed) : Tr3 (edO a b) (edO b c) (edO a c) := by
 simp only [edO, orL_cons, orL_nil]
 exact (tr_cmp _ _ _).lex ((tr_cmp _ _ _).lex ((tr_list tr_sp _ _ _).lex tr_zero))
def ints3F (a b c : Int) : Fct := fun v w => ∃ bb, v = .slice (some ⟨bb, 0, none⟩) 3 3 ∧ IntsAt w v [a, b, c]
theorem ints3F_ext (a b c : Int) : Stable (ints3F a b c) := by
 rintro v w w' x ⟨bb, h1, h2⟩
 exact ⟨bb, h1, h2.ext x⟩
theorem Does_ints3 {N : Nat} {σ : Env} {w : World} {dst : Option Tmp} {ty : TypeId} {pos : String} {af : Array Edge} {g : Option (Nat × Bool)} {x1 x2 x3 : Operand} {a b c : Int} (h1 : ev σ x1 = .int .i64 a) (h2 : ev σ x2 = .int .i64 b) (h3 : ev σ x3 = .int .i64 c) :
  Does Tryz.prog N ⟨dst, .buildSlice 22 3 #[(0, x1), (1, x2), (2, x3)], ty, pos, af, g⟩ (ints3F a b c) σ w := by
 have hn := New.mk' w #[.int .i64 a, .int .i64 b, .int .i64 c] 3
 refine Does_val (run_buildSlice (parts := [(0, x1), (1, x2), (2, x3)]) (ps := [(0, .int .i64 a), (1, .int .i64 b), (2, .int .i64 c)]) (by simp only [List.map, h1, h2, h3]) Tryz.underlying22 siz3 zer3 (by decide) (by decide) (by kernel_rfl)) hn.ext ?_
 exact ⟨_, rfl, ints_of_blk [a, b, c] hn.blk (by simp) (by simp)⟩
theorem edges2_c (w0 : World) (x y : Ed) (ua ua2 : Option Addr) (uc uc2 : Nat) (h1 : SpansAt w0 (.slice ua x.2.2.length uc) x.2.2) (h2 : SpansAt w0 (.slice ua2 y.2.2.length uc2) y.2.2) :
  Ret Tryz.prog 40 #[.agg #[.int .i64 x.1, .int .i64 x.2.1, .slice ua x.2.2.length uc], .agg #[.int .i64 y.1, .int .i64 y.2.1, .slice ua2 y.2.2.length uc2]] w0 fun v w => v = .int .i64 (edO x y) ∧ Ext w0 w := by
 refine Ret_of Tryz.func40 rfl Tryz.ntmps40 (Nat.le_of_ble_eq_true rfl) ?_
 have E : Chg none1 w0 w0 := Chg.refl _ _
 refine Wp_seq_region ?_
 refine s_box (v := (.agg #[(I6 x.1), (I6 x.2.1), (.slice ua x.2.2.length uc)])) (c := #[(I6 x.1), (I6 x.2.1), (.slice ua x.2.2.length uc)]) (by decide) rfl rfl ?_
 intro b1 w1 N1
 have F1 := N1.ge E
 replace E := E.ext N1.ext
 have B1 := N1.blk
 refine s_box (v := (.agg #[(I6 y.1), (I6 y.2.1), (.slice ua2 y.2.2.length uc2)])) (c := #[(I6 y.1), (I6 y.2.1), (.slice ua2 y.2.2.length uc2)]) (by decide) rfl rfl ?_
 intro b2 w2 N2
 have F2 := N2.ge E
 have O2_b1 := N2.lt B1
 replace B1 := N2.keep B1
 replace E := E.ext N2.ext
 have B2 := N2.blk
 refine qA (I6 0) rfl ?_
 refine WpL_nil (Wp_seq ?_)
 obtain ⟨Fs3, hFs3⟩ : ∃ Fs : List Fact, Fs = [.eq (P6 b1 0), .eq (I6 x.1), .eq (P6 b2 0), .eq (I6 y.1), .eq (I6 (cmpI x.1 y.1)), .eq (P6 b1 1), .eq (I6 x.2.1), .eq (P6 b2 1), .eq (I6 y.2.1), .eq (I6 (cmpI x.2.1 y.2.1)), .eq (P6 b1 2), .eq (.slice ua x.2.2.length uc), .eq (P6 b2 2), .eq (.slice ua2 y.2.2.length uc2), .eq (I6 (cmpL cmpSp x.2.2 y.2.2)), .gen (ints3F (cmpI x.1 y.1) (cmpI x.2.1 y.2.1) (cmpL cmpSp x.2.2 y.2.2)) (ints3F_ext _ _ _), .eq (I6 (orL [cmpI x.1 y.1, cmpI x.2.1 y.2.1, cmpL cmpSp x.2.2 y.2.2])), .eq (I6 (orL [cmpI x.1 y.1, cmpI x.2.1 y.2.1, cmpL cmpSp x.2.2 y.2.2]))] := ⟨_, rfl⟩
 refine Wp_dag [5, 6, 7, 8, 9, 10, 11, 12, 13, 14, 15, 16, 17, 18, 19, 20, 21, 4] [[], [0], [], [2], [1, 3], [], [5], [], [7], [4, 6, 8], [], [10], [], [12], [9, 11, 13], [4, 9, 14], [14, 15], [0, 1, 2, 3, 4, 5, 6, 7, 8, 9, 10, 11, 12, 13, 14, 15, 16]] Fs3 hFs3 mixed (by kernel_rfl) (by kernel_rfl) ?_ ?_
 ·intro wd X0
  refine DagSteps.cons (fun s' w' X U H => Or.inl ⟨?_, ?_⟩) ?_
  ·exact Guarded_none rfl
  ·exact Does_val (r_fieldAddr (b := b1) (o := 0) (o' := 0) (U 2 rfl) Tryz.underlying39 rfl siz3 rfl) (Ext.refl _) rfl
  refine DagSteps.cons (fun s' w' X U H => Or.inl ⟨?_, ?_⟩) ?_
  ·exact Guarded_none rfl
  ·have e5 : s' 5 = (.pointer (some ⟨b1, 0, none⟩)) := H 0 rfl 5 (.eq (.pointer (some ⟨b1, 0, none⟩))) rfl (by rw [hFs3]; rfl)
   exact Does_val (r_load (v := (I6 x.1)) e5 flat3 (((X0.trans X).keep B1).cell rfl)) (Ext.refl _) rfl
  refine DagSteps.cons (fun s' w' X U H => Or.inl ⟨?_, ?_⟩) ?_
  ·exact Guarded_none rfl
  ·exact Does_val (r_fieldAddr (b := b2) (o := 0) (o' := 0) (U 3 rfl) Tryz.underlying39 rfl siz3 rfl) (Ext.refl _) rfl
  refine DagSteps.cons (fun s' w' X U H => Or.inl ⟨?_, ?_⟩) ?_
  ·exact Guarded_none rfl
  ·have e7 : s' 7 = (.pointer (some ⟨b2, 0, none⟩)) := H 2 rfl 7 (.eq (.pointer (some ⟨b2, 0, none⟩))) rfl (by rw [hFs3]; rfl)
   exact Does_val (r_load (v := (I6 y.1)) e7 flat3 (((X0.trans X).keep B2).cell rfl)) (Ext.refl _) rfl
  refine DagSteps.cons (fun s' w' X U H => Or.inl ⟨?_, ?_⟩) ?_
  ·exact Guarded_none rfl
  ·have e6 : s' 6 = (.int .i64 x.1) := H 1 rfl 6 (.eq (.int .i64 x.1)) rfl (by rw [hFs3]; rfl)
   have e8 : s' 8 = (.int .i64 y.1) := H 3 rfl 8 (.eq (.int .i64 y.1)) rfl (by rw [hFs3]; rfl)
   exact Does_enter (r_callF (vs := [(I6 x.1), (I6 y.1)]) Tryz.func89 kQ kQ (lst2 e6 e8)) (compare_c _ _ _)
  refine DagSteps.cons (fun s' w' X U H => Or.inl ⟨?_, ?_⟩) ?_
  ·exact Guarded_none rfl
  ·exact Does_val (r_fieldAddr (b := b1) (o := 0) (o' := 1) (U 2 rfl) Tryz.underlying39 rfl siz3 rfl) (Ext.refl _) rfl
  refine DagSteps.cons (fun s' w' X U H => Or.inl ⟨?_, ?_⟩) ?_
  ·exact Guarded_none rfl
  ·have e10 : s' 10 = (.pointer (some ⟨b1, 1, none⟩)) := H 5 rfl 10 (.eq (.pointer (some ⟨b1, 1, none⟩))) rfl (by rw [hFs3]; rfl)
   exact Does_val (r_load (v := (I6 x.2.1)) e10 flat3 (((X0.trans X).keep B1).cell rfl)) (Ext.refl _) rfl
  refine DagSteps.cons (fun s' w' X U H => Or.inl ⟨?_, ?_⟩) ?_
  ·exact Guarded_none rfl
  ·exact Does_val (r_fieldAddr (b := b2) (o := 0) (o' := 1) (U 3 rfl) Tryz.underlying39 rfl siz3 rfl) (Ext.refl _) rfl
  refine DagSteps.cons (fun s' w' X U H => Or.inl ⟨?_, ?_⟩) ?_
  ·exact Guarded_none rfl
  ·have e12 : s' 12 = (.pointer (some ⟨b2, 1, none⟩)) := H 7 rfl 12 (.eq (.pointer (some ⟨b2, 1, none⟩))) rfl (by rw [hFs3]; rfl)
   exact Does_val (r_load (v := (I6 y.2.1)) e12 flat3 (((X0.trans X).keep B2).cell rfl)) (Ext.refl _) rfl
  refine DagSteps.cons (fun s' w' X U H => Or.inl ⟨?_, ?_⟩) ?_
  ·exact Guarded_none rfl
  ·have e11 : s' 11 = (.int .i64 x.2.1) := H 6 rfl 11 (.eq (.int .i64 x.2.1)) rfl (by rw [hFs3]; rfl)
   have e13 : s' 13 = (.int .i64 y.2.1) := H 8 rfl 13 (.eq (.int .i64 y.2.1)) rfl (by rw [hFs3]; rfl)
   exact Does_enter (r_callF (vs := [(I6 x.2.1), (I6 y.2.1)]) Tryz.func89 kQ kQ (lst2 e11 e13)) (compare_c _ _ _)
  refine DagSteps.cons (fun s' w' X U H => Or.inl ⟨?_, ?_⟩) ?_
  ·exact Guarded_none rfl
  ·exact Does_val (r_fieldAddr (b := b1) (o := 0) (o' := 2) (U 2 rfl) Tryz.underlying39 rfl siz37 rfl) (Ext.refl _) rfl
  refine DagSteps.cons (fun s' w' X U H => Or.inl ⟨?_, ?_⟩) ?_
  ·exact Guarded_none rfl
  ·have e15 : s' 15 = (.pointer (some ⟨b1, 2, none⟩)) := H 10 rfl 15 (.eq (.pointer (some ⟨b1, 2, none⟩))) rfl (by rw [hFs3]; rfl)
   exact Does_val (r_load (v := (.slice ua x.2.2.length uc)) e15 flat37 (((X0.trans X).keep B1).cell rfl)) (Ext.refl _) rfl
  refine DagSteps.cons (fun s' w' X U H => Or.inl ⟨?_, ?_⟩) ?_
  ·exact Guarded_none rfl
  ·exact Does_val (r_fieldAddr (b := b2) (o := 0) (o' := 2) (U 3 rfl) Tryz.underlying39 rfl siz37 rfl) (Ext.refl _) rfl
  refine DagSteps.cons (fun s' w' X U H => Or.inl ⟨?_, ?_⟩) ?_
  ·exact Guarded_none rfl
  ·have e17 : s' 17 = (.pointer (some ⟨b2, 2, none⟩)) := H 12 rfl 17 (.eq (.pointer (some ⟨b2, 2, none⟩))) rfl (by rw [hFs3]; rfl)
   exact Does_val (r_load (v := (.slice ua2 y.2.2.length uc2)) e17 flat37 (((X0.trans X).keep B2).cell rfl)) (Ext.refl _) rfl
  refine DagSteps.cons (fun s' w' X U H => Or.inl ⟨?_, ?_⟩) ?_
  ·exact Guarded_none rfl
  ·have e16 : s' 16 = (.slice ua x.2.2.length uc) := H 11 rfl 16 (.eq (.slice ua x.2.2.length uc)) rfl (by rw [hFs3]; rfl)
   have e18 : s' 18 = (.slice ua2 y.2.2.length uc2) := H 13 rfl 18 (.eq (.slice ua2 y.2.2.length uc2)) rfl (by rw [hFs3]; rfl)
   exact Does_enter (r_callF (vs := [(.slice ua x.2.2.length uc), (.slice ua2 y.2.2.length uc2)]) Tryz.func90 kQ kQ (lst2 e16 e18)) (spord_c _ _ _ _ _ (h1.ext (Ext.trans E (X0.trans X))) (h2.ext (Ext.trans E (X0.trans X))))
  refine DagSteps.cons (fun s' w' X U H => Or.inl ⟨?_, ?_⟩) ?_
  ·exact Guarded_none rfl
  ·have e9 : s' 9 = (.int .i64 (cmpI x.1 y.1)) := H 4 rfl 9 (.eq (.int .i64 (cmpI x.1 y.1))) rfl (by rw [hFs3]; rfl)
   have e14 : s' 14 = (.int .i64 (cmpI x.2.1 y.2.1)) := H 9 rfl 14 (.eq (.int .i64 (cmpI x.2.1 y.2.1))) rfl (by rw [hFs3]; rfl)
   have e19 : s' 19 = (.int .i64 (cmpL cmpSp x.2.2 y.2.2)) := H 14 rfl 19 (.eq (.int .i64 (cmpL cmpSp x.2.2 y.2.2))) rfl (by rw [hFs3]; rfl)
   exact Does_ints3 e9 e14 e19
  refine DagSteps.cons (fun s' w' X U H => Or.inl ⟨?_, ?_⟩) ?_
  ·exact Guarded_none rfl
  ·obtain ⟨b20, e20, i20⟩ := H 15 rfl 20 (.gen (ints3F (cmpI x.1 y.1) (cmpI x.2.1 y.2.1) (cmpL cmpSp x.2.2 y.2.2)) (ints3F_ext _ _ _)) rfl (by rw [hFs3]; rfl)
   exact Does_enter (r_callF (vs := [(.slice (some ⟨b20, 0, none⟩) 3 3)]) Tryz.func88 kQ kQ (lst1 e20)) (sor_c _ _ _ (e20 ▸ i20))
  refine DagSteps.cons (fun s' w' X U H => Or.inl ⟨?_, ?_⟩) ?_
  ·exact Guarded_none rfl
  ·have e21 : s' 21 = (.int .i64 (orL [cmpI x.1 y.1, cmpI x.2.1 y.2.1, cmpL cmpSp x.2.2 y.2.2])) := H 16 rfl 21 (.eq (.int .i64 (orL [cmpI x.1 y.1, cmpI x.2.1 y.2.1, cmpL cmpSp x.2.2 y.2.2]))) rfl (by rw [hFs3]; rfl)
   exact Does_val (r_assign (v := (I6 (orL [cmpI x.1 y.1, cmpI x.2.1 y.2.1, cmpL cmpSp x.2.2 y.2.2]))) e21) (Ext.refl _) rfl
  exact DagSteps.nil
 ·intro s' w3 X3 U H
  obtain ⟨j3, rfl⟩ := Fits.out (σ := s') (l := [(4, (.int .i64 (orL [cmpI x.1 y.1, cmpI x.2.1 y.2.1, cmpL cmpSp x.2.2 y.2.2])))]) ⟨(show s' 4 = (.int .i64 (orL [cmpI x.1 y.1, cmpI x.2.1 y.2.1, cmpL cmpSp x.2.2 y.2.2])) from H 17 4 (.eq (.int .i64 (orL [cmpI x.1 y.1, cmpI x.2.1 y.2.1, cmpL cmpSp x.2.2 y.2.2]))) rfl (by rw [hFs3]; rfl)), trivial⟩
  clear U H
  replace B1 := X3.keep B1
  replace B2 := X3.keep B2
  replace E := E.ext X3
  refine thn_normal (Wp_ret ?_)
  refine fin_tmp Tryz.results40 (v := (.int .i64 (orL [cmpI x.1 y.1, cmpI x.2.1 y.2.1, cmpL cmpSp x.2.2 y.2.2]))) rfl ?_
  exact ⟨rfl, E⟩
end Go.Proofs
namespace Go.Eng
open Go
def edgeB (l : List Oper) (t u : Nat) : Bool := match l[t]? with
  | some o => o.after.any fun e => Region.binds .any e && Nat.beq e.on u
  | none => false
def guardB (hd : List Bool) (o : Oper) : Bool := match o.guard with | some p => hd.getD p.1 false | none => true
def permB (ops : Array Oper) : List Nat → Array Bool → Bool
  | [], listed => (Region.ready .any ops listed).isEmpty
  | k :: ks, listed => decide (Region.ready .any ops listed = [k]) && permB ops ks (listed.setIfInBounds k true)
theorem wpAny_of_perm {P : Program} {ops : Array Oper} {Q' : Exit → Act → World → Prop} : ∀ (ks : List Nat) (listed : Array Bool) (a : Act) (w : World), permB ops ks listed = true → wpList P ops Q' (ks.filterMap fun k => ops[k]?) a w → wpAny P .any ops Q' ks.length listed a w
  | [], _, _, _, hB, h => ⟨by simpa [permB] using hB, h⟩
  | k :: ks, listed, a, w, hB, h => by
    simp only [permB, Bool.and_eq_true, decide_eq_true_eq] at hB
    refine ⟨fun h1 => (by rw [hB.1] at h1; cases h1), fun i hi => ?_⟩
    have hi0 := hi
    rw [hB.1] at hi
    have hik : i = k := by simpa using hi
    subst hik
    obtain ⟨_, o, h0, _⟩ := mem_ready.1 hi0
    have hw : wpOp P ops Q' i (wpList P ops Q' (ks.filterMap fun k => ops[k]?)) a w := by
      rw [List.filterMap_cons, h0] at h
      unfold wpOp; simp only [h0]; exact h
    exact wpOp_mono (fun a' w' h' => wpAny_of_perm ks _ a' w' hB.2 h') hw
/-- How many of the head are yet to come. -/
def leftH (hd : List Bool) (listed : List Bool) : Nat := ((hd.zip listed).filter fun p => p.1 && !p.2).length
theorem leftH_set : ∀ {hd listed : List Bool} {i : Nat}, hd[i]? = some true → listed[i]? = some false → leftH hd (listed.set i true) + 1 = leftH hd listed
  | [], _, _, h, _ => by simp at h
  | _ :: _, [], _, _, h => by simp at h
  | h :: hd, x :: listed, 0, h1, h2 => by
    simp at h1 h2
    subst h1; subst h2
    simp [leftH]
  | h :: hd, x :: listed, i + 1, h1, h2 => by
    have := leftH_set (hd := hd) (listed := listed) (i := i) (by simpa using h1) (by simpa using h2)
    simp only [leftH, List.set_cons_succ, List.zip_cons_cons, List.filter_cons] at this ⊢
    split
    · simp only [List.length_cons]; omega
    · exact this
theorem leftH_zero : ∀ {hd listed : List Bool}, hd.length = listed.length → leftH hd listed = 0 → (∀ (i : Nat), hd[i]? = some false → listed[i]? = some false) → listed = hd
  | [], [], _, _, _ => rfl
  | [], _ :: _, h, _, _ => by simp at h
  | _ :: _, [], h, _, _ => by simp at h
  | h :: hd, x :: listed, hl, h0, ht => by
    have e1 : leftH hd listed = 0 := by
      simp only [leftH, List.zip_cons_cons, List.filter_cons] at h0 ⊢
      split at h0
      · simp at h0
      · exact h0
    have e2 := leftH_zero (by simpa using hl) e1 fun i hi => by have := ht (i + 1) (by simpa using hi); simpa using this
    have e3 : x = h := by
      cases h with
      | false => have := ht 0 rfl; simpa using this
      | true =>
        cases x with
        | true => rfl
        | false => simp [leftH] at h0
    rw [e2, e3]
theorem leftH_pos : ∀ {hd listed : List Bool}, 0 < leftH hd listed → ∃ i : Nat, hd[i]? = some true ∧ listed[i]? = some false
  | [], _, h => by simp [leftH] at h
  | _ :: _, [], h => by simp [leftH] at h
  | h :: hd, x :: listed, hp => by
    simp only [leftH, List.zip_cons_cons, List.filter_cons] at hp
    split at hp
    · rename_i hc
      simp at hc
      exact ⟨0, by simp [hc.1], by simp [hc.2]⟩
    · obtain ⟨i, h1, h2⟩ := leftH_pos (hd := hd) (listed := listed) hp
      exact ⟨i + 1, by simpa using h1, by simpa using h2⟩
theorem getD_arr {listed : Array Bool} {i : Nat} {b d : Bool} (h : listed.toList[i]? = some b) : listed.getD i d = b := by
 have : listed[i]? = some b := by simpa using h
 simp [Array.getD_eq_getD_getElem?, this]
section
variable {P : Program} {N : Nat} {σ : Env} {w : World} {dst : Option Tmp} {ty : TypeId} {pos : String} {af : Array Edge} {g : Option (Nat × Bool)} {t : TypeId} {x y z u : Operand} {a b c d : Value} {i j k m : Nat}
theorem bld1 (h : ev σ x = a) : ([(i, x)].map fun (i, x) => (i, ev σ x)) = [(i, a)] := by simp only [List.map, h]
theorem bld3 (h : ev σ x = a) (h2 : ev σ y = b) (h3 : ev σ z = c) : ([(i, x), (j, y), (k, z)].map fun (i, x) => (i, ev σ x)) = [(i, a), (j, b), (k, c)] := by simp only [List.map, h, h2, h3]
/-- A new variable, with its cells. -/
def alF (e : Nat) (c : Array Value) (hs : Nat) : Fct := fun v w => ∃ b, v = .pointer (some ⟨b, 0, none⟩) ∧ Blk w b c e ∧ hs ≤ b
theorem alF_ext (e : Nat) (c : Array Value) (hs : Nat) : Stable (alF e c hs) := by
 rintro v w w' x ⟨b, h1, h2, h3⟩
 exact ⟨b, h1, Ext.keep x h2, h3⟩
end
end Go.Eng
namespace Go.Eng
open Go
def two (c1 c2 : Nat) (M1 M2 : Nat → Prop) (p : Nat) : Nat → Prop := bif Nat.beq p c1 then M1 else bif Nat.beq p c2 then M2 else none1
/-- Waits that follow from the given ones. -/
def closB1 (wss cl : List (List Nat)) (i : Nat) : Bool := (cl.getD i []).all fun c => (wss.getD i []).contains c || (wss.getD i []).any fun e => (cl.getD e []).contains c
def closB (wss cl : List (List Nat)) : Bool := (List.range wss.length).all (closB1 wss cl)
theorem closB_get {wss cl : List (List Nat)} (h : closB wss cl = true) {i c : Nat} {ws : List Nat} (hw : wss[i]? = some ws) (hc : (cl.getD i []).contains c = true) : c ∈ ws ∨ ∃ e ∈ ws, (cl.getD e []).contains c = true := by
 have h1 := List.all_eq_true.1 h i (List.mem_range.2 (lt_of_get hw))
 have h2 := List.all_eq_true.1 h1 c (by simpa using hc)
 rw [List.getD_eq_getElem?_getD, hw, Option.getD_some, Bool.or_eq_true] at h2
 rcases h2 with h2 | h2
 ·exact .inl (by simpa using h2)
 ·obtain ⟨e, he, h3⟩ := List.any_eq_true.1 h2
  exact .inr ⟨e, he, h3⟩
end Go.Eng
namespace Go.Eng
open Go
abbrev FctS := (Nat → Bool) → Env → Fct
abbrev eF (u : Value) : FctS := fun _ _ v _ => v = u
def HoldsS (ds : List Nat) (Fs : List FctS) (S : Nat → Bool) (j : Nat) (σ : Env) (w : World) : Prop := ∀ d F, ds[j]? = some d → Fs[j]? = some F → F S σ (σ d) w
def insS (S : Nat → Bool) (i : Nat) : Nat → Bool := fun j => bif Nat.beq j i then true else S j
theorem insS_self (S : Nat → Bool) (i : Nat) : insS S i i = true := by simp [insS]
theorem insS_ne {S : Nat → Bool} {i j : Nat} (h : j ≠ i) : insS S i j = S j := by
 have : Nat.beq j i = false := by cases hb : Nat.beq j i; rfl; exact absurd (Nat.eq_of_beq_eq_true hb) h
 simp [insS, this]
/-- The blocks that the operations change. -/
def MsL : List (Nat × (Nat → Prop)) → Nat → Nat → Prop
  | [], _, _ => False
  | p :: r, j, y => (j = p.1 ∧ p.2 y) ∨ MsL r j y
theorem MsL_or {c : Nat} {M : Nat → Prop} {r : List (Nat × (Nat → Prop))} {j y : Nat} (h : MsL ((c, M) :: r) j y) : (j = c ∧ M y) ∨ MsL r j y := h
theorem xN0 {S : Nat → Bool} {w w' : World} (X : Chg (fun y => ∃ j, S j = true ∧ MsL [] j y) w w') : Chg none1 w w' := X.mono fun y _ ⟨_, _, h⟩ => h.elim
theorem xN1 {S : Nat → Bool} {w w' : World} {c : Nat} {M : Nat → Prop} (hN : S c = false) (X : Chg (fun y => ∃ j, S j = true ∧ MsL [(c, M)] j y) w w') : Chg none1 w w' := X.mono fun y _ ⟨j, hj, h⟩ => by
  rcases MsL_or h with ⟨rfl, _⟩ | h0
  · rw [hj] at hN; cases hN
  · exact h0.elim
theorem xN2 {S : Nat → Bool} {w w' : World} {c d : Nat} {M M2 : Nat → Prop} (hN : S c = false) (hN2 : S d = false) (X : Chg (fun y => ∃ j, S j = true ∧ MsL [(c, M), (d, M2)] j y) w w') : Chg none1 w w' := X.mono fun y _ ⟨j, hj, h⟩ => by
  rcases MsL_or h with ⟨rfl, _⟩ | h
  · rw [hj] at hN; cases hN
  rcases MsL_or h with ⟨rfl, _⟩ | h0
  · rw [hj] at hN2; cases hN2
  · exact h0.elim
theorem xM1 {S : Nat → Bool} {w w' : World} {c : Nat} {M : Nat → Prop} (X : Chg (fun y => ∃ j, S j = true ∧ MsL [(c, M)] j y) w w') : Chg M w w' := X.mono fun y _ ⟨j, hj, h⟩ => by
  rcases MsL_or h with ⟨_, h⟩ | h0
  · exact h
  · exact h0.elim
theorem xM2 {S : Nat → Bool} {w w' : World} {c d : Nat} {M M2 : Nat → Prop} (hN2 : S d = false) (X : Chg (fun y => ∃ j, S j = true ∧ MsL [(c, M), (d, M2)] j y) w w') : Chg M w w' := X.mono fun y _ ⟨j, hj, h⟩ => by
  rcases MsL_or h with ⟨_, h⟩ | h
  · exact h
  rcases MsL_or h with ⟨rfl, _⟩ | h0
  · rw [hj] at hN2; cases hN2
  · exact h0.elim
def dagOneS (N i : Nat) (hd : List Bool) (o : Oper) (d : Nat) (ws : List Nat) : Bool :=
 (match o.dst with | some d' => Nat.beq d' d && Nat.blt d N | none => Nat.ble N d) && (o.after.all fun e => !Region.binds .any e || (Nat.blt e.on i && hd.getD e.on false)) && (ws.all fun j => o.after.any fun e => Region.binds .any e && Nat.beq e.on j) && guardB hd o
def dagSB (N : Nat) (hd : List Bool) : Nat → List Oper → List Nat → List (List Nat) → List Bool → Bool
  | _, [], [], [], [] => true
  | i, o :: l, d :: ds, ws :: wss, h :: hs => (bif h then dagOneS N i hd o d ws else Nat.ble N d) && dagSB N hd (i + 1) l ds wss hs
  | _, _, _, _, _ => false
theorem dagSB_get {N : Nat} {hd : List Bool} : ∀ {i : Nat} {l : List Oper} {ds : List Nat} {wss : List (List Nat)} {hs : List Bool}, dagSB N hd i l ds wss hs = true → ∀ {j : Nat} {o : Oper}, l[j]? = some o → ∃ d ws h, ds[j]? = some d ∧ wss[j]? = some ws ∧ hs[j]? = some h ∧ (bif h then dagOneS N (i + j) hd o d ws else Nat.ble N d) = true
  | _, [], _, _, _, _, j, o, h => by simp at h
  | i, x :: l, [], _, _, hB, _, _, _ => by simp [dagSB] at hB
  | i, x :: l, d :: ds, [], _, hB, _, _, _ => by simp [dagSB] at hB
  | i, x :: l, d :: ds, ws :: wss, [], hB, _, _, _ => by simp [dagSB] at hB
  | i, x :: l, d :: ds, ws :: wss, h0 :: hs, hB, j, o, h => by
    simp only [dagSB, Bool.and_eq_true] at hB
    cases j with
    | zero => simp at h; subst h; exact ⟨d, ws, h0, rfl, rfl, rfl, hB.1⟩
    | succ j =>
      simp at h
      obtain ⟨d', ws', h', h1, h2, h3, h4⟩ := dagSB_get hB.2 h
      exact ⟨d', ws', h', by simpa using h1, by simpa using h2, by simpa using h3, by rw [show i + (j + 1) = i + 1 + j from by omega]; exact h4⟩
theorem dagSB_len {N : Nat} {hd : List Bool} : ∀ {i : Nat} {l : List Oper} {ds : List Nat} {wss : List (List Nat)} {hs : List Bool}, dagSB N hd i l ds wss hs = true → ds.length = l.length ∧ hs.length = l.length ∧ wss.length = l.length
  | _, [], [], [], [], _ => ⟨rfl, rfl, rfl⟩
  | _, [], [], [], _ :: _, hB => by simp [dagSB] at hB
  | _, [], [], _ :: _, _, hB => by simp [dagSB] at hB
  | _, [], _ :: _, _, _, hB => by simp [dagSB] at hB
  | i, x :: l, [], _, _, hB => by simp [dagSB] at hB
  | i, x :: l, d :: ds, [], _, hB => by simp [dagSB] at hB
  | i, x :: l, d :: ds, ws :: wss, [], hB => by simp [dagSB] at hB
  | i, x :: l, d :: ds, ws :: wss, h0 :: hs, hB => by
    simp only [dagSB, Bool.and_eq_true] at hB
    have := dagSB_len hB.2
    simp [this.1, this.2.1, this.2.2]
def DagStepS (P : Program) (N : Nat) (ds : List Nat) (Fs : List FctS) (σ : Env) (w : World) (Ms : Nat → Nat → Prop) (cl : List (List Nat)) (i : Nat) (o : Oper) (ws : List Nat) (F : FctS) : Prop :=
 ∀ (S : Nat → Bool) σ' w', S i = false → (∀ j, (cl.getD j []).contains i = true → S j = false) → Chg (fun y => ∃ j, S j = true ∧ Ms j y) w w' → (∀ t, ds.contains t = false → σ' t = σ t) → (∀ j d, ds[j]? = some d → S j = false → σ' d = σ d) → (∀ j, ws.contains j = true → S j = true ∧ HoldsS ds Fs S j σ' w') →
  (Guarded ds o σ' ∧ DoesT (Ms i) P N o (fun v w => F (insS S i) σ' (Go.Eng.valOf o v) w) σ' w') ∨ (Unmet ds o σ' ∧ F (insS S i) σ' undef w')
/-- A fact lasts while other operations are done. -/
def StabS (Ms : Nat → Nat → Prop) (i : Nat) (ws : List Nat) (F : FctS) : Prop := ∀ p, p ≠ i → ws.contains p = false → ∀ S σ v w w', S i = true → S p = false → Chg (Ms p) w w' → F S σ v w → F (insS S p) σ v w'
/-- A fact speaks of the values of the operations that it waits for alone. -/
def LocS (ds : List Nat) (ws : List Nat) (F : FctS) : Prop := ∀ S (σ1 σ2 : Env), (∀ j d, ws.contains j = true → ds[j]? = some d → σ2 d = σ1 d) → ∀ v w, F S σ1 v w → F S σ2 v w
inductive DagStepsS (P : Program) (N : Nat) (ds : List Nat) (Fs : List FctS) (σ : Env) (w : World) (Ms : Nat → Nat → Prop) (cl : List (List Nat)) : Nat → List Oper → List (List Nat) → List Bool → List FctS → Prop where
  | nil {i : Nat} : DagStepsS P N ds Fs σ w Ms cl i [] [] [] []
  | cons {i : Nat} {o : Oper} {ws : List Nat} {F : FctS} {l : List Oper} {wss : List (List Nat)} {hs : List Bool} {Gs : List FctS} (s : StabS Ms i ws F) (lc : LocS ds ws F) (h : DagStepS P N ds Fs σ w Ms cl i o ws F) (t : DagStepsS P N ds Fs σ w Ms cl (i + 1) l wss hs Gs) : DagStepsS P N ds Fs σ w Ms cl i (o :: l) (ws :: wss) (true :: hs) (F :: Gs)
  | tail {i : Nat} {o : Oper} {ws : List Nat} {F : FctS} {l : List Oper} {wss : List (List Nat)} {hs : List Bool} {Gs : List FctS} (t : DagStepsS P N ds Fs σ w Ms cl (i + 1) l wss hs Gs) : DagStepsS P N ds Fs σ w Ms cl i (o :: l) (ws :: wss) (false :: hs) (F :: Gs)
def allS (hd : List Bool) : Nat → Bool := fun j => hd.getD j false
def DoesX (M : Nat → Prop) (ch : List PanicEntry) (X : World → Prop) (P : Program) (N : Nat) (o : Oper) (R : Fct) (σ : Env) (w : World) : Prop :=
 ∀ dz a, Ok dz N a → env a = σ → ∀ (Q : Exit → Act → World → Prop) (K : Act → World → Prop), (∀ v w', Chg M w w' → R v w' → K (a.put o.dst v) w') → (∀ w', Chg M w w' → X w' → Q (.panic ch) a w') → o.wp P a w K Q
theorem DoesT.x {M : Nat → Prop} {ch : List PanicEntry} {X : World → Prop} {P : Program} {N : Nat} {o : Oper} {R : Fct} {σ : Env} {w : World} (h : DoesT M P N o R σ w) : DoesX M ch X P N o R σ w := fun dz a ha he Q K hK _ => h dz a ha he Q K hK
theorem DoesX_enter {M : Nat → Prop} {ch : List PanicEntry} {X : World → Prop} {P : Program} {N : Nat} {o : Oper} {R : Fct} {σ : Env} {w : World} {f : FuncId} {args : Array Value} (hr : (execOp (ev σ) o).run P w = .ok (.enter f args) w) (hc : RetX P ch f args w (fun v w' => R v w' ∧ Chg M w w') (fun w' => X w' ∧ Chg M w w')) : DoesX M ch X P N o R σ w := by
 intro dz a ha he Q K hK hX
 unfold Oper.wp
 rw [eval_env, he, hr]
 simp only [Oper.upon]
 refine Calls.mono hc ?_
 rintro e w' (⟨v, rfl, r, c⟩ | ⟨rfl, x, c⟩)
 ·exact hK v w' c r
 ·exact hX w' c x
theorem DoesX.weak {M : Nat → Prop} {ch : List PanicEntry} {X : World → Prop} {P : Program} {N : Nat} {o : Oper} {R R' : Fct} {σ : Env} {w : World} (h : DoesX M ch X P N o R σ w) (hr : ∀ v w', Chg M w w' → R v w' → R' v w') : DoesX M ch X P N o R' σ w := fun dz a ha he Q K hK hX => h dz a ha he Q K (fun v w' c r => hK v w' c (hr v w' c r)) hX
def DagStepG (P : Program) (N : Nat) (ds : List Nat) (Fs : List FctS) (σ : Env) (w : World) (Ms : Nat → Nat → Prop) (Rs : Nat → World → World → Prop) (ch : List PanicEntry) (X : World → Prop) (cl : List (List Nat)) (i : Nat) (o : Oper) (ws : List Nat) (F : FctS) : Prop :=
 ∀ (S : Nat → Bool) σ' w', S i = false → (∀ j, (cl.getD j []).contains i = true → S j = false) → Chg (fun y => ∃ j, S j = true ∧ Ms j y) w w' → (∀ t, ds.contains t = false → σ' t = σ t) → (∀ j d, ds[j]? = some d → S j = false → σ' d = σ d) → (∀ j, ws.contains j = true → S j = true ∧ HoldsS ds Fs S j σ' w') →
  (Guarded ds o σ' ∧ DoesX (Ms i) ch X P N o (fun v w => F (insS S i) σ' (Go.Eng.valOf o v) w ∧ Rs i w' w) σ' w') ∨ (Unmet ds o σ' ∧ F (insS S i) σ' undef w' ∧ Rs i w' w')
/-- A fact lasts while other operations are done. -/
def StabG (Ms : Nat → Nat → Prop) (Rs : Nat → World → World → Prop) (cl : List (List Nat)) (i : Nat) (ws : List Nat) (F : FctS) : Prop := ∀ p, p ≠ i → ws.contains p = false → ∀ S σ v w w', S i = true → S p = false → (∀ j, (cl.getD p []).contains j = true → S j = true) → Chg (Ms p) w w' → Rs p w w' → F S σ v w → F (insS S p) σ v w'
inductive DagStepsG (P : Program) (N : Nat) (ds : List Nat) (Fs : List FctS) (σ : Env) (w : World) (Ms : Nat → Nat → Prop) (Rs : Nat → World → World → Prop) (ch : List PanicEntry) (X : World → Prop) (cl : List (List Nat)) : Nat → List Oper → List (List Nat) → List Bool → List FctS → Prop where
  | nil {i : Nat} : DagStepsG P N ds Fs σ w Ms Rs ch X cl i [] [] [] []
  | cons {i : Nat} {o : Oper} {ws : List Nat} {F : FctS} {l : List Oper} {wss : List (List Nat)} {hs : List Bool} {Gs : List FctS} (s : StabG Ms Rs cl i ws F) (lc : LocS ds ws F) (h : DagStepG P N ds Fs σ w Ms Rs ch X cl i o ws F) (t : DagStepsG P N ds Fs σ w Ms Rs ch X cl (i + 1) l wss hs Gs) : DagStepsG P N ds Fs σ w Ms Rs ch X cl i (o :: l) (ws :: wss) (true :: hs) (F :: Gs)
  | tail {i : Nat} {o : Oper} {ws : List Nat} {F : FctS} {l : List Oper} {wss : List (List Nat)} {hs : List Bool} {Gs : List FctS} (t : DagStepsG P N ds Fs σ w Ms Rs ch X cl (i + 1) l wss hs Gs) : DagStepsG P N ds Fs σ w Ms Rs ch X cl i (o :: l) (ws :: wss) (false :: hs) (F :: Gs)
theorem DagStepsG.get {P : Program} {N : Nat} {ds : List Nat} {Fs : List FctS} {σ : Env} {w : World} {Ms : Nat → Nat → Prop} {Rs : Nat → World → World → Prop} {ch : List PanicEntry} {X : World → Prop} {cl : List (List Nat)} : ∀ {i : Nat} {l : List Oper} {wss : List (List Nat)} {hs : List Bool} {Gs : List FctS}, DagStepsG P N ds Fs σ w Ms Rs ch X cl i l wss hs Gs → ∀ {j : Nat} {o : Oper}, l[j]? = some o → hs[j]? = some true → ∃ ws F, wss[j]? = some ws ∧ Gs[j]? = some F ∧ StabG Ms Rs cl (i + j) ws F ∧ LocS ds ws F ∧ DagStepG P N ds Fs σ w Ms Rs ch X cl (i + j) o ws F
  | _, _, _, _, _, .nil, j, o, h, _ => by simp at h
  | i, _, _, _, _, .cons s lc h t, 0, o, ho, _ => by
    simp at ho; subst ho
    exact ⟨_, _, rfl, rfl, s, lc, h⟩
  | _, _, _, _, _, .tail t, 0, o, h, ht => by simp at ht
  | i, _, _, _, _, .cons s lc h t, j + 1, o, ho, ht => by
    obtain ⟨ws, F, h1, h2, h3, h5, h4⟩ := t.get (j := j) (by simpa using ho) (by simpa using ht)
    exact ⟨ws, F, by simpa using h1, by simpa using h2, by rw [show i + (j + 1) = i + 1 + j from by omega]; exact h3, h5, by rw [show i + (j + 1) = i + 1 + j from by omega]; exact h4⟩
  | i, _, _, _, _, .tail t, j + 1, o, ho, ht => by
    obtain ⟨ws, F, h1, h2, h3, h5, h4⟩ := t.get (j := j) (by simpa using ho) (by simpa using ht)
    exact ⟨ws, F, by simpa using h1, by simpa using h2, by rw [show i + (j + 1) = i + 1 + j from by omega]; exact h3, h5, by rw [show i + (j + 1) = i + 1 + j from by omega]; exact h4⟩
/-- An operation waits for another, be it by way of others. -/
def reachB (l : List Oper) : Nat → Nat → Nat → Bool
  | 0, i, u => edgeB l i u
  | k + 1, i, u => edgeB l i u || (List.range l.length).any fun v => edgeB l i v && reachB l k v u
def tailQB (l : List Oper) (hd : List Bool) (ts : List Nat) : Bool :=
 (List.range l.length).all fun i => hd.getD i false || (ts.contains i && ((List.range l.length).all (fun u => !hd.getD u false || reachB l 4 i u) || ts.any fun p => !hd.getD p true && edgeB l i p))
theorem reach_listed {l : List Oper} {listed : Array Bool} (hcd : ∀ (j : Nat) oj, l[j]? = some oj → listed.getD j false = true → ∀ e ∈ oj.after, Region.binds .any e = true → listed.getD e.on false = true) :
    ∀ (k j u : Nat), listed.getD j false = true → reachB l k j u = true → listed.getD u false = true := by
  have edge : ∀ j u, listed.getD j false = true → edgeB l j u = true → listed.getD u false = true := fun j u hj hu => by
    unfold edgeB at hu
    cases ho : l[j]? with
    | none => rw [ho] at hu; cases hu
    | some o =>
      rw [ho] at hu
      simp only [Array.any_eq_true', Bool.and_eq_true] at hu
      obtain ⟨e, he, hb1, hb2⟩ := hu
      have := Nat.eq_of_beq_eq_true hb2
      rw [← this]
      exact hcd j o ho hj e he hb1
  intro k
  induction k with
  | zero => intro j u hj h; exact edge j u hj h
  | succ k ih =>
    intro j u hj h
    simp only [reachB, Bool.or_eq_true] at h
    rcases h with h | h
    · exact edge j u hj h
    · obtain ⟨v, _, h2⟩ := List.any_eq_true.1 h
      rw [Bool.and_eq_true] at h2
      exact ih v u (edge j v hj h2.1) h2.2
theorem Wp_dagG {P : Program} {N : Nat} {Q : Post} {σ : Env} {w : World} {id : Nat} {l : List Oper} (Ms : Nat → Nat → Prop) (Rs : Nat → World → World → Prop) (ch : List PanicEntry) (X : World → Prop) (hd : List Bool) (ts : List Nat) (ds : List Nat) (wss cl : List (List Nat)) (Fs : List FctS) {Gs : List FctS} (hG : Fs = Gs) (hC : closB wss cl = true) (hm : P.follows .mixedOrders = true) (hB : dagSB N hd 0 l ds wss hd = true) (hn : nodupB ds = true)
    (hT : (tailQB l hd ts && permB l.toArray ts hd.toArray) = true) (hN : Nat.beq (leftH hd (List.replicate l.length false) + ts.length) l.length = true)
    (steps : ∀ w1, Ext w w1 → DagStepsG P N ds Fs σ w1 Ms Rs ch X cl 0 l cl hd Gs)
    (hX : ∀ σ' w1 w', Ext w w1 → Chg (fun y => ∃ j, Ms j y) w1 w' → X w' → Q (.panic ch) σ' w')
    (k : ∀ σ' w1 w', Ext w w1 → Chg (fun y => ∃ j, hd.getD j false = true ∧ Ms j y) w1 w' → (∀ t, ds.contains t = false → σ' t = σ t) → (∀ j, hd[j]? = some true → HoldsS ds Fs (allS hd) j σ' w') → WpL P N l.toArray (Q .normal) Q (ts.filterMap fun k => l[k]?) σ' w') : Wp P N (.region id l.toArray true) Q σ w := by
  intro dz a ha he
  have eQ : lift dz N (thn (Q .normal) Q) = lift dz N Q := by funext e a w; cases e <;> rfl
  refine wp_region_any hm ?_
  obtain ⟨w1, hw1⟩ : ∃ w1 : World, w1 = { w with drawn := w.drawn + 1 } := ⟨_, rfl⟩
  have hE1 : Ext w w1 := by rw [hw1]; exact drew_ext w
  rw [← hw1]
  have hst := steps w1 hE1
  rw [← hG] at hst
  rw [Bool.and_eq_true] at hT
  obtain ⟨hT1, hT2⟩ := hT
  obtain ⟨hlen, hlen2, hlen3⟩ := dagSB_len hB
  let Lf : Array Bool → Nat → Bool := fun listed j => listed.getD j false
  have key : ∀ (m : Nat) (listed : Array Bool) (a : Act) (w' : World), leftH hd listed.toList = m → listed.size = l.length → (∀ (t : Nat), hd[t]? = some false → listed.toList[t]? = some false) → (∀ (j : Nat) oj, l[j]? = some oj → listed.getD j false = true → ∀ e ∈ oj.after, Region.binds .any e = true → listed.getD e.on false = true) → Ok dz N a → Chg (fun y => ∃ j, listed.getD j false = true ∧ Ms j y) w1 w' → (∀ t, ds.contains t = false → env a t = σ t) → (∀ j d, ds[j]? = some d → listed.getD j false = false → env a d = σ d) → (∀ j, hd[j]? = some true → listed.getD j false = true → HoldsS ds Fs (Lf listed) j (env a) w') →
      wpAny P .any l.toArray (lift dz N Q) (m + ts.length) listed a w' := by
    intro m
    induction m with
    | zero =>
      intro listed a w' hc0 hsz htl hcd ha hx hu hv0 hh
      have hl : listed = hd.toArray := by
        apply Array.ext'
        exact leftH_zero (by simp; omega) hc0 htl
      have hLf : Lf listed = allS hd := by
        funext j
        show listed.getD j false = hd.getD j false
        rw [hl]; simp [List.getD_eq_getElem?_getD]
      rw [Nat.zero_add]
      have h1 := k (env a) w1 w' hE1 (hx.mono fun y _ h => by
        obtain ⟨j, h1, h2⟩ := h
        have : allS hd j = true := by rw [← hLf]; exact h1
        exact ⟨j, this, h2⟩) hu (fun j hj => by rw [← hLf]; exact hh j hj (getD_arr (by rw [hl]; exact hj))) dz a ha rfl
      rw [eQ] at h1
      exact wpAny_of_perm ts listed a w' (by rw [hl]; exact hT2) (by simpa using h1)
    | succ m ih =>
      intro listed a w' hcm hsz htl hcd ha hx hu hv0 hh
      obtain ⟨i0, hi0, hi1⟩ := leftH_pos (hd := hd) (listed := listed.toList) (by omega)
      rw [show m + 1 + ts.length = (m + ts.length) + 1 by omega]
      refine ⟨fun hr => ?_, fun i hi => ?_⟩
      · exfalso
        have hall : ∀ i : Nat, hd[i]? = some true → listed.getD i true = true := by
          intro i
          induction i using Nat.strongRecOn with
          | _ i ihi =>
            intro hi
            cases hv : listed.getD i true with
            | true => rfl
            | false =>
              exfalso
              obtain ⟨o, ho⟩ := get_of_lt (l := l) (i := i) (by have := lt_of_get hi; omega)
              obtain ⟨d, ws, h, _, _, h2, h3⟩ := dagSB_get hB ho
              rw [hi] at h2
              cases h2
              simp only [cond_true, dagOneS, Bool.and_eq_true, Nat.zero_add] at h3
              have : i ∈ Region.ready .any l.toArray listed := by
                refine mem_ready.2 ⟨hv, o, by simpa using ho, fun e he hb => ?_⟩
                have h4 := h3.1.1.2
                simp only [Array.all_eq_true_iff_forall_mem, Bool.or_eq_true, Bool.not_eq_true', Bool.and_eq_true] at h4
                have h6 := (h4 e he).resolve_left (by simp [hb])
                have hlt : e.on < i := by simpa [Nat.blt_eq] using h6.1
                have h7 := h6.2
                have hj0 : e.on < hd.length := by have := lt_of_get hi; omega
                have h8 : hd[e.on]? = some true := by
                  rw [List.getD_eq_getElem?_getD, List.getElem?_eq_getElem hj0, Option.getD_some] at h7
                  rw [List.getElem?_eq_getElem hj0, h7]
                have h9 := ihi e.on hlt h8
                have hj : e.on < listed.size := by omega
                simpa only [Array.getD_eq_getD_getElem?, Array.getElem?_eq_getElem hj, Option.getD_some] using h9
              rw [hr] at this
              cases this
        have := hall i0 hi0
        rw [getD_arr hi1] at this
        cases this
      · obtain ⟨h1, o, h2, h3⟩ := mem_ready.1 hi
        have ho : l[i]? = some o := by simpa using h2
        have hil : i < l.length := lt_of_get ho
        have hih : hd[i]? = some true := by
          obtain ⟨b, hb⟩ := get_of_lt (l := hd) (i := i) (by omega)
          cases b with
          | true => exact hb
          | false =>
            exfalso
            have h4 := List.all_eq_true.1 hT1 i (List.mem_range.2 hil)
            rw [List.getD_eq_getElem?_getD, hb, Option.getD_some, Bool.false_or, Bool.and_eq_true, Bool.or_eq_true] at h4
            have edge : ∀ u, edgeB l i u = true → listed.getD u false = true := fun u hu' => by
              unfold edgeB at hu'
              rw [ho] at hu'
              simp only [Array.any_eq_true', Bool.and_eq_true] at hu'
              obtain ⟨e, he, hb1, hb2⟩ := hu'
              have := Nat.eq_of_beq_eq_true hb2
              rw [← this]
              exact h3 e he hb1
            rcases h4.2 with h5 | h5
            · have h6 := List.all_eq_true.1 h5 i0 (List.mem_range.2 (by have := lt_of_get hi0; omega))
              rw [List.getD_eq_getElem?_getD, hi0, Option.getD_some, Bool.not_true, Bool.false_or] at h6
              have : listed.getD i0 false = true := by
                simp only [reachB, Bool.or_eq_true] at h6
                rcases h6 with h6 | h6
                · exact edge i0 h6
                · obtain ⟨v, _, h7⟩ := List.any_eq_true.1 h6
                  rw [Bool.and_eq_true] at h7
                  refine reach_listed hcd 3 v i0 (edge v h7.1) ?_
                  simp only [reachB]
                  exact h7.2
              rw [getD_arr hi1] at this
              cases this
            · obtain ⟨p, _, h6⟩ := List.any_eq_true.1 h5
              rw [Bool.and_eq_true, Bool.not_eq_true'] at h6
              have h7 := edge p h6.2
              have hp : hd[p]? = some false := by
                have h8 := h6.1
                rw [List.getD_eq_getElem?_getD] at h8
                cases h9 : hd[p]? with
                | none => rw [h9] at h8; cases h8
                | some b => rw [h9, Option.getD_some] at h8; rw [h8]
              rw [getD_arr (htl p hp)] at h7
              cases h7
        obtain ⟨d, ws, h, hd', hws, hhs, h4⟩ := dagSB_get hB ho
        rw [hih] at hhs
        cases hhs
        obtain ⟨ci, F, hci, hF, hstab, hloc, hstep⟩ := hst.get ho hih
        rw [Nat.zero_add] at hstab hstep
        simp only [cond_true, dagOneS, Bool.and_eq_true, List.all_eq_true, Array.any_eq_true', Nat.zero_add] at h4
        obtain ⟨⟨⟨hdst, _⟩, hwait⟩, hgB⟩ := h4
        have hlisted : ∀ j, listed.getD j false = true → hd[j]? = some true := fun j hj => by
          obtain ⟨b, hb⟩ := get_of_lt (l := hd) (i := j) (by
            rcases Nat.lt_or_ge j listed.size with h9 | h9
            · omega
            · simp [Array.getD_eq_getD_getElem?, Array.getElem?_eq_none h9] at hj)
          cases b with
          | true => exact hb
          | false => rw [getD_arr (htl j hb)] at hj; cases hj
        have hcl : ∀ j, listed.getD j false = true → ∀ c, (cl.getD j []).contains c = true → listed.getD c false = true := by
          intro j
          induction j using Nat.strongRecOn with
          | _ j ihj =>
            intro hlj c hc
            have hjh := hlisted j hlj
            obtain ⟨oc, hoc⟩ := get_of_lt (l := l) (i := j) (by have := lt_of_get hjh; omega)
            obtain ⟨dc, wsc, hb, _, hwsc, hhb, h5⟩ := dagSB_get hB hoc
            rw [hjh] at hhb
            cases hhb
            simp only [cond_true, dagOneS, Bool.and_eq_true, List.all_eq_true, Array.any_eq_true', Array.all_eq_true_iff_forall_mem, Bool.or_eq_true, Bool.not_eq_true', Nat.zero_add] at h5
            have hdir : ∀ e' ∈ wsc, listed.getD e' false = true ∧ e' < j := by
              intro e' he'
              obtain ⟨e, he, hb1, hb2⟩ := h5.1.2 e' he'
              have hei : e.on = e' := Nat.eq_of_beq_eq_true hb2
              have h6 := hcd j oc hoc hlj e he hb1
              have h7 := (h5.1.1.2 e he).resolve_left (by simp [hb1])
              rw [hei] at h6 h7
              exact ⟨h6, by simpa [Nat.blt_eq] using h7.1⟩
            rcases closB_get hC hwsc hc with h6 | ⟨e', he', h6⟩
            · exact (hdir c h6).1
            · exact ihj e' (hdir e' he').2 (hdir e' he').1 c h6
        have hclo : ∀ j, ci.contains j = true → listed.getD j false = true := by
          intro j hj
          have hj' : (cl.getD i []).contains j = true := by rw [List.getD_eq_getElem?_getD, hci, Option.getD_some]; exact hj
          have hdir : ∀ e' ∈ ws, listed.getD e' false = true := by
            intro e' he'
            obtain ⟨e, he, hb1, hb2⟩ := hwait e' he'
            have : e.on = e' := Nat.eq_of_beq_eq_true hb2
            exact this ▸ h3 e he hb1
          rcases closB_get hC hws hj' with h6 | ⟨e', he', h6⟩
          · exact hdir j h6
          · exact hcl e' (hdir e' he') j h6
        have hclo0 : ∀ j, (cl.getD i []).contains j = true → Lf listed j = true := fun j hj => hclo j (by rw [List.getD_eq_getElem?_getD, hci, Option.getD_some] at hj; exact hj)
        have hSi : Lf listed i = false := getD_both h1
        have hSn : ∀ j, (cl.getD j []).contains i = true → Lf listed j = false := by
          intro j hj
          cases hlj : Lf listed j with
          | false => rfl
          | true =>
            exfalso
            have := hcl j hlj i hj
            rw [getD_both h1] at this; cases this
        have hH : ∀ j, ci.contains j = true → Lf listed j = true ∧ HoldsS ds Fs (Lf listed) j (env a) w' := fun j hj => ⟨hclo j hj, hh j (hlisted j (hclo j hj)) (hclo j hj)⟩
        have hil2 : i < listed.size := by omega
        have hLs : Lf (listed.setIfInBounds i true) = insS (Lf listed) i := by
          funext j
          by_cases hij : j = i
          · subst hij
            rw [insS_self]
            show (listed.setIfInBounds j true).getD j false = true
            simp [Array.getD_eq_getD_getElem?, hil2]
          · rw [insS_ne hij]
            exact getD_set_ne _ (Ne.symm hij)
        have hstep2 : ∀ w2, Chg (Ms i) w' w2 → Chg (fun y => ∃ j, (listed.setIfInBounds i true).getD j false = true ∧ Ms j y) w1 w2 := by
          intro w2 hx2
          have hg : (listed.setIfInBounds i true).getD i false = true := by simp [Array.getD_eq_getD_getElem?, hil2]
          refine Chg.step (hx.mono fun y _ h => ?_) hx2 (fun y _ h => ⟨i, hg, h⟩)
          obtain ⟨j, h5, h6⟩ := h
          by_cases hij : j = i
          · exact ⟨i, hg, hij ▸ h6⟩
          · exact ⟨j, by rw [getD_set_ne _ (Ne.symm hij)]; exact h5, h6⟩
        have cont : ∀ v w2, Chg (Ms i) w' w2 → F (insS (Lf listed) i) (env a) (Go.Eng.valOf o v) w2 ∧ Rs i w' w2 → wpAny P .any l.toArray (lift dz N Q) (m + ts.length) (listed.setIfInBounds i true) (a.put o.dst v) w2 := by
          rintro v w2 hx2 ⟨hv, hrs⟩
          have henv : (∀ t, t ≠ d → env (a.put o.dst v) t = env a t) ∧ env (a.put o.dst v) d = Go.Eng.valOf o v := by
            cases hod : o.dst with
            | none =>
              rw [hod] at hdst
              have hNd : N ≤ d := Nat.le_of_ble_eq_true hdst
              refine ⟨fun t _ => rfl, ?_⟩
              simp only [Go.Eng.valOf, hod]
              show a.tmps.getD d undef = undef
              have : a.tmps.size ≤ d := by rw [ha.size]; exact hNd
              simp [Array.getElem?_eq_none this]
            | some d' =>
              rw [hod] at hdst
              simp only [Bool.and_eq_true] at hdst
              have hd1 : d' = d := Nat.eq_of_beq_eq_true hdst.1
              have hd2 : d < N := by simpa [Nat.blt_eq] using hdst.2
              subst hd1
              rw [env_put ha hd2 v]
              refine ⟨fun t ht => ?_, ?_⟩
              · have : Nat.beq t d' = false := by cases hb : Nat.beq t d'; rfl; exact absurd (Nat.eq_of_beq_eq_true hb) ht
                simp [upd, this]
              · simp [upd, Go.Eng.valOf, hod]
          have hlf : listed.toList[i]? = some false := by
            simp only [Array.getD_eq_getD_getElem?, Array.getElem?_eq_getElem hil2, Option.getD_some] at h1
            rw [Array.getElem?_toList, Array.getElem?_eq_getElem hil2, h1]
          refine ih _ _ _ ?_ (by simpa using hsz) (fun t ht => ?_) (fun j oj hoj hlj e he hb => ?_) (ha.put _ _) (hstep2 w2 hx2) ?_ ?_ ?_
          · rw [Array.toList_setIfInBounds]
            have := leftH_set hih hlf
            omega
          · rw [Array.toList_setIfInBounds, List.getElem?_set]
            have hne : i ≠ t := fun e => by rw [← e, hih] at ht; cases ht
            rw [if_neg hne]
            exact htl t ht
          · refine getD_set_true ?_
            by_cases hij : j = i
            · subst hij
              rw [ho] at hoj; cases hoj
              exact h3 e he hb
            · rw [getD_set_ne _ (Ne.symm hij)] at hlj
              exact hcd j oj hoj hlj e he hb
          · intro t ht
            rw [henv.1 t (fun h => by
              subst h
              have := List.mem_of_getElem? hd'
              simp [this] at ht), hu t ht]
          · intro j d2 hd2 hj2
            by_cases hij : j = i
            · subst hij
              have hg2 : (listed.setIfInBounds j true).getD j false = true := by simp [Array.getD_eq_getD_getElem?, hil2]
              rw [hg2] at hj2; cases hj2
            · rw [getD_set_ne _ (Ne.symm hij)] at hj2
              rw [henv.1 d2 (fun h => by subst h; exact hij (nodupB_get hn hd2 hd')), hv0 j d2 hd2 hj2]
          · intro j hjh hj d2 F2 hd2 hF2
            rw [hLs]
            by_cases hij : j = i
            · subst hij
              rw [hd'] at hd2; cases hd2
              rw [hF] at hF2; cases hF2
              rw [henv.2]
              refine hloc _ (env a) _ (fun j' d2 hj' hd2 => henv.1 d2 fun he => ?_) _ _ hv
              have := nodupB_get hn (he ▸ hd2) hd'
              subst this
              have := hclo j' hj'
              rw [getD_both h1] at this
              cases this
            · have hne : d2 ≠ d := by
                intro h
                subst h
                exact hij (nodupB_get hn hd2 hd')
              rw [henv.1 d2 hne]
              rw [getD_set_ne _ (Ne.symm hij)] at hj
              have h6 := hh j hjh hj d2 F2 hd2 hF2
              obtain ⟨oj, hoj⟩ := get_of_lt (l := l) (i := j) (by have := lt_of_get hjh; omega)
              obtain ⟨cj, Fj, hcj, hFj, hsj, hlj, _⟩ := hst.get hoj hjh
              rw [hF2] at hFj; cases hFj
              rw [Nat.zero_add] at hsj
              have hgc : cl.getD j [] = cj := by rw [List.getD_eq_getElem?_getD, hcj, Option.getD_some]
              have hcji : cj.contains i = false := by
                cases hcji : cj.contains i with
                | false => rfl
                | true =>
                  exfalso
                  have := hSn j (by rw [hgc]; exact hcji)
                  have hj' : Lf listed j = true := hj
                  rw [hj'] at this; cases this
              refine hlj _ (env a) _ (fun j' d3 hj' hd3 => henv.1 d3 fun he => ?_) _ _ (hsj i (Ne.symm hij) hcji (Lf listed) (env a) _ _ _ hj hSi hclo0 hx2 hrs h6)
              have h8 := nodupB_get hn (he ▸ hd3) hd'
              subst h8
              rw [hcji] at hj'
              cases hj'
        have gd : ∀ j b, o.guard = some (j, b) → ∀ dj, ds[j]? = some dj → ((∃ oj, l[j]? = some oj ∧ oj.dst = some dj) ∧ dj < N) ∨ (N ≤ dj ∧ ∃ oj, l[j]? = some oj ∧ oj.dst = none) := fun j b hgd dj hdj => by
          obtain ⟨oj, hoj⟩ := get_of_lt (l := l) (i := j) (by have := lt_of_get hdj; omega)
          obtain ⟨dj', _, hj, hdj', _, h5, h6⟩ := dagSB_get hB hoj
          rw [hdj] at hdj'
          cases hdj'
          unfold guardB at hgB
          rw [hgd] at hgB
          simp only at hgB
          have h7 : hj = true := by rw [List.getD_eq_getElem?_getD, h5, Option.getD_some] at hgB; exact hgB
          rw [h7] at h6
          simp only [cond_true, Bool.and_eq_true, dagOneS] at h6
          have hdst2 := h6.1.1.1
          split at hdst2
          · rename_i d2 hq
            rw [Bool.and_eq_true] at hdst2
            exact .inl ⟨⟨oj, hoj, by rw [hq, Nat.eq_of_beq_eq_true hdst2.1]⟩, by simpa [Nat.blt_eq] using hdst2.2⟩
          · rename_i hq
            exact .inr ⟨Nat.le_of_ble_eq_true hdst2, oj, hoj, hq⟩
        rcases hstep (Lf listed) (env a) w' hSi hSn hx hu hv0 hH with ⟨hg, hdo⟩ | ⟨⟨j, b, dj, hgd, hdj, hvj⟩, hund, hrs⟩
        · have hw : Region.wanted o (yielded l.toArray a.tmps) = true := by
            cases hgd : o.guard with
            | none => simp [Region.wanted, hgd]
            | some p =>
              obtain ⟨j, b⟩ := p
              obtain ⟨dj, hdj, hvj⟩ := hg j b hgd
              rcases gd j b hgd dj hdj with ⟨hdst2, hdN2⟩ | ⟨hge, _⟩
              · have h6 : a.tmps[dj]? = some (Value.bool b) := by
                  have h2 : a.tmps.getD dj undef = .bool b := hvj
                  have hlt : dj < a.tmps.size := by rw [ha.size]; exact hdN2
                  rw [Array.getElem?_eq_getElem hlt]
                  simpa [hlt] using h2
                obtain ⟨oj, hoj, hdst2⟩ := hdst2
                simp [Region.wanted, hgd, yielded, hoj, hdst2, h6]
              · exfalso
                have h2 : a.tmps.getD dj undef = .bool b := hvj
                have : a.tmps.size ≤ dj := by rw [ha.size]; exact hge
                simp [Array.getElem?_eq_none this, undef] at h2
          unfold wpOp
          simp only [h2, hw, if_true]
          exact Or.inl (hdo _ a ha rfl _ _ cont (fun w2 hx2 hX2 => ⟨ha, hX (env a) w1 w2 hE1 ((hstep2 w2 hx2).mono fun y _ h => h.imp fun j h => h.2) hX2⟩))
        · have hw : Region.wanted o (yielded l.toArray a.tmps) = false := by
            rcases gd j b hgd dj hdj with ⟨hdst2, hdN2⟩ | ⟨_, oj, hoj, hq⟩
            · have hlt : dj < a.tmps.size := by rw [ha.size]; exact hdN2
              have h6 : a.tmps[dj]? = some (env a dj) := by
                rw [Array.getElem?_eq_getElem hlt]
                simp [env, hlt]
              obtain ⟨oj, hoj, hdst2⟩ := hdst2
              rcases hvj with hvj | hvj
              · rw [hvj] at h6
                cases b <;> simp [Region.wanted, hgd, yielded, hoj, hdst2, h6]
              · rw [hvj] at h6
                simp [Region.wanted, hgd, yielded, hoj, hdst2, h6, undef]
            · simp [Region.wanted, hgd, yielded, hoj, hq]
          unfold wpOp
          simp only [h2, hw, Bool.false_eq_true, if_false]
          exact cont undef w' (Chg.refl _ _) (by
            have : Go.Eng.valOf o undef = undef := by unfold Go.Eng.valOf; split <;> rfl
            rw [this]; exact ⟨hund, hrs⟩)
  have h1 := key (leftH hd (Array.replicate l.toArray.size false).toList) (Array.replicate l.toArray.size false) a w1 rfl (by simp) (fun t ht => by have h9 := lt_of_get ht; rw [Array.toList_replicate, List.getElem?_replicate, if_pos (by rw [List.size_toArray]; omega)]) (fun j oj _ hl => (by rw [getD_replicate_false] at hl; cases hl)) ha (Chg.refl _ _) (fun t _ => by rw [he]) (fun j d _ _ => by rw [he]) (fun j _ hj => by rw [getD_replicate_false] at hj; cases hj)
  have e3 : leftH hd (Array.replicate l.toArray.size false).toList + ts.length = l.toArray.size := by have h9 := Nat.eq_of_beq_eq_true hN; simpa using h9
  rw [e3] at h1
  exact h1
theorem DagStepS.toG {P : Program} {N : Nat} {ds : List Nat} {Fs : List FctS} {σ : Env} {w : World} {Ms : Nat → Nat → Prop} {cl : List (List Nat)} {i : Nat} {o : Oper} {ws : List Nat} {F : FctS} (h : DagStepS P N ds Fs σ w Ms cl i o ws F) : DagStepG P N ds Fs σ w Ms (fun _ _ _ => True) [] (fun _ => False) cl i o ws F := fun S σ' w' a b c d e f =>
 (h S σ' w' a b c d e f).imp (fun ⟨g, h⟩ => ⟨g, (DoesT.x h).weak fun _ _ _ r => ⟨r, trivial⟩⟩) fun ⟨u, f⟩ => ⟨u, f, trivial⟩
theorem DagStepsS.toG {P : Program} {N : Nat} {ds : List Nat} {Fs : List FctS} {σ : Env} {w : World} {Ms : Nat → Nat → Prop} {cl : List (List Nat)} : ∀ {i : Nat} {l : List Oper} {wss : List (List Nat)} {hs : List Bool} {Gs : List FctS}, DagStepsS P N ds Fs σ w Ms cl i l wss hs Gs → DagStepsG P N ds Fs σ w Ms (fun _ _ _ => True) [] (fun _ => False) cl i l wss hs Gs
  | _, _, _, _, _, .nil => .nil
  | _, _, _, _, _, .cons s lc h t => .cons (fun p hp hw S σ v w w' hi hS _ hC _ hF => s p hp hw S σ v w w' hi hS hC hF) lc h.toG t.toG
  | _, _, _, _, _, .tail t => .tail t.toG
theorem Wp_dagS {P : Program} {N : Nat} {Q : Post} {σ : Env} {w : World} {id : Nat} {l : List Oper} (Ms : Nat → Nat → Prop) (hd : List Bool) (ts : List Nat) (ds : List Nat) (wss cl : List (List Nat)) (Fs : List FctS) {Gs : List FctS} (hG : Fs = Gs) (hC : closB wss cl = true) (hm : P.follows .mixedOrders = true) (hB : dagSB N hd 0 l ds wss hd = true) (hn : nodupB ds = true)
  (hT : (tailQB l hd ts && permB l.toArray ts hd.toArray) = true) (hN : Nat.beq (leftH hd (List.replicate l.length false) + ts.length) l.length = true)
  (steps : ∀ w1, Ext w w1 → DagStepsS P N ds Fs σ w1 Ms cl 0 l cl hd Gs)
  (k : ∀ σ' w1 w', Ext w w1 → Chg (fun y => ∃ j, hd.getD j false = true ∧ Ms j y) w1 w' → (∀ t, ds.contains t = false → σ' t = σ t) → (∀ j, hd[j]? = some true → HoldsS ds Fs (allS hd) j σ' w') → WpL P N l.toArray (Q .normal) Q (ts.filterMap fun k => l[k]?) σ' w') : Wp P N (.region id l.toArray true) Q σ w :=
 Wp_dagG Ms (fun _ _ _ => True) [] (fun _ => False) hd ts ds wss cl Fs hG hC hm hB hn hT hN (fun w1 e => (steps w1 e).toG) (fun _ _ _ _ _ h => h.elim) k
section
variable {Ms : Nat → Nat → Prop} {i : Nat} {ws ds : List Nat}
theorem StabS.eq {u : Value} : StabS Ms i ws (fun _ _ v _ => v = u) := fun _ _ _ _ _ _ _ _ _ _ _ h => h
theorem StabS.chg {F : Fct} {U : Nat → Prop} (hF : ∀ v w w', Chg U w w' → F v w → F v w') (hM : ∀ p y, p ≠ i → ws.contains p = false → Ms p y → U y) : StabS Ms i ws (fun _ _ => F) :=
 fun p h1 h2 _ _ v w w' _ _ x h => hF v w w' (x.mono fun y _ hy => hM p y h1 h2 hy) h
theorem StabS.till {F : Fct} {U : Nat → Prop} {c : Nat} (hF : ∀ v w w', Chg U w w' → F v w → F v w') (hM : ∀ p y, p ≠ i → ws.contains p = false → p ≠ c → Ms p y → U y) : StabS Ms i ws (fun S _ v w => S c = false → F v w) :=
 fun p h1 h2 S _ v w w' _ _ x h hc => by
  have hpc : p ≠ c := fun e => by subst e; rw [insS_self] at hc; cases hc
  rw [insS_ne (Ne.symm hpc)] at hc
  exact hF v w w' (x.mono fun y _ hy => hM p y h1 h2 hpc hy) (h hc)
theorem LocS.const {G : (Nat → Bool) → Fct} : LocS ds ws (fun S _ => G S) := fun _ _ _ _ _ _ h => h
end
theorem qZ {P : Program} {N : Nat} {ds : List Nat} {Fs : List FctS} {σ : Env} {w : World} {Ms : Nat → Nat → Prop} {cl : List (List Nat)} {i : Nat} {dst : Option Tmp} {op : Op} {ty : TypeId} {pos : String} {af : Array Edge} {ws : List Nat} {u : Value} {l : List Oper} {wss : List (List Nat)} {hs : List Bool} {Gs : List FctS}
  (h : ∀ (S : Nat → Bool) σ' w', S i = false → (∀ j, (cl.getD j []).contains i = true → S j = false) → Chg (fun y => ∃ j, S j = true ∧ Ms j y) w w' → (∀ t, ds.contains t = false → σ' t = σ t) → (∀ j d, ds[j]? = some d → S j = false → σ' d = σ d) → (∀ j, ws.contains j = true → S j = true ∧ HoldsS ds Fs S j σ' w') → DoesT (Ms i) P N ⟨dst, op, ty, pos, af, none⟩ (fun v _ => Go.Eng.valOf ⟨dst, op, ty, pos, af, none⟩ v = u) σ' w')
  (t : DagStepsS P N ds Fs σ w Ms cl (i + 1) l wss hs Gs) : DagStepsS P N ds Fs σ w Ms cl i (⟨dst, op, ty, pos, af, none⟩ :: l) (ws :: wss) (true :: hs) ((eF u) :: Gs) :=
 .cons StabS.eq LocS.const (fun S s' w' a b c d e f => .inl ⟨Guarded_none rfl, h S s' w' a b c d e f⟩) t
section
variable {M : Nat → Prop} {P : Program} {N : Nat} {o : Oper} {R : Fct} {σ : Env} {w : World} {dst : Option Tmp} {ty : TypeId} {pos : String} {af : Array Edge} {g : Option (Nat × Bool)} {t : TypeId}
theorem DoesT_pure {v : Value} (hr : (execOp (ev σ) o).run P w = .ok (.value v) w) (h : R v w) : DoesT M P N o R σ w := DoesT_val hr (Chg.refl _ _) h
theorem DoesT_weakT {R R' : Fct} (h : DoesT M P N o R σ w) (hr : ∀ v w, R v w → R' (Go.Eng.valOf o v) w) : DoesT M P N o (fun v w => R' (Go.Eng.valOf o v) w) σ w := fun dz a ha he Q K hK => h dz a ha he Q K fun v w2 hx2 h2 => hK v w2 hx2 (hr v w2 h2)
theorem DoesT_callE {f : FuncId} {args : Array Value} (hr : (execOp (ev σ) o).run P w = .ok (.enter f args) w) (hc : Ret P f args w fun v w' => R v w' ∧ Ext w w') : DoesT M P N o R σ w :=
 DoesT_enter hr (hc.mono fun _ _ h => ⟨h.1, Ext.chg h.2⟩)
theorem DoesT_alloc {d hs : Nat} {z : Value} {c : Array Value} (hz : Zer P t z) (hc : z.cells = c) (hh : hs ≤ w.heap.size) : DoesT M P N ⟨some d, .alloc t, ty, pos, af, g⟩ (alF t c hs) σ w := by
 subst hc
 have hn := New.mk' w z.cells t
 exact DoesT_val (v := .pointer (some ⟨w.heap.size, 0, none⟩)) (by simp [execOp, Instr.alloc, hz.run, newVar, newRow]) (Ext.chg hn.ext) ⟨_, rfl, hn.blk, hh⟩
end
end Go.Eng
namespace Go.Eng
open Go
theorem finX_ret {P : Program} {ch : List PanicEntry} {fn : Func} {R : Value → World → Prop} {X : World → Prop} {σ : Env} {w : World} (h : fin P fn R .ret σ w) : finX P ch fn R X .ret σ w := h
section
variable {P : Program} {N : Nat} {Q : Post} {σ : Env} {w : World} {K : Env → World → Prop} {ops : Array Oper} {rest : List Oper}
theorem WpL_panic {o : Oper} (hg : o.guard = none) {v : Value} (hr : (execOp (ev σ) o).run P w = .halt (.panic v) w) (k : Q (.panic [{ v, recovered := false }]) σ w) : WpL P N ops K Q (o :: rest) σ w := by
 intro dz a ha he
 refine wpList_plain hg fun K' hK => ?_
 unfold Oper.wp
 rw [eval_env, he, hr]
 simp only [Oper.upon]
 exact ⟨ha, by rw [he]; exact k⟩
theorem r_panic {dst : Option Tmp} {ty : TypeId} {pos : String} {af : Array Edge} {g : Option (Nat × Bool)} {x : Operand} {u : TypeId} {v : Value} (hx : ev σ x = .iface u v) : (execOp (ev σ) ⟨dst, .panic x, ty, pos, af, g⟩).run P w = .halt (.panic (.iface u v)) w := by
 simp [execOp, hx, Instr.panic]
theorem r_makeIface {dst : Option Tmp} {ty : TypeId} {pos : String} {af : Array Edge} {g : Option (Nat × Bool)} {x : Operand} {t : TypeId} {fs : Array Field} {v : Value} (hu : P.underlying t = some (.struct fs)) (hx : ev σ x = v) : (execOp (ev σ) ⟨dst, .makeInterface t x, ty, pos, af, g⟩).run P w = .ok (.value (.iface t v)) w := by
 subst hx; simp [execOp, Instr.makeInterface, run_underlying hu]
end
/-- Where the body ends with the deferred call d still to be made. -/
def finD (P : Program) (fn : Func) (R : Ending → World → Prop) (d : Deferred) : Post
  | .normal, σ, w | .ret, σ, w => ∀ a : Act, env a = σ → Leaves P fn a.tmps R [d] .returning w
  | .panic ch, σ, w => ∀ a : Act, env a = σ → Leaves P fn a.tmps R [d] (.panicking ch) w
  | _, _, _ => False
def WpA (P : Program) (N : Nat) (c : Code) (Q : Exit → Act → World → Prop) (σ : Env) (w : World) : Prop := ∀ a, Ok [] N a → env a = σ → c.wp P Q a w
def WpLA (P : Program) (N : Nat) (ops : Array Oper) (Q : Exit → Act → World → Prop) (l : List Oper) (σ : Env) (w : World) : Prop := ∀ a, Ok [] N a → env a = σ → wpList P ops Q l a w
section
variable {P : Program} {N : Nat} {QA : Exit → Act → World → Prop} {σ : Env} {w : World} {ops : Array Oper} {rest : List Oper} {y : Code}
theorem CallsA_of {f : FuncId} {fn : Func} {c : Code} {args : Array Value} {R : Ending → World → Prop}
  (hf : P.funcs[f]? = some fn) (hb : fn.body = some c) (hn : fn.ntmps = N) (hsz : args.size ≤ N)
  (h : WpA P N c (bodyPostD P fn R) (fun t => args.getD t undef) w) : Calls P f args w R := by
 refine calls_of_wp_defers hf hb (h _ ⟨?_, rfl⟩ ?_)
 ·simp [hn]; omega
 ·funext t
  simp only [env, Array.getD_eq_getD_getElem?, Array.getElem?_append]
  split
  ·rfl
  ·rename_i hlt
   rw [Array.getElem?_replicate, Array.getElem?_eq_none (xs := args) (by omega)]
   split <;> rfl
theorem WpA_seq_region {id : Nat} {l : List Oper} (h : WpL P N l.toArray (WpA P N y QA) (fun _ _ _ => False) l σ w) : WpA P N (.seq (.region id l.toArray false) y) QA σ w := fun a ha he => by
 refine wp_seq (Code.wp_mono ?_ (wp_region_lit (h [] a ha he)))
 rintro e a' w' ⟨o, q⟩
 cases e <;> first | exact q a' o rfl | exact (show False from q).elim
theorem WpA_seq_regionD {id : Nat} {l : List Oper} (h : WpLA P N l.toArray (Exit.then (y.wp P QA) QA) l σ w) : WpA P N (.seq (.region id l.toArray false) y) QA σ w := fun a ha he => wp_seq (wp_region_lit (h a ha he))
theorem WpLA_val {o : Oper} (hg : o.guard = none) {d : Nat} (hd : o.dst = some d) (hN : d < N) {v : Value} {w' : World}
  (hr : (execOp (ev σ) o).run P w = .ok (.value v) w') (k : WpLA P N ops QA rest (upd σ d v) w') : WpLA P N ops QA (o :: rest) σ w := by
 intro a ha he
 refine wpList_plain hg fun K' hK => ?_
 unfold Oper.wp
 rw [eval_env, he, hr]
 simp only [Oper.upon, hd]
 exact hK _ _ (k _ (ha.put _ _) (by rw [env_put ha hN, he]))
theorem WpLA_defer {fn : Func} {R : Ending → World → Prop} {o : Oper} {d : Deferred} (hg : o.guard = none) (hd : o.dst = none)
  (hr : (execOp (ev σ) o).run P w = .ok (.defer d) w) (k : Wp P N y (finD P fn R d) σ w) : WpLA P N ops (Exit.then (y.wp P (bodyPostD P fn R)) (bodyPostD P fn R)) [o] σ w := by
 intro a ha he
 refine wpList_plain hg fun K' hK => ?_
 unfold Oper.wp
 rw [eval_env, he, hr]
 simp only [Oper.upon, hd]
 refine hK _ _ ?_
 have hd0 := ha.defers
 have h1 := k [d] { a with defers := d :: a.defers } ⟨ha.size, by simp [hd0]⟩ (by rw [← he]; rfl)
 show y.wp P (bodyPostD P fn R) { a with defers := d :: a.defers } w
 refine Code.wp_mono ?_ h1
 rintro e a' w' ⟨o', q⟩
 have ho := o'.defers
 cases e <;> simp only [finD] at q <;> simp only [bodyPostD]
 ·rw [ho]; exact q a' rfl
 ·rw [ho]; exact q a' rfl
 ·rw [ho]; exact q a' rfl
theorem r_defer {ty : TypeId} {pos : String} {af : Array Edge} {g : Option (Nat × Bool)} {x : Operand} {ts : Array TypeId} {f : FuncId} {cap : Array Value} (hx : ev σ x = .func (.func f) #[] cap) : (execOp (ev σ) ⟨none, .defer ⟨.value x, #[], ts⟩, ty, pos, af, g⟩).run P w = .ok (.defer { target := .fn (.func f) cap, args := #[] }) w := by
 simp [execOp, resolve, hx, Deferred.ofValue]
theorem leaves_end {fn : Func} {tmps : Array Value} {R : Ending → World → Prop} {d : Deferred} {f : FuncId} {cap : Array Value} {u : FrameMode} {X : World → Prop} (hd : d = { target := .fn (.func f) cap, args := #[] }) (hu : u ≠ .run)
  (hi : (callFunc f cap).run P w = .ok (.enter f cap) w) (hc : CallsD P f cap u w fun e u' w' => (∃ r, e = .returned r) ∧ settle u' = .returning ∧ X w') (hX : ∀ w', X w' → ∃ v, (results fn tmps).run P w' = .ok v w' ∧ R (.returned v) w') : Leaves P fn tmps R [d] u w := by
 subst hd
 refine leaves_cons (f := f) (args := cap) hu (by simpa [invoke] using hi) (hc.mono ?_)
 rintro e u' w' ⟨⟨r, rfl⟩, h1, h2⟩
 simp only
 rw [h1]
 exact hX w' h2
end
theorem r_recover {P : Program} {w : World} {ρ : Operand → Value} {dst : Option Tmp} {ty : TypeId} {pos : String} {af : Array Edge} {g : Option (Nat × Bool)} {ts : Array TypeId} : (execOp ρ ⟨dst, .call ⟨.builtin .recover, #[], ts⟩, ty, pos, af, g⟩).run P w = .ok .recover w := by
 simp [execOp, resolve, invoke, builtin]
section
variable {P : Program} {σ : Env} {w : World} {dst : Option Tmp} {ty : TypeId} {pos : String} {af : Array Edge} {g : Option (Nat × Bool)} {x : Operand} {t s : TypeId} {v : Value} {fs : Array Field}
theorem r_assertYes (hu : P.underlying t = some (.struct fs)) (hx : ev σ x = .iface t v) : (execOp (ev σ) ⟨dst, .typeAssert x s t true, ty, pos, af, g⟩).run P w = .ok (.value (.tuple #[v, .bool true])) w := by
 simp [execOp, hx, Instr.typeAssert, run_underlying hu]
theorem r_assertNil (hu : P.underlying t = some (.struct fs)) (hz : Zer P t v) (hx : ev σ x = .nilIface) : (execOp (ev σ) ⟨dst, .typeAssert x s t true, ty, pos, af, g⟩).run P w = .ok (.value (.tuple #[v, .bool false])) w := by
 have h := hz.run w
 simp [execOp, hx, Instr.typeAssert, run_underlying hu, h]
end
theorem res_agg_cell {P : Program} {fn : Func} {a0 a1 t u b b1 n : Nat} (hr : fn.results = #[.cell a0 t, .cell a1 u]) {σ : Env} {w : World} {vs : List Value} {v' : Value} (hv : σ a0 = .pointer (some ⟨b, 0, none⟩)) (hv1 : σ a1 = .pointer (some ⟨b1, 0, none⟩)) (hf : aggB P t = true) (hs : Siz P t n) (hn : vs.length = n) (hc : CellsAt w b 0 vs) (hf1 : flatB P u = true) (hc1 : w.cell? ⟨b1, 0, none⟩ = some v') {a : Act} (ha : env a = σ) : (results fn a.tmps).run P w = .ok (.tuple #[.agg vs.toArray, v']) w := by
 subst ha
 have h0 : a.tmps.getD a0 undef = .pointer (some ⟨b, 0, none⟩) := hv
 have h1 : a.tmps.getD a1 undef = .pointer (some ⟨b1, 0, none⟩) := hv1
 simp only [Array.getD_eq_getD_getElem?] at h0 h1
 have h2 := run_loadVar (P := P) (w := w) hf hs hn hc
 have h3 : (loadVar u ⟨b1, 0, none⟩).run P w = .ok v' w := by simp [loadVar, flatB.run hf1, hc1]
 simp [results, hr, h0, h1, asAddr, h2, h3]
theorem letsOut_mono {Q Q' : Exit → Act → World → Prop} (hq : ∀ e a w, Q e a w → Q' e a w) (h : LetsOut Q) : LetsOut Q' := by
 obtain ⟨a, w, h⟩ := h; exact ⟨a, w, hq _ _ _ h⟩
theorem oper_mono {P : Program} {o : Oper} {a : Act} {w : World} {K K' : Act → World → Prop} {Q Q' : Exit → Act → World → Prop} (h : ∀ a w, K a w → K' a w) (hq : ∀ e a w, Q e a w → Q' e a w)
    (hh : o.wp P a w K Q) : o.wp P a w K' Q' := by
  unfold Oper.wp at *
  generalize (execOp a.eval o).run P w = r at *
  cases r with
  | ok n w' =>
    cases n <;> simp only [Oper.upon] at hh ⊢ <;>
      first
        | exact h _ _ hh
        | exact Calls.mono hh (fun e w'' he => by cases e <;> first | exact h _ _ he | exact letsOut_mono hq he | exact hq _ _ _ he)
        | exact Rows.mono hh (fun _ _ he => h _ _ he)
  | halt x w' => cases x <;> simp only [Oper.upon] at hh ⊢ <;> first | exact hq _ _ _ hh | exact hh
theorem wpList_monoQ {P : Program} {ops : Array Oper} {Q Q' : Exit → Act → World → Prop} (hq : ∀ e a w, Q e a w → Q' e a w) : ∀ (l : List Oper) (a : Act) (w : World), wpList P ops Q l a w → wpList P ops Q' l a w := by
  intro l
  induction l with
  | nil => intro a w h; exact hq _ _ _ h
  | cons o l ih =>
    intro a w h
    unfold wpList at h ⊢
    by_cases hw : Region.wanted o (yielded ops a.tmps) = true
    · rw [if_pos hw] at h ⊢
      rcases h with h | h
      · exact .inl (oper_mono (fun a w h => ih a w h) hq h)
      · exact .inr ⟨h.1, letsOut_mono hq h.2⟩
    · rw [if_neg hw] at h ⊢
      exact ih _ _ h
theorem wpS_of_list {P : Program} {ops : Array Oper} {Q : Exit → Act → List Frame → World → Prop} {cs : List Frame} (hL : ∀ (a : Act) (w : World), ¬ Q .outgrown a cs w) : ∀ (l : List Oper) (k : Nat) (a : Act) (w : World), (∀ j, l[j]? = ops[k + j]?) → wpList P ops (fun e a w => Q e a cs w) l a w → wpOpsS P ops Q (List.range' k l.length) a cs w := by
  intro l
  induction l with
  | nil => intro k a w _ h; exact h
  | cons o l ih =>
    intro k a w hj h
    have h0 : ops[k]? = some o := by simpa using (hj 0).symm
    have hj' : ∀ j, l[j]? = ops[k + 1 + j]? := fun j => by have := hj (j + 1); simpa [Nat.add_assoc, Nat.add_comm 1 j] using this
    rw [List.length_cons, List.range'_succ]
    unfold wpList at h
    unfold wpOpsS
    simp only [h0]
    by_cases hw : Region.wanted o (yielded ops a.tmps) = true
    · rw [if_pos hw] at h ⊢
      rcases h with h | ⟨_, a1, w1, h⟩
      · have h2 := oper_mono (K' := fun a' w' => wpOpsS P ops Q (List.range' (k + 1) l.length) a' cs w') (fun a w h => ih (k + 1) a w hj' h) (fun _ _ _ h => h) h
        unfold Oper.wp at h2
        split
        · rename_i heq
          rw [heq] at h2
          exact (show False from h2).elim
        · exact h2
      · exact absurd h (hL a1 w1)
    · rw [if_neg hw] at h ⊢
      exact ih (k + 1) _ _ hj' h
theorem CallsD_recover {P : Program} {N : Nat} {f : FuncId} {fn : Func} {id d0 : Nat} {o0 : Oper} {rest : List Oper} {y : Code} {args : Array Value} {u u' : FrameMode} {w : World} {v : Value} {R : Value → World → Prop}
    (hf : P.funcs[f]? = some fn) (hb : fn.body = some (.seq (.region id (o0 :: rest).toArray false) y)) (hn : fn.ntmps = N) (hsz : args.size ≤ N) (hg : o0.guard = none) (hd : o0.dst = some d0) (hN : d0 < N)
    (hop : ∀ (ρ : Operand → Value) (w : World), (execOp ρ o0).run P w = .ok .recover w)
    (hu : (u = .returning ∧ v = .nilIface ∧ u' = u) ∨ ∃ older, u = .panicking ({ v := v, recovered := false } :: older) ∧ u' = .panicking ({ v := v, recovered := true } :: older))
    (h : WpL P N (o0 :: rest).toArray (Wp P N y (fin P fn R)) (fin P fn R) rest (upd (fun t => args.getD t undef) d0 v) w) : CallsD P f args u w fun e u1 w' => (∃ r, e = .returned r ∧ R r w') ∧ u1 = u' := by
  refine callsD_of_wpS hf hb fun c₀ cs hu0 => ?_
  apply wpS_seq
  apply wpS_region
  have hsz2 : (o0 :: rest).toArray.size = rest.length + 1 := by simp
  rw [hsz2, List.range_eq_range', List.range'_succ]
  obtain ⟨a0, ha0⟩ : ∃ a0 : Act, a0 = { tmps := args ++ Array.replicate (fn.ntmps - args.size) undef, defers := [] } := ⟨_, rfl⟩
  rw [← ha0]
  have hok : Ok [] N a0 := ⟨by rw [ha0]; simp [hn]; omega, by rw [ha0]⟩
  have henv : env a0 = fun t => args.getD t undef := by
    rw [ha0]
    funext t
    simp only [env, Array.getD_eq_getD_getElem?, Array.getElem?_append]
    split
    · rfl
    · rename_i hlt
      rw [Array.getElem?_replicate, Array.getElem?_eq_none (xs := args) (by omega)]
      split <;> rfl
  have h1 := h [] (a0.put (some d0) v) (hok.put _ _) (by rw [env_put hok hN, henv])
  have hrec : (match recoverD (c₀ :: cs) with | some (v, cs') => some (v, cs') | none => some (Value.nilIface, c₀ :: cs)) = some (v, { c₀ with mode := u' } :: cs) := by
    rcases hu with ⟨rfl, rfl, rfl⟩ | ⟨older, rfl, rfl⟩
    · have : ({ c₀ with mode := FrameMode.returning } : Frame) = c₀ := by cases c₀; simp at hu0; subst hu0; rfl
      simp [recoverD, hu0, this]
    · simp [recoverD, hu0]
  have h2 : wpOpsS P (o0 :: rest).toArray (Exit.thenS (y.wpS P (bodyPostS P fn c₀ cs fun e u1 w' => (∃ r, e = .returned r ∧ R r w') ∧ u1 = u')) (bodyPostS P fn c₀ cs fun e u1 w' => (∃ r, e = .returned r ∧ R r w') ∧ u1 = u')) (List.range' (0 + 1) rest.length) (a0.put (some d0) v) ({ c₀ with mode := u' } :: cs) w := by
    refine wpS_of_list ?_ rest (0 + 1) _ _ (fun j => by simp [Nat.add_comm]) (wpList_monoQ ?_ rest _ _ h1)
    · rintro a w1 ⟨u9, ⟨r, h9, _⟩, _⟩; cases h9
    · rintro e a w1 ⟨o, q⟩
      cases e <;> simp only [thn] at q <;> simp only [Exit.thenS]
      · refine wpS_of_wp (Code.wp_mono ?_ (q [] a o rfl))
        rintro e a w1 ⟨o, q⟩
        cases e <;> simp only [fin] at q <;> simp only [bodyPostS]
        · obtain ⟨v9, hv, r⟩ := q; exact ⟨o.defers, u', rfl, v9, hv a rfl, ⟨v9, rfl, r⟩, rfl⟩
        · obtain ⟨v9, hv, r⟩ := q; exact ⟨o.defers, u', rfl, v9, hv a rfl, ⟨v9, rfl, r⟩, rfl⟩
      all_goals simp only [fin] at q
      · obtain ⟨v9, hv, r⟩ := q; exact ⟨o.defers, u', rfl, v9, hv a rfl, ⟨v9, rfl, r⟩, rfl⟩
  unfold wpOpsS
  have h0 : (o0 :: rest).toArray[0]? = some o0 := by simp
  have hw : Region.wanted o0 (yielded (o0 :: rest).toArray a0.tmps) = true := by simp [Region.wanted, hg]
  simp only [h0, hop]
  rw [if_pos hw, hd]
  cases hr : recoverD (c₀ :: cs) with
  | none => rw [hr] at hrec; simp only [Option.some.injEq, Prod.mk.injEq] at hrec; rw [← hrec.1, ← hrec.2] at h2; exact h2
  | some p => rw [hr] at hrec; obtain ⟨p1, p2⟩ := p; simp only [Option.some.injEq, Prod.mk.injEq] at hrec; rw [← hrec.1, ← hrec.2] at h2; exact h2
end Go.Eng
namespace Go.Proofs
open Go Go.Eng Go.Sort
set_option maxRecDepth 100000
theorem slAt_keep {M : Nat → Prop} {w w' : World} {k : Nat} {v : Value} {rows : List (List Value)} (h : SlAt w k v rows) (c : Chg M w w') (hM : rows = [] ∨ ∃ b, v.ownBlock = some b ∧ ¬ M b) : SlAt w' k v rows := by
 obtain ⟨a, cap, hv, hl, hc, h⟩ := h
 refine ⟨a, cap, hv, hl, hc, ?_⟩
 rcases h with h | ⟨b, o, ha, h⟩
 ·exact .inl h
 ·rcases hM with hM | ⟨b', hb', hM⟩
  ·exact .inl hM
  ·rw [hv, ha] at hb'
   cases hb'
   exact .inr ⟨b, o, ha, fun i r hr => (h i r hr).chg c hM⟩
/-- An edge whose set lies in a block of F. -/
def EdF (F : Nat → Prop) (w : World) (e : Ed) (row : List Value) : Prop := ∃ u, row = edRow e u ∧ SpansAt w u e.2.2 ∧ (e.2.2 = [] ∨ ∃ b, u.ownBlock = some b ∧ F b)
theorem EdF.chg {F M : Nat → Prop} {w w' : World} {e : Ed} {row : List Value} (h : EdF F w e row) (c : Chg M w w') (hM : ∀ y, F y → ¬ M y) : EdF F w' e row := by
 obtain ⟨u, h1, h2, h3⟩ := h
 refine ⟨u, h1, slAt_keep h2 c ?_, h3⟩
 rcases h3 with h3 | ⟨b, h3, h4⟩
 ·exact .inl (by rw [h3]; rfl)
 ·exact .inr ⟨b, h3, hM b h4⟩
theorem EdF.mono {F F' : Nat → Prop} {w : World} {e : Ed} {row : List Value} (h : EdF F w e row) (hF : ∀ y, F y → F' y) : EdF F' w e row := by
 obtain ⟨u, h1, h2, h3⟩ := h
 exact ⟨u, h1, h2, h3.imp id fun ⟨b, h4, h5⟩ => ⟨b, h4, hF b h5⟩⟩
def EdsF (F : Nat → Prop) (w : World) (es : List Ed) (rows : List (List Value)) : Prop := rows.length = es.length ∧ ∀ (i : Nat) e row, es[i]? = some e → rows[i]? = some row → EdF F w e row
theorem EdsF.chg {F M : Nat → Prop} {w w' : World} {es : List Ed} {rows : List (List Value)} (h : EdsF F w es rows) (c : Chg M w w') (hM : ∀ y, F y → ¬ M y) : EdsF F w' es rows := ⟨h.1, fun i e row h1 h2 => (h.2 i e row h1 h2).chg c hM⟩
theorem EdsF.mono {F F' : Nat → Prop} {w : World} {es : List Ed} {rows : List (List Value)} (h : EdsF F w es rows) (hF : ∀ y, F y → F' y) : EdsF F' w es rows := ⟨h.1, fun i e row h1 h2 => (h.2 i e row h1 h2).mono hF⟩
theorem EdsF.snoc {F : Nat → Prop} {w : World} {es : List Ed} {rows : List (List Value)} {e : Ed} {row : List Value} (h : EdsF F w es rows) (hr : EdF F w e row) : EdsF F w (es ++ [e]) (rows ++ [row]) := by
 refine ⟨by simp [h.1], fun i x y hx hy => ?_⟩
 rcases Nat.lt_or_ge i es.length with hi | hi
 ·rw [List.getElem?_append_left hi] at hx
  rw [List.getElem?_append_left (by have := h.1; omega)] at hy
  exact h.2 i x y hx hy
 ·have := lt_of_get hx
  simp at this
  obtain rfl : i = es.length := by omega
  rw [List.getElem?_append_right (Nat.le_refl _), Nat.sub_self] at hx
  rw [← h.1, List.getElem?_append_right (Nat.le_refl _), Nat.sub_self] at hy
  simp at hx hy
  subst hx; subst hy
  exact hr
end Go.Proofs
namespace Go.Proofs
open Go.Shelf
def Tryz.sortSp_ren : Go.Shelf.Ren := ⟨fun | 6 => 127 | 15 => 87 | 14 => 159 | 28 => 140 | 29 => 141 | 20 => 190 | 21 => 191 | 22 => 192 | 23 => 193 | 24 => 194 | 25 => 195 | 26 => 196 | 27 => 197 | 46 => 221 | 47 => 163 | 48 => 164 | 49 => 222 | 50 => 223 | 57 => 233 | n => n, fun | 22 => 37 | 24 => 80 | 25 => 162 | 3 => 3 | 39 => 119 | 0 => 0 | 53 => 174 | 55 => 176 | 4 => 4 | 46 => 168 | 45 => 167 | 50 => 140 | 5 => 5 | 9 => 9 | 66 => 188 | 70 => 192 | 76 => 215 | 77 => 216 | n => n, fun | n => n⟩
def Tryz.sortEd_ren : Go.Shelf.Ren := ⟨fun | 6 => 39 | 15 => 87 | 14 => 86 | 28 => 140 | 29 => 141 | 20 => 132 | 21 => 133 | 22 => 134 | 23 => 135 | 24 => 136 | 25 => 137 | 26 => 138 | 27 => 139 | 46 => 162 | 47 => 163 | 48 => 164 | 49 => 165 | 50 => 166 | 57 => 199 | n => n, fun | 22 => 24 | 24 => 39 | 25 => 82 | 3 => 3 | 39 => 119 | 0 => 0 | 53 => 174 | 55 => 176 | 4 => 4 | 46 => 168 | 45 => 167 | 50 => 140 | 5 => 5 | 9 => 9 | 66 => 188 | 70 => 192 | 76 => 215 | 77 => 216 | n => n, fun | n => n⟩
theorem Tryz.sortEd : Go.Proofs.SlLaysF0.n6 Tryz.prog Tryz.sortEd_ren := {
 mixed := by kernel_rfl
 f6 := ⟨Tryz.f39.name, by decide, Tryz.func39.trans (congrArg some (by kernel_rfl))⟩
 f14 := ⟨Tryz.f86.name, by decide, Tryz.func86.trans (congrArg some (by kernel_rfl))⟩
 f15 := Tryz.func87.trans (congrArg some (by kernel_rfl))
 f20 := ⟨Tryz.f132.name, by decide, Tryz.func132.trans (congrArg some (by kernel_rfl))⟩
 f21 := ⟨Tryz.f133.name, by decide, Tryz.func133.trans (congrArg some (by kernel_rfl))⟩
 f22 := ⟨Tryz.f134.name, by decide, Tryz.func134.trans (congrArg some (by kernel_rfl))⟩
 f23 := ⟨Tryz.f135.name, by decide, Tryz.func135.trans (congrArg some (by kernel_rfl))⟩
 f24 := ⟨Tryz.f136.name, by decide, Tryz.func136.trans (congrArg some (by kernel_rfl))⟩
 f25 := ⟨Tryz.f137.name, by decide, Tryz.func137.trans (congrArg some (by kernel_rfl))⟩
 f26 := ⟨Tryz.f138.name, by decide, Tryz.func138.trans (congrArg some (by kernel_rfl))⟩
 f27 := ⟨Tryz.f139.name, by decide, Tryz.func139.trans (congrArg some (by kernel_rfl))⟩
 f28 := Tryz.func140.trans (congrArg some (by kernel_rfl))
 f29 := Tryz.func141.trans (congrArg some (by kernel_rfl))
 f46 := ⟨Tryz.f162.name, by decide, Tryz.func162.trans (congrArg some (by kernel_rfl))⟩
 f47 := Tryz.func163.trans (congrArg some (by kernel_rfl))
 f48 := Tryz.func164.trans (congrArg some (by kernel_rfl))
 f49 := ⟨Tryz.f165.name, by decide, Tryz.func165.trans (congrArg some (by kernel_rfl))⟩
 f50 := ⟨Tryz.f166.name, by decide, Tryz.func166.trans (congrArg some (by kernel_rfl))⟩
 f57 := ⟨Tryz.f199.name, by decide, Tryz.func199.trans (congrArg some (by kernel_rfl))⟩
 t0 := Tryz.underlying0
 a0 := Tryz.isAgg0
 z0 := Tryz.sizeOf0
 v0 := Tryz.zeroValue0
 t3 := Tryz.underlying3
 a3 := Tryz.isAgg3
 z3 := Tryz.sizeOf3
 v3 := Tryz.zeroValue3
 t4 := Tryz.underlying4
 a4 := Tryz.isAgg4
 z4 := Tryz.sizeOf4
 v4 := Tryz.zeroValue4
 t5 := Tryz.underlying5
 a5 := Tryz.isAgg5
 z5 := Tryz.sizeOf5
 v5 := Tryz.zeroValue5
 t9 := Tryz.underlying9
 a9 := Tryz.isAgg9
 z9 := Tryz.sizeOf9
 v9 := Tryz.zeroValue9
 t22 := Tryz.underlying24
 a22 := Tryz.isAgg24
 z22 := Tryz.sizeOf24
 v22 := Tryz.zeroValue24
 t25 := Tryz.underlying82
 a25 := Tryz.isAgg82
 z25 := Tryz.sizeOf82
 v25 := Tryz.zeroValue82
 t39 := Tryz.underlying119
 a39 := Tryz.isAgg119
 z39 := Tryz.sizeOf119
 v39 := Tryz.zeroValue119
 t45 := Tryz.underlying167
 a45 := Tryz.isAgg167
 z45 := Tryz.sizeOf167
 v45 := Tryz.zeroValue167
 t46 := Tryz.underlying168
 a46 := Tryz.isAgg168
 z46 := Tryz.sizeOf168
 v46 := Tryz.zeroValue168
 t50 := Tryz.underlying140
 a50 := Tryz.isAgg140
 z50 := Tryz.sizeOf140
 v50 := Tryz.zeroValue140
 t53 := Tryz.underlying174
 a53 := Tryz.isAgg174
 z53 := Tryz.sizeOf174
 v53 := Tryz.zeroValue174
 t55 := Tryz.underlying176
 a55 := Tryz.isAgg176
 z55 := Tryz.sizeOf176
 v55 := Tryz.zeroValue176
 t66 := Tryz.underlying188
 a66 := Tryz.isAgg188
 z66 := Tryz.sizeOf188
 v66 := Tryz.zeroValue188
 t70 := Tryz.underlying192
 a70 := Tryz.isAgg192
 z70 := Tryz.sizeOf192
 v70 := Tryz.zeroValue192
 t76 := Tryz.underlying215
 a76 := Tryz.isAgg215
 z76 := Tryz.sizeOf215
 v76 := Tryz.zeroValue215
 t77 := Tryz.underlying216
 a77 := Tryz.isAgg216
 z77 := Tryz.sizeOf216
 v77 := Tryz.zeroValue216 }
def Tryz.sortI_ren : Go.Shelf.Ren := ⟨fun | 189 => 94 | 125 => 87 | 257 => 147 | 128 => 140 | 129 => 141 | 294 => 167 | 295 => 168 | 296 => 169 | 297 => 170 | 298 => 171 | 299 => 172 | 216 => 173 | 300 => 174 | 301 => 175 | 328 => 200 | 329 => 163 | 330 => 164 | 331 => 201 | 332 => 202 | 215 => 142 | 343 => 224 | n => n, fun | 28 => 22 | 3 => 3 | 46 => 119 | 0 => 0 | 51 => 174 | 53 => 176 | 4 => 4 | 183 => 168 | 182 => 167 | 131 => 140 | 5 => 5 | 9 => 9 | 218 => 188 | 222 => 192 | 228 => 215 | 229 => 216 | n => n, fun | n => n⟩
theorem Tryz.sortI : Go.Proofs.Lays.n189 Tryz.prog Tryz.sortI_ren := {
 mixed := by kernel_rfl
 f125 := Tryz.func87.trans (congrArg some (by kernel_rfl))
 f128 := Tryz.func140.trans (congrArg some (by kernel_rfl))
 f129 := Tryz.func141.trans (congrArg some (by kernel_rfl))
 f189 := Tryz.func94.trans (congrArg some (by kernel_rfl))
 f215 := Tryz.func142.trans (congrArg some (by kernel_rfl))
 f216 := Tryz.func173.trans (congrArg some (by kernel_rfl))
 f257 := Tryz.func147.trans (congrArg some (by kernel_rfl))
 f294 := Tryz.func167.trans (congrArg some (by kernel_rfl))
 f295 := Tryz.func168.trans (congrArg some (by kernel_rfl))
 f296 := Tryz.func169.trans (congrArg some (by kernel_rfl))
 f297 := Tryz.func170.trans (congrArg some (by kernel_rfl))
 f298 := Tryz.func171.trans (congrArg some (by kernel_rfl))
 f299 := Tryz.func172.trans (congrArg some (by kernel_rfl))
 f300 := Tryz.func174.trans (congrArg some (by kernel_rfl))
 f301 := Tryz.func175.trans (congrArg some (by kernel_rfl))
 f328 := Tryz.func200.trans (congrArg some (by kernel_rfl))
 f329 := Tryz.func163.trans (congrArg some (by kernel_rfl))
 f330 := Tryz.func164.trans (congrArg some (by kernel_rfl))
 f331 := Tryz.func201.trans (congrArg some (by kernel_rfl))
 f332 := Tryz.func202.trans (congrArg some (by kernel_rfl))
 f343 := Tryz.func224.trans (congrArg some (by kernel_rfl))
 t0 := Tryz.underlying0
 a0 := Tryz.isAgg0
 z0 := Tryz.sizeOf0
 v0 := Tryz.zeroValue0
 t3 := Tryz.underlying3
 a3 := Tryz.isAgg3
 z3 := Tryz.sizeOf3
 v3 := Tryz.zeroValue3
 t4 := Tryz.underlying4
 a4 := Tryz.isAgg4
 z4 := Tryz.sizeOf4
 v4 := Tryz.zeroValue4
 t5 := Tryz.underlying5
 a5 := Tryz.isAgg5
 z5 := Tryz.sizeOf5
 v5 := Tryz.zeroValue5
 t9 := Tryz.underlying9
 a9 := Tryz.isAgg9
 z9 := Tryz.sizeOf9
 v9 := Tryz.zeroValue9
 t28 := Tryz.underlying22
 a28 := Tryz.isAgg22
 z28 := Tryz.sizeOf22
 v28 := Tryz.zeroValue22
 t46 := Tryz.underlying119
 a46 := Tryz.isAgg119
 z46 := Tryz.sizeOf119
 v46 := Tryz.zeroValue119
 t51 := Tryz.underlying174
 a51 := Tryz.isAgg174
 z51 := Tryz.sizeOf174
 v51 := Tryz.zeroValue174
 t53 := Tryz.underlying176
 a53 := Tryz.isAgg176
 z53 := Tryz.sizeOf176
 v53 := Tryz.zeroValue176
 t131 := Tryz.underlying140
 a131 := Tryz.isAgg140
 z131 := Tryz.sizeOf140
 v131 := Tryz.zeroValue140
 t182 := Tryz.underlying167
 a182 := Tryz.isAgg167
 z182 := Tryz.sizeOf167
 v182 := Tryz.zeroValue167
 t183 := Tryz.underlying168
 a183 := Tryz.isAgg168
 z183 := Tryz.sizeOf168
 v183 := Tryz.zeroValue168
 t218 := Tryz.underlying188
 a218 := Tryz.isAgg188
 z218 := Tryz.sizeOf188
 v218 := Tryz.zeroValue188
 t222 := Tryz.underlying192
 a222 := Tryz.isAgg192
 z222 := Tryz.sizeOf192
 v222 := Tryz.zeroValue192
 t228 := Tryz.underlying215
 a228 := Tryz.isAgg215
 z228 := Tryz.sizeOf215
 v228 := Tryz.zeroValue215
 t229 := Tryz.underlying216
 a229 := Tryz.isAgg216
 z229 := Tryz.sizeOf216
 v229 := Tryz.zeroValue216 }
def Tryz.compI_ren : Go.Shelf.Ren := ⟨fun | 20 => 95 | n => n, fun | 22 => 22 | 3 => 3 | 4 => 4 | 0 => 0 | n => n, fun | n => n⟩
theorem Tryz.compI : Go.Proofs.Lays2.n20 Tryz.prog Tryz.compI_ren := {
 mixed := by kernel_rfl
 f20 := Tryz.func95.trans (congrArg some (by kernel_rfl))
 t0 := Tryz.underlying0
 a0 := Tryz.isAgg0
 z0 := Tryz.sizeOf0
 v0 := Tryz.zeroValue0
 t3 := Tryz.underlying3
 a3 := Tryz.isAgg3
 z3 := Tryz.sizeOf3
 v3 := Tryz.zeroValue3
 t4 := Tryz.underlying4
 a4 := Tryz.isAgg4
 z4 := Tryz.sizeOf4
 v4 := Tryz.zeroValue4
 t22 := Tryz.underlying22
 a22 := Tryz.isAgg22
 z22 := Tryz.sizeOf22
 v22 := Tryz.zeroValue22
 i3 := by kernel_rfl }
end Go.Proofs
namespace Go.Proofs
open Go Go.Eng Go.Sort
set_option maxRecDepth 100000
theorem flatK_list {α : Type} [Inhabited α] (enc : α → List Value) (k : Nat) (hk : 0 < k) (he : ∀ x, (enc x).length = k) (d : List α) : (flatK enc k d.toArray).toList = (d.map enc).flatten := by
 have hrl : (d.map enc).flatten.length = d.length * k := by
  have := rows_len (k := k) (rows := d.map enc) (fun r hr => by obtain ⟨x, _, rfl⟩ := List.mem_map.1 hr; exact he x)
  rwa [List.length_map] at this
 apply List.ext_getElem?
 intro t
 by_cases ht : t < d.length * k
 ·have hi : t / k < d.length := Nat.div_lt_of_lt_mul (by rw [Nat.mul_comm]; exact ht)
  have hj : t % k < k := Nat.mod_lt _ hk
  have hx : (d.map enc)[t / k]? = some (enc d[t / k]) := by rw [List.getElem?_map, List.getElem?_eq_getElem hi]; rfl
  have hu : (enc d[t / k])[t % k]? = some ((enc d[t / k])[t % k]'(by rw [he]; exact hj)) := List.getElem?_eq_getElem _
  have h1 := rows_cells (k := k) (rows := d.map enc) (rest := []) (fun r hr => by obtain ⟨x, _, rfl⟩ := List.mem_map.1 hr; exact he x) hx _ _ hu
  rw [List.append_nil, Nat.div_add_mod'] at h1
  rw [h1]
  have h2 := get_flatK enc k d.toArray t (by simpa using ht)
  have h3 : t < (flatK enc k d.toArray).size := by rw [size_flatK]; simpa using ht
  rw [getElem!_pos _ t h3] at h2
  rw [Array.getElem?_toList, Array.getElem?_eq_getElem h3, h2]
  have h4 : d.toArray[t / k]! = d[t / k] := by rw [getElem!_pos d.toArray _ (by simpa using hi)]; simp
  rw [h4, getElem!_pos _ _ (by rw [he]; exact hj)]
 ·rw [List.getElem?_eq_none (by rw [Array.length_toList, size_flatK]; simpa using ht), List.getElem?_eq_none (by omega)]
theorem own_holdsK {α : Type} [Inhabited α] (enc : α → List Value) (k : Nat) (hk : 0 < k) (he : ∀ x, (enc x).length = k) {w : World} {base e g n c : Nat} {d : List α} (h : w.ownsRow base e k (.slice (some ⟨g, 0, none⟩) n c) n (d.map enc).flatten) (hn : d.length = n) : HoldsK enc k w g 0 d.toArray := by
 intro j hj
 rw [size_flatK] at hj
 have hfl := flatK_list enc k hk he d
 have hj2 : j < (flatK enc k d.toArray).size := by rw [size_flatK]; exact hj
 rw [getElem!_pos _ j hj2]
 have hx : (d.map enc).flatten[j]? = some (flatK enc k d.toArray)[j] := by rw [← hfl, Array.getElem?_toList, Array.getElem?_eq_getElem hj2]
 have h1 := h.cells (g := g) rfl j _ hx
 rw [Addr.add_lit] at h1
 refine ⟨h1, ?_⟩
 rcases h.2 with ⟨h1, _⟩ | ⟨g', cap, cur, hv, _, hg, _⟩
 ·simp at h1
 ·simp only [Value.slice.injEq] at hv
  obtain ⟨hv, _⟩ := hv
  simp only [Option.some.injEq, Addr.mk.injEq, and_true] at hv
  subst hv
  simp [World.frozen?, hg]
theorem own_sorted {α : Type} [Inhabited α] (enc : α → List Value) (k : Nat) (hk : 0 < k) (he : ∀ x, (enc x).length = k) {w : World} {base e g n c m : Nat} {os : Array Obj} {d : List α} {xs : List Value} (h : w.ownsRow base e k (.slice (some ⟨g, 0, none⟩) n c) n xs) (hn : d.length = n) : (sortWorldK enc k w g 0 m d.toArray os).ownsRow base e k (.slice (some ⟨g, 0, none⟩) n c) n (d.map enc).flatten := by
 have hrl : (d.map enc).flatten.length = d.length * k := by
  have := rows_len (k := k) (rows := d.map enc) (fun r hr => by obtain ⟨x, _, rfl⟩ := List.mem_map.1 hr; exact he x)
  rwa [List.length_map] at this
 rcases h.2 with ⟨h1, _⟩ | ⟨g', cap, cur, hv, hbg, hg, hnc, hcm, hcs, htake⟩
 ·simp at h1
 ·simp only [Value.slice.injEq, true_and] at hv
  obtain ⟨hv, rfl⟩ := hv
  simp only [Option.some.injEq, Addr.mk.injEq, and_true] at hv
  subst hv
  have hgl : g < w.heap.size := (Array.getElem?_eq_some_iff.1 hg).1
  refine ⟨by rw [hrl, hn], .inr ⟨g, c, putCells id 0 (flatK enc k d.toArray) cur, rfl, hbg, ?_, hnc, hcm, by simp [putCells, hcs], ?_⟩⟩
  ·unfold sortWorldK grow putRowK putRow mapBlock Sort.ahead
   dsimp only
   rw [Array.getElem?_append_left (by simpa using hgl), Array.getElem?_modify, if_pos rfl, hg]
   rfl
  ·have hle : n * k ≤ c * k := Nat.mul_le_mul_right k hnc
   apply List.ext_getElem?
   intro t
   by_cases ht : t < n * k
   ·rw [List.getElem?_take, if_pos ht, Array.getElem?_toList]
    have h3 : t < (flatK enc k d.toArray).size := by rw [size_flatK]; simpa [hn] using ht
    rw [← flatK_list enc k hk he d, Array.getElem?_toList, Array.getElem?_eq_getElem h3]
    simp only [putCells, Array.getElem?_mapIdx]
    rw [Array.getElem?_eq_getElem (show t < cur.size by rw [hcs]; omega)]
    simp only [Option.map_some, Nat.zero_le, true_and, Nat.zero_add, Nat.sub_zero, id]
    rw [if_pos h3, getElem!_pos _ t h3]
   ·rw [List.getElem?_eq_none (by rw [List.length_take]; omega), List.getElem?_eq_none (by rw [hrl, hn]; omega)]
theorem sortWR_chg {α : Type} [Inhabited α] (enc : α → List Value) (k : Nat) (w : World) (g off m : Nat) (dk : Array α) (os : Array Obj) : Chg (fun x => x = g) w (sortWorldK enc k w g off m dk os) := by
 refine ⟨rfl, rfl, rfl, Nat.le_add_right _ _, ?_, fun b hb hne => ?_⟩
 ·simp [sortWorldK, grow, putRowK, putRow, mapBlock, ahead]
 ·simp only [sortWorldK, grow, putRowK, putRow, mapBlock, ahead]
  rw [Array.getElem?_append_left (by simpa using hb), Array.getElem?_modify, if_neg (fun h => hne h.symm)]; rfl
theorem enters_calleeR {P : Program} {f : FuncId} {fn : Func} (hf : P.funcs[f]? = some fn) (hn : (fn.name == "runtime.NumGoroutine") = false) (hb : fn.body.isNone = false) : ∀ args w, (callFunc f args).run P w = .ok (.enter f args) w := fun args w => run_callF (vs := args) (w := w) hf hn hb
end Go.Proofs
namespace Go.Proofs
open Go Go.Eng Go.Sort
set_option maxRecDepth 100000
structure ERow (F : Nat → Prop) (w : World) where
 e : Ed
 vs : List Value
 h : EdF F w e vs
instance {F : Nat → Prop} {w : World} : Inhabited (ERow F w) := ⟨⟨(0, 0, []), edRow (0, 0, []) (.slice none 0 0), ⟨_, rfl, SlAt.nil _ _ _ _, .inl rfl⟩⟩⟩
def encE {F : Nat → Prop} {w : World} (r : ERow F w) : List Value := r.vs
def cfE {F : Nat → Prop} {w : World} (x y : ERow F w) : Int := edO x.e y.e
theorem ERow.len {F : Nat → Prop} {w : World} (x : ERow F w) : (encE x).length = 3 := by
 obtain ⟨u, h, _⟩ := x.h
 unfold encE
 rw [h]; rfl
theorem ERow.one {F : Nat → Prop} {w : World} (x : ERow F w) : ∀ u ∈ encE x, u.oneCell' = true := fun u hu => by
 obtain ⟨v, h, h2, _⟩ := x.h
 obtain ⟨a, c, rfl⟩ := SlAt.form h2
 unfold encE at hu
 rw [h] at hu
 simp [edRow] at hu
 rcases hu with rfl | rfl | rfl <;> rfl
theorem ERow.at {F : Nat → Prop} {w w' : World} {g : Nat} (x : ERow F w) (c : Chg (fun y => y = g) w w') (hg : ¬ F g) : ∃ ua uc, x.vs = [.int .i64 x.e.1, .int .i64 x.e.2.1, .slice ua x.e.2.2.length uc] ∧ SpansAt w' (.slice ua x.e.2.2.length uc) x.e.2.2 := by
 obtain ⟨u, h, h2, _⟩ := x.h.chg c (fun y hy h => hg (by have h' : y = g := h; rw [← h']; exact hy))
 obtain ⟨a, cc, rfl⟩ := SlAt.form h2
 rw [List.length_map] at h2 h
 exact ⟨a, cc, h, h2⟩
theorem erows_of {F : Nat → Prop} {w : World} : ∀ {ts : List Ed} {rows : List (List Value)}, EdsF F w ts rows → ∃ d : List (ERow F w), d.map (·.e) = ts ∧ d.map encE = rows
  | [], rows, h => ⟨[], rfl, (List.eq_nil_of_length_eq_zero h.1).symm⟩
  | t :: ts, [], h => by have := h.1; simp at this
  | t :: ts, r :: rows, h => by
    obtain ⟨d, h1, h2⟩ := erows_of (ts := ts) (rows := rows) ⟨by have := h.1; simpa using this, fun i e row he hr => h.2 (i + 1) e row he hr⟩
    exact ⟨⟨t, r, h.2 0 t r rfl rfl⟩ :: d, by simp [h1], by simp [h2, encE]⟩
theorem cfE_lt {F : Nat → Prop} {w : World} (x y : ERow F w) : cfE x y < 0 ↔ edO x.e y.e < 0 := Iff.rfl
theorem swoE {F : Nat → Prop} {w : World} : SWO (ltOf (cfE (F := F) (w := w))) := by
 refine ⟨fun x => ?_, fun x y z => ?_, fun x y z => ?_⟩
 ·have := sy_ed x.e x.e
  unfold Sy at this
  simp only [ltOf, decide_eq_false_iff_not, cfE_lt]
  omega
 ·have a := sy_ed x.e y.e
  have b := sy_ed y.e z.e
  have c := sy_ed x.e z.e
  have h1 := tr_ed x.e y.e z.e
  have h2 := tr_ed z.e y.e x.e
  unfold Sy at a b c
  unfold Tr3 at h1 h2
  simp only [ltOf, decide_eq_true_eq, decide_eq_false_iff_not, cfE_lt]
  omega
 ·have a := sy_ed x.e y.e
  have b := sy_ed y.e z.e
  have c := sy_ed x.e z.e
  have h1 := tr_ed x.e y.e z.e
  have h2 := tr_ed z.e y.e x.e
  unfold Sy at a b c
  unfold Tr3 at h1 h2
  simp only [ltOf, decide_eq_true_eq, decide_eq_false_iff_not, cfE_lt]
  omega
theorem bitsLenE_c (w0 : World) (_ : 39 = 39 := rfl) : Ret Tryz.prog 87 #[.int .u64 0] w0 fun v w => v = .int .i64 (Lib.bitLen 0 : Nat) ∧ Ext w0 w :=
 (Any.bits_Len (SlLaysF0.n15.bits (P := Tryz.prog) (ρ := Tryz.sortEd_ren) { Tryz.sortEd with }) 0 w0 (by omega) (by omega)).mono fun _ _ ⟨he, hw⟩ => ⟨_, he, rfl, by rw [hw]; exact Ext.refl _⟩
theorem ins0E_c (w0 : World) (a : Option Addr) (c : Nat) (fv : Value) : Ret Tryz.prog 132 #[.slice a 0 c, .int .i64 0, .int .i64 0, fv] w0 fun v w => v = .tuple #[] ∧ Ext w0 w := by
 refine Ret_of Tryz.func132 rfl Tryz.ntmps132 (Nat.le_of_ble_eq_true rfl) ?_
 have E : Chg none1 w0 w0 := Chg.refl _ _
 refine Wp_seq_region ?_
 refine qM (I6 0) rfl ?_
 refine qV (r_add (k := .i64) (a := 0) (b := 1) (c := 1) rfl rfl (by decide)) ?_
 refine qA (I6 1) rfl ?_
 refine WpL_nil (Wp_block ?_)
 refine Wp_loop (fun nn_ σ W1 => (∃ jj_, σ = upds jj_ [(0, (.slice a 0 c)), (1, (I6 0)), (2, (I6 0)), (3, fv), (8, (I6 1))]) ∧ Chg none1 w0 W1 ∧ nn_ = (0 : Nat)) (n := (0 : Nat)) ?_ ?_
 ·exact ⟨Fits.out ⟨rfl, rfl, rfl, rfl, rfl, trivial⟩, E, rfl⟩
 ·clear E
  rintro _ _ W1 ⟨⟨j1, rfl⟩, E, rfl⟩
  refine Wp_seq (Wp_seq_region ?_)
  refine qM (I6 1) rfl ?_
  refine qM (I6 0) rfl ?_
  refine qV (r_lss (k := .i64) (a := 1) (b := 0) rfl rfl) ?_
  refine WpL_nil ?_
  refine Wp_cond_false rfl ?_
  refine Wp_exit (thn_exit (thn_exit (inB_here ?_)))
  refine fin_none Tryz.results132 ?_
  exact ⟨rfl, E⟩
theorem pdq0E_c (w0 : World) (a : Option Addr) (c : Nat) (n : Int) (fv : Value) : Ret Tryz.prog 86 #[.slice a 0 c, .int .i64 0, .int .i64 0, .int .i64 n, fv] w0 fun v w => v = .tuple #[] ∧ Ext w0 w := by
 refine Ret_of Tryz.func86 rfl Tryz.ntmps86 (Nat.le_of_ble_eq_true rfl) ?_
 have E : Chg none1 w0 w0 := Chg.refl _ _
 refine Wp_seq_region ?_
 refine qA (.bool true) rfl ?_
 refine WpL_nil (Wp_seq_region ?_)
 refine qA (.bool true) rfl ?_
 refine WpL_nil (Wp_block ?_)
 refine Wp_loop (fun nn_ σ W1 => (∃ jj_, σ = upds jj_ [(0, (.slice a 0 c)), (1, (I6 0)), (2, (I6 0)), (4, fv)]) ∧ Chg none1 w0 W1 ∧ nn_ = (0 : Nat)) (n := (0 : Nat)) ?_ ?_
 ·exact ⟨Fits.out ⟨rfl, rfl, rfl, rfl, trivial⟩, E, rfl⟩
 ·clear E
  rintro _ _ W1 ⟨⟨j1, rfl⟩, E, rfl⟩
  refine Wp_block (Wp_seq_region ?_)
  refine qM (I6 0) rfl ?_
  refine qM (I6 0) rfl ?_
  refine qV (r_sub (k := .i64) (a := 0) (b := 0) (c := 0) rfl rfl (by decide)) ?_
  refine qA (I6 0) rfl ?_
  refine WpL_nil (Wp_seq (Wp_seq_region ?_))
  refine qM (I6 0) rfl ?_
  refine qV (r_leq (k := .i64) (a := 0) (b := 12) rfl rfl) ?_
  refine WpL_nil ?_
  refine Wp_cond_true rfl ?_
  refine Wp_seq_region ?_
  refine qM (.slice a 0 c) rfl ?_
  refine qM (I6 0) rfl ?_
  refine qM (I6 0) rfl ?_
  refine qM fv rfl ?_
  refine WpL_enter rfl rfl (by decide) (r_callF (vs := [(.slice a 0 c), (I6 0), (I6 0), fv]) Tryz.func132 kQ kQ rfl) (ins0E_c _ a c fv) ?_
  rintro _ w9 ⟨rfl, X9⟩
  replace E := E.ext X9
  refine WpL_nil (Wp_ret (thn_ret (inB_ret (thn_ret (inB_ret ?_)))))
  refine fin_noneR Tryz.results86 ?_
  exact ⟨rfl, E⟩
theorem sort0E_c (w0 : World) (a : Option Addr) (c : Nat) (fv : Value) : Ret Tryz.prog 39 #[.slice a 0 c, fv] w0 fun v w => v = .tuple #[] ∧ Ext w0 w := by
 refine Ret_of Tryz.func39 rfl Tryz.ntmps39 (Nat.le_of_ble_eq_true rfl) ?_
 have E : Chg none1 w0 w0 := Chg.refl _ _
 refine Wp_seq_region ?_
 refine qM (.slice a 0 c) rfl ?_
 refine qV (r_lenSlice (ad := a) (n := 0) (cap := c) Tryz.underlying24 rfl) ?_
 refine qA (I6 0) rfl ?_
 refine WpL_nil (Wp_region ?_)
 refine qM (.slice a 0 c) rfl ?_
 refine qM (I6 0) rfl ?_
 refine qM (I6 0) rfl ?_
 refine qV (r_convInt (k := .i64) (k' := .u64) (n := 0) (c := 0) ⟨_, Tryz.underlying3⟩ Tryz.underlying119 rfl (wU64 (by omega))) ?_
 refine WpL_enter rfl rfl (by decide) (r_callF (vs := [(.int .u64 0)]) Tryz.func87 kQ kQ rfl) (bitsLenE_c _) ?_
 rintro _ w8 ⟨rfl, X8⟩
 replace E := E.ext X8
 refine qM fv rfl ?_
 refine WpL_enter rfl rfl (by decide) (r_callF (vs := [(.slice a 0 c), (I6 0), (I6 0), (I6 (Lib.bitLen 0 : Nat)), fv]) Tryz.func86 kQ kQ rfl) (pdq0E_c _ a c _ fv) ?_
 rintro _ w9 ⟨rfl, X9⟩
 replace E := E.ext X9
 refine WpL_nil ?_
 refine fin_none Tryz.results39 ?_
 exact ⟨rfl, E⟩
set_option maxHeartbeats 2000000 in
theorem sortEd_c (w0 : World) (F : Nat → Prop) (base : Nat) (v : Value) (ts : List Ed) (rows : List (List Value)) (h : w0.ownsRow base TEd 3 v ts.length rows.flatten) (hr : EdsF F w0 ts rows) (hF : ∀ b, v.ownBlock = some b → ¬ F b) (hl : ts.length ≤ 1000000) :
  Ret Tryz.prog 39 #[v, .func (.func 40) #[] #[]] w0 fun r w => r = .tuple #[] ∧ (∃ us qs, us.Perm ts ∧ us.Pairwise (fun x y => edO x y ≤ 0) ∧ w.ownsRow base TEd 3 v us.length qs.flatten ∧ EdsF F w us qs) ∧ Chg (fun x => v.ownBlock = some x) w0 w := by
 have eg := enters_calleeR Tryz.func40 kQ kQ
 rcases h.2 with ⟨rfl, h0⟩ | ⟨g, cap, cur, rfl, hbg, hg, hnc, hcm, hcs, htake⟩
 ·have hd : ts = [] := List.eq_nil_of_length_eq_zero h0
  subst hd
  exact (sort0E_c w0 none 0 (.func (.func 40) #[] #[])).mono fun v w' ⟨hv, hw⟩ => ⟨hv, ⟨[], [], List.Perm.refl _, List.Pairwise.nil, World.ownsRow_nil _ _ _ _, rfl, fun i e row h => by simp at h⟩, Ext.chg hw⟩
 ·have hFg : ¬ F g := hF g rfl
  obtain ⟨d, hd1, hd2⟩ : ∃ d : List (ERow F w0), d.map (·.e) = ts ∧ d.map encE = rows := erows_of hr
  have hdl : d.length = ts.length := by rw [← hd1, List.length_map]
  have he : ∀ x : ERow F w0, (encE x).length = 3 := fun x => x.len
  have ht : ∀ w, (isAgg (Tryz.sortEd_ren.t 24)).run Tryz.prog w = .ok true w := fun w => aggB.run agg39 w
  have hs : ∀ w, (Go.sizeOf (Tryz.sortEd_ren.t 24)).run Tryz.prog w = .ok 3 w := fun w => siz39.run w
  have hH := own_holdsK encE 3 (by decide) he (d := d) (by rw [hd2]; exact h) hdl
  have hblk : g < w0.heap.size := (Array.getElem?_eq_some_iff.1 hg).1
  have hc : CmpLays Tryz.prog 40 #[] encE 3 cfE g 0 d.toArray.size w0 := fun m os dk _ x y => by
   have hch := sortWR_chg encE 3 w0 g 0 m dk os
   obtain ⟨ua, uc, h1, h2⟩ := x.at (hch.mono fun y _ h => h) hFg
   obtain ⟨ua2, uc2, h3, h4⟩ := y.at (hch.mono fun y _ h => h) hFg
   rw [show encE x = _ from h1, show encE y = _ from h3]
   refine Calls.mono (edges2_c _ x.e y.e ua ua2 uc uc2 h2 h4) ?_
   rintro e w' ⟨v, rfl, rfl, hx⟩
   obtain ⟨q, os', hw⟩ := Ext.grown hx
   exact ⟨rfl, q, os', hw⟩
  have hcon := AnyQ.slices_SortFunc Tryz.sortEd 3 ht hs encE he (fun x u hu => x.one u hu) cfE swoE 40 #[] g 0 cap d.toArray w0 eg hc hH hblk (by simp; omega)
  have hz : ts.length = d.toArray.size := by simp [hdl]
  rw [hz]
  refine Calls.mono hcon ?_
  rintro e w' ⟨rfl, d', n, os, hp, hso, rfl⟩
  have hsz : d'.size = d.length := by have := hp.1; simpa using this
  have hperm : d'.toList.Perm d := by
   have h3 := hp.2.2
   simp only [List.size_toArray] at h3
   rw [show d.length = d'.size from hsz.symm, Array.extract_size] at h3
   rw [hsz] at h3
   simpa using h3
  refine ⟨_, rfl, rfl, ⟨d'.toList.map (·.e), d'.toList.map encE, by rw [← hd1]; exact hperm.map _, ?_, ?_, ?_⟩, (sortWR_chg encE 3 w0 g 0 n d' os).mono fun x _ hx => by subst hx; rfl⟩
  ·rw [List.pairwise_map, List.pairwise_iff_getElem]
   intro i j hi hj hij
   have h4 := hso i j (Nat.zero_le _) hij (by simp at hj ⊢; omega)
   simp only [Array.length_toList] at hi hj
   rw [getElem!_pos d' i hi, getElem!_pos d' j hj] at h4
   have h5 : ¬ edO d'[j].e d'[i].e < 0 := of_decide_eq_false h4
   have h6 := sy_ed d'[i].e d'[j].e
   unfold Sy at h6
   simp only [Array.getElem_toList]
   omega
  ·have h7 := own_sorted encE 3 (by decide) he (m := n) (os := os) (d := d'.toList) h (by rw [Array.length_toList, hsz, hdl])
   rw [Array.toArray_toList] at h7
   rw [List.length_map, Array.length_toList, hsz, hdl, ← hz]
   exact h7
  ·have hq : EdsF F w0 (d'.toList.map (·.e)) (d'.toList.map encE) := ⟨by simp, fun i e row h1 h2 => by
    rw [List.getElem?_map] at h1 h2
    obtain ⟨x, hx, rfl⟩ := Option.map_eq_some_iff.1 h1
    rw [hx] at h2
    cases h2
    exact x.h⟩
   exact hq.chg (sortWR_chg encE 3 w0 g 0 n d' os) fun y hy h => hFg (by have h' : y = g := h; rw [← h']; exact hy)
end Go.Proofs
namespace Go.Proofs
open Go Go.Eng
set_option maxRecDepth 100000
theorem WpL_val0 {P : Program} {N : Nat} {Q : Post} {σ : Env} {w : World} {K : Env → World → Prop} {ops : Array Oper} {rest : List Oper} {o : Oper} (hg : o.guard = none) (hd : o.dst = none) {v : Value} {w' : World}
  (hr : (execOp (ev σ) o).run P w = .ok (.value v) w') (k : WpL P N ops K Q rest σ w') : WpL P N ops K Q (o :: rest) σ w := by
 intro dz a ha he
 refine wpList_plain hg fun K' hK => ?_
 unfold Oper.wp
 rw [eval_env, he, hr]
 simp only [Oper.upon, hd]
 exact hK _ _ (k dz a ha he)
theorem s_clear {P : Program} {N : Nat} {Q : Post} {σ : Env} {w : World} {K : Env → World → Prop} {ops : Array Oper} {rest : List Oper} {ty : TypeId} {pos : String} {af : Array Edge} {t e : TypeId} {x : Operand} {b o m cc : Nat} {c c' : Array Value} {z : Value} (hu : P.underlying t = some (.slice e)) (hz : Zer P e z) (hx : ev σ x = .slice (some ⟨b, o, none⟩) m cc) (hm : 0 < m) (hB : Blk w b c e) (h1 : ∀ v ∈ (Builtin.zeroCells z.cells m).toList, v.oneCell' = true)
  (ho : o + m * z.cells.size ≤ c.size) (hc : (c.toList.take o ++ (Builtin.zeroCells z.cells m).toList ++ c.toList.drop (o + m * z.cells.size)).toArray = c')
  (k : ∀ w', Put w w' b c' e → WpL P N ops K Q rest σ w') : WpL P N ops K Q (⟨none, .call ⟨.builtin .clear, #[x], #[t]⟩, ty, pos, af, none⟩ :: rest) σ w := by
 subst hc
 have hl : (Builtin.zeroCells z.cells m).toList.length = m * z.cells.size := by simp [Builtin.zeroCells]
 have hst := run_storeCells_at P b o e (Builtin.zeroCells z.cells m).toList 0 c w hB (by rw [hl]; simpa using ho) h1
 simp only [Nat.add_zero, hl] at hst
 refine WpL_val0 (v := .tuple #[]) (w' := w.setRow b _) rfl rfl ?_ (k _ (Put.of_setRow hB _))
 obtain ⟨m', rfl⟩ : ∃ m', m = m' + 1 := ⟨m - 1, by omega⟩
 simp [execOp, resolve, invoke, builtin, Builtin.clear_, hx, run_underlying hu, hz.run, hst]
end Go.Proofs
