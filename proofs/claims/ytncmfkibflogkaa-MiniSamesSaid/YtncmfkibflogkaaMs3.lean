/- Contracts and plain lemmas, part 3. -/
import Derived.Tactics
import Derived.Deep.Quiet
import Derived.Laws.AppendOwn
import Derived.KernelRfl
import Derived.Laws.Entries
import Derived.Laws.Build
import Derived.Below
import Derived.RowKit3
import Derived.StillTail
import Derived.Sort.Grow
import Derived.Deep.Draws
import Derived.Test.YtncmfkibflogkaaChecked
import Derived.Laws.StructEq
import Derived.MapKept
import Derived.Laws.BytesArg
import Derived.Laws.CopyRow
import Derived.DeepKeys3
import Derived.OpenShut
import Derived.ChangeSlices
import Derived.Test.YtncmfkibflogkaaMs2
namespace Go.Proofs
open Go Go.Eng Go.Sort
set_option maxRecDepth 100000
theorem run_copyOp {P : Program} {σ : Env} {w : World} {dst : Option Tmp} {ty : TypeId} {pos : String} {af : Array Edge} {g0 : Option (Nat × Bool)} {t e : TypeId} {x y : Operand} {g o dl dc sb so sl sc : Nat} {cur c' : Array Value} {T : TypeId} {cs : List Value} (hu : P.underlying t = some (.slice e)) (hs : Siz P e 1) (hx : ev σ x = .slice (some ⟨g, o, none⟩) dl dc) (hy : ev σ y = .slice (some ⟨sb, so, none⟩) sl sc)
    (hB : Blk w g cur T) (hcs : CellsAt w sb so cs) (hn : cs.length = Nat.min sl dl) (hfit : o + cs.length ≤ cur.size) (h1 : ∀ v ∈ cs, v.oneCell' = true) (hc : (cur.toList.take o ++ cs ++ cur.toList.drop (o + cs.length)).toArray = c') :
    (execOp (ev σ) ⟨dst, .call ⟨.builtin .copy, #[x, y], #[t, t]⟩, ty, pos, af, g0⟩).run P w = .ok (.value (.int .i64 ((cs.length : Nat) : Int))) (w.setRow g c') := by
  subst hc
  have hr := run_copy_row (P := P) w t t ty e g o dl dc ⟨sb, so, none⟩ sl sc cur T cs hu hs hB hn (fun j v hj => by rw [Addr.add_lit]; exact hcs j v hj) hfit h1
  simp [execOp, resolve, invoke, builtin, hx, hy, hr, goInt]
theorem s_copy {P : Program} {N : Nat} {Q : Post} {σ : Env} {w : World} {K : Env → World → Prop} {ops : Array Oper} {rest : List Oper} {d : Nat} {ty : TypeId} {pos : String} {af : Array Edge} {t e : TypeId} {x y : Operand} {g o dl dc sb so sl sc : Nat} {cur c' : Array Value} {T : TypeId} {cs : List Value} (hN : d < N) (hu : P.underlying t = some (.slice e)) (hs : Siz P e 1) (hx : ev σ x = .slice (some ⟨g, o, none⟩) dl dc) (hy : ev σ y = .slice (some ⟨sb, so, none⟩) sl sc)
    (hB : Blk w g cur T) (hcs : CellsAt w sb so cs) (hn : cs.length = Nat.min sl dl) (hfit : o + cs.length ≤ cur.size) (h1 : ∀ v ∈ cs, v.oneCell' = true) (hc : (cur.toList.take o ++ cs ++ cur.toList.drop (o + cs.length)).toArray = c')
    (k : ∀ w', Put w w' g c' T → WpL P N ops K Q rest (upd σ d (.int .i64 ((cs.length : Nat) : Int))) w') : WpL P N ops K Q (⟨some d, .call ⟨.builtin .copy, #[x, y], #[t, t]⟩, ty, pos, af, none⟩ :: rest) σ w :=
  WpL_val rfl rfl hN (run_copyOp hu hs hx hy hB hcs hn hfit h1 hc) (k _ (Put.of_setRow hB _))
theorem DoesT_copy {P : Program} {N : Nat} {σ : Env} {w : World} {M : Nat → Prop} {R : Fct} {dst : Option Tmp} {ty : TypeId} {pos : String} {af : Array Edge} {g0 : Option (Nat × Bool)} {t e : TypeId} {x y : Operand} {g o dl dc sb so sl sc : Nat} {cur c' : Array Value} {T : TypeId} {cs : List Value} (hu : P.underlying t = some (.slice e)) (hs : Siz P e 1) (hx : ev σ x = .slice (some ⟨g, o, none⟩) dl dc) (hy : ev σ y = .slice (some ⟨sb, so, none⟩) sl sc)
    (hB : Blk w g cur T) (hcs : CellsAt w sb so cs) (hn : cs.length = Nat.min sl dl) (hfit : o + cs.length ≤ cur.size) (h1 : ∀ v ∈ cs, v.oneCell' = true) (hc : (cur.toList.take o ++ cs ++ cur.toList.drop (o + cs.length)).toArray = c') (hM : M g)
    (hR : ∀ w', Blk w' g c' T → R (.int .i64 ((cs.length : Nat) : Int)) w') : DoesT M P N ⟨dst, .call ⟨.builtin .copy, #[x, y], #[t, t]⟩, ty, pos, af, g0⟩ R σ w := by
  have hp := Put.of_setRow hB c'
  exact DoesT_val (run_copyOp hu hs hx hy hB hcs hn hfit h1 hc) (hp.chg.mono fun z _ h => by subst h; exact hM) (hR _ hp.blk)
theorem ofInt64 (m : Nat) (h : m < 18446744073709551616) : (BitVec.ofInt 64 (m : Int)).toNat = m := by
  rw [BitVec.toNat_ofInt]; omega
theorem and64 {P : Program} {w : World} (m : Nat) (hm : m < 4294967296) : (Op.intBits .and .u64 (m : Int) 4294967295).run P w = .ok (.int .u64 (m : Int)) w := by
  have h1 : m &&& 4294967295 = m := by
    have := Nat.and_two_pow_sub_one_eq_mod m 32
    rw [show (2 : Nat) ^ 32 - 1 = 4294967295 by decide] at this
    rw [this]; omega
  show Result.ok (Value.int .u64 (IntKind.u64.wrap ((BitVec.ofInt 64 (m : Int) &&& BitVec.ofInt 64 (((4294967295 : Nat) : Nat) : Int) : BitVec 64).toNat : Int))) w = _
  rw [BitVec.toNat_and, ofInt64 m (by omega), ofInt64 _ (by decide), h1, wU64 (by omega)]
theorem shr32 {n : Int} (h : 0 ≤ n ∧ n < 4294967296) : n.fdiv (2 ^ min (Int.toNat 32) IntKind.u64.bits) = 0 := by
  show n.fdiv 4294967296 = 0
  rw [Int.fdiv_eq_ediv_of_nonneg n (by decide)]
  omega
theorem mul64_c (w0 : World) (m n : Nat) (hm : m ≤ 60000) (hn : n ≤ 60000) : Ret Try.prog 115 #[.int .u64 (m : Int), .int .u64 (n : Int)] w0 fun r w => r = .tuple #[.int .u64 0, .int .u64 ((m * n : Nat) : Int)] ∧ Ext w0 w := by
  have hmn : m * n ≤ 60000 * 60000 := Nat.mul_le_mul hm hn
  have hc : ((m : Int) * (n : Int)) = ((m * n : Nat) : Int) := by simp
  refine Ret_of Try.func115 rfl Try.ntmps115 (Nat.le_of_ble_eq_true rfl) ?_
  have E : Chg none1 w0 w0 := Chg.refl _ _
  refine Wp_seq_region ?_
  refine WpL_val rfl rfl (by decide) (r_assign (v := (.int .u64 0)) rfl) ?_
  refine WpL_val rfl rfl (by decide) (r_assign (v := (.int .u64 0)) rfl) ?_
  refine WpL_nil ?_
  refine Wp_seq_region ?_
  refine WpL_val rfl rfl (by decide) (r_move (v := (.int .u64 ((m : Nat) : Int))) rfl) ?_
  refine WpL_val rfl rfl (by decide) (r_bits (k := .u64) (a := ((m : Nat) : Int)) (b := 4294967295) (v := .int .u64 ((m : Nat) : Int)) rfl rfl (by simp) (and64 m (by omega))) ?_
  refine WpL_val rfl rfl (by decide) (r_assign (v := (.int .u64 ((m : Nat) : Int))) rfl) ?_
  refine WpL_nil ?_
  refine Wp_seq_region ?_
  refine WpL_val rfl rfl (by decide) (r_move (v := (.int .u64 ((m : Nat) : Int))) rfl) ?_
  refine WpL_val rfl rfl (by decide) (r_shr (k := .u64) (a := ((m : Nat) : Int)) (b := 32) (c := 0) (k' := .u64) rfl rfl (by omega) (shr32 (by omega))) ?_
  refine WpL_val rfl rfl (by decide) (r_assign (v := (.int .u64 0)) rfl) ?_
  refine WpL_nil ?_
  refine Wp_seq_region ?_
  refine WpL_val rfl rfl (by decide) (r_move (v := (.int .u64 ((n : Nat) : Int))) rfl) ?_
  refine WpL_val rfl rfl (by decide) (r_bits (k := .u64) (a := ((n : Nat) : Int)) (b := 4294967295) (v := .int .u64 ((n : Nat) : Int)) rfl rfl (by simp) (and64 n (by omega))) ?_
  refine WpL_val rfl rfl (by decide) (r_assign (v := (.int .u64 ((n : Nat) : Int))) rfl) ?_
  refine WpL_nil ?_
  refine Wp_seq_region ?_
  refine WpL_val rfl rfl (by decide) (r_move (v := (.int .u64 ((n : Nat) : Int))) rfl) ?_
  refine WpL_val rfl rfl (by decide) (r_shr (k := .u64) (a := ((n : Nat) : Int)) (b := 32) (c := 0) (k' := .u64) rfl rfl (by omega) (shr32 (by omega))) ?_
  refine WpL_val rfl rfl (by decide) (r_assign (v := (.int .u64 0)) rfl) ?_
  refine WpL_nil ?_
  refine Wp_seq_region ?_
  refine WpL_val rfl rfl (by decide) (r_move (v := (.int .u64 ((m : Nat) : Int))) rfl) ?_
  refine WpL_val rfl rfl (by decide) (r_move (v := (.int .u64 ((n : Nat) : Int))) rfl) ?_
  refine WpL_val rfl rfl (by decide) (r_mul (k := .u64) (a := ((m : Nat) : Int)) (b := ((n : Nat) : Int)) (c := ((m * n : Nat) : Int)) rfl rfl (by rw [hc]; exact wU64 (by omega))) ?_
  refine WpL_val rfl rfl (by decide) (r_assign (v := (.int .u64 ((m * n : Nat) : Int))) rfl) ?_
  refine WpL_nil ?_
  refine Wp_seq_region ?_
  refine WpL_val rfl rfl (by decide) (r_move (v := (.int .u64 0)) rfl) ?_
  refine WpL_val rfl rfl (by decide) (r_move (v := (.int .u64 ((n : Nat) : Int))) rfl) ?_
  refine WpL_val rfl rfl (by decide) (r_mul (k := .u64) (a := 0) (b := ((n : Nat) : Int)) (c := 0) rfl rfl (by rw [Int.zero_mul]; rfl)) ?_
  refine WpL_val rfl rfl (by decide) (r_move (v := (.int .u64 ((m * n : Nat) : Int))) rfl) ?_
  refine WpL_val rfl rfl (by decide) (r_shr (k := .u64) (a := ((m * n : Nat) : Int)) (b := 32) (c := 0) (k' := .u64) rfl rfl (by omega) (shr32 (by omega))) ?_
  refine WpL_val rfl rfl (by decide) (r_add (k := .u64) (a := 0) (b := 0) (c := 0) rfl rfl (by rfl)) ?_
  refine WpL_val rfl rfl (by decide) (r_assign (v := (.int .u64 0)) rfl) ?_
  refine WpL_nil ?_
  refine Wp_seq_region ?_
  refine WpL_val rfl rfl (by decide) (r_move (v := (.int .u64 0)) rfl) ?_
  refine WpL_val rfl rfl (by decide) (r_bits (k := .u64) (a := 0) (b := 4294967295) (v := .int .u64 0) rfl rfl (by simp) (and64 0 (by decide))) ?_
  refine WpL_val rfl rfl (by decide) (r_assign (v := (.int .u64 0)) rfl) ?_
  refine WpL_nil ?_
  refine Wp_seq_region ?_
  refine WpL_val rfl rfl (by decide) (r_move (v := (.int .u64 0)) rfl) ?_
  refine WpL_val rfl rfl (by decide) (r_shr (k := .u64) (a := 0) (b := 32) (c := 0) (k' := .u64) rfl rfl (by omega) (shr32 (by omega))) ?_
  refine WpL_val rfl rfl (by decide) (r_assign (v := (.int .u64 0)) rfl) ?_
  refine WpL_nil ?_
  refine Wp_seq_region ?_
  refine WpL_val rfl rfl (by decide) (r_move (v := (.int .u64 0)) rfl) ?_
  refine WpL_val rfl rfl (by decide) (r_move (v := (.int .u64 ((m : Nat) : Int))) rfl) ?_
  refine WpL_val rfl rfl (by decide) (r_move (v := (.int .u64 0)) rfl) ?_
  refine WpL_val rfl rfl (by decide) (r_mul (k := .u64) (a := ((m : Nat) : Int)) (b := 0) (c := 0) rfl rfl (by rw [Int.mul_zero]; rfl)) ?_
  refine WpL_val rfl rfl (by decide) (r_add (k := .u64) (a := 0) (b := 0) (c := 0) rfl rfl (by rfl)) ?_
  refine WpL_val rfl rfl (by decide) (r_assign (v := (.int .u64 0)) rfl) ?_
  refine WpL_nil ?_
  refine Wp_seq_region ?_
  refine WpL_val rfl rfl (by decide) (r_move (v := (.int .u64 0)) rfl) ?_
  refine WpL_val rfl rfl (by decide) (r_move (v := (.int .u64 0)) rfl) ?_
  refine WpL_val rfl rfl (by decide) (r_mul (k := .u64) (a := 0) (b := 0) (c := 0) rfl rfl (by rfl)) ?_
  refine WpL_val rfl rfl (by decide) (r_move (v := (.int .u64 0)) rfl) ?_
  refine WpL_val rfl rfl (by decide) (r_add (k := .u64) (a := 0) (b := 0) (c := 0) rfl rfl (by rfl)) ?_
  refine WpL_val rfl rfl (by decide) (r_move (v := (.int .u64 0)) rfl) ?_
  refine WpL_val rfl rfl (by decide) (r_shr (k := .u64) (a := 0) (b := 32) (c := 0) (k' := .u64) rfl rfl (by omega) (shr32 (by omega))) ?_
  refine WpL_val rfl rfl (by decide) (r_add (k := .u64) (a := 0) (b := 0) (c := 0) rfl rfl (by rfl)) ?_
  refine WpL_val rfl rfl (by decide) (r_assign (v := (.int .u64 0)) rfl) ?_
  refine WpL_nil ?_
  refine Wp_seq_region ?_
  refine WpL_val rfl rfl (by decide) (r_move (v := (.int .u64 ((m : Nat) : Int))) rfl) ?_
  refine WpL_val rfl rfl (by decide) (r_move (v := (.int .u64 ((n : Nat) : Int))) rfl) ?_
  refine WpL_val rfl rfl (by decide) (r_mul (k := .u64) (a := ((m : Nat) : Int)) (b := ((n : Nat) : Int)) (c := ((m * n : Nat) : Int)) rfl rfl (by rw [hc]; exact wU64 (by omega))) ?_
  refine WpL_val rfl rfl (by decide) (r_assign (v := (.int .u64 ((m * n : Nat) : Int))) rfl) ?_
  refine WpL_nil ?_
  refine Wp_ret ?_
  refine fin_tmp2 Try.results115 (v := (.int .u64 0)) (v' := (.int .u64 ((m * n : Nat) : Int))) rfl rfl ?_
  exact ⟨rfl, E⟩
theorem mul_c (w0 : World) (m n : Nat) (hm : m ≤ 60000) (hn : n ≤ 60000) : Ret Try.prog 90 #[.int .u64 (m : Int), .int .u64 (n : Int)] w0 fun r w => r = .tuple #[.int .u64 0, .int .u64 ((m * n : Nat) : Int)] ∧ Ext w0 w := by
  refine Ret_of Try.func90 rfl Try.ntmps90 (Nat.le_of_ble_eq_true rfl) ?_
  have E : Chg none1 w0 w0 := Chg.refl _ _
  refine Wp_seq_region ?_
  refine WpL_val rfl rfl (by decide) (r_assign (v := (.int .u64 0)) rfl) ?_
  refine WpL_val rfl rfl (by decide) (r_assign (v := (.int .u64 0)) rfl) ?_
  refine WpL_nil ?_
  refine Wp_seq ?_
  refine Wp_cond_false rfl ?_
  refine Wp_skip ?_
  refine thn_normal ?_
  refine Wp_seq_region ?_
  refine WpL_val rfl rfl (by decide) (r_move (v := (.int .u64 ((m : Nat) : Int))) rfl) ?_
  refine WpL_val rfl rfl (by decide) (r_move (v := (.int .u64 ((n : Nat) : Int))) rfl) ?_
  refine WpL_enter rfl rfl (by decide) (r_callF (vs := [(.int .u64 ((m : Nat) : Int)), (.int .u64 ((n : Nat) : Int))]) Try.func115 nm115 bd115 rfl) (mul64_c _ m n hm hn) ?_
  rintro _ w9 ⟨rfl, X9⟩
  replace E := E.ext X9
  refine WpL_val rfl rfl (by decide) (r_move (v := (.tuple #[(.int .u64 0), (.int .u64 ((m * n : Nat) : Int))])) rfl) ?_
  refine WpL_val rfl rfl (by decide) (r_extract (vs := #[(.int .u64 0), (.int .u64 ((m * n : Nat) : Int))]) (v := (.int .u64 0)) rfl rfl) ?_
  refine WpL_val rfl rfl (by decide) (r_extract (vs := #[(.int .u64 0), (.int .u64 ((m * n : Nat) : Int))]) (v := (.int .u64 ((m * n : Nat) : Int))) rfl rfl) ?_
  refine WpL_val rfl rfl (by decide) (r_assign (v := (.int .u64 0)) rfl) ?_
  refine WpL_val rfl rfl (by decide) (r_assign (v := (.int .u64 ((m * n : Nat) : Int))) rfl) ?_
  refine WpL_nil ?_
  refine Wp_seq_region ?_
  refine WpL_val rfl rfl (by decide) (r_move (v := (.int .u64 0)) rfl) ?_
  refine WpL_val rfl rfl (by decide) (r_move (v := (.int .u64 ((m * n : Nat) : Int))) rfl) ?_
  refine WpL_val rfl rfl (by decide) (r_assign (v := (.int .u64 0)) rfl) ?_
  refine WpL_val rfl rfl (by decide) (r_assign (v := (.int .u64 ((m * n : Nat) : Int))) rfl) ?_
  refine WpL_nil ?_
  refine Wp_ret ?_
  refine fin_tmp2 Try.results90 (v := (.int .u64 0)) (v' := (.int .u64 ((m * n : Nat) : Int))) rfl rfl ?_
  exact ⟨rfl, E⟩
def repV (y : Int) (m n : Nat) : List Value := (List.replicate m y ++ List.replicate (n - m) 0).map (Value.int .i64)
theorem repV_take (y : Int) {m n k : Nat} (h : k ≤ m) : (repV y m n).take k = List.replicate k (Value.int .i64 y) := by
  simp only [repV, List.map_append, List.map_replicate]
  rw [List.take_append_of_le_length (by simp; omega), List.take_replicate, Nat.min_eq_left h]
theorem repV_copy (y : Int) {m n k : Nat} (h : m + k ≤ n) : ((repV y m n).toArray.toList.take m ++ List.replicate k (Value.int .i64 y) ++ (repV y m n).toArray.toList.drop (m + k)).toArray = (repV y (m + k) n).toArray := by
  have e1 := repV_take y (m := m) (n := n) (k := m) (Nat.le_refl _)
  have e2 : (repV y m n).drop (m + k) = List.replicate (n - (m + k)) (Value.int .i64 0) := by
    simp only [repV, List.map_append, List.map_replicate]
    rw [List.drop_append, List.drop_of_length_le (by simp), List.length_replicate, List.drop_replicate, List.nil_append]
    congr 1; omega
  show ((repV y m n).take m ++ List.replicate k (Value.int .i64 y) ++ (repV y m n).drop (m + k)).toArray = _
  rw [e1, e2]
  simp only [repV, List.map_append, List.map_replicate, List.replicate_append_replicate]
set_option maxHeartbeats 1000000 in
theorem repeat_c (w0 : World) (b sc n : Nat) (y : Int) (T : TypeId) (hB : Blk w0 b #[.int .i64 y] T) (h1 : 1 ≤ n) (hn : n ≤ 60000) :
    Ret Try.prog 55 #[.slice (some ⟨b, 0, none⟩) 1 sc, .int .i64 ((n : Nat) : Int)] w0 fun r w => (∃ g, r = .slice (some ⟨g, 0, none⟩) n n ∧ w0.heap.size ≤ g ∧ Blk w g ((List.replicate n y).map (Value.int .i64)).toArray 3) ∧ Ext w0 w := by
  have hbl := hB.lt
  refine Ret_of Try.func55 rfl Try.ntmps55 (Nat.le_of_ble_eq_true rfl) ?_
  have E : Chg none1 w0 w0 := Chg.refl _ _
  refine Wp_seq_region ?_
  refine WpL_val rfl rfl (by decide) (r_assign (v := (.slice none 0 0)) rfl) ?_
  refine WpL_nil ?_
  refine Wp_seq ?_
  refine Wp_seq_region ?_
  refine WpL_val rfl rfl (by decide) (r_move (v := (.int .i64 ((n : Nat) : Int))) rfl) ?_
  refine WpL_val rfl rfl (by decide) (r_lss (k := .i64) (a := ((n : Nat) : Int)) (b := 0) rfl rfl) ?_
  refine WpL_nil ?_
  have hc1 : (decide ((((n : Nat) : Int) : Int) < 0)) = false := decide_eq_false (by omega)
  refine Wp_cond_false (congrArg Value.bool hc1) ?_
  refine Wp_skip ?_
  refine thn_normal ?_
  refine Wp_seq_region ?_
  refine WpL_val rfl rfl (by decide) (r_move (v := (.slice (some ⟨b, 0, none⟩) 1 sc)) rfl) ?_
  refine WpL_val rfl rfl (by decide) (r_lenSlice (ad := some ⟨b, 0, none⟩) (n := 1) (cap := sc) Try.underlying22 rfl) ?_
  refine WpL_val rfl rfl (by decide) (r_convInt (k := .i64) (k' := .u64) (n := 1) (c := ((1 : Nat) : Int)) ⟨_, Try.underlying3⟩ Try.underlying106 rfl (rfl)) ?_
  refine WpL_val rfl rfl (by decide) (r_move (v := (.int .i64 ((n : Nat) : Int))) rfl) ?_
  refine WpL_val rfl rfl (by decide) (r_convInt (k := .i64) (k' := .u64) (n := ((n : Nat) : Int)) (c := ((n : Nat) : Int)) ⟨_, Try.underlying3⟩ Try.underlying106 rfl (wU64 (by omega))) ?_
  refine WpL_enter rfl rfl (by decide) (r_callF (vs := [(.int .u64 ((1 : Nat) : Int)), (.int .u64 ((n : Nat) : Int))]) Try.func90 nm90 bd90 rfl) (mul_c _ 1 n (by decide) hn) ?_
  rintro _ w9 ⟨rfl, X9⟩
  replace hB := X9.keep hB
  replace E := E.ext X9
  refine WpL_val rfl rfl (by decide) (r_move (v := (.tuple #[(.int .u64 0), (.int .u64 ((1 * n : Nat) : Int))])) rfl) ?_
  refine WpL_val rfl rfl (by decide) (r_extract (vs := #[(.int .u64 0), (.int .u64 ((1 * n : Nat) : Int))]) (v := (.int .u64 0)) rfl rfl) ?_
  refine WpL_val rfl rfl (by decide) (r_extract (vs := #[(.int .u64 0), (.int .u64 ((1 * n : Nat) : Int))]) (v := (.int .u64 ((1 * n : Nat) : Int))) rfl rfl) ?_
  refine WpL_val rfl rfl (by decide) (r_assign (v := (.int .u64 0)) rfl) ?_
  refine WpL_val rfl rfl (by decide) (r_assign (v := (.int .u64 ((1 * n : Nat) : Int))) rfl) ?_
  refine WpL_nil ?_
  refine Wp_seq ?_
  refine Wp_seq_region ?_
  refine WpL_val rfl rfl (by decide) (r_move (v := (.int .u64 0)) rfl) ?_
  refine WpL_val rfl rfl (by decide) (r_gtr (k := .u64) (a := 0) (b := 0) rfl rfl) ?_
  refine WpL_val rfl rfl (by decide) (r_move (v := (.bool false)) rfl) ?_
  refine WpL_guard_yes (oj := _) rfl rfl (by decide) rfl ?_
  refine WpL_val rfl rfl (by decide) (r_move (v := (.int .u64 ((1 * n : Nat) : Int))) rfl) ?_
  refine WpL_guard_yes (oj := _) rfl rfl (by decide) rfl ?_
  obtain ⟨e2, he2⟩ : ∃ e, (decide ((9223372036854775807 : Int) < ((1 * n : Nat) : Int))) = e := ⟨_, rfl⟩
  refine WpL_val rfl rfl (by decide) ((r_gtr (k := .u64) (a := ((1 * n : Nat) : Int)) (b := 9223372036854775807) rfl rfl).trans (by rw [he2]; try rfl)) ?_
  refine WpL_val rfl rfl (by decide) (r_pick (b := false) (v := (.bool e2)) rfl rfl) ?_
  refine WpL_nil ?_
  subst he2
  have hc3 : ((decide ((9223372036854775807 : Int) < ((1 * n : Nat) : Int)))) = false := decide_eq_false (by omega)
  refine Wp_cond_false (congrArg Value.bool hc3) ?_
  refine Wp_skip ?_
  refine thn_normal ?_
  refine Wp_seq_region ?_
  refine WpL_val rfl rfl (by decide) (r_move (v := (.int .u64 ((1 * n : Nat) : Int))) rfl) ?_
  refine WpL_val rfl rfl (by decide) (r_convInt (k := .u64) (k' := .i64) (n := ((1 * n : Nat) : Int)) (c := ((n : Nat) : Int)) ⟨_, Try.underlying106⟩ Try.underlying3 rfl ((wI64 (by omega)).trans (by omega))) ?_
  refine s_make (n := n) (z := (.int .i64 0)) (bytes := 8) (by decide) Try.underlying22 siz3 byt3 zer3 rfl rfl rfl (by omega) (by omega) ?_
  intro bz wz Nz
  have Fz := Nz.ge E
  have Oz_b := Nz.lt hB
  replace hB := Nz.keep hB
  replace E := E.ext Nz.ext
  have Bz := Nz.blk
  refine WpL_val rfl rfl (by decide) (r_assign (v := (.slice (some ⟨bz, 0, none⟩) n n)) rfl) ?_
  refine WpL_nil ?_
  refine Wp_seq_region ?_
  refine WpL_val rfl rfl (by decide) (r_move (v := (.slice (some ⟨bz, 0, none⟩) n n)) rfl) ?_
  refine WpL_val rfl rfl (by decide) (r_move (v := (.slice (some ⟨b, 0, none⟩) 1 sc)) rfl) ?_
  rw [show List.replicate n (Value.int .i64 0) = repV y 0 n by simp [repV]] at Bz
  refine s_copy (g := bz) (o := 0) (cs := [Value.int .i64 y]) (c' := (repV y 1 n).toArray) (by decide) Try.underlying22 siz3 rfl rfl Bz (hB.cells rfl) (by show 1 = Nat.min 1 n; simp only [Nat.min_def]; split <;> omega) (by simp [repV]; omega) (by simp [Value.oneCell']) (repV_copy y (m := 0) (k := 1) (by omega)) ?_
  intro w4 S4
  replace hB := S4.keep (by omega) hB
  replace E := S4.step E (by first | exact Or.inl (by omega) | exact Or.inr rfl | exact Or.inr (by assumption) | exact Or.inr (by simp) | exact Or.inr (by omega) | exact Or.inr (by dsimp only; omega))
  replace Bz := S4.blk
  refine WpL_val rfl rfl (by decide) (r_assign (v := (.int .i64 1)) rfl) ?_
  refine WpL_nil ?_
  refine Wp_seq ?_
  refine Wp_block ?_
  refine Wp_loop (fun nn_ σ W5 => ∃ (m : Nat), (∃ jj_, σ = upds jj_ [(7, (.slice (some ⟨bz, 0, none⟩) n n)), (8, (.int .i64 ((m : Nat) : Int)))]) ∧ Chg none1 w0 W5 ∧ Blk W5 b #[(.int .i64 y)] T ∧ Blk W5 bz ((repV y m n).toArray) 3 ∧ (1 ≤ m ∧ m ≤ n) ∧ nn_ = n - m) (n := n - 1) ?_ ?_
  · exact ⟨1, Fits.out ⟨rfl, rfl, trivial⟩, E, hB, Bz, ⟨Nat.le_refl _, h1⟩, rfl⟩
  · clear E hB Bz
    rintro _ _ W5 ⟨m, ⟨j5, rfl⟩, E, hB, Bz, hm, rfl⟩
    refine Wp_seq ?_
    refine Wp_seq_region ?_
    refine WpL_val rfl rfl (by decide) (r_move (v := (.int .i64 ((m : Nat) : Int))) rfl) ?_
    refine WpL_val rfl rfl (by decide) (r_move (v := (.slice (some ⟨bz, 0, none⟩) n n)) rfl) ?_
    refine WpL_val rfl rfl (by decide) (r_lenSlice (ad := some ⟨bz, 0, none⟩) (n := n) (cap := n) Try.underlying22 rfl) ?_
    refine WpL_val rfl rfl (by decide) (r_lss (k := .i64) (a := ((m : Nat) : Int)) (b := ((n : Nat) : Int)) rfl rfl) ?_
    refine WpL_nil ?_
    refine Wp_cond (b := decide ((((m : Nat) : Int) : Int) < ((n : Nat) : Int))) rfl (fun hlt => ?_) (fun hlt => ?_)
    · have khlt := hlt
      replace hlt := of_decide_eq_true hlt
      obtain ⟨k, hk⟩ : ∃ k, k = Nat.min m (n - m) := ⟨_, rfl⟩
      have hk1 : 1 ≤ k ∧ k ≤ m ∧ m + k ≤ n := by rw [hk]; simp only [Nat.min_def]; split <;> omega
      refine Wp_skip ?_
      refine thn_normal ?_
      refine Wp_block ?_
      obtain ⟨Fs7, hFs7⟩ : ∃ Fs : List (FactT ((fun q => q = bz))), Fs = [.eq (.int .i64 ((m : Nat) : Int)), .eq (.slice (some ⟨bz, 0, none⟩) n n), .eq (.int .i64 ((m : Nat) : Int)), .eq (.slice (some ⟨bz, m, none⟩) (n - m) (n - m)), .eq (.slice (some ⟨bz, 0, none⟩) n n), .eq (.int .i64 ((m : Nat) : Int)), .eq (.slice (some ⟨bz, 0, none⟩) m n), .own (fun v w => v = .int .i64 ((k : Nat) : Int) ∧ Blk w bz (repV y (m + k) n).toArray 3) (fun _ _ _ e h => ⟨h.1, Ext.keep e h.2⟩), .eq (.int .i64 (((m : Nat) : Int) + ((k : Nat) : Int)))] := ⟨_, rfl⟩
      refine Wp_dagT ((fun q => q = bz)) 9 7 [38, 39, 40, 41, 42, 43, 44, 45, 46] [[], [], [], [1, 2], [], [], [4, 5], [3, 6], [0, 7]] Fs7 hFs7 rfl mixed (by kernel_rfl) (by kernel_rfl) (by kernel_rfl) ?_ ?_
      · intro wd X0
        refine DagStepsT.cons (fun s' w' X U H => ?_) ?_
        · exact DoesT_val (r_move (v := (.int .i64 ((m : Nat) : Int))) (U 8 rfl)) (Chg.refl _ _) rfl
        refine DagStepsT.cons (fun s' w' X U H => ?_) ?_
        · exact DoesT_val (r_move (v := (.slice (some ⟨bz, 0, none⟩) n n)) (U 7 rfl)) (Chg.refl _ _) rfl
        refine DagStepsT.cons (fun s' w' X U H => ?_) ?_
        · exact DoesT_val (r_move (v := (.int .i64 ((m : Nat) : Int))) (U 8 rfl)) (Chg.refl _ _) rfl
        refine DagStepsT.cons (fun s' w' X U H => ?_) ?_
        · have e39 : s' 39 = (.slice (some ⟨bz, 0, none⟩) n n) := H 1 rfl 39 (.eq (.slice (some ⟨bz, 0, none⟩) n n)) rfl (by rw [hFs7]; rfl)
          have e40 : s' 40 = (.int .i64 ((m : Nat) : Int)) := H 2 rfl 40 (.eq (.int .i64 ((m : Nat) : Int))) rfl (by rw [hFs7]; rfl)
          exact DoesT_val (r_sliceLo (a := some ⟨bz, 0, none⟩) (len := n) (cap := n) (lo := m) (l := ((m : Nat) : Int)) (n' := n - m) (c' := n - m) Try.underlying22 siz3 e39 e40 rfl (by omega) (by rw [if_neg (by omega)]; simp only [Option.map_some, Addr.add_lit, Nat.mul_one, Nat.zero_add]) rfl rfl) (Chg.refl _ _) rfl
        refine DagStepsT.cons (fun s' w' X U H => ?_) ?_
        · exact DoesT_val (r_move (v := (.slice (some ⟨bz, 0, none⟩) n n)) (U 7 rfl)) (Chg.refl _ _) rfl
        refine DagStepsT.cons (fun s' w' X U H => ?_) ?_
        · exact DoesT_val (r_move (v := (.int .i64 ((m : Nat) : Int))) (U 8 rfl)) (Chg.refl _ _) rfl
        refine DagStepsT.cons (fun s' w' X U H => ?_) ?_
        · have e42 : s' 42 = (.slice (some ⟨bz, 0, none⟩) n n) := H 4 rfl 42 (.eq (.slice (some ⟨bz, 0, none⟩) n n)) rfl (by rw [hFs7]; rfl)
          have e43 : s' 43 = (.int .i64 ((m : Nat) : Int)) := H 5 rfl 43 (.eq (.int .i64 ((m : Nat) : Int))) rfl (by rw [hFs7]; rfl)
          exact DoesT_val (r_sliceHi (a := some ⟨bz, 0, none⟩) (len := n) (cap := n) (hi := m) (l := ((m : Nat) : Int)) Try.underlying22 siz3 e42 e43 rfl (by omega) (by rw [if_neg (by omega)]; simp only [Option.map_some, Addr.add_lit, Nat.zero_mul, Nat.add_zero])) (Chg.refl _ _) rfl
        refine DagStepsT.cons (fun s' w' X U H => ?_) ?_
        · have e41 : s' 41 = (.slice (some ⟨bz, m, none⟩) (n - m) (n - m)) := H 3 rfl 41 (.eq (.slice (some ⟨bz, m, none⟩) (n - m) (n - m))) rfl (by rw [hFs7]; rfl)
          have e44 : s' 44 = (.slice (some ⟨bz, 0, none⟩) m n) := H 6 rfl 44 (.eq (.slice (some ⟨bz, 0, none⟩) m n)) rfl (by rw [hFs7]; rfl)
          exact DoesT_copy (cs := List.replicate k (Value.int .i64 y)) (c' := (repV y (m + k) n).toArray) Try.underlying22 siz3 e41 e44 (Ext.keep X (X0.keep Bz)) (Blk.cells (Ext.keep X (X0.keep Bz)) (by show ((repV y m n).drop 0).take _ = _; rw [List.drop_zero, List.length_replicate, repV_take y hk1.2.1])) (by rw [List.length_replicate]; exact hk) (by rw [List.length_replicate]; simp [repV]; omega) (by intro v hv; rw [(List.mem_replicate.1 hv).2]; rfl) (by rw [List.length_replicate]; exact repV_copy y hk1.2.2) rfl (fun w9 hb9 => ⟨by show Value.int .i64 (((List.replicate k (Value.int .i64 y)).length : Nat) : Int) = _; rw [List.length_replicate], hb9⟩)
        refine DagStepsT.cons (fun s' w' X U H => ?_) ?_
        · have e38 : s' 38 = (.int .i64 ((m : Nat) : Int)) := H 0 rfl 38 (.eq (.int .i64 ((m : Nat) : Int))) rfl (by rw [hFs7]; rfl)
          obtain ⟨e45, B45⟩ := (show (.own (fun v w => v = .int .i64 ((k : Nat) : Int) ∧ Blk w bz (repV y (m + k) n).toArray 3) (fun _ _ _ e h => ⟨h.1, Ext.keep e h.2⟩) : FactT ((fun q => q = bz))).In (s' 45) w' from H 7 rfl 45 (.own (fun v w => v = .int .i64 ((k : Nat) : Int) ∧ Blk w bz (repV y (m + k) n).toArray 3) (fun _ _ _ e h => ⟨h.1, Ext.keep e h.2⟩)) rfl (by rw [hFs7]; rfl))
          exact DoesT_val (r_add (k := .i64) (a := ((m : Nat) : Int)) (b := ((k : Nat) : Int)) (c := ((m : Nat) : Int) + ((k : Nat) : Int)) e38 e45 (wI64 (by omega))) (Chg.refl _ _) rfl
        exact DagStepsT.nil
      · intro s' wd7 w7 X0 X7 U H
        obtain ⟨e45, B45⟩ := (show (.own (fun v w => v = .int .i64 ((k : Nat) : Int) ∧ Blk w bz (repV y (m + k) n).toArray 3) (fun _ _ _ e h => ⟨h.1, Ext.keep e h.2⟩) : FactT ((fun q => q = bz))).In (s' 45) w7 from H 7 45 (.own (fun v w => v = .int .i64 ((k : Nat) : Int) ∧ Blk w bz (repV y (m + k) n).toArray 3) (fun _ _ _ e h => ⟨h.1, Ext.keep e h.2⟩)) rfl (by rw [hFs7]; rfl))
        have e46 : s' 46 = (.int .i64 (((m : Nat) : Int) + ((k : Nat) : Int))) := H 8 46 (.eq (.int .i64 (((m : Nat) : Int) + ((k : Nat) : Int)))) rfl (by rw [hFs7]; rfl)
        obtain ⟨j7, rfl⟩ := Fits.out (σ := s') (l := [(7, (.slice (some ⟨bz, 0, none⟩) n n)), (46, (.int .i64 (((m : Nat) : Int) + ((k : Nat) : Int))))]) ⟨U 7 rfl, e46, trivial⟩
        clear U H
        replace hB := Chg.keep X7 (fun h => by have h' : b = bz := h; omega) (X0.keep hB)
        replace E := (E.ext X0).step X7 (fun q hq h => by have h' : q = bz := h; omega)
        refine WpL_val rfl rfl (by decide) (r_assign (v := (.int .i64 (((m : Nat) : Int) + ((k : Nat) : Int)))) rfl) ?_
        refine WpL_nil ?_
        refine inB_normal ?_
        refine thn_normal ?_
        exact ⟨n - (m + k), by omega, m + k, Fits.out ⟨rfl, rfl, trivial⟩, E, hB, B45, (by omega), rfl⟩
    · have khlt := hlt
      replace hlt := of_decide_eq_false hlt
      have hmn : m = n := by omega
      refine Wp_exit ?_
      refine thn_exit ?_
      refine thn_exit ?_
      refine inB_here ?_
      refine thn_normal ?_
      refine Wp_seq_region ?_
      refine WpL_val rfl rfl (by decide) (r_move (v := (.slice (some ⟨bz, 0, none⟩) n n)) rfl) ?_
      refine WpL_val rfl rfl (by decide) (r_assign (v := (.slice (some ⟨bz, 0, none⟩) n n)) rfl) ?_
      refine WpL_nil ?_
      refine Wp_ret ?_
      refine fin_tmp Try.results55 (v := (.slice (some ⟨bz, 0, none⟩) n n)) rfl ?_
      rw [hmn, show repV y n n = (List.replicate n y).map (Value.int .i64) by simp [repV]] at Bz
      exact ⟨⟨bz, rfl, by omega, Bz⟩, E⟩
end Go.Proofs
namespace Go.Eng
open Go
def two (c1 c2 : Nat) (M1 M2 : Nat → Prop) (p : Nat) : Nat → Prop := bif Nat.beq p c1 then M1 else bif Nat.beq p c2 then M2 else none1
/-- An operation that is sure to be yet to come when operation i is done. -/
def gone (wss : List (List Nat)) (i j : Nat) : Bool := Nat.beq j i || (wss.getD j []).contains i
def Past (wss : List (List Nat)) (Ms : Nat → Nat → Prop) (i : Nat) : Nat → Prop := fun y => ∃ j, gone wss i j = false ∧ Ms j y
theorem two_or {c1 c2 : Nat} {M1 M2 : Nat → Prop} {p y : Nat} (h : two c1 c2 M1 M2 p y) : (p = c1 ∧ M1 y) ∨ (p = c2 ∧ M2 y) := by
  unfold two at h
  cases h1 : Nat.beq p c1 with
  | true => rw [h1] at h; exact .inl ⟨Nat.eq_of_beq_eq_true h1, h⟩
  | false =>
    rw [h1] at h
    cases h2 : Nat.beq p c2 with
    | true => rw [h2] at h; exact .inr ⟨Nat.eq_of_beq_eq_true h2, h⟩
    | false => rw [h2] at h; exact h.elim
section
variable {wss : List (List Nat)} {c1 c2 i y : Nat} {M1 M2 : Nat → Prop}
theorem Past.or (h : Past wss (two c1 c2 M1 M2) i y) : M1 y ∨ M2 y := by
  obtain ⟨j, _, h2⟩ := h
  rcases two_or h2 with h | h
  · exact .inl h.2
  · exact .inr h.2
theorem Past.fst (hg : gone wss i c2 = true) (h : Past wss (two c1 c2 M1 M2) i y) : M1 y := by
  obtain ⟨j, h1, h2⟩ := h
  rcases two_or h2 with h | h
  · exact h.2
  · rw [h.1, hg] at h1; cases h1
theorem Past.none (hg : gone wss i c1 = true) (hg2 : gone wss i c2 = true) (h : Past wss (two c1 c2 M1 M2) i y) : False := by
  obtain ⟨j, h1, h2⟩ := h
  rcases two_or h2 with h | h
  · rw [h.1, hg] at h1; cases h1
  · rw [h.1, hg2] at h1; cases h1
theorem two_ext {p : Nat} {w w' : World} (h : Chg (two c1 c2 M1 M2 p) w w') : (p = c1 ∧ Chg M1 w w') ∨ (p = c2 ∧ Chg M2 w w') ∨ Ext w w' := by
  unfold two at h
  cases h1 : Nat.beq p c1 with
  | true => rw [h1] at h; exact .inl ⟨Nat.eq_of_beq_eq_true h1, h⟩
  | false =>
    rw [h1] at h
    cases h2 : Nat.beq p c2 with
    | true => rw [h2] at h; exact .inr (.inl ⟨Nat.eq_of_beq_eq_true h2, h⟩)
    | false => rw [h2] at h; exact .inr (.inr h)
end
/-- A fact of a value that may also speak of the values of the operations ahead of it. -/
abbrev FctE := Env → Fct
def HoldsX (ds : List Nat) (Fs : List FctE) (j : Nat) (σ : Env) (w : World) : Prop := ∀ d F, ds[j]? = some d → Fs[j]? = some F → F σ (σ d) w
def DagStepX (P : Program) (N : Nat) (ds : List Nat) (Fs : List FctE) (σ : Env) (w : World) (Ms : Nat → Nat → Prop) (all : List (List Nat)) (i : Nat) (o : Oper) (ws : List Nat) (F : FctE) : Prop :=
  ∀ σ' w', Chg (Past all Ms i) w w' → (∀ t, ds.contains t = false → σ' t = σ t) → (∀ j, ws.contains j = true → HoldsX ds Fs j σ' w') → DoesT (Ms i) P N o (fun v w => F σ' (Go.Eng.valOf o v) w) σ' w'
def StabX (Ms : Nat → Nat → Prop) (i : Nat) (ws : List Nat) (F : FctE) : Prop := ∀ p, p ≠ i → ws.contains p = false → ∀ σ v w w', Chg (Ms p) w w' → F σ v w → F σ v w'
def LocX (ds : List Nat) (ws : List Nat) (F : FctE) : Prop := ∀ σ1 σ2 : Env, (∀ j d, ws.contains j = true → ds[j]? = some d → σ2 d = σ1 d) → ∀ v w, F σ1 v w → F σ2 v w
theorem StabX.eq {Ms : Nat → Nat → Prop} {i : Nat} {ws : List Nat} {u : Value} : StabX Ms i ws (fun _ v _ => v = u) := fun _ _ _ _ _ _ _ _ h => h
theorem LocX.const {ds ws : List Nat} {G : Fct} : LocX ds ws (fun _ => G) := fun _ _ _ _ _ h => h
inductive DagStepsX (P : Program) (N : Nat) (ds : List Nat) (Fs : List FctE) (σ : Env) (w : World) (Ms : Nat → Nat → Prop) (all : List (List Nat)) : Nat → List Oper → List (List Nat) → List FctE → Prop where
  | nil {i : Nat} : DagStepsX P N ds Fs σ w Ms all i [] [] []
  | cons {i : Nat} {o : Oper} {l : List Oper} {ws : List Nat} {wss : List (List Nat)} {F : FctE} {Gs : List FctE} (s : StabX Ms i ws F) (lc : LocX ds ws F) (h : DagStepX P N ds Fs σ w Ms all i o ws F) (t : DagStepsX P N ds Fs σ w Ms all (i + 1) l wss Gs) : DagStepsX P N ds Fs σ w Ms all i (o :: l) (ws :: wss) (F :: Gs)
theorem DagStepsX.get {P : Program} {N : Nat} {ds : List Nat} {Fs : List FctE} {σ : Env} {w : World} {Ms : Nat → Nat → Prop} {all : List (List Nat)} : ∀ {i : Nat} {l : List Oper} {wss : List (List Nat)} {Gs : List FctE}, DagStepsX P N ds Fs σ w Ms all i l wss Gs → ∀ {j : Nat} {o : Oper}, l[j]? = some o → ∃ ws F, wss[j]? = some ws ∧ Gs[j]? = some F ∧ StabX Ms (i + j) ws F ∧ LocX ds ws F ∧ DagStepX P N ds Fs σ w Ms all (i + j) o ws F
  | _, _, _, _, .nil, j, o, h => by simp at h
  | i, _, _, _, .cons s lc h t, 0, o, ho => by
    simp at ho; subst ho
    exact ⟨_, _, rfl, rfl, s, lc, h⟩
  | i, _, _, _, .cons s lc h t, j + 1, o, ho => by
    simp at ho
    obtain ⟨ws, F, h1, h2, h3, h5, h4⟩ := DagStepsX.get t ho
    exact ⟨ws, F, by simpa using h1, by simpa using h2, by rw [show i + (j + 1) = i + 1 + j from by omega]; exact h3, h5, by rw [show i + (j + 1) = i + 1 + j from by omega]; exact h4⟩
/-- Waits that follow from the given ones. -/
def closB1 (wss cl : List (List Nat)) (i : Nat) : Bool := (cl.getD i []).all fun c => (wss.getD i []).contains c || (wss.getD i []).any fun e => (cl.getD e []).contains c
def closB (wss cl : List (List Nat)) : Bool := (List.range wss.length).all (closB1 wss cl)
theorem closB_get {wss cl : List (List Nat)} (h : closB wss cl = true) {i c : Nat} {ws : List Nat} (hw : wss[i]? = some ws) (hc : (cl.getD i []).contains c = true) : c ∈ ws ∨ ∃ e ∈ ws, (cl.getD e []).contains c = true := by
  have h1 := List.all_eq_true.1 h i (List.mem_range.2 (lt_of_get hw))
  have h2 := List.all_eq_true.1 h1 c (by simpa using hc)
  rw [List.getD_eq_getElem?_getD, hw, Option.getD_some, Bool.or_eq_true] at h2
  rcases h2 with h2 | h2
  · exact .inl (by simpa using h2)
  · obtain ⟨e, he, h3⟩ := List.any_eq_true.1 h2
    exact .inr ⟨e, he, h3⟩
theorem Wp_dagX {P : Program} {N : Nat} {Q : Post} {σ : Env} {w : World} {id : Nat} {l : List Oper} (Ms : Nat → Nat → Prop) (n : Nat) (ds : List Nat) (wss cl : List (List Nat)) (Fs : List FctE) {Gs : List FctE} (hG : Fs = Gs) (hC : closB wss cl = true) (hm : P.follows .mixedOrders = true) (hB : dagBT N 0 (l.take n) ds wss = true) (hn : nodupB ds = true)
    (hT : (decide (n < l.length) && Region.sinkB .any l.toArray n && Region.chainB .any l.toArray n && Region.seqB .any l.toArray (l.length - n) n (headDone n l.length)) = true)
    (steps : ∀ w1, Ext w w1 → DagStepsX P N ds Fs σ w1 Ms cl 0 (l.take n) cl Gs)
    (k : ∀ σ' w1 w', Ext w w1 → Chg (fun y => ∃ j, Ms j y) w1 w' → (∀ t, ds.contains t = false → σ' t = σ t) → (∀ j, HoldsX ds Fs j σ' w') → WpL P N l.toArray (Q .normal) Q (l.drop n) σ' w') : Wp P N (.region id l.toArray true) Q σ w := by
  intro a ha he
  have eQ : lift N (thn (Q .normal) Q) = lift N Q := by funext e a w; cases e <;> rfl
  refine wp_region_any hm ?_
  obtain ⟨w1, hw1⟩ : ∃ w1 : World, w1 = { w with drawn := w.drawn + 1 } := ⟨_, rfl⟩
  have hE1 : Ext w w1 := by rw [hw1]; exact drew_ext w
  rw [← hw1]
  have hst := steps w1 hE1
  rw [← hG] at hst
  simp only [Bool.and_eq_true, decide_eq_true_eq] at hT
  obtain ⟨⟨⟨hnl, hs⟩, hc⟩, hseq⟩ := hT
  have hlen : ds.length = n := by rw [dagBT_len hB]; simp; omega
  have key : ∀ (m : Nat) (listed : Array Bool) (a : Act) (w' : World), (listed.toList.take n).count false = m → HeadInv .any l.toArray n listed → Ok N a → Chg (fun y => ∃ j, listed.getD j false = true ∧ Ms j y) w1 w' → (∀ t, ds.contains t = false → env a t = σ t) → (∀ j, listed.getD j false = true → HoldsX ds Fs j (env a) w') →
      wpAny P .any l.toArray (lift N Q) (m + (l.length - n)) listed a w' := by
    intro m
    induction m with
    | zero =>
      intro listed a w' hc0 inv ha hx hu hh
      have hsz : listed.size = l.length := by simpa using inv.size
      have hl : listed = headDone n l.length := by
        apply Array.ext'
        rw [headDone]
        have := head_all (l := listed.toList) (n := n) (by simp; omega) hc0 (by
          intro t h1 h2
          have h2' : t < listed.size := by simpa using h2
          have := inv.tail t h1 (by simpa [hsz] using h2')
          simp only [Array.getD_eq_getD_getElem?, Array.getElem?_eq_getElem h2', Option.getD_some] at this
          simp [h2', this])
        rw [this]; simp [hsz]
      rw [Nat.zero_add]
      have h1 := k (env a) w1 w' hE1 (hx.mono fun y _ h => by obtain ⟨j, _, h⟩ := h; exact ⟨j, h⟩) hu (fun j d F hd hF => by
        have hj : j < n := by have := lt_of_get hd; omega
        exact hh j (by
          rw [hl, headDone]
          simp [Array.getD_eq_getD_getElem?, List.getElem?_append_left, hj]) d F hd hF) a ha rfl
      rw [eQ] at h1
      have := wpAny_of_seq (P := P) (md := .any) (ops := l.toArray) (Q' := lift N Q) (l.drop n) n listed a w' (fun j => by simp [List.getElem?_drop]) (by rw [List.length_drop, hl]; exact hseq) h1
      rwa [List.length_drop] at this
    | succ m ih =>
      intro listed a w' hcm inv ha hx hu hh
      have hsz : listed.size = l.length := by simpa using inv.size
      obtain ⟨i0, hi0n, hi0⟩ : ∃ i, i < n ∧ listed.getD i true = false := by
        have : 0 < (listed.toList.take n).count false := by omega
        rw [List.count_pos_iff] at this
        obtain ⟨i, hi, he⟩ := List.getElem_of_mem this
        have hin : i < n := by simp at hi; omega
        refine ⟨i, hin, ?_⟩
        have hil : i < listed.size := by simp at hi; omega
        simp only [Array.getD_eq_getD_getElem?, Array.getElem?_eq_getElem hil, Option.getD_some]
        simpa using he
      rw [show m + 1 + (l.length - n) = (m + (l.length - n)) + 1 by omega]
      refine ⟨fun hr => ?_, fun i hi => ?_⟩
      · exfalso
        have hall : ∀ i, i < n → listed.getD i true = true := by
          intro i
          induction i using Nat.strongRecOn with
          | _ i ihi =>
            intro hi
            cases hv : listed.getD i true with
            | true => rfl
            | false =>
              exfalso
              obtain ⟨o, ho⟩ := get_of_lt (l := l) (i := i) (by omega)
              have ho' : (l.take n)[i]? = some o := by rw [List.getElem?_take_of_lt hi]; exact ho
              obtain ⟨d, ws, _, _, h3⟩ := dagBT_get hB ho'
              have : i ∈ Region.ready .any l.toArray listed := by
                refine mem_ready.2 ⟨hv, o, by simpa using ho, fun e he hb => ?_⟩
                simp only [dagOneT, Bool.and_eq_true, Array.all_eq_true_iff_forall_mem, Bool.or_eq_true, Bool.not_eq_true', Nat.zero_add] at h3
                have := (h3.1.1.2 e he).resolve_left (by simp [hb])
                have hlt : e.on < i := by simpa [Nat.blt_eq] using this
                have h4 := ihi e.on hlt (by omega)
                have hj : e.on < listed.size := by omega
                simpa only [Array.getD_eq_getD_getElem?, Array.getElem?_eq_getElem hj, Option.getD_some] using h4
              rw [hr] at this
              cases this
        rw [hall i0 hi0n] at hi0
        cases hi0
      · have hin : i < n := by
          rcases Nat.lt_or_ge i n with h | h
          · exact h
          · exact absurd hi (tail_waits hs hc (by simpa using hnl) inv _ i0 rfl hi0n hi0 i h)
        obtain ⟨h1, o, h2, h3⟩ := mem_ready.1 hi
        have hil : i < listed.size := by omega
        have ho : l[i]? = some o := by simpa using h2
        have ho' : (l.take n)[i]? = some o := by rw [List.getElem?_take_of_lt hin]; exact ho
        obtain ⟨d, ws, hd, hws, h4⟩ := dagBT_get hB ho'
        obtain ⟨ws', F, hws', hF, hstab, hloc, hstep⟩ := hst.get ho'
        simp only [Nat.zero_add] at hstep hstab
        simp only [dagOneT, Bool.and_eq_true, List.all_eq_true, Array.any_eq_true', Array.all_eq_true_iff_forall_mem, Bool.or_eq_true, Bool.not_eq_true', Nat.zero_add] at h4
        obtain ⟨⟨⟨hdst, _⟩, hwait⟩, hgd⟩ := h4
        have hgd : o.guard = none := by simpa using hgd
        have hcl : ∀ j, listed.getD j false = true → ∀ c, (cl.getD j []).contains c = true → listed.getD c false = true := by
          intro j
          induction j using Nat.strongRecOn with
          | _ j ihj =>
            intro hlj c hc
            have hcn : j < n := by
              rcases Nat.lt_or_ge j n with h | h
              · exact h
              · rcases Nat.lt_or_ge j l.length with h' | h'
                · have := getD_both (inv.tail j h (by simpa using h')); rw [this] at hlj; cases hlj
                · simp [Array.getElem?_eq_none (show listed.size ≤ j by omega)] at hlj
            obtain ⟨oc, hoc⟩ := get_of_lt (l := l) (i := j) (by omega)
            have hoc' : (l.take n)[j]? = some oc := by rw [List.getElem?_take_of_lt hcn]; exact hoc
            obtain ⟨dc, wsc, _, hwsc, h5⟩ := dagBT_get hB hoc'
            simp only [dagOneT, Bool.and_eq_true, List.all_eq_true, Array.any_eq_true', Array.all_eq_true_iff_forall_mem, Bool.or_eq_true, Bool.not_eq_true', Nat.zero_add] at h5
            have hdir : ∀ e' ∈ wsc, listed.getD e' false = true ∧ e' < j := by
              intro e' he'
              obtain ⟨e, he, hb1, hb2⟩ := h5.1.2 e' he'
              have hei : e.on = e' := Nat.eq_of_beq_eq_true hb2
              have h6 := inv.closed j oc (by simpa using hoc) hlj e he hb1
              have h7 := (h5.1.1.2 e he).resolve_left (by simp [hb1])
              rw [hei] at h6 h7
              exact ⟨h6, by simpa [Nat.blt_eq] using h7⟩
            rcases closB_get hC hwsc hc with h6 | ⟨e', he', h6⟩
            · exact (hdir c h6).1
            · exact ihj e' (hdir e' he').2 (hdir e' he').1 c h6
        have hgone : ∀ j, listed.getD j false = true → gone cl i j = false := by
          intro j hlj
          cases hg : gone cl i j with
          | false => rfl
          | true =>
            exfalso
            simp only [gone, Bool.or_eq_true] at hg
            rcases hg with hg | hg
            · have : j = i := Nat.eq_of_beq_eq_true hg
              rw [this, getD_both h1] at hlj; cases hlj
            · have := hcl j hlj i hg
              rw [getD_both h1] at this; cases this
        have hclo : ∀ j, ws'.contains j = true → listed.getD j false = true := by
          intro j hj
          have hj' : (cl.getD i []).contains j = true := by rw [List.getD_eq_getElem?_getD, hws', Option.getD_some]; exact hj
          have hdir : ∀ e' ∈ ws, listed.getD e' false = true := by
            intro e' he'
            obtain ⟨e, he, hb1, hb2⟩ := hwait e' he'
            have : e.on = e' := Nat.eq_of_beq_eq_true hb2
            exact this ▸ h3 e he hb1
          rcases closB_get hC hws hj' with h6 | ⟨e', he', h6⟩
          · exact hdir j h6
          · exact hcl e' (hdir e' he') j h6
        have hH : ∀ j, ws'.contains j = true → HoldsX ds Fs j (env a) w' := fun j hj => hh j (hclo j hj)
        have hstep2 : ∀ w2, Chg (Ms i) w' w2 → Chg (fun y => ∃ j, (listed.setIfInBounds i true).getD j false = true ∧ Ms j y) w1 w2 := by
          intro w2 hx2
          have hg : (listed.setIfInBounds i true).getD i false = true := by simp [Array.getD_eq_getD_getElem?, hil]
          refine Chg.step (hx.mono fun y _ h => ?_) hx2 (fun y _ h => ⟨i, hg, h⟩)
          obtain ⟨j, h5, h6⟩ := h
          by_cases hij : j = i
          · exact ⟨i, hg, hij ▸ h6⟩
          · exact ⟨j, by rw [getD_set_ne _ (Ne.symm hij)]; exact h5, h6⟩
        have cont : ∀ v w2, Chg (Ms i) w' w2 → F (env a) (Go.Eng.valOf o v) w2 → wpAny P .any l.toArray (lift N Q) (m + (l.length - n)) (listed.setIfInBounds i true) (a.put o.dst v) w2 := by
          intro v w2 hx2 hv
          have henv : (∀ t, t ≠ d → env (a.put o.dst v) t = env a t) ∧ env (a.put o.dst v) d = Go.Eng.valOf o v := by
            cases hod : o.dst with
            | none =>
              rw [hod] at hdst
              have hNd : N ≤ d := Nat.le_of_ble_eq_true hdst
              refine ⟨fun t _ => rfl, ?_⟩
              simp only [Go.Eng.valOf, hod]
              show a.tmps.getD d undef = undef
              have : a.tmps.size ≤ d := by rw [ha.size]; exact hNd
              simp [Array.getElem?_eq_none this]
            | some d' =>
              rw [hod] at hdst
              simp only [Bool.and_eq_true] at hdst
              have hd1 : d' = d := Nat.eq_of_beq_eq_true hdst.1
              have hd2 : d < N := by simpa [Nat.blt_eq] using hdst.2
              subst hd1
              rw [env_put ha hd2 v]
              refine ⟨fun t ht => ?_, ?_⟩
              · have : Nat.beq t d' = false := by cases hb : Nat.beq t d'; rfl; exact absurd (Nat.eq_of_beq_eq_true hb) ht
                simp [upd, this]
              · simp [upd, Go.Eng.valOf, hod]
          refine ih _ _ _ ?_ (inv.set hi hin) (ha.put _ _) (hstep2 w2 hx2) ?_ ?_
          · have hl : listed.toList[i]? = some false := by
              simp only [Array.getD_eq_getD_getElem?, Array.getElem?_eq_getElem hil, Option.getD_some] at h1
              simp [hil, h1]
            have := count_take_set (l := listed.toList) hin (by simp; omega) hl
            rw [Array.toList_setIfInBounds]
            omega
          · intro t ht
            rw [henv.1 t (fun h => by
              subst h
              have := List.mem_of_getElem? hd
              simp [this] at ht), hu t ht]
          · intro j hj d' F' hd' hF'
            by_cases hij : j = i
            · subst hij
              rw [hd] at hd'; cases hd'
              rw [hF] at hF'; cases hF'
              rw [henv.2]
              refine hloc (env a) _ (fun j' d' hj' hd' => henv.1 d' fun he => ?_) _ _ hv
              have := nodupB_get hn (he ▸ hd') hd
              subst this
              have := hclo j' hj'
              rw [getD_both h1] at this
              cases this
            · have hne : d' ≠ d := by
                intro h
                subst h
                exact hij (nodupB_get hn hd' hd)
              rw [henv.1 d' hne]
              rw [getD_set_ne _ (Ne.symm hij)] at hj
              have h6 := hh j hj d' F' hd' hF'
              have hjn : j < n := by have := lt_of_get hd'; omega
              obtain ⟨oj, hoj⟩ := get_of_lt (l := l) (i := j) (by omega)
              have hoj' : (l.take n)[j]? = some oj := by rw [List.getElem?_take_of_lt hjn]; exact hoj
              obtain ⟨dj, wsj, _, hwsj, h5⟩ := dagBT_get hB hoj'
              obtain ⟨wsj', Fj, hwsj', hFj, hsj, hlj, _⟩ := hst.get hoj'
              rw [hF'] at hFj; cases hFj
              simp only [Nat.zero_add] at hsj
              have hci : wsj'.contains i = false := by
                cases hci : wsj'.contains i with
                | false => rfl
                | true =>
                  exfalso
                  have := hgone j hj
                  have hgc : cl.getD j [] = wsj' := by simp [hwsj']
                  simp only [gone, hgc, hci, Bool.or_true] at this
                  cases this
              refine hlj (env a) _ (fun j' d' hj' hd' => henv.1 d' fun he => ?_) _ _ (hsj i (Ne.symm hij) hci _ _ _ _ hx2 h6)
              have := nodupB_get hn (he ▸ hd') hd
              subst this
              rw [hci] at hj'
              cases hj'
        have hx0 : Chg (Past cl Ms i) w1 w' := hx.mono fun y _ h => by
          obtain ⟨j, h5, h6⟩ := h
          exact ⟨j, hgone j h5, h6⟩
        have hdo := hstep (env a) w' hx0 hu hH
        have hw : Region.wanted o (yielded l.toArray a.tmps) = true := by simp [Region.wanted, hgd]
        unfold wpOp
        simp only [h2, hw, if_true]
        exact Or.inl (hdo a ha rfl _ _ cont)
  have inv0 : HeadInv .any l.toArray n (Array.replicate l.toArray.size false) :=
    ⟨by simp, fun j oj _ hl => (by rw [getD_replicate_false] at hl; cases hl), fun t _ ht => getD_in (by simpa using ht) (getD_replicate_false _ _)⟩
  have h1 := key n (Array.replicate l.toArray.size false) a w1 (by simp; omega) inv0 ha (Chg.refl _ _) (fun t _ => by rw [he]) (fun j hj => by rw [getD_replicate_false] at hj; cases hj)
  have e3 : n + (l.length - n) = l.toArray.size := by simp; omega
  rw [e3] at h1
  exact h1
end Go.Eng
namespace Go.Proofs
open Go Go.Eng Go.Sort
set_option maxRecDepth 100000
def OutB (E N : Value) (vs : List Value) (b : Nat) : Prop := E.ownBlock = some b ∨ N.ownBlock = some b ∨ ∃ (i : Nat) (v : Value), vs[i]? = some v ∧ v.ownBlock = some b
structure OutSt (w : World) (base : Nat) (E N : Value) (vs : List Value) (acc : List Int) (rows : List (List Int)) : Prop where
  e : w.ownsRow base TDI 1 E acc.length (acc.map (Value.int .i64))
  n : LSt TDIs TDI 1 w base N vs (rows.map iRow)
  en : ∀ b, E.ownBlock = some b → N.ownBlock ≠ some b
  ei : ∀ (i : Nat) v b, vs[i]? = some v → v.ownBlock = some b → E.ownBlock ≠ some b
theorem OutSt.start (w : World) (base : Nat) : OutSt w base (.slice none 0 0) (.slice none 0 0) [] [] [] :=
  ⟨World.ownsRow_nil _ _ _ _, LSt.start _ _ _ _ _, (fun b h => by cases h), fun i v b h => by simp at h⟩
theorem OutSt.lt {w : World} {base : Nat} {E N : Value} {vs : List Value} {acc : List Int} {rows : List (List Int)} (h : OutSt w base E N vs acc rows) {b : Nat} (hb : OutB E N vs b) : base ≤ b ∧ b < w.heap.size := by
  rcases hb with h1 | h1 | ⟨i, v, h1, h2⟩
  · exact h.e.lt b h1
  · exact h.n.o.lt b h1
  · obtain ⟨p, hp⟩ := get_of_lt (l := rows.map iRow) (i := i) (by have := lt_of_get h1; have := h.n.len; omega)
    exact (h.n.inn i v p h1 hp).lt b h2
theorem OutSt.chg {M : Nat → Prop} {w w' : World} {base : Nat} {E N : Value} {vs : List Value} {acc : List Int} {rows : List (List Int)} (h : OutSt w base E N vs acc rows) (c : Chg M w w') (hM : ∀ b, OutB E N vs b → ¬ M b) : OutSt w' base E N vs acc rows :=
  ⟨own_chg h.e c fun b hb => hM b (.inl hb), ⟨own_chg h.n.o c fun b hb => hM b (.inr (.inl hb)), h.n.len, fun i v p hv hp => own_chg (h.n.inn i v p hv hp) c fun b hb => hM b (.inr (.inr ⟨i, v, hv, hb⟩)), h.n.apo⟩, h.en, h.ei⟩
theorem OutSt.ext {w w' : World} {base : Nat} {E N : Value} {vs : List Value} {acc : List Int} {rows : List (List Int)} (h : OutSt w base E N vs acc rows) (c : Ext w w') : OutSt w' base E N vs acc rows := h.chg c fun _ _ f => f
/-- A row and a result are added. -/
theorem OutSt.push {w w' : World} {base bu m : Nat} {E E' N N' u : Value} {vs : List Value} {acc row : List Int} {rows : List (List Int)} {y : Int} (h : OutSt w base E N vs acc rows) (hu : w.ownsRow bu TDI 1 u m (row.map (Value.int .i64))) (hm : m = row.length) (hb : base ≤ bu) (hbu : ∀ b, OutB E N vs b → b < bu)
    (C : Chg (fun b => N.ownBlock = some b ∨ E.ownBlock = some b) w w') (ON : w'.ownsRow base TDIs 1 N' (rows.length + 1) (vs ++ [u])) (WN : ∀ k, N'.ownBlock = some k → N.ownBlock = some k ∨ w.heap.size ≤ k)
    (OE : w'.ownsRow base TDI 1 E' (acc.length + 1) ((acc ++ [y]).map (Value.int .i64))) (WE : ∀ k, E'.ownBlock = some k → E.ownBlock = some k ∨ w.heap.size ≤ k) (ap : ∀ b, N'.ownBlock = some b → E'.ownBlock ≠ some b) : OutSt w' base E' N' (vs ++ [u]) (acc ++ [y]) (rows ++ [row]) := by
  have hul := fun b (hb' : u.ownBlock = some b) => hu.lt b hb'
  have hold : ∀ (i : Nat) v, (vs ++ [u])[i]? = some v → vs[i]? = some v ∨ (i = vs.length ∧ v = u) := fun i v hv => by
    rcases Nat.lt_or_ge i vs.length with h1 | h1
    · left; rwa [List.getElem?_append_left h1] at hv
    · right
      rw [List.getElem?_append_right h1] at hv
      have h2 := lt_of_get hv
      simp at h2
      rw [show i - vs.length = 0 by omega] at hv
      simp at hv
      exact ⟨by omega, hv.symm⟩
  have hin : ∀ (i : Nat) v b, (vs ++ [u])[i]? = some v → v.ownBlock = some b → N.ownBlock ≠ some b ∧ E.ownBlock ≠ some b ∧ b < w.heap.size := fun i v b hv hb' => by
    rcases hold i v hv with h1 | ⟨_, rfl⟩
    · exact ⟨fun e => h.n.apo i v b h1 hb' e, h.ei i v b h1 hb', (h.lt (.inr (.inr ⟨i, v, h1, hb'⟩))).2⟩
    · have := hul b hb'
      exact ⟨fun e => by have := hbu b (.inr (.inl e)); omega, fun e => by have := hbu b (.inl e); omega, this.2⟩
  have hap2 : ∀ (i : Nat) v b, (vs ++ [u])[i]? = some v → v.ownBlock = some b → N'.ownBlock ≠ some b ∧ E'.ownBlock ≠ some b := fun i v b hv hb' => by
    obtain ⟨h1, h2, h3⟩ := hin i v b hv hb'
    exact ⟨fun e => by rcases WN b e with h4 | h4; exact h1 h4; omega, fun e => by rcases WE b e with h4 | h4; exact h2 h4; omega⟩
  refine ⟨by rw [List.length_append]; exact OE, ⟨by simpa using ON, by simp [h.n.len], fun i v p hv hp => ?_, fun i v b hv hb' => (hap2 i v b hv hb').1⟩, fun b hb' e => ap b e hb', fun i v b hv hb' => (hap2 i v b hv hb').2⟩
  rw [List.map_append] at hp
  rcases hold i v hv with h1 | ⟨h1, rfl⟩
  · rw [List.getElem?_append_left (by have := lt_of_get h1; have := h.n.len; omega)] at hp
    exact own_chg (h.n.inn i v p h1 hp) C fun b hb' hC => by
      obtain ⟨h2, h3, _⟩ := hin i v b hv hb'
      rcases hC with h4 | h4
      · exact h2 h4
      · exact h3 h4
  · have hl := h.n.len
    rw [h1, hl, List.getElem?_append_right (Nat.le_refl _), Nat.sub_self] at hp
    simp [iRow] at hp
    subst hp
    rw [hm] at hu
    exact own_low (own_chg hu C fun b hb' hC => by
      obtain ⟨h2, h3, _⟩ := hin i v b hv hb'
      rcases hC with h4 | h4
      · exact h2 h4
      · exact h3 h4) hb
theorem litF_stab {c1 c2 i e hs : Nat} {M1 M2 : Nat → Prop} {cc : Array Value} {ws : List Nat} (h1 : ∀ y, M1 y → y < hs) (h2 : ∀ y, M2 y → y < hs) : StabX (two c1 c2 M1 M2) i ws (fun _ => litF e cc hs) := by
  rintro p _ _ σ v w w' x ⟨b, h3, h4, h5⟩
  exact ⟨b, h3, x.keep (fun h => by rcases two_or h with h | h; have := h1 b h.2; omega; have := h2 b h.2; omega) h4, h5⟩
theorem appF_st1 {c1 c2 base e size n hs : Nat} {M1 M2 : Nat → Prop} {xs : List Value} {old : Value} {ws : List Nat} (h : ∀ k, (old.ownBlock = some k ∨ hs ≤ k) → ¬ M2 k) : StabX (two c1 c2 M1 M2) c1 ws (fun _ => appF base e size n xs old hs) := by
  rintro p hp _ σ v w w' x ⟨h1, h2, h3⟩
  rcases two_ext x with h4 | h4 | h4
  · exact absurd h4.1 hp
  · exact ⟨h1, own_chg h2 h4.2 (fun k hk => h k (h3 k hk)), h3⟩
  · exact ⟨h1, own_ext h2 h4, h3⟩
theorem appF_st2 {c1 c2 base e size n hs t : Nat} {M1 M2 : Nat → Prop} {xs : List Value} {old : Value} {ws : List Nat} (hw : ws.contains c1 = true) : StabX (two c1 c2 M1 M2) c2 ws (fun s v w => appF base e size n xs old hs v w ∧ ∀ b, (s t).ownBlock = some b → v.ownBlock ≠ some b) := by
  rintro p hp hpw σ v w w' x ⟨⟨h1, h2, h3⟩, h4⟩
  rcases two_ext x with h5 | h5 | h5
  · rw [h5.1, hw] at hpw; cases hpw
  · exact absurd h5.1 hp
  · exact ⟨⟨h1, own_ext h2 h5, h3⟩, h4⟩
theorem DoesT_weakD {M : Nat → Prop} {P : Program} {N : Nat} {o : Oper} {R R' : Fct} {σ : Env} {w : World} (h : DoesT M P N o R σ w) (hr : ∀ v w, R v w → R' v w) : DoesT M P N o R' σ w := fun a ha he Q K hK => h a ha he Q K fun v w2 hx2 h2 => hK v w2 hx2 (hr v w2 h2)
theorem app_two {M : Nat → Prop} {P : Program} {N : Nat} {o : Oper} {σ : Env} {w : World} {b1 e1 s1 n1 b2 e2 s2 n2 hs : Nat} {xs ys : List Value} {old old' u : Value} (h : appF b1 e1 s1 n1 ys old' hs u w) (hd : DoesT M P N o (appF b2 e2 s2 n2 xs old w.heap.size) σ w) (h4 : hs ≤ w.heap.size) (hap : ∀ k, (old'.ownBlock = some k ∨ hs ≤ k) → old.ownBlock ≠ some k) (ho : ∀ v, Go.Eng.valOf o v = v := by intro v; rfl) :
    DoesT M P N o (fun v w => appF b2 e2 s2 n2 xs old hs (Go.Eng.valOf o v) w ∧ ∀ b, u.ownBlock = some b → (Go.Eng.valOf o v).ownBlock ≠ some b) σ w := by
  refine DoesT_weakD hd ?_
  rintro v w2 ⟨h1, h2, h3⟩
  rw [ho v]
  refine ⟨⟨h1, h2, fun k hk => (h3 k hk).imp id (fun h => Nat.le_trans h4 h)⟩, fun k hk hv => ?_⟩
  obtain ⟨_, h5, h6⟩ := h
  rcases h3 k hv with h7 | h7
  · exact hap k (h6 k hk) h7
  · have := (h5.lt k hk).2; omega
theorem own_exact {w : World} {b base n : Nat} {row : List Int} (h : Blk w b (row.map (Value.int .i64)).toArray TDI) (hb : base ≤ b) (hn : row.length = n) (hl : n ≤ 9223372036854775807 := by omega) : w.ownsRow base TDI 1 (.slice (some ⟨b, 0, none⟩) n n) n (row.map (Value.int .i64)) :=
  ⟨by simp [hn], .inr ⟨b, n, _, rfl, hb, h, Nat.le_refl _, hl, by simp [hn], by simp only [Nat.mul_one]; exact List.take_of_length_le (by simp [hn])⟩⟩
theorem OutSt.intss {w : World} {base : Nat} {E N : Value} {vs : List Value} {acc : List Int} {rows : List (List Int)} (h : OutSt w base E N vs acc rows) : IntssAt w N rows := by
  have hl : vs.length = rows.length := by simpa using h.n.len
  refine ⟨vs, ?_, hl, fun i u l hu hl => ?_⟩
  · have ho := h.n.o
    rw [show vs = (vs.map fun x => [x]).flatten by simp [List.flatten_eq_flatMap, List.flatMap_map]] at ho
    exact own_slat ho (by intro r hr; simp only [List.mem_map] at hr; obtain ⟨x, _, rfl⟩ := hr; rfl) (by simp [hl]) (by decide)
  · exact own_intsD (h.n.inn i u (iRow l) hu (by rw [List.getElem?_map, hl]; rfl)) rfl
end Go.Proofs
namespace Go.Proofs
open Go Go.Eng Go.Sort
set_option maxRecDepth 100000
theorem ints_at_blk {w : World} {b : Nat} {l : List Int} {T : Nat} (h : Blk w b (l.map (Value.int .i64)).toArray T) {i : Nat} {x : Int} (hx : l[i]? = some x) : w.cell? ⟨b, 0 + i, none⟩ = some (.int .i64 x) := h.cell (by simp [hx])
theorem ptD_cell {p : List Int} {t : Nat} {n : Nat} (hl : p.length = n) (ht : t < n) : p[t]? = some (ptD p ((t : Nat) : Int)) := by
  have h1 : p[t]? = some (p[t]'(by omega)) := List.getElem?_eq_getElem _
  rw [h1, ptD_get h1]
theorem dead_dfa {w : World} {be bh bg c : Nat} {T T' : Nat} (he : Blk w be #[.int .i64 (-1)] T) (hh : Blk w bh #[.slice (some ⟨bg, 0, none⟩) c c] T') (hg : Blk w bg ((List.replicate c (-1 : Int)).map (Value.int .i64)).toArray TDI) (hc : c ≤ 60000) : DfaAt w ⟨0, [-1], [List.replicate c (-1)]⟩ [.int .i64 0, .slice (some ⟨be, 0, none⟩) 1 1, .slice (some ⟨bh, 0, none⟩) 1 1] := by
  refine ⟨_, 1, _, 1, rfl, ints_of_blk [-1] he (by simp) (by simp), [.slice (some ⟨bg, 0, none⟩) c c], ⟨some ⟨bh, 0, none⟩, 1, rfl, show (1 : Nat) ≤ 9223372036854775807 by decide, Nat.le_refl 1, .inr ⟨bh, 0, rfl, ?_⟩⟩, rfl, ?_⟩
  · intro i r hr j u hu
    rcases i with _ | i <;> simp at hr
    subst hr
    cases j with
    | zero => simp at hu; subst hu; exact hh.cell rfl
    | succ j => simp at hu
  · intro i u l hu hl
    rcases i with _ | i <;> simp at hu hl
    subst hu; subst hl
    exact blk_ints hg (by simp)
theorem out_push {E E' N N' : Value} {vs : List Value} {b bq n4 c : Nat} (h : ¬ OutB E N vs b ∧ b ≠ bq) (hb : b < n4) (DN : ∀ k, N'.ownBlock = some k → N.ownBlock = some k ∨ n4 ≤ k) (DE : ∀ k, E'.ownBlock = some k → E.ownBlock = some k ∨ n4 ≤ k) (ho : OutB E' N' (vs ++ [.slice (some ⟨bq, 0, none⟩) c c]) b) : False := by
  rcases ho with h1 | h1 | ⟨i, v, h1, h2⟩
  · rcases DE b h1 with h3 | h3
    · exact h.1 (.inl h3)
    · omega
  · rcases DN b h1 with h3 | h3
    · exact h.1 (.inr (.inl h3))
    · omega
  · rcases snoc_get h1 with h3 | ⟨_, h3⟩
    · exact h.1 (.inr (.inr ⟨i, v, h3, h2⟩))
    · subst h3
      cases h2
      exact h.2 rfl
theorem take_snoc' {α : Type} {l : List α} {k : Nat} {x : α} (h : l[k]? = some x) : l.take (k + 1) = l.take k ++ [x] := by rw [List.take_add_one, h]; rfl
theorem CanP.st_le {n c : Nat} {d : Dfa} {p : List Int} {rows : List (List Int)} {row st : List Int} (h : CanP n c d p rows row st) : st.length ≤ n := by
  have hd : (st.map Int.toNat).Nodup := by
    rw [List.nodup_iff_pairwise_ne, List.pairwise_iff_getElem]
    intro i j hi hj hij he
    simp only [List.length_map] at hi hj
    simp only [List.getElem_map] at he
    have a := List.getElem?_eq_getElem hi
    have b := List.getElem?_eq_getElem hj
    have h1 := h.sl _ (List.mem_of_getElem? a)
    have h2 := h.sl _ (List.mem_of_getElem? b)
    have e : st[i] = st[j] := by omega
    have := h.inj i j _ _ a b (by rw [e])
    omega
  have := nodup_leN (m := List.range n) hd fun x hx => by
    obtain ⟨s, hs, rfl⟩ := List.mem_map.1 hx
    have := h.sl s hs
    exact List.mem_range.2 (by omega)
  simpa using this
/-- An automaton in blocks that are not below m. -/
def DfaNew (m : Nat) (w : World) (d : Dfa) (vs : List Value) : Prop := ∀ (M : Nat → Prop) w', Chg M w w' → (∀ b, M b → b < m) → DfaAt w' d vs
theorem DfaNew.at' {m : Nat} {w : World} {d : Dfa} {vs : List Value} (h : DfaNew m w d vs) : DfaAt w d vs := h none1 w (Chg.refl _ _) fun _ f => f.elim
theorem DfaNew.chg {M : Nat → Prop} {m : Nat} {w w' : World} {d : Dfa} {vs : List Value} (h : DfaNew m w d vs) (c : Chg M w w') (hM : ∀ b, M b → b < m) : DfaNew m w' d vs := fun M2 w2 c2 h2 =>
  h (fun b => M b ∨ M2 b) w2 (Chg.trans (c.mono fun b _ hb => .inl hb) (c2.mono fun b _ hb => .inr hb)) fun b hb => hb.elim (hM b) (h2 b)
theorem DfaNew.low {m m' : Nat} {w : World} {d : Dfa} {vs : List Value} (h : DfaNew m w d vs) (hm : m' ≤ m) : DfaNew m' w d vs := fun M w' c hM => h M w' c fun b hb => by have := hM b hb; omega
set_option maxHeartbeats 8000000 in
theorem canon_c (w0 : World) (n c : Nat) (d : Dfa) (dv : List Value) (ok : OkD n c d) (h : DfaAt w0 d dv) (hn : n ≤ 20000 ∧ 1 ≤ c ∧ c ≤ 16) (hac : ∀ x ∈ d.accept, x < 2147483648) :
    Ret Try.prog 56 #[.agg dv.toArray] w0 fun r w => (∃ C cv, CanOf c (beh d d.start) C ∧ C.next.length ≤ n ∧ (∀ x ∈ C.accept, x < 2147483648) ∧ r = .agg cv.toArray ∧ DfaNew w0.heap.size w C cv) ∧ Ext w0 w := by
  obtain ⟨dv0, hdv0⟩ : ∃ x, x = dv := ⟨_, rfl⟩
  have hdfa := h
  rw [← hdv0] at hdfa
  obtain ⟨aa, ac, na, nc, rfl, hacc, hnxt⟩ := h
  have hnl := ok.nl
  have hal := ok.al
  have hst := ok.st
  rw [hal, hnl] at hdv0 ⊢
  rw [hal] at hacc
  rw [hnl] at hnxt
  have hdw : ∀ w, Ext w0 w → DfaAt w d [.int .i64 d.start, .slice aa n ac, .slice na n nc] := fun w e => by rw [hdv0] at hdfa; exact hdfa.ext e
  obtain ⟨nb, no, rfl, hnx⟩ := intss_cells (n := n) hnxt (by omega)
  obtain ⟨ab, ao, rfl, hax⟩ := ints_cells (n := n) hacc (by omega)
  obtain ⟨s0, hs0⟩ := Int.eq_ofNat_of_zero_le hst.1
  have habl : ab < w0.heap.size := World.block_lt_of_cell? w0 _ (hax s0 _ (acc_at ok (show s0 < n by omega)))
  have hrowc : ∀ (s : Nat), s < n → ∃ row ra rc, d.next[s]? = some row ∧ row.length = c ∧ w0.cell? ⟨nb, no + s, none⟩ = some (.slice ra c rc) ∧ IntsAt w0 (.slice ra c rc) row := fun s hs => by
    obtain ⟨row, hrow⟩ := get_of_lt (l := d.next) (i := s) (by omega)
    have hrl := (ok.row row (List.mem_of_getElem? hrow)).1
    obtain ⟨ra, rc, h1, h2⟩ := hnx s row hrow
    rw [hrl] at h1 h2
    exact ⟨row, ra, rc, hrow, hrl, h1, h2⟩
  obtain ⟨row0, ra0, rc0, hrow0, hrl0, hcell0, hri0⟩ := hrowc 0 (by omega)
  refine Ret_of Try.func56 rfl Try.ntmps56 (Nat.le_of_ble_eq_true rfl) ?_
  have E : Chg none1 w0 w0 := Chg.refl _ _
  refine Wp_seq_region ?_
  refine s_box (v := (.agg #[(.int .i64 d.start), (.slice (some ⟨ab, ao, none⟩) n ac), (.slice (some ⟨nb, no, none⟩) n nc)])) (c := #[(.int .i64 d.start), (.slice (some ⟨ab, ao, none⟩) n ac), (.slice (some ⟨nb, no, none⟩) n nc)]) (by decide) rfl rfl ?_
  intro bd wd Nd
  have Fd := Nd.ge E
  replace E := E.ext Nd.ext
  have Bd := Nd.blk
  refine s_alloc (c := #[(.int .i64 0), (.slice none 0 0), (.slice none 0 0)]) (by decide) zer25 rfl ?_
  intro bo wo No
  have Fo := No.ge E
  have Oo_bd := No.lt Bd
  replace Bd := No.keep Bd
  replace E := E.ext No.ext
  have Bo := No.blk
  refine WpL_nil ?_
  refine Wp_seq_region ?_
  refine WpL_val rfl rfl (by decide) (r_loadAgg (vs := [(.int .i64 d.start), (.slice (some ⟨ab, ao, none⟩) n ac), (.slice (some ⟨nb, no, none⟩) n nc)]) rfl agg25 siz25 rfl (Bd.cells rfl)) ?_
  have hbol := Bo.lt
  have hbdl := Bd.lt
  refine WpL_enter rfl rfl (by decide) (r_callF (vs := [(.agg #[(.int .i64 d.start), (.slice (some ⟨ab, ao, none⟩) n ac), (.slice (some ⟨nb, no, none⟩) n nc)])]) Try.func71 nm71 bd71 rfl) (parts_c _ n c d _ ok (hdw _ E) (by omega) hac) ?_
  rintro _ w9 ⟨⟨p, b1, hPt, rfl, hb1, hPB⟩, X9⟩
  replace Bd := X9.keep Bd
  replace Bo := X9.keep Bo
  replace E := E.ext X9
  refine WpL_val rfl rfl (by decide) (r_assign (v := (.slice (some ⟨b1, 0, none⟩) n n)) rfl) ?_
  refine WpL_nil ?_
  refine Wp_seq_region ?_
  refine WpL_val rfl rfl (by decide) (r_fieldAddr (b := bd) (o := 0) (o' := 2) rfl Try.underlying25 rfl siz23 rfl) ?_
  refine WpL_val rfl rfl (by decide) (r_load (v := (.slice (some ⟨nb, no, none⟩) n nc)) rfl flat23 (Bd.cell rfl)) ?_
  refine WpL_val rfl rfl (by decide) (r_indexSlice (b := nb) (o := no) (len := n) (cap := nc) (i := 0) (o' := no + 0) rfl rfl rfl Try.underlying23 siz22 (by omega) (by omega)) ?_
  refine WpL_val rfl rfl (by decide) (r_load (v := (.slice ra0 c rc0)) rfl flat22 (E.cell (fun f => f) (by rw [Nat.add_zero] at *; exact hcell0))) ?_
  have hb1l := hPB.lt
  have hps := ptD_cell hPt.len (show s0 < n by omega)
  refine WpL_val rfl rfl (by decide) (r_lenSlice (ad := ra0) (n := c) (cap := rc0) Try.underlying22 rfl) ?_
  refine WpL_val rfl rfl (by decide) (r_assign (v := (.int .i64 ((c : Nat) : Int))) rfl) ?_
  refine WpL_nil ?_
  refine Wp_seq ?_
  refine Wp_seq_region ?_
  refine WpL_val rfl rfl (by decide) (r_move (v := (.slice (some ⟨b1, 0, none⟩) n n)) rfl) ?_
  refine WpL_val rfl rfl (by decide) (r_fieldAddr (b := bd) (o := 0) (o' := 0) rfl Try.underlying25 rfl siz3 rfl) ?_
  refine WpL_val rfl rfl (by decide) (r_load (v := (.int .i64 d.start)) rfl flat3 (Bd.cell rfl)) ?_
  refine WpL_val rfl rfl (by decide) (r_indexSlice (b := b1) (o := 0) (len := n) (cap := n) (i := s0) (o' := 0 + s0) rfl rfl (by omega) Try.underlying22 siz3 (by omega) (by omega)) ?_
  refine WpL_val rfl rfl (by decide) (r_load (v := (.int .i64 (ptD p d.start))) rfl flat3 (by rw [hs0]; exact ints_at_blk hPB hps)) ?_
  refine WpL_val rfl rfl (by decide) (r_lss (k := .i64) (a := ptD p d.start) (b := 0) rfl rfl) ?_
  refine WpL_nil ?_
  refine Wp_cond (b := decide ((ptD p d.start : Int) < 0)) rfl (fun hdead => ?_) (fun hdead => ?_)
  · have khdead := hdead
    replace hdead := of_decide_eq_true hdead
    have hnl0 : ¬ liveD c d d.start := fun hl => by have := (hPt.live d.start ⟨by omega, hst.2⟩).1.2 hl; omega
    refine Wp_seq_region ?_
    refine s_buildSlice (ps := [(0, (.int .i64 (-1)))]) (c := #[(.int .i64 (-1))]) (by decide) rfl Try.underlying22 siz3 zer3 (by decide) (by decide) (by kernel_rfl) ?_
    intro be we Ne
    have Fe := Ne.ge E
    have Oe_bd := Ne.lt Bd
    have Oe_bo := Ne.lt Bo
    have Oe_b1 := Ne.lt hPB
    replace Bd := Ne.keep Bd
    replace Bo := Ne.keep Bo
    replace hPB := Ne.keep hPB
    replace E := E.ext Ne.ext
    have Be := Ne.blk
    refine s_buildSlice (ps := [(0, (.int .i64 (-1)))]) (c := #[(.int .i64 (-1))]) (by decide) rfl Try.underlying22 siz3 zer3 (by decide) (by decide) (by kernel_rfl) ?_
    intro bf wf Nf
    have Ff := Nf.ge E
    have Of_bd := Nf.lt Bd
    have Of_bo := Nf.lt Bo
    have Of_b1 := Nf.lt hPB
    have Of_be := Nf.lt Be
    replace Bd := Nf.keep Bd
    replace Bo := Nf.keep Bo
    replace hPB := Nf.keep hPB
    replace Be := Nf.keep Be
    replace E := E.ext Nf.ext
    have Bf := Nf.blk
    refine WpL_val rfl rfl (by decide) (r_move (v := (.int .i64 ((c : Nat) : Int))) rfl) ?_
    have hbfl := Bf.lt
    refine WpL_enter rfl rfl (by decide) (r_callF (vs := [(.slice (some ⟨bf, 0, none⟩) 1 1), (.int .i64 ((c : Nat) : Int))]) Try.func55 nm55 bd55 rfl) (repeat_c _ bf 1 c (-1) _ Bf hn.2.1 (by omega)) ?_
    rintro _ w19 ⟨⟨g, rfl, hg, hG⟩, X19⟩
    replace Bd := X19.keep Bd
    replace Bo := X19.keep Bo
    replace hPB := X19.keep hPB
    replace Be := X19.keep Be
    replace Bf := X19.keep Bf
    replace E := E.ext X19
    refine s_buildSlice (ps := [(0, (.slice (some ⟨g, 0, none⟩) c c))]) (c := #[(.slice (some ⟨g, 0, none⟩) c c)]) (by decide) rfl Try.underlying23 siz22 zer22 (by decide) (by decide) (by kernel_rfl) ?_
    intro bh wh Nh
    have Fh := Nh.ge E
    have Oh_bd := Nh.lt Bd
    have Oh_bo := Nh.lt Bo
    have Oh_b1 := Nh.lt hPB
    have Oh_be := Nh.lt Be
    have Oh_bf := Nh.lt Bf
    have Oh_g := Nh.lt hG
    replace Bd := Nh.keep Bd
    replace Bo := Nh.keep Bo
    replace hPB := Nh.keep hPB
    replace Be := Nh.keep Be
    replace Bf := Nh.keep Bf
    replace hG := Nh.keep hG
    replace E := E.ext Nh.ext
    have Bh := Nh.blk
    refine WpL_val rfl rfl (by decide) (r_build (ps := [(1, (.slice (some ⟨be, 0, none⟩) 1 1)), (2, (.slice (some ⟨bh, 0, none⟩) 1 1))]) (v := (.agg #[(.int .i64 0), (.slice (some ⟨be, 0, none⟩) 1 1), (.slice (some ⟨bh, 0, none⟩) 1 1)])) rfl (by kernel_rfl)) ?_
    refine s_storeAgg (b := bo) (o := 0) (c' := #[(.int .i64 0), (.slice (some ⟨be, 0, none⟩) 1 1), (.slice (some ⟨bh, 0, none⟩) 1 1)]) rfl rfl (by simp [Value.oneCell']) siz25 rfl Bo (by simp) rfl ?_
    intro w2 S2
    replace Bd := S2.keep (by omega) Bd
    replace hPB := S2.keep (by omega) hPB
    replace Be := S2.keep (by omega) Be
    replace Bf := S2.keep (by omega) Bf
    replace hG := S2.keep (by omega) hG
    replace Bh := S2.keep (by omega) Bh
    replace E := S2.step E (by first | exact Or.inl (by omega) | exact Or.inr rfl | exact Or.inr (by assumption) | exact Or.inr (by simp) | exact Or.inr (by omega) | exact Or.inr (by dsimp only; omega))
    replace Bo := S2.blk
    refine WpL_nil ?_
    refine Wp_ret ?_
    refine thn_ret ?_
    refine fin_agg Try.results56 (vs := [(.int .i64 0), (.slice (some ⟨be, 0, none⟩) 1 1), (.slice (some ⟨bh, 0, none⟩) 1 1)]) (b := bo) rfl agg25 siz25 rfl (Bo.cells rfl) ?_
    exact ⟨⟨⟨0, [-1], [List.replicate c (-1)]⟩, _, canOf_dead ok hnl0, by show 1 ≤ n; omega, fun x hx => by rw [List.mem_singleton] at hx; rw [hx]; decide, rfl, fun M w' ch hM => dead_dfa (ch.keep (fun h => by have := hM _ h; omega) Be) (ch.keep (fun h => by have := hM _ h; omega) Bh) (ch.keep (fun h => by have := hM _ h; omega) hG) (by omega)⟩, E⟩
  · have khdead := hdead
    replace hdead := of_decide_eq_false hdead
    have hlive0 : 0 ≤ ptD p d.start := by omega
    refine Wp_skip ?_
    refine thn_normal ?_
    refine Wp_seq_region ?_
    refine s_alloc (c := #[(.int .i64 0), (.slice none 0 0), (.slice none 0 0)]) (by decide) zer25 rfl ?_
    intro br wr Nr
    have Fr := Nr.ge E
    have Or_bd := Nr.lt Bd
    have Or_bo := Nr.lt Bo
    have Or_b1 := Nr.lt hPB
    replace Bd := Nr.keep Bd
    replace Bo := Nr.keep Bo
    replace hPB := Nr.keep hPB
    replace E := E.ext Nr.ext
    have Br := Nr.blk
    refine WpL_nil ?_
    refine Wp_seq_region ?_
    refine s_makeMap kInt kInt (by decide) ?_
    intro bm wm Nm
    have Fm := Nm.ge E
    have Om_bd := Nm.lt Bd
    have Om_bo := Nm.lt Bo
    have Om_b1 := Nm.lt hPB
    have Om_br := Nm.lt Br
    replace Bd := Nm.keep Bd
    replace Bo := Nm.keep Bo
    replace hPB := Nm.keep hPB
    replace Br := Nm.keep Br
    replace E := E.ext Nm.ext
    intro Mm
    refine WpL_val rfl rfl (by decide) (r_move (v := (.slice (some ⟨b1, 0, none⟩) n n)) rfl) ?_
    refine WpL_val rfl rfl (by decide) (r_fieldAddr (b := bd) (o := 0) (o' := 0) rfl Try.underlying25 rfl siz3 rfl) ?_
    refine WpL_val rfl rfl (by decide) (r_load (v := (.int .i64 d.start)) rfl flat3 (Bd.cell rfl)) ?_
    refine WpL_val rfl rfl (by decide) (r_indexSlice (b := b1) (o := 0) (len := n) (cap := n) (i := s0) (o' := 0 + s0) rfl rfl (by omega) Try.underlying22 siz3 (by omega) (by omega)) ?_
    refine WpL_val rfl rfl (by decide) (r_load (v := (.int .i64 (ptD p d.start))) rfl flat3 (by rw [hs0]; exact ints_at_blk hPB hps)) ?_
    refine s_insert (k := (ptD p d.start)) (v := 0) Try.underlying101 (keyInt Try.underlying3) Mm rfl rfl rfl ?_
    intro w3 S3 H3
    replace Bd := S3.keep (by omega) Bd
    replace Bo := S3.keep (by omega) Bo
    replace hPB := S3.keep (by omega) hPB
    replace Br := S3.keep (by omega) Br
    replace E := S3.step E (by first | exact Or.inl (by omega) | exact Or.inr rfl | exact Or.inr (by assumption) | exact Or.inr (by simp) | exact Or.inr (by omega) | exact Or.inr (by dsimp only; omega))
    replace Mm := H3
    refine WpL_val rfl rfl (by decide) (r_move (v := (.map (some bm))) rfl) ?_
    refine WpL_val rfl rfl (by decide) (r_assign (v := (.map (some bm))) rfl) ?_
    refine WpL_nil ?_
    refine Wp_seq_region ?_
    refine WpL_val rfl rfl (by decide) (r_fieldAddr (b := bd) (o := 0) (o' := 0) rfl Try.underlying25 rfl siz3 rfl) ?_
    refine WpL_val rfl rfl (by decide) (r_load (v := (.int .i64 d.start)) rfl flat3 (Bd.cell rfl)) ?_
    refine s_buildSlice (ps := [(0, (.int .i64 d.start))]) (c := #[(.int .i64 d.start)]) (by decide) rfl Try.underlying22 siz3 zer3 (by decide) (by decide) (by kernel_rfl) ?_
    intro bs ws Ns
    have Fs := Ns.ge E
    have Os_bd := Ns.lt Bd
    have Os_bo := Ns.lt Bo
    have Os_b1 := Ns.lt hPB
    have Os_br := Ns.lt Br
    have Os_bm := Ns.ltM Mm
    replace Bd := Ns.keep Bd
    replace Bo := Ns.keep Bo
    replace hPB := Ns.keep hPB
    replace Br := Ns.keep Br
    replace Mm := Ns.keepM Mm
    replace E := E.ext Ns.ext
    have Bs := Ns.blk
    refine WpL_val rfl rfl (by decide) (r_assign (v := (.slice (some ⟨bs, 0, none⟩) 1 1)) rfl) ?_
    refine WpL_nil ?_
    refine Wp_seq ?_
    refine Wp_seq_region ?_
    refine WpL_val rfl rfl (by decide) (r_assign (v := (.int .i64 0)) rfl) ?_
    refine WpL_nil ?_
    refine Wp_block ?_
    obtain ⟨n1, hn1e⟩ : ∃ n1, n1 = bs := ⟨_, rfl⟩
    have hbsn : bs < ws.heap.size := Bs.lt
    have hS0 := own_lit1 (base := n1) Bs (by omega)
    have hC0 := CanP.start (c := c) hst hlive0
    refine Wp_loop (fun nn_ σ W4 => ∃ (i : Nat) (rows : List (List Int)) (st acc : List Int) (vs : List Value) (sa ea na2 : Option Addr) (sc2 sn ec nc2 : Nat), (∃ jj_, σ = upds jj_ [(1, (.pointer (some ⟨bd, 0, none⟩))), (2, (.pointer (some ⟨bo, 0, none⟩))), (3, (.slice (some ⟨b1, 0, none⟩) n n)), (4, (.int .i64 ((c : Nat) : Int))), (5, (.pointer (some ⟨br, 0, none⟩))), (6, (.map (some bm))), (8, (.int .i64 ((i : Nat) : Int))), (7, (.slice sa sn sc2))]) ∧ Chg none1 w0 W4 ∧ Blk W4 bd #[(.int .i64 d.start), (.slice (some ⟨ab, ao, none⟩) n ac), (.slice (some ⟨nb, no, none⟩) n nc)] 25 ∧ Blk W4 bo #[(.int .i64 0), (.slice none 0 0), (.slice none 0 0)] 25 ∧ Blk W4 b1 ((p.map (Value.int .i64)).toArray) 3 ∧ Blk W4 br (#[Value.int .i64 0, .slice ea i ec, .slice na2 i nc2]) 25 ∧ MapAt W4 bm kInt kInt (keysC (st.map (ptD p)) 0) ∧ (CanP n c d p rows [] st) ∧ (rows.length = i) ∧ (sn = st.length) ∧ (i ≤ sn) ∧ (acc = (st.take i).map (atD d)) ∧ (W4.ownsRow n1 TDI 1 (.slice sa sn sc2) sn (st.map (Value.int .i64))) ∧ (OutSt W4 n1 (.slice ea i ec) (.slice na2 i nc2) vs acc rows) ∧ (∀ b, (Value.slice sa sn sc2).ownBlock = some b → ¬ OutB (.slice ea i ec) (.slice na2 i nc2) vs b) ∧ (n1 ≤ W4.heap.size) ∧ nn_ = n - i) (n := n - 0) ?_ ?_
    · exact ⟨0, [], [d.start], [], [], some ⟨bs, 0, none⟩, none, none, 1, 1, 0, 0, Fits.out ⟨rfl, rfl, rfl, rfl, rfl, rfl, rfl, rfl, trivial⟩, E, Bd, Bo, hPB, Br, Mm, hC0, rfl, rfl, (by omega), rfl, hS0, OutSt.start _ _, (fun b _ h => by rcases h with h | h | ⟨i, v, h, _⟩; cases h; cases h; simp at h), (by omega), rfl⟩
    · clear E Bd Bo hPB Br Mm
      rintro _ _ W4 ⟨i, rows, st, acc, vs, sa, ea, na2, sc2, sn, ec, nc2, ⟨j4, rfl⟩, E, Bd, Bo, hPB, Br, Mm, hC, hir, hsn, hisn, hacc2, hS, hO, hap, hsz, rfl⟩
      refine Wp_seq ?_
      refine Wp_seq_region ?_
      refine WpL_val rfl rfl (by decide) (r_move (v := (.int .i64 ((i : Nat) : Int))) rfl) ?_
      refine WpL_val rfl rfl (by decide) (r_move (v := (.slice sa sn sc2)) rfl) ?_
      refine WpL_val rfl rfl (by decide) (r_lenSlice (ad := sa) (n := sn) (cap := sc2) Try.underlying22 rfl) ?_
      refine WpL_val rfl rfl (by decide) (r_lss (k := .i64) (a := ((i : Nat) : Int)) (b := ((sn : Nat) : Int)) rfl rfl) ?_
      refine WpL_nil ?_
      refine Wp_cond (b := decide ((((i : Nat) : Int) : Int) < ((sn : Nat) : Int))) rfl (fun hlt => ?_) (fun hlt => ?_)
      · have khlt := hlt
        replace hlt := of_decide_eq_true hlt
        obtain ⟨s, hsi⟩ := get_of_lt (l := st) (i := i) (by omega)
        obtain ⟨hs0', hsn', hsp'⟩ := hC.sl s (List.mem_of_getElem? hsi)
        obtain ⟨sN, hsN⟩ := Int.eq_ofNat_of_zero_le hs0'
        obtain ⟨row, ra, rc, hrow, hrl, hcell, hri⟩ := hrowc sN (by omega)
        have hle := hC.st_le
        have hrch : ((rows.length : Nat) : Int) ≤ mxL rows.flatten := by have := hC.mx; rw [List.append_nil] at this; omega
        obtain ⟨sb, rfl, hsb1, hsc⟩ := own_cells hS (by omega)
        obtain ⟨z0, hz0⟩ : ∃ z0, z0 = (W4).heap.size := ⟨_, rfl⟩
        have hnz : n1 ≤ z0 := by omega
        have hOz : ∀ b, OutB (.slice ea i ec) (.slice na2 i nc2) vs b → b < z0 := fun b hb => by have := (hO.lt hb).2; omega
        have hSz : ∀ b, (Value.slice (some ⟨sb, 0, none⟩) sn sc2).ownBlock = some b → b < z0 := fun b hb => by have := (hS.lt b hb).2; omega
        refine Wp_skip ?_
        refine thn_normal ?_
        refine Wp_seq ?_
        refine Wp_block ?_
        refine Wp_seq_region ?_
        refine WpL_val rfl rfl (by decide) (r_move (v := (.int .i64 ((c : Nat) : Int))) rfl) ?_
        refine s_make (n := c) (z := (.int .i64 0)) (bytes := 8) (by decide) Try.underlying22 siz3 byt3 zer3 rfl rfl rfl (by omega) (by omega) ?_
        intro bq wq Nq
        have Fq := Nq.ge E
        have Oq_bd := Nq.lt Bd
        have Oq_bo := Nq.lt Bo
        have Oq_b1 := Nq.lt hPB
        have Oq_br := Nq.lt Br
        have Oq_bm := Nq.ltM Mm
        replace Bd := Nq.keep Bd
        replace Bo := Nq.keep Bo
        replace hPB := Nq.keep hPB
        replace Br := Nq.keep Br
        replace Mm := Nq.keepM Mm
        replace hS := own_ext hS Nq.ext
        replace hO := hO.ext Nq.ext
        replace hsz := Nat.le_trans hsz Nq.ext.size
        replace hsc := hsc.ext Nq.ext
        replace E := E.ext Nq.ext
        have Bq := Nq.blk
        refine WpL_val rfl rfl (by decide) (r_assign (v := (.slice (some ⟨bq, 0, none⟩) c c)) rfl) ?_
        refine WpL_nil ?_
        refine Wp_seq ?_
        refine Wp_seq ?_
        obtain ⟨Fs6, hFs6⟩ : ∃ Fs : List Fact, Fs = [.eq (.pointer (some ⟨bd, 2, none⟩)), .eq (.slice (some ⟨nb, no, none⟩) n nc), .eq (.slice (some ⟨sb, 0, none⟩) sn sc2), .eq (.int .i64 ((i : Nat) : Int)), .eq (.pointer (some ⟨sb, 0 + i, none⟩)), .eq (.int .i64 s), .eq (.pointer (some ⟨nb, no + sN, none⟩)), .eq (.slice ra c rc), .eq (.int .i64 ((c : Nat) : Int)), .eq (.int .i64 0)] := ⟨_, rfl⟩
        refine Wp_dag [51, 52, 53, 54, 55, 56, 57, 58, 59, 60] [[], [0], [], [], [2, 3], [4], [1, 5], [6], [7], []] Fs6 hFs6 mixed (by kernel_rfl) (by kernel_rfl) ?_ ?_
        · intro wd X0
          refine DagSteps.cons (fun s' w' X U H => Or.inl ⟨?_, ?_⟩) ?_
          · exact Guarded_none rfl
          · exact Does_val (r_fieldAddr (b := bd) (o := 0) (o' := 2) (U 1 rfl) Try.underlying25 rfl siz23 rfl) (Ext.refl _) rfl
          refine DagSteps.cons (fun s' w' X U H => Or.inl ⟨?_, ?_⟩) ?_
          · exact Guarded_none rfl
          · have e51 : s' 51 = (.pointer (some ⟨bd, 2, none⟩)) := H 0 rfl 51 (.eq (.pointer (some ⟨bd, 2, none⟩))) rfl (by rw [hFs6]; rfl)
            exact Does_val (r_load (v := (.slice (some ⟨nb, no, none⟩) n nc)) e51 flat23 (((X0.trans X).keep Bd).cell rfl)) (Ext.refl _) rfl
          refine DagSteps.cons (fun s' w' X U H => Or.inl ⟨?_, ?_⟩) ?_
          · exact Guarded_none rfl
          · exact Does_val (r_move (v := (.slice (some ⟨sb, 0, none⟩) sn sc2)) (U 7 rfl)) (Ext.refl _) rfl
          refine DagSteps.cons (fun s' w' X U H => Or.inl ⟨?_, ?_⟩) ?_
          · exact Guarded_none rfl
          · exact Does_val (r_move (v := (.int .i64 ((i : Nat) : Int))) (U 8 rfl)) (Ext.refl _) rfl
          refine DagSteps.cons (fun s' w' X U H => Or.inl ⟨?_, ?_⟩) ?_
          · exact Guarded_none rfl
          · have e53 : s' 53 = (.slice (some ⟨sb, 0, none⟩) sn sc2) := H 2 rfl 53 (.eq (.slice (some ⟨sb, 0, none⟩) sn sc2)) rfl (by rw [hFs6]; rfl)
            have e54 : s' 54 = (.int .i64 ((i : Nat) : Int)) := H 3 rfl 54 (.eq (.int .i64 ((i : Nat) : Int))) rfl (by rw [hFs6]; rfl)
            exact Does_val (r_indexSlice (b := sb) (o := 0) (len := sn) (cap := sc2) (i := i) (o' := 0 + i) e53 e54 rfl Try.underlying22 siz3 (by omega) (by omega)) (Ext.refl _) rfl
          refine DagSteps.cons (fun s' w' X U H => Or.inl ⟨?_, ?_⟩) ?_
          · exact Guarded_none rfl
          · have e55 : s' 55 = (.pointer (some ⟨sb, 0 + i, none⟩)) := H 4 rfl 55 (.eq (.pointer (some ⟨sb, 0 + i, none⟩))) rfl (by rw [hFs6]; rfl)
            exact Does_val (r_load (v := (.int .i64 s)) e55 flat3 ((X0.trans X).cell (hsc i _ (by rw [List.getElem?_map, hsi]; rfl)))) (Ext.refl _) rfl
          refine DagSteps.cons (fun s' w' X U H => Or.inl ⟨?_, ?_⟩) ?_
          · exact Guarded_none rfl
          · have e52 : s' 52 = (.slice (some ⟨nb, no, none⟩) n nc) := H 1 rfl 52 (.eq (.slice (some ⟨nb, no, none⟩) n nc)) rfl (by rw [hFs6]; rfl)
            have e56 : s' 56 = (.int .i64 s) := H 5 rfl 56 (.eq (.int .i64 s)) rfl (by rw [hFs6]; rfl)
            exact Does_val (r_indexSlice (b := nb) (o := no) (len := n) (cap := nc) (i := sN) (o' := no + sN) e52 e56 (by omega) Try.underlying23 siz22 (by omega) (by omega)) (Ext.refl _) rfl
          refine DagSteps.cons (fun s' w' X U H => Or.inl ⟨?_, ?_⟩) ?_
          · exact Guarded_none rfl
          · have e57 : s' 57 = (.pointer (some ⟨nb, no + sN, none⟩)) := H 6 rfl 57 (.eq (.pointer (some ⟨nb, no + sN, none⟩))) rfl (by rw [hFs6]; rfl)
            exact Does_val (r_load (v := (.slice ra c rc)) e57 flat22 ((Chg.ext E (X0.trans X)).cell (fun f => f) hcell)) (Ext.refl _) rfl
          refine DagSteps.cons (fun s' w' X U H => Or.inl ⟨?_, ?_⟩) ?_
          · exact Guarded_none rfl
          · have e58 : s' 58 = (.slice ra c rc) := H 7 rfl 58 (.eq (.slice ra c rc)) rfl (by rw [hFs6]; rfl)
            exact Does_val (r_lenSlice (ad := ra) (n := c) (cap := rc) Try.underlying22 e58) (Ext.refl _) rfl
          refine DagSteps.cons (fun s' w' X U H => Or.inl ⟨?_, ?_⟩) ?_
          · exact Guarded_none rfl
          · exact Does_val (r_move (v := (.int .i64 0)) rfl) (Ext.refl _) rfl
          exact DagSteps.nil
        · intro s' w6 X6 U H
          obtain ⟨j6, rfl⟩ := Fits.out (σ := s') (l := [(1, (.pointer (some ⟨bd, 0, none⟩))), (2, (.pointer (some ⟨bo, 0, none⟩))), (3, (.slice (some ⟨b1, 0, none⟩) n n)), (4, (.int .i64 ((c : Nat) : Int))), (5, (.pointer (some ⟨br, 0, none⟩))), (6, (.map (some bm))), (7, (.slice (some ⟨sb, 0, none⟩) sn sc2)), (8, (.int .i64 ((i : Nat) : Int))), (9, (.slice (some ⟨bq, 0, none⟩) c c)), (58, (.slice ra c rc)), (59, (.int .i64 ((c : Nat) : Int))), (60, (.int .i64 0))]) ⟨U 1 rfl, U 2 rfl, U 3 rfl, U 4 rfl, U 5 rfl, U 6 rfl, U 7 rfl, U 8 rfl, U 9 rfl, (show s' 58 = (.slice ra c rc) from H 7 58 (.eq (.slice ra c rc)) rfl (by rw [hFs6]; rfl)), (show s' 59 = (.int .i64 ((c : Nat) : Int)) from H 8 59 (.eq (.int .i64 ((c : Nat) : Int))) rfl (by rw [hFs6]; rfl)), (show s' 60 = (.int .i64 0) from H 9 60 (.eq (.int .i64 0)) rfl (by rw [hFs6]; rfl)), trivial⟩
          clear U H
          replace Bd := X6.keep Bd
          replace Bo := X6.keep Bo
          replace hPB := X6.keep hPB
          replace Br := X6.keep Br
          replace Mm := X6.keepM Mm
          replace Bq := X6.keep Bq
          replace hS := own_ext hS X6
          replace hO := hO.ext X6
          replace hsz := Nat.le_trans hsz X6.size
          replace hsc := hsc.ext X6
          replace E := E.ext X6
          have hqz : z0 ≤ bq := by have := Nq.eq; omega
          rw [show List.replicate c (Value.int .i64 0) = (List.replicate c (0 : Int)).map (Value.int .i64) by simp] at Bq
          refine thn_normal ?_
          refine Wp_block ?_
          refine Wp_loop (fun nn_ σ W7 => ∃ (x : Nat) (R : List Int) (st : List Int) (sa : Option Addr) (sc2 sn : Nat), (∃ jj_, σ = upds jj_ [(1, (.pointer (some ⟨bd, 0, none⟩))), (2, (.pointer (some ⟨bo, 0, none⟩))), (3, (.slice (some ⟨b1, 0, none⟩) n n)), (4, (.int .i64 ((c : Nat) : Int))), (5, (.pointer (some ⟨br, 0, none⟩))), (6, (.map (some bm))), (8, (.int .i64 ((i : Nat) : Int))), (9, (.slice (some ⟨bq, 0, none⟩) c c)), (58, (.slice ra c rc)), (59, (.int .i64 ((c : Nat) : Int))), (60, (.int .i64 ((x : Nat) : Int))), (7, (.slice sa sn sc2))]) ∧ Chg none1 w0 W7 ∧ Blk W7 bd #[(.int .i64 d.start), (.slice (some ⟨ab, ao, none⟩) n ac), (.slice (some ⟨nb, no, none⟩) n nc)] 25 ∧ Blk W7 bo #[(.int .i64 0), (.slice none 0 0), (.slice none 0 0)] 25 ∧ Blk W7 b1 ((p.map (Value.int .i64)).toArray) 3 ∧ Blk W7 br (#[Value.int .i64 0, .slice ea i ec, .slice na2 i nc2]) 25 ∧ MapAt W7 bm kInt kInt (keysC (st.map (ptD p)) 0) ∧ Blk W7 bq ((R.map (Value.int .i64)).toArray) 3 ∧ (x ≤ c) ∧ (R.length = c) ∧ (CanP n c d p rows (R.take x) st) ∧ (st[i]? = some s) ∧ (sn = st.length) ∧ ((st.take i).map (atD d) = acc) ∧ (W7.ownsRow n1 TDI 1 (.slice sa sn sc2) sn (st.map (Value.int .i64))) ∧ (OutSt W7 n1 (.slice ea i ec) (.slice na2 i nc2) vs acc rows) ∧ (∀ b, (Value.slice sa sn sc2).ownBlock = some b → ¬ OutB (.slice ea i ec) (.slice na2 i nc2) vs b ∧ b ≠ bq) ∧ (n1 ≤ W7.heap.size) ∧ nn_ = c - x) (n := c - 0) ?_ ?_
          · exact ⟨0, List.replicate c 0, st, some ⟨sb, 0, none⟩, sc2, sn, Fits.out ⟨rfl, rfl, rfl, rfl, rfl, rfl, rfl, rfl, rfl, rfl, rfl, rfl, trivial⟩, E, Bd, Bo, hPB, Br, Mm, Bq, Nat.zero_le _, (by simp), (by simpa using hC), hsi, hsn, hacc2.symm, hS, hO, (fun b hb => ⟨hap b hb, fun e => by have := hSz b hb; omega⟩), hsz, rfl⟩
          · clear E Bd Bo hPB Br Mm Bq
            rintro _ _ W7 ⟨x, R, st, sa, sc2, sn, ⟨j7, rfl⟩, E, Bd, Bo, hPB, Br, Mm, Bq, hx, hRl, hC, hsi, hsn, hta, hS, hO, hap, hsz, rfl⟩
            refine Wp_seq_region ?_
            refine WpL_val rfl rfl (by decide) (r_lss (k := .i64) (a := ((x : Nat) : Int)) (b := ((c : Nat) : Int)) rfl rfl) ?_
            refine WpL_nil ?_
            refine Wp_seq ?_
            refine Wp_cond (b := decide ((((x : Nat) : Int) : Int) < ((c : Nat) : Int))) rfl (fun hlt2 => ?_) (fun hlt2 => ?_)
            · have khlt2 := hlt2
              replace hlt2 := of_decide_eq_true hlt2
              obtain ⟨t, ht⟩ := get_of_lt (l := row) (i := x) (by omega)
              obtain ⟨rb, ro, rfl, hrc⟩ := ints_cells (n := c) hri (by omega)
              obtain ⟨htk, _, _, hxl, hxh⟩ := toD_row ok hrow ht
              rw [← hsN] at htk
              have hxl2 : (R.take x).length = x := by simp; omega
              have hsr : st[rows.length]? = some s := by rw [hir]; exact hsi
              have hts := take_set_succ (L := R) (s := x) (x := -1) (by omega)
              refine Wp_skip ?_
              refine thn_normal ?_
              refine Wp_seq ?_
              refine Wp_block ?_
              refine Wp_seq_region ?_
              refine WpL_val rfl rfl (by decide) (r_move (v := (.int .i64 ((x : Nat) : Int))) rfl) ?_
              refine WpL_val rfl rfl (by decide) (r_indexSlice (b := rb) (o := ro) (len := c) (cap := rc) (i := x) (o' := ro + x) rfl rfl rfl Try.underlying22 siz3 (by omega) (by omega)) ?_
              refine WpL_val rfl rfl (by decide) (r_load (v := (.int .i64 t)) rfl flat3 (E.cell (fun f => f) (hrc x t ht))) ?_
              refine WpL_val rfl rfl (by decide) (r_assign (v := (.int .i64 ((x : Nat) : Int))) rfl) ?_
              refine WpL_val rfl rfl (by decide) (r_assign (v := (.int .i64 t)) rfl) ?_
              refine WpL_nil ?_
              refine Wp_seq ?_
              refine Wp_seq_region ?_
              refine WpL_val rfl rfl (by decide) (r_move (v := (.slice (some ⟨bq, 0, none⟩) c c)) rfl) ?_
              refine WpL_val rfl rfl (by decide) (r_move (v := (.int .i64 ((x : Nat) : Int))) rfl) ?_
              refine WpL_val rfl rfl (by decide) (r_indexSlice (b := bq) (o := 0) (len := c) (cap := c) (i := x) (o' := 0 + x) rfl rfl rfl Try.underlying22 siz3 (by omega) (by omega)) ?_
              refine s_store (b := bq) (o := 0 + x) (c' := ((R.set x (-1)).map (Value.int .i64)).toArray) (v := (.int .i64 (-1))) rfl rfl rfl siz3 Bq (by simp; omega) (ints_setD _) ?_
              intro w9 S9
              replace hS := own_chg hS S9.chg fun b hb h => (hap b hb).2 h
              replace hO := hO.chg S9.chg fun b hb h => by have := hOz b hb; have h' : b = bq := h; omega
              replace hsz := Nat.le_trans hsz S9.chg.size
              replace Bd := S9.keep (by omega) Bd
              replace Bo := S9.keep (by omega) Bo
              replace hPB := S9.keep (by omega) hPB
              replace Br := S9.keep (by omega) Br
              replace Mm := S9.keepM (by omega) Mm
              replace E := S9.step E (by first | exact Or.inl (by omega) | exact Or.inr rfl | exact Or.inr (by assumption) | exact Or.inr (by simp) | exact Or.inr (by omega) | exact Or.inr (by dsimp only; omega))
              replace Bq := S9.blk
              refine WpL_nil ?_
              refine Wp_seq_region ?_
              refine WpL_val rfl rfl (by decide) (r_move (v := (.int .i64 t)) rfl) ?_
              refine WpL_val rfl rfl (by decide) (r_lss (k := .i64) (a := t) (b := 0) rfl rfl) ?_
              refine WpL_val rfl rfl (by decide) (r_move (v := (.bool (decide ((t : Int) < 0)))) rfl) ?_
              rcases Bool.eq_false_or_eq_true (decide ((t : Int) < 0)) with hneg | hneg
              · have khneg := hneg
                replace khneg := of_decide_eq_true khneg
                have hEd : EntP d p st s (R.take x).length (-1) := .inl ⟨rfl, by rw [hxl2, htk, ptD_neg khneg]; decide⟩
                refine WpL_guard_no (oj := _) rfl rfl (by decide) (v := .bool true) (congrArg Value.bool hneg) (Or.inl rfl) ?_
                refine WpL_guard_no (oj := _) rfl rfl (by decide) (v := .bool true) (congrArg Value.bool hneg) (Or.inl rfl) ?_
                refine WpL_guard_no (oj := _) rfl rfl (by decide) (v := .bool true) (congrArg Value.bool hneg) (Or.inl rfl) ?_
                refine WpL_guard_no (oj := _) rfl rfl (by decide) (v := .bool true) (congrArg Value.bool hneg) (Or.inl rfl) ?_
                refine WpL_guard_no (oj := _) rfl rfl (by decide) (v := .bool true) (congrArg Value.bool hneg) (Or.inl rfl) ?_
                refine WpL_val rfl rfl (by decide) (r_pick (b := decide ((t : Int) < 0)) (v := (.bool true)) rfl (by rw [hneg]; rfl)) ?_
                refine WpL_nil ?_
                refine Wp_cond_true rfl ?_
                refine Wp_exit ?_
                refine thn_exit ?_
                refine inB_here ?_
                refine thn_normal ?_
                refine Wp_region ?_
                refine WpL_val rfl rfl (by decide) (r_add (k := .i64) (a := ((x : Nat) : Int)) (b := 1) (c := ((x : Nat) : Int) + 1) rfl rfl (wI64 (by omega))) ?_
                refine WpL_val rfl rfl (by decide) (r_move (v := (.int .i64 (((x : Nat) : Int) + 1))) rfl) ?_
                refine WpL_nil ?_
                refine thn_normal ?_
                exact ⟨c - (x + 1), by omega, x + 1, R.set x (-1), st, sa, sc2, sn, Fits.out ⟨rfl, rfl, rfl, rfl, rfl, rfl, rfl, rfl, rfl, rfl, rfl, rfl, trivial⟩, E, Bd, Bo, hPB, Br, Mm, Bq, (by omega), (by simp [hRl]), (by rw [hts]; exact hC.add hsr hEd), hsi, hsn, hta, hS, hO, hap, hsz, rfl⟩
              · have khneg := hneg
                replace khneg := of_decide_eq_false khneg
                obtain ⟨tN, htN⟩ := Int.eq_ofNat_of_zero_le (show 0 ≤ t by omega)
                have hpt := ptD_cell hPt.len (show tN < n by omega)
                refine WpL_guard_yes (oj := _) rfl rfl (by decide) (congrArg Value.bool hneg) ?_
                refine WpL_val rfl rfl (by decide) (r_move (v := (.slice (some ⟨b1, 0, none⟩) n n)) rfl) ?_
                refine WpL_guard_yes (oj := _) rfl rfl (by decide) (congrArg Value.bool hneg) ?_
                refine WpL_val rfl rfl (by decide) (r_move (v := (.int .i64 t)) rfl) ?_
                refine WpL_guard_yes (oj := _) rfl rfl (by decide) (congrArg Value.bool hneg) ?_
                refine WpL_val rfl rfl (by decide) (r_indexSlice (b := b1) (o := 0) (len := n) (cap := n) (i := tN) (o' := 0 + tN) rfl rfl (by omega) Try.underlying22 siz3 (by omega) (by omega)) ?_
                refine WpL_guard_yes (oj := _) rfl rfl (by decide) (congrArg Value.bool hneg) ?_
                refine WpL_val rfl rfl (by decide) (r_load (v := (.int .i64 (ptD p t))) rfl flat3 (by rw [htN]; exact ints_at_blk hPB hpt)) ?_
                refine WpL_guard_yes (oj := _) rfl rfl (by decide) (congrArg Value.bool hneg) ?_
                refine WpL_val rfl rfl (by decide) (r_lss (k := .i64) (a := ptD p t) (b := 0) rfl rfl) ?_
                refine WpL_val rfl rfl (by decide) (r_pick (b := decide ((t : Int) < 0)) (v := (.bool (decide ((ptD p t : Int) < 0)))) rfl (by rw [hneg]; rfl)) ?_
                refine WpL_nil ?_
                refine Wp_cond (b := decide ((ptD p t : Int) < 0)) rfl (fun hdt => ?_) (fun hdt => ?_)
                · have khdt := hdt
                  replace hdt := of_decide_eq_true hdt
                  have hEd : EntP d p st s (R.take x).length (-1) := .inl ⟨rfl, by rw [hxl2, htk]; omega⟩
                  refine Wp_exit ?_
                  refine thn_exit ?_
                  refine inB_here ?_
                  refine thn_normal ?_
                  refine Wp_region ?_
                  refine WpL_val rfl rfl (by decide) (r_add (k := .i64) (a := ((x : Nat) : Int)) (b := 1) (c := ((x : Nat) : Int) + 1) rfl rfl (wI64 (by omega))) ?_
                  refine WpL_val rfl rfl (by decide) (r_move (v := (.int .i64 (((x : Nat) : Int) + 1))) rfl) ?_
                  refine WpL_nil ?_
                  refine thn_normal ?_
                  exact ⟨c - (x + 1), by omega, x + 1, R.set x (-1), st, sa, sc2, sn, Fits.out ⟨rfl, rfl, rfl, rfl, rfl, rfl, rfl, rfl, rfl, rfl, rfl, rfl, trivial⟩, E, Bd, Bo, hPB, Br, Mm, Bq, (by omega), (by simp [hRl]), (by rw [hts]; exact hC.add hsr hEd), hsi, hsn, hta, hS, hO, hap, hsz, rfl⟩
                · have khdt := hdt
                  replace hdt := of_decide_eq_false hdt
                  refine Wp_skip ?_
                  refine thn_normal ?_
                  refine Wp_seq_region ?_
                  refine WpL_val rfl rfl (by decide) (r_move (v := (.map (some bm))) rfl) ?_
                  refine WpL_val rfl rfl (by decide) (r_move (v := (.slice (some ⟨b1, 0, none⟩) n n)) rfl) ?_
                  refine WpL_val rfl rfl (by decide) (r_move (v := (.int .i64 t)) rfl) ?_
                  refine WpL_val rfl rfl (by decide) (r_indexSlice (b := b1) (o := 0) (len := n) (cap := n) (i := tN) (o' := 0 + tN) rfl rfl (by omega) Try.underlying22 siz3 (by omega) (by omega)) ?_
                  refine WpL_val rfl rfl (by decide) (r_load (v := (.int .i64 (ptD p t))) rfl flat3 (by rw [htN]; exact ints_at_blk hPB hpt)) ?_
                  refine WpL_val (v := (.tuple #[(.int .i64 ((getM (keysC (st.map (ptD p)) 0) (ptD p t)).getD 0)), (.bool ((getM (keysC (st.map (ptD p)) 0) (ptD p t)).isSome))])) rfl rfl (by decide) (r_lookup2 (k := (ptD p t)) (z := 0) Try.underlying101 (keyInt Try.underlying3) zer3 Mm rfl rfl) ?_
                  refine WpL_val rfl rfl (by decide) (r_move (v := (.tuple #[(.int .i64 ((getM (keysC (st.map (ptD p)) 0) (ptD p t)).getD 0)), (.bool ((getM (keysC (st.map (ptD p)) 0) (ptD p t)).isSome))])) rfl) ?_
                  refine WpL_val rfl rfl (by decide) (r_extract (vs := #[(.int .i64 ((getM (keysC (st.map (ptD p)) 0) (ptD p t)).getD 0)), (.bool ((getM (keysC (st.map (ptD p)) 0) (ptD p t)).isSome))]) (v := (.int .i64 ((getM (keysC (st.map (ptD p)) 0) (ptD p t)).getD 0))) rfl rfl) ?_
                  refine WpL_val rfl rfl (by decide) (r_extract (vs := #[(.int .i64 ((getM (keysC (st.map (ptD p)) 0) (ptD p t)).getD 0)), (.bool ((getM (keysC (st.map (ptD p)) 0) (ptD p t)).isSome))]) (v := (.bool ((getM (keysC (st.map (ptD p)) 0) (ptD p t)).isSome))) rfl rfl) ?_
                  refine WpL_val rfl rfl (by decide) (r_assign (v := (.int .i64 ((getM (keysC (st.map (ptD p)) 0) (ptD p t)).getD 0))) rfl) ?_
                  refine WpL_val rfl rfl (by decide) (r_assign (v := (.bool ((getM (keysC (st.map (ptD p)) 0) (ptD p t)).isSome))) rfl) ?_
                  refine WpL_nil ?_
                  refine Wp_cut (fun σ W12 => ∃ (st1 : List Int) (j : Nat) (sa1 : Option Addr) (sc1 sn1 : Nat), (∃ jj_, σ = upds jj_ [(1, (.pointer (some ⟨bd, 0, none⟩))), (2, (.pointer (some ⟨bo, 0, none⟩))), (3, (.slice (some ⟨b1, 0, none⟩) n n)), (4, (.int .i64 ((c : Nat) : Int))), (5, (.pointer (some ⟨br, 0, none⟩))), (6, (.map (some bm))), (8, (.int .i64 ((i : Nat) : Int))), (9, (.slice (some ⟨bq, 0, none⟩) c c)), (10, (.int .i64 ((x : Nat) : Int))), (58, (.slice (some ⟨rb, ro, none⟩) c rc)), (59, (.int .i64 ((c : Nat) : Int))), (60, (.int .i64 ((x : Nat) : Int))), (7, (.slice sa1 sn1 sc1)), (12, (.int .i64 ((j : Nat) : Int)))]) ∧ Chg none1 w0 W12 ∧ Blk W12 bd #[(.int .i64 d.start), (.slice (some ⟨ab, ao, none⟩) n ac), (.slice (some ⟨nb, no, none⟩) n nc)] 25 ∧ Blk W12 bo #[(.int .i64 0), (.slice none 0 0), (.slice none 0 0)] 25 ∧ Blk W12 b1 ((p.map (Value.int .i64)).toArray) 3 ∧ Blk W12 br (#[Value.int .i64 0, .slice ea i ec, .slice na2 i nc2]) 25 ∧ MapAt W12 bm kInt kInt (keysC (st1.map (ptD p)) 0) ∧ Blk W12 bq (((R.set x (-1)).map (Value.int .i64)).toArray) 3 ∧ (CanP n c d p rows (R.take x ++ [((j : Nat) : Int)]) st1) ∧ (st1[i]? = some s) ∧ (sn1 = st1.length) ∧ ((st1.take i).map (atD d) = acc) ∧ (W12.ownsRow n1 TDI 1 (.slice sa1 sn1 sc1) sn1 (st1.map (Value.int .i64))) ∧ (OutSt W12 n1 (.slice ea i ec) (.slice na2 i nc2) vs acc rows) ∧ (∀ b, (Value.slice sa1 sn1 sc1).ownBlock = some b → ¬ OutB (.slice ea i ec) (.slice na2 i nc2) vs b ∧ b ≠ bq) ∧ (n1 ≤ W12.heap.size)) ?_ ?_
                  · skip
                    refine Wp_seq_region ?_
                    refine WpL_val rfl rfl (by decide) (r_move (v := (.bool ((getM (keysC (st.map (ptD p)) 0) (ptD p t)).isSome))) rfl) ?_
                    refine WpL_val rfl rfl (by decide) (r_not (b := (getM (keysC (st.map (ptD p)) 0) (ptD p t)).isSome) rfl) ?_
                    refine WpL_nil ?_
                    refine Wp_cond (b := !((getM (keysC (st.map (ptD p)) 0) (ptD p t)).isSome)) rfl (fun hnew => ?_) (fun hnew => ?_)
                    · have khnew := hnew
                      replace hnew := by simpa using hnew
                      have hgm : getM (keysC (st.map (ptD p)) 0) (ptD p t) = none := by simpa using hnew
                      obtain ⟨hnin, hput⟩ := keysC_none hgm
                      have htk2 : toD d s (R.take x).length = t := by rw [hxl2, htk]
                      have hle2 := hC.st_le
                      refine Wp_seq_region ?_
                      refine WpL_val rfl rfl (by decide) (r_move (v := (.slice sa sn sc2)) rfl) ?_
                      refine WpL_val rfl rfl (by decide) (r_lenSlice (ad := sa) (n := sn) (cap := sc2) Try.underlying22 rfl) ?_
                      refine WpL_val rfl rfl (by decide) (r_assign (v := (.int .i64 ((sn : Nat) : Int))) rfl) ?_
                      refine WpL_nil ?_
                      refine Wp_seq_region ?_
                      refine WpL_val rfl rfl (by decide) (r_move (v := (.map (some bm))) rfl) ?_
                      refine WpL_val rfl rfl (by decide) (r_move (v := (.slice (some ⟨b1, 0, none⟩) n n)) rfl) ?_
                      refine WpL_val rfl rfl (by decide) (r_move (v := (.int .i64 t)) rfl) ?_
                      refine WpL_val rfl rfl (by decide) (r_indexSlice (b := b1) (o := 0) (len := n) (cap := n) (i := tN) (o' := 0 + tN) rfl rfl (by omega) Try.underlying22 siz3 (by omega) (by omega)) ?_
                      refine WpL_val rfl rfl (by decide) (r_load (v := (.int .i64 (ptD p t))) rfl flat3 (by rw [htN]; exact ints_at_blk hPB hpt)) ?_
                      refine WpL_val rfl rfl (by decide) (r_move (v := (.int .i64 ((sn : Nat) : Int))) rfl) ?_
                      refine s_mapUpdate (k := (ptD p t)) (v := ((sn : Nat) : Int)) Try.underlying101 (keyInt Try.underlying3) Mm rfl rfl rfl ?_
                      intro w14 S14 H14
                      replace hS := own_chg hS S14.chg fun b hb h => by have := (hS.lt b hb).1; have h' : b = bm := h; omega
                      replace hO := hO.chg S14.chg fun b hb h => by have := (hO.lt hb).1; have h' : b = bm := h; omega
                      replace hsz := Nat.le_trans hsz S14.chg.size
                      replace Bd := S14.keep (by omega) Bd
                      replace Bo := S14.keep (by omega) Bo
                      replace hPB := S14.keep (by omega) hPB
                      replace Br := S14.keep (by omega) Br
                      replace Bq := S14.keep (by omega) Bq
                      replace E := S14.step E (by first | exact Or.inl (by omega) | exact Or.inr rfl | exact Or.inr (by assumption) | exact Or.inr (by simp) | exact Or.inr (by omega) | exact Or.inr (by dsimp only; omega))
                      replace Mm := H14
                      refine WpL_nil ?_
                      refine Wp_region ?_
                      refine WpL_val rfl rfl (by decide) (r_move (v := (.slice sa sn sc2)) rfl) ?_
                      refine WpL_val rfl rfl (by decide) (r_move (v := (.int .i64 t)) rfl) ?_
                      refine s_buildSlice (ps := [(0, (.int .i64 t))]) (c := #[(.int .i64 t)]) (by decide) rfl Try.underlying22 siz3 zer3 (by decide) (by decide) (by kernel_rfl) ?_
                      intro b15 w15 N15
                      have F15 := N15.ge E
                      have O15_bd := N15.lt Bd
                      have O15_bo := N15.lt Bo
                      have O15_b1 := N15.lt hPB
                      have O15_br := N15.lt Br
                      have O15_bm := N15.ltM Mm
                      have O15_bq := N15.lt Bq
                      replace Bd := N15.keep Bd
                      replace Bo := N15.keep Bo
                      replace hPB := N15.keep hPB
                      replace Br := N15.keep Br
                      replace Mm := N15.keepM Mm
                      replace Bq := N15.keep Bq
                      replace hS := own_ext hS N15.ext
                      replace hO := hO.ext N15.ext
                      replace hsz := Nat.le_trans hsz N15.ext.size
                      replace E := E.ext N15.ext
                      have B15 := N15.blk
                      have hbql := Bq.lt
                      refine s_append (base := n1) (n := sn) (m := 1) (xs := (st.map (Value.int .i64))) (news := [(.int .i64 t)]) (size := 1) (bytes := 8) (v := (.slice sa sn sc2)) (by decide) Try.underlying22 siz3 byt3 zer3 rfl (by decide) rfl hS rfl (rfl) (B15.cells rfl) (by simp [Value.oneCell']) (by unfold maxLen; omega) (by omega) (hsz) ?_
                      intro v7 w59 Ov7 Cv7 Dv7
                      replace Bd := Cv7.keep (fun h => by have := (hS.lt _ h).1; omega) Bd
                      replace Bo := Cv7.keep (fun h => by have := (hS.lt _ h).1; omega) Bo
                      replace hPB := Cv7.keep (fun h => by have := (hS.lt _ h).1; omega) hPB
                      replace Br := Cv7.keep (fun h => by have := (hS.lt _ h).1; omega) Br
                      replace Mm := Cv7.keepM (fun h => by have := (hS.lt _ h).1; omega) Mm
                      replace Bq := Cv7.keep (fun h => (hap _ h).2 rfl) Bq
                      replace E := E.step Cv7 (fun x hx h => absurd (hS.lt x h).1 (by omega))
                      obtain ⟨sa3, sc3, rfl⟩ := own_form Ov7
                      rw [hsn, show ((st.length : Nat) : Int) = (((st.map (ptD p)).length : Nat) : Int) by rw [List.length_map], hput, show st.map (ptD p) ++ [ptD p t] = (st ++ [t]).map (ptD p) by simp] at Mm
                      refine WpL_val rfl rfl (by decide) (r_assign (v := (.slice sa3 (sn + 1) sc3)) rfl) ?_
                      refine WpL_nil ?_
                      refine thn_normal ?_
                      exact ⟨st ++ [t], sn, sa3, sc3, sn + 1, Fits.out ⟨rfl, rfl, rfl, rfl, rfl, rfl, rfl, rfl, rfl, rfl, rfl, rfl, rfl, rfl, trivial⟩, E, Bd, Bo, hPB, Br, Mm, Bq, (by rw [hsn]; have h9 := hC.new hsr (by rw [htk2]; omega) (by rw [htk2]; omega) (fun u hu he => hnin (by rw [← htk2, ← he]; exact List.mem_map.2 ⟨u, hu, rfl⟩)); rw [htk2] at h9; exact h9), (by rw [List.getElem?_append_left (lt_of_get hsi)]; exact hsi), (by simp; omega), (by rw [List.take_append_of_le_length (by have := lt_of_get hsi; omega)]; exact hta), (by rw [List.map_append]; exact Ov7), hO.chg Cv7 (fun b hb h => (hap b h).1 hb), (fun b hb => by rcases Dv7 b hb with h9 | h9; exact hap b h9; exact ⟨fun ho => by have := (hO.lt ho).2; omega, fun e => by omega⟩), Nat.le_trans hsz Cv7.size⟩
                    · have khnew := hnew
                      replace hnew := by simpa using hnew
                      have hgs : (getM (keysC (st.map (ptD p)) 0) (ptD p t)).isSome = true := by simpa using hnew
                      obtain ⟨v9, hv9⟩ := Option.isSome_iff_exists.1 hgs
                      obtain ⟨j9, rfl, hj9⟩ := keysC_get hv9
                      rw [List.getElem?_map] at hj9
                      obtain ⟨u, hu, hut⟩ := Option.map_eq_some_iff.1 hj9
                      rw [show (getM (keysC (st.map (ptD p)) 0) (ptD p t)).getD 0 = ((j9 : Nat) : Int) from by rw [hv9]; rfl]
                      refine Wp_skip ?_
                      refine thn_normal ?_
                      exact ⟨st, j9, sa, sc2, sn, Fits.out ⟨rfl, rfl, rfl, rfl, rfl, rfl, rfl, rfl, rfl, rfl, rfl, rfl, rfl, rfl, trivial⟩, E, Bd, Bo, hPB, Br, Mm, Bq, hC.add hsr (.inr ⟨j9, u, rfl, hu, by rw [hxl2, htk, hut], by rw [hut]; omega⟩), hsi, hsn, hta, hS, hO, hap, hsz⟩
                  · clear E Bd Bo hPB Br Mm Bq
                    rintro _ W12 ⟨st1, j, sa1, sc1, sn1, ⟨j12, rfl⟩, E, Bd, Bo, hPB, Br, Mm, Bq, hC1, hsi1, hsn1, hta1, hS1, hO1, hap1, hsz1⟩
                    have hts2 := take_set_succ (L := R.set x (-1)) (s := x) (x := ((j : Nat) : Int)) (by simp; omega)
                    refine Wp_region ?_
                    refine WpL_val rfl rfl (by decide) (r_move (v := (.slice (some ⟨bq, 0, none⟩) c c)) rfl) ?_
                    refine WpL_val rfl rfl (by decide) (r_move (v := (.int .i64 ((x : Nat) : Int))) rfl) ?_
                    refine WpL_val rfl rfl (by decide) (r_move (v := (.int .i64 ((j : Nat) : Int))) rfl) ?_
                    refine WpL_val rfl rfl (by decide) (r_indexSlice (b := bq) (o := 0) (len := c) (cap := c) (i := x) (o' := 0 + x) rfl rfl rfl Try.underlying22 siz3 (by omega) (by omega)) ?_
                    refine s_store (b := bq) (o := 0 + x) (c' := (((R.set x (-1)).set x ((j : Nat) : Int)).map (Value.int .i64)).toArray) (v := (.int .i64 ((j : Nat) : Int))) rfl rfl rfl siz3 Bq (by simp; omega) (ints_setD _) ?_
                    intro w16 S16
                    replace hS1 := own_chg hS1 S16.chg fun b hb h => (hap1 b hb).2 h
                    replace hO1 := hO1.chg S16.chg fun b hb h => by have := hOz b hb; have h' : b = bq := h; omega
                    replace hsz1 := Nat.le_trans hsz1 S16.chg.size
                    replace Bd := S16.keep (by omega) Bd
                    replace Bo := S16.keep (by omega) Bo
                    replace hPB := S16.keep (by omega) hPB
                    replace Br := S16.keep (by omega) Br
                    replace Mm := S16.keepM (by omega) Mm
                    replace E := S16.step E (by first | exact Or.inl (by omega) | exact Or.inr rfl | exact Or.inr (by assumption) | exact Or.inr (by simp) | exact Or.inr (by omega) | exact Or.inr (by dsimp only; omega))
                    replace Bq := S16.blk
                    refine WpL_nil ?_
                    refine inB_normal ?_
                    refine thn_normal ?_
                    refine Wp_region ?_
                    refine WpL_val rfl rfl (by decide) (r_add (k := .i64) (a := ((x : Nat) : Int)) (b := 1) (c := ((x : Nat) : Int) + 1) rfl rfl (wI64 (by omega))) ?_
                    refine WpL_val rfl rfl (by decide) (r_move (v := (.int .i64 (((x : Nat) : Int) + 1))) rfl) ?_
                    refine WpL_nil ?_
                    refine thn_normal ?_
                    exact ⟨c - (x + 1), by omega, x + 1, (R.set x (-1)).set x ((j : Nat) : Int), st1, sa1, sc1, sn1, Fits.out ⟨rfl, rfl, rfl, rfl, rfl, rfl, rfl, rfl, rfl, rfl, rfl, rfl, trivial⟩, E, Bd, Bo, hPB, Br, Mm, Bq, (by omega), (by simp [hRl]), (by rw [hts2, List.take_set_of_le (Nat.le_refl x)]; exact hC1), hsi1, hsn1, hta1, hS1, hO1, hap1, hsz1, rfl⟩
            · have khlt2 := hlt2
              replace hlt2 := of_decide_eq_false hlt2
              have hxc : x = c := by omega
              rw [hxc, show R.take c = R by rw [← hRl, List.take_length]] at hC
              obtain ⟨n4, hn4⟩ : ∃ n4, n4 = (W7).heap.size := ⟨_, rfl⟩
              obtain ⟨sb2, rfl, _, hsc2⟩ := own_cells hS (by have := lt_of_get hsi; omega)
              have hale : acc.length = i := by rw [← hta, List.length_map, List.length_take]; have := lt_of_get hsi; omega
              have hOe : (W7).ownsRow n1 TDI 1 (.slice ea i ec) i (acc.map (Value.int .i64)) := by have h9 := hO.e; rwa [hale] at h9
              have hOn : (W7).ownsRow n1 TDIs 1 (.slice na2 i nc2) i vs := hO.n.on (by rw [List.length_map]; omega)
              have hle3 := hC.st_le
              have hsil := lt_of_get hsi
              have hat := acc_at ok (show sN < n by omega)
              obtain ⟨yv, hyv⟩ : ∃ y, y = atD d s := ⟨_, rfl⟩
              rw [← hsN, ← hyv] at hat
              have hbql := Bq.lt
              have hUq := own_exact (base := bq) Bq (Nat.le_refl _) hRl
              refine Wp_exit ?_
              refine thn_exit ?_
              refine thn_exit ?_
              refine inB_here ?_
              refine thn_normal ?_
              obtain ⟨Fs17, hFs17⟩ : ∃ Fs : List FctE, Fs = [(fun _ v _ => v = (.pointer (some ⟨br, 2, none⟩))), (fun _ v _ => v = (.slice na2 i nc2)), (fun _ v _ => v = (.slice (some ⟨bq, 0, none⟩) c c)), (fun _ => litF TDIs #[.slice (some ⟨bq, 0, none⟩) c c] n4), (fun _ => appF n1 TDIs 1 (i + 1) (vs ++ [Value.slice (some ⟨bq, 0, none⟩) c c]) (.slice na2 i nc2) n4), (fun _ v _ => v = (.pointer (some ⟨br, 1, none⟩))), (fun _ v _ => v = (.slice ea i ec)), (fun _ v _ => v = (.pointer (some ⟨bd, 1, none⟩))), (fun _ v _ => v = (.slice (some ⟨ab, ao, none⟩) n ac)), (fun _ v _ => v = (.slice (some ⟨sb2, 0, none⟩) sn sc2)), (fun _ v _ => v = (.int .i64 ((i : Nat) : Int))), (fun _ v _ => v = (.pointer (some ⟨sb2, 0 + i, none⟩))), (fun _ v _ => v = (.int .i64 s)), (fun _ v _ => v = (.pointer (some ⟨ab, ao + sN, none⟩))), (fun _ v _ => v = (.int .i64 yv)), (fun _ => litF TDI #[.int .i64 yv] n4), (fun s v w => appF n1 TDI 1 (i + 1) (acc.map (Value.int .i64) ++ [Value.int .i64 yv]) (.slice ea i ec) n4 v w ∧ ∀ b, (s 109).ownBlock = some b → v.ownBlock ≠ some b), (fun _ v _ => v = (.pointer (some ⟨br, 2, none⟩)))] := ⟨_, rfl⟩
              refine Wp_dagX (two 4 16 (fun b => (Value.slice na2 i nc2).ownBlock = some b) (fun b => (Value.slice ea i ec).ownBlock = some b)) 18 [105, 106, 107, 108, 109, 110, 111, 112, 113, 114, 115, 116, 117, 118, 119, 120, 121, 122] [[], [0], [], [2], [1, 3], [], [5], [], [7], [], [], [9, 10], [11], [8, 12], [13], [14], [4, 6, 15], [0, 1, 2, 3, 4, 5, 6]] [[], [0], [], [2], [1, 0, 3, 2], [], [5], [], [7], [], [], [9, 10], [11, 9, 10], [8, 7, 12, 11, 9, 10], [13, 8, 7, 12, 11, 9, 10], [14, 13, 8, 7, 12, 11, 9, 10], [4, 1, 0, 3, 2, 6, 5, 15, 14, 13, 8, 7, 12, 11, 9, 10], [0, 1, 2, 3, 4, 5, 6]] Fs17 hFs17 (by kernel_rfl) mixed (by kernel_rfl) (by kernel_rfl) (by kernel_rfl) ?_ ?_
              · intro wd X0
                refine DagStepsX.cons (StabX.eq) (fun _ _ _ _ _ h => h) (fun s' w' X U H => ?_) ?_
                · exact DoesT_val (r_fieldAddr (b := br) (o := 0) (o' := 2) (U 5 rfl) Try.underlying25 rfl siz23 rfl) (Chg.refl _ _) rfl
                refine DagStepsX.cons (StabX.eq) (fun _ _ _ _ _ h => h) (fun s' w' X U H => ?_) ?_
                · have e105 : s' 105 = (.pointer (some ⟨br, 2, none⟩)) := H 0 rfl 105 ((fun _ v _ => v = (.pointer (some ⟨br, 2, none⟩)))) rfl (by rw [hFs17]; rfl)
                  exact DoesT_val (r_load (v := (.slice na2 i nc2)) e105 flat23 ((Chg.keep X (fun h => (fun h => h.elim (fun h => by have := (hOn.lt _ h).1; omega) (fun h => by have := (hOe.lt _ h).1; omega)) (Past.or h)) (X0.keep Br)).cell rfl)) (Chg.refl _ _) rfl
                refine DagStepsX.cons (StabX.eq) (fun _ _ _ _ _ h => h) (fun s' w' X U H => ?_) ?_
                · exact DoesT_val (r_move (v := (.slice (some ⟨bq, 0, none⟩) c c)) (U 9 rfl)) (Chg.refl _ _) rfl
                refine DagStepsX.cons (litF_stab (fun y h => by have := (hOn.lt y h).2; omega) (fun y h => by have := (hOe.lt y h).2; omega)) (LocX.const) (fun s' w' X U H => ?_) ?_
                · have e107 : s' 107 = (.slice (some ⟨bq, 0, none⟩) c c) := H 2 rfl 107 ((fun _ v _ => v = (.slice (some ⟨bq, 0, none⟩) c c))) rfl (by rw [hFs17]; rfl)
                  exact DoesT_lit (hs := n4) Try.underlying23 siz22 zer22 e107 (by decide) (by decide) (by kernel_rfl) (by have := X0.size; have := X.size; omega)
                refine DagStepsX.cons (appF_st1 (fun k hk hm => hk.elim (fun h => hO.en k hm h) (fun h => by have := (hOe.lt k hm).2; omega))) (LocX.const) (fun s' w' X U H => ?_) ?_
                · have e106 : s' 106 = (.slice na2 i nc2) := H 1 rfl 106 ((fun _ v _ => v = (.slice na2 i nc2))) rfl (by rw [hFs17]; rfl)
                  obtain ⟨b108, e108, B108, g108⟩ := (show ((fun _ => litF TDIs #[.slice (some ⟨bq, 0, none⟩) c c] n4) : FctE) s' (s' 108) w' from H 3 rfl 108 ((fun _ => litF TDIs #[.slice (some ⟨bq, 0, none⟩) c c] n4)) rfl (by rw [hFs17]; rfl))
                  exact DoesT_append (hs := n4) Try.underlying23 siz22 byt22 zer22 rfl (by decide) e106 (own_ext (own_ext hOn X0) (X.mono (fun y _ h => Past.none rfl rfl h))) e108 rfl (B108.cells rfl) (by simp [Value.oneCell']) (by unfold maxLen; omega) (by omega) (by have := X0.size; have := X.size; omega) (fun y h => h) (by have := X0.size; have := X.size; omega)
                refine DagStepsX.cons (StabX.eq) (fun _ _ _ _ _ h => h) (fun s' w' X U H => ?_) ?_
                · exact DoesT_val (r_fieldAddr (b := br) (o := 0) (o' := 1) (U 5 rfl) Try.underlying25 rfl siz22 rfl) (Chg.refl _ _) rfl
                refine DagStepsX.cons (StabX.eq) (fun _ _ _ _ _ h => h) (fun s' w' X U H => ?_) ?_
                · have e110 : s' 110 = (.pointer (some ⟨br, 1, none⟩)) := H 5 rfl 110 ((fun _ v _ => v = (.pointer (some ⟨br, 1, none⟩)))) rfl (by rw [hFs17]; rfl)
                  exact DoesT_val (r_load (v := (.slice ea i ec)) e110 flat22 ((Chg.keep X (fun h => (fun h => h.elim (fun h => by have := (hOn.lt _ h).1; omega) (fun h => by have := (hOe.lt _ h).1; omega)) (Past.or h)) (X0.keep Br)).cell rfl)) (Chg.refl _ _) rfl
                refine DagStepsX.cons (StabX.eq) (fun _ _ _ _ _ h => h) (fun s' w' X U H => ?_) ?_
                · exact DoesT_val (r_fieldAddr (b := bd) (o := 0) (o' := 1) (U 1 rfl) Try.underlying25 rfl siz22 rfl) (Chg.refl _ _) rfl
                refine DagStepsX.cons (StabX.eq) (fun _ _ _ _ _ h => h) (fun s' w' X U H => ?_) ?_
                · have e112 : s' 112 = (.pointer (some ⟨bd, 1, none⟩)) := H 7 rfl 112 ((fun _ v _ => v = (.pointer (some ⟨bd, 1, none⟩)))) rfl (by rw [hFs17]; rfl)
                  exact DoesT_val (r_load (v := (.slice (some ⟨ab, ao, none⟩) n ac)) e112 flat22 ((Chg.keep X (fun h => (fun h => h.elim (fun h => by have := (hOn.lt _ h).1; omega) (fun h => by have := (hOe.lt _ h).1; omega)) (Past.or h)) (X0.keep Bd)).cell rfl)) (Chg.refl _ _) rfl
                refine DagStepsX.cons (StabX.eq) (fun _ _ _ _ _ h => h) (fun s' w' X U H => ?_) ?_
                · exact DoesT_val (r_move (v := (.slice (some ⟨sb2, 0, none⟩) sn sc2)) (U 7 rfl)) (Chg.refl _ _) rfl
                refine DagStepsX.cons (StabX.eq) (fun _ _ _ _ _ h => h) (fun s' w' X U H => ?_) ?_
                · exact DoesT_val (r_move (v := (.int .i64 ((i : Nat) : Int))) (U 8 rfl)) (Chg.refl _ _) rfl
                refine DagStepsX.cons (StabX.eq) (fun _ _ _ _ _ h => h) (fun s' w' X U H => ?_) ?_
                · have e114 : s' 114 = (.slice (some ⟨sb2, 0, none⟩) sn sc2) := H 9 rfl 114 ((fun _ v _ => v = (.slice (some ⟨sb2, 0, none⟩) sn sc2))) rfl (by rw [hFs17]; rfl)
                  have e115 : s' 115 = (.int .i64 ((i : Nat) : Int)) := H 10 rfl 115 ((fun _ v _ => v = (.int .i64 ((i : Nat) : Int)))) rfl (by rw [hFs17]; rfl)
                  exact DoesT_val (r_indexSlice (b := sb2) (o := 0) (len := sn) (cap := sc2) (i := i) (o' := 0 + i) e114 e115 rfl Try.underlying22 siz3 (by omega) (by omega)) (Chg.refl _ _) rfl
                refine DagStepsX.cons (StabX.eq) (fun _ _ _ _ _ h => h) (fun s' w' X U H => ?_) ?_
                · have e116 : s' 116 = (.pointer (some ⟨sb2, 0 + i, none⟩)) := H 11 rfl 116 ((fun _ v _ => v = (.pointer (some ⟨sb2, 0 + i, none⟩)))) rfl (by rw [hFs17]; rfl)
                  exact DoesT_val (r_load (v := (.int .i64 s)) e116 flat3 (Chg.cell X (fun h => (Past.or h).elim (fun h => (hap _ rfl).1 (.inr (.inl h))) (fun h => (hap _ rfl).1 (.inl h))) (X0.cell (hsc2 i _ (by rw [List.getElem?_map, hsi]; rfl))))) (Chg.refl _ _) rfl
                refine DagStepsX.cons (StabX.eq) (fun _ _ _ _ _ h => h) (fun s' w' X U H => ?_) ?_
                · have e113 : s' 113 = (.slice (some ⟨ab, ao, none⟩) n ac) := H 8 rfl 113 ((fun _ v _ => v = (.slice (some ⟨ab, ao, none⟩) n ac))) rfl (by rw [hFs17]; rfl)
                  have e117 : s' 117 = (.int .i64 s) := H 12 rfl 117 ((fun _ v _ => v = (.int .i64 s))) rfl (by rw [hFs17]; rfl)
                  exact DoesT_val (r_indexSlice (b := ab) (o := ao) (len := n) (cap := ac) (i := sN) (o' := ao + sN) e113 e117 (by omega) Try.underlying22 siz3 (by omega) (by omega)) (Chg.refl _ _) rfl
                refine DagStepsX.cons (StabX.eq) (fun _ _ _ _ _ h => h) (fun s' w' X U H => ?_) ?_
                · have e118 : s' 118 = (.pointer (some ⟨ab, ao + sN, none⟩)) := H 13 rfl 118 ((fun _ v _ => v = (.pointer (some ⟨ab, ao + sN, none⟩)))) rfl (by rw [hFs17]; rfl)
                  exact DoesT_val (r_load (v := (.int .i64 yv)) e118 flat3 (Chg.cell X (fun h => (Past.or h).elim (fun h => by have := (hOn.lt ab h).1; omega) (fun h => by have := (hOe.lt ab h).1; omega)) (X0.cell (E.cell (fun f => f) (hax sN _ hat))))) (Chg.refl _ _) rfl
                refine DagStepsX.cons (litF_stab (fun y h => by have := (hOn.lt y h).2; omega) (fun y h => by have := (hOe.lt y h).2; omega)) (LocX.const) (fun s' w' X U H => ?_) ?_
                · have e119 : s' 119 = (.int .i64 yv) := H 14 rfl 119 ((fun _ v _ => v = (.int .i64 yv))) rfl (by rw [hFs17]; rfl)
                  exact DoesT_lit (hs := n4) Try.underlying22 siz3 zer3 e119 (by decide) (by decide) (by kernel_rfl) (by have := X0.size; have := X.size; omega)
                refine DagStepsX.cons (appF_st2 rfl) (fun s1 s2 h v w h2 => ⟨h2.1, by have := h 4 109 rfl rfl; rw [this]; exact h2.2⟩) (fun s' w' X U H => ?_) ?_
                · have e111 : s' 111 = (.slice ea i ec) := H 6 rfl 111 ((fun _ v _ => v = (.slice ea i ec))) rfl (by rw [hFs17]; rfl)
                  obtain ⟨b120, e120, B120, g120⟩ := (show ((fun _ => litF TDI #[.int .i64 yv] n4) : FctE) s' (s' 120) w' from H 15 rfl 120 ((fun _ => litF TDI #[.int .i64 yv] n4)) rfl (by rw [hFs17]; rfl))
                  exact app_two (H 4 rfl 109 _ rfl (by rw [hFs17]; rfl)) (DoesT_append (hs := w'.heap.size) Try.underlying22 siz3 byt3 zer3 rfl (by decide) e111 (own_chg (own_ext hOe X0) (X.mono (fun y _ h => Past.fst rfl h)) (fun k hk hm => hO.en k hk hm)) e120 rfl (B120.cells rfl) (by simp [Value.oneCell']) (by unfold maxLen; omega) (by omega) (by have := X0.size; have := X.size; omega) (fun y h => h) (Nat.le_refl _)) (by have := X0.size; have := X.size; omega) (fun k h1 h2 => h1.elim (fun h => hO.en k h2 h) (fun h => by have := (hOe.lt k h2).2; omega))
                refine DagStepsX.cons (StabX.eq) (fun _ _ _ _ _ h => h) (fun s' w' X U H => ?_) ?_
                · exact DoesT_val (r_fieldAddr (b := br) (o := 0) (o' := 2) (U 5 rfl) Try.underlying25 rfl siz23 rfl) (Chg.refl _ _) rfl
                exact DagStepsX.nil
              · intro s' wd17 w17 X0 X17 U H
                replace X17 := X17.mono (M' := fun y => (fun b => (Value.slice na2 i nc2).ownBlock = some b) y ∨ (fun b => (Value.slice ea i ec).ownBlock = some b) y) (fun y _ h => by obtain ⟨j, h⟩ := h; rcases two_or h with h | h; exact .inl h.2; exact .inr h.2)
                obtain ⟨⟨a109, c109, e109⟩, O109, D109⟩ := (show ((fun _ => appF n1 TDIs 1 (i + 1) (vs ++ [Value.slice (some ⟨bq, 0, none⟩) c c]) (.slice na2 i nc2) n4) : FctE) s' (s' 109) w17 from H 4 109 ((fun _ => appF n1 TDIs 1 (i + 1) (vs ++ [Value.slice (some ⟨bq, 0, none⟩) c c]) (.slice na2 i nc2) n4)) rfl (by rw [hFs17]; rfl))
                obtain ⟨⟨⟨a121, c121, e121⟩, O121, D121⟩, A121⟩ := (show ((fun s v w => appF n1 TDI 1 (i + 1) (acc.map (Value.int .i64) ++ [Value.int .i64 yv]) (.slice ea i ec) n4 v w ∧ ∀ b, (s 109).ownBlock = some b → v.ownBlock ≠ some b) : FctE) s' (s' 121) w17 from H 16 121 ((fun s v w => appF n1 TDI 1 (i + 1) (acc.map (Value.int .i64) ++ [Value.int .i64 yv]) (.slice ea i ec) n4 v w ∧ ∀ b, (s 109).ownBlock = some b → v.ownBlock ≠ some b)) rfl (by rw [hFs17]; rfl))
                have e122 : s' 122 = (.pointer (some ⟨br, 2, none⟩)) := H 17 122 ((fun _ v _ => v = (.pointer (some ⟨br, 2, none⟩)))) rfl (by rw [hFs17]; rfl)
                obtain ⟨j17, rfl⟩ := Fits.out (σ := s') (l := [(1, (.pointer (some ⟨bd, 0, none⟩))), (2, (.pointer (some ⟨bo, 0, none⟩))), (3, (.slice (some ⟨b1, 0, none⟩) n n)), (4, (.int .i64 ((c : Nat) : Int))), (5, (.pointer (some ⟨br, 0, none⟩))), (6, (.map (some bm))), (7, (.slice (some ⟨sb2, 0, none⟩) sn sc2)), (8, (.int .i64 ((i : Nat) : Int))), (109, (.slice a109 (i + 1) c109)), (121, (.slice a121 (i + 1) c121)), (122, (.pointer (some ⟨br, 2, none⟩)))]) ⟨U 1 rfl, U 2 rfl, U 3 rfl, U 4 rfl, U 5 rfl, U 6 rfl, U 7 rfl, U 8 rfl, e109, e121, e122, trivial⟩
                clear U H
                replace Bd := Chg.keep X17 (fun h => h.elim (fun h => by have := (hOn.lt _ h).1; omega) (fun h => by have := (hOe.lt _ h).1; omega)) (X0.keep Bd)
                replace Bo := Chg.keep X17 (fun h => h.elim (fun h => by have := (hOn.lt _ h).1; omega) (fun h => by have := (hOe.lt _ h).1; omega)) (X0.keep Bo)
                replace hPB := Chg.keep X17 (fun h => h.elim (fun h => by have := (hOn.lt _ h).1; omega) (fun h => by have := (hOe.lt _ h).1; omega)) (X0.keep hPB)
                replace Br := Chg.keep X17 (fun h => h.elim (fun h => by have := (hOn.lt _ h).1; omega) (fun h => by have := (hOe.lt _ h).1; omega)) (X0.keep Br)
                replace Mm := Chg.keepM X17 (fun h => h.elim (fun h => by have := (hOn.lt _ h).1; omega) (fun h => by have := (hOe.lt _ h).1; omega)) (X0.keepM Mm)
                replace Bq := Chg.keep X17 (fun h => h.elim (fun h => by have := hOz _ (.inr (.inl h)); omega) (fun h => by have := hOz _ (.inl h); omega)) (X0.keep Bq)
                have hXm := Chg.trans (Ext.chg X0) X17
                replace E := (E.ext X0).step X17 (fun y hy h => h.elim (fun h => by have := (hOn.lt y h).1; omega) (fun h => by have := (hOe.lt y h).1; omega))
                rw [e109] at O109 D109 A121
                rw [e121] at O121 D121 A121
                have hO2 := hO.push (y := yv) (N' := .slice a109 (i + 1) c109) (E' := .slice a121 (i + 1) c121) hUq hRl.symm (by omega) (fun b hb => by have := hOz b hb; omega) hXm (by rw [hir]; exact O109) (fun k hk => by rw [← hn4]; exact D109 k hk) (by rw [hale, List.map_append]; exact O121) (fun k hk => by rw [← hn4]; exact D121 k hk) A121
                have hS2 := own_chg hS hXm (fun b hb h => h.elim (fun h => (hap b hb).1 (.inr (.inl h))) (fun h => (hap b hb).1 (.inl h)))
                have hsz2 := Nat.le_trans hsz hXm.size
                have hap2 : ∀ b, (Value.slice (some ⟨sb2, 0, none⟩) sn sc2).ownBlock = some b → ¬ OutB (.slice a121 (i + 1) c121) (.slice a109 (i + 1) c109) (vs ++ [.slice (some ⟨bq, 0, none⟩) c c]) b := fun b hb ho => out_push (hap b hb) (by have := (hS.lt b hb).2; omega) D109 D121 ho
                refine s_store (b := br) (o := 2) (c' := #[(.int .i64 0), (.slice ea i ec), (.slice a109 (i + 1) c109)]) (v := (.slice a109 (i + 1) c109)) rfl rfl rfl siz23 Br (by simp) rfl ?_
                intro w18 S18
                replace hO2 := hO2.chg S18.chg fun b hb h => by have := (hO2.lt hb).1; have h' : b = br := h; omega
                replace hS2 := own_chg hS2 S18.chg fun b hb h => by have := (hS2.lt b hb).1; have h' : b = br := h; omega
                replace hsz2 := Nat.le_trans hsz2 S18.chg.size
                replace Bd := S18.keep (by omega) Bd
                replace Bo := S18.keep (by omega) Bo
                replace hPB := S18.keep (by omega) hPB
                replace Mm := S18.keepM (by omega) Mm
                replace Bq := S18.keep (by omega) Bq
                replace E := S18.step E (by first | exact Or.inl (by omega) | exact Or.inr rfl | exact Or.inr (by assumption) | exact Or.inr (by simp) | exact Or.inr (by omega) | exact Or.inr (by dsimp only; omega))
                replace Br := S18.blk
                refine WpL_val rfl rfl (by decide) (r_fieldAddr (b := br) (o := 0) (o' := 1) rfl Try.underlying25 rfl siz22 rfl) ?_
                refine s_store (b := br) (o := 1) (c' := #[(.int .i64 0), (.slice a121 (i + 1) c121), (.slice a109 (i + 1) c109)]) (v := (.slice a121 (i + 1) c121)) rfl rfl rfl siz22 Br (by simp) rfl ?_
                intro w19 S19
                replace hO2 := hO2.chg S19.chg fun b hb h => by have := (hO2.lt hb).1; have h' : b = br := h; omega
                replace hS2 := own_chg hS2 S19.chg fun b hb h => by have := (hS2.lt b hb).1; have h' : b = br := h; omega
                replace hsz2 := Nat.le_trans hsz2 S19.chg.size
                replace Bd := S19.keep (by omega) Bd
                replace Bo := S19.keep (by omega) Bo
                replace hPB := S19.keep (by omega) hPB
                replace Mm := S19.keepM (by omega) Mm
                replace Bq := S19.keep (by omega) Bq
                replace E := S19.step E (by first | exact Or.inl (by omega) | exact Or.inr rfl | exact Or.inr (by assumption) | exact Or.inr (by simp) | exact Or.inr (by omega) | exact Or.inr (by dsimp only; omega))
                replace Br := S19.blk
                refine WpL_nil ?_
                refine inB_normal ?_
                refine thn_normal ?_
                refine Wp_region ?_
                refine WpL_val rfl rfl (by decide) (r_move (v := (.int .i64 ((i : Nat) : Int))) rfl) ?_
                refine WpL_val rfl rfl (by decide) (r_add (k := .i64) (a := ((i : Nat) : Int)) (b := 1) (c := ((i : Nat) : Int) + 1) rfl rfl (wI64 (by omega))) ?_
                refine WpL_val rfl rfl (by decide) (r_assign (v := (.int .i64 (((i : Nat) : Int) + 1))) rfl) ?_
                refine WpL_nil ?_
                refine thn_normal ?_
                exact ⟨n - (i + 1), by omega, i + 1, rows ++ [R], st, acc ++ [yv], vs ++ [.slice (some ⟨bq, 0, none⟩) c c], some ⟨sb2, 0, none⟩, a121, a109, sc2, sn, c121, c109, Fits.out ⟨rfl, rfl, rfl, rfl, rfl, rfl, rfl, rfl, trivial⟩, E, Bd, Bo, hPB, Br, Mm, hC.row hRl hrch, (by simp [hir]), hsn, (by omega), (by rw [take_snoc' hsi, List.map_append, hta, hyv]; rfl), hS2, hO2, hap2, hsz2, rfl⟩
      · have khlt := hlt
        replace hlt := of_decide_eq_false hlt
        have hii : i = st.length := by omega
        have hlc := hC.st_le
        refine Wp_exit ?_
        refine thn_exit ?_
        refine thn_exit ?_
        refine inB_here ?_
        refine thn_normal ?_
        refine Wp_seq_region ?_
        refine WpL_val rfl rfl (by decide) (r_loadAgg (vs := [(.int .i64 0), (.slice ea i ec), (.slice na2 i nc2)]) rfl agg25 siz25 rfl (Br.cells rfl)) ?_
        refine s_storeAgg (b := bo) (o := 0) (c' := #[(.int .i64 0), (.slice ea i ec), (.slice na2 i nc2)]) rfl rfl (by simp [Value.oneCell']) siz25 rfl Bo (by simp) rfl ?_
        intro w20 S20
        replace hO := hO.chg S20.chg fun b hb h => by have := (hO.lt hb).1; have h' : b = bo := h; omega
        replace Bd := S20.keep (by omega) Bd
        replace hPB := S20.keep (by omega) hPB
        replace Br := S20.keep (by omega) Br
        replace Mm := S20.keepM (by omega) Mm
        replace E := S20.step E (by first | exact Or.inl (by omega) | exact Or.inr rfl | exact Or.inr (by assumption) | exact Or.inr (by simp) | exact Or.inr (by omega) | exact Or.inr (by dsimp only; omega))
        replace Bo := S20.blk
        refine WpL_nil ?_
        refine Wp_ret ?_
        refine fin_agg Try.results56 (vs := [(.int .i64 0), (.slice ea i ec), (.slice na2 i nc2)]) (b := bo) rfl agg25 siz25 rfl (Bo.cells rfl) ?_
        have hcan := hC.done ok hPt (by omega)
        have hacc3 : acc = st.map (atD d) := by rw [hacc2, hii, List.take_length]
        have hrl3 : rows.length = i := hir
        have hal3 : acc.length = i := by rw [hacc3, List.length_map]; omega
        rw [← hacc3] at hcan
        refine ⟨⟨⟨0, acc, rows⟩, _, hcan, by show rows.length ≤ n; omega, fun x hx => ?_, rfl, fun M w' ch hM => ⟨ea, ec, na2, nc2, by show [_, _, _] = [Value.int .i64 0, .slice ea acc.length ec, .slice na2 rows.length nc2]; rw [hal3, hrl3], ?_, ?_⟩⟩, E⟩
        · rw [hacc3] at hx
          obtain ⟨u, hu, hux⟩ := List.mem_map.1 hx
          have h9 := hC.sl u hu
          obtain ⟨uN, huN⟩ := Int.eq_ofNat_of_zero_le h9.1
          rw [← hux, huN]
          exact hac _ (List.mem_of_getElem? (acc_at ok (show uN < n by omega)))
        · show IntsAt _ (.slice ea acc.length ec) acc
          rw [hal3]
          have h9 := (hO.chg ch fun b hb h => by have := (hO.lt hb).1; have := hM b h; omega).e
          rw [hal3] at h9
          exact own_intsD h9 hal3.symm
        · show IntssAt _ (.slice na2 rows.length nc2) rows
          rw [hrl3]
          exact (hO.chg ch fun b hb h => by have := (hO.lt hb).1; have := hM b h; omega).intss
end Go.Proofs
namespace Go.Proofs
open Go Go.Eng Go.Sort
set_option maxRecDepth 100000
theorem okD_check {n c : Nat} {d : Dfa} (h : OkD n c d) (hn : 1 ≤ n ∧ n ≤ 200) (hc : 1 ≤ c ∧ c ≤ 16) : checkD d = 0 := by
  obtain ⟨h1, h2, h3, h4, h5⟩ := h
  have hne : d.next ≠ [] := fun he => by rw [he] at h1; simp at h1; omega
  have hcol : colsD d = c := by
    unfold colsD
    cases hq : d.next with
    | nil => exact absurd hq hne
    | cons y l => exact (h5 y (by rw [hq]; simp)).1
  unfold checkD
  rw [if_neg (by omega), if_neg (by omega), if_neg (by omega), if_neg, if_neg]
  · rw [Bool.or_eq_true]
    rintro (hb | hb)
    · unfold bad0 at hb
      have hane : d.accept ≠ [] := fun he => by rw [he] at h2; simp at h2; omega
      have := (minL_lt hane (z := -1)).2 (fun x hx => h4 x hx)
      simp only [Bool.or_eq_true, decide_eq_true_eq] at hb
      omega
    · obtain ⟨row, hr, hb⟩ := List.any_eq_true.1 hb
      obtain ⟨hl, hx⟩ := h5 row hr
      have hrne : row ≠ [] := fun he => by rw [he] at hl; simp at hl; omega
      have h6 := (minL_lt hrne (z := -1)).2 (fun x hx' => (hx x hx').1)
      have h7 := (maxL_lt hrne (z := ((n : Nat) : Int))).2 (fun x hx' => (hx x hx').2)
      simp only [badRow, Bool.or_eq_true, decide_eq_true_eq] at hb
      omega
  · intro hb
    obtain ⟨row, hr, hb⟩ := List.any_eq_true.1 hb
    obtain ⟨hl, _⟩ := h5 row hr
    simp only [formRow, Bool.or_eq_true, decide_eq_true_eq] at hb
    omega
def runS (d : Dfa) (s : Int) (w : List Int) : Int := w.foldl (fun s x => toD d s x.toNat) s
theorem OkD.run {n c : Nat} {d : Dfa} (h : OkD n c d) (w : List Int) : -1 ≤ runS d d.start w ∧ runS d d.start w < n := by
  have hst := h.st
  rcases List.eq_nil_or_concat w with rfl | ⟨w, x, rfl⟩
  · show -1 ≤ d.start ∧ d.start < n; omega
  · simp only [runS, List.concat_eq_append, List.foldl_append, List.foldl_cons, List.foldl_nil]; exact h.to
end Go.Proofs
namespace Go.Proofs
open Go Go.Eng Go.Sort
set_option maxRecDepth 100000
--BEGIN
def fl (a : Int) : Int := if a < 0 then 0 else -1
theorem CanOf.congr {c : Nat} {f g : List Nat → Int} {C : Dfa} (h : CanOf c f C) (e : ∀ w, inW c w → f w = g w) : CanOf c g C := by
  obtain ⟨m, h1, h2, h3, h4⟩ := h
  exact ⟨m, h1, fun w hw => (h2 w hw).trans (e w hw), h3, h4⟩
--END
end Go.Proofs
namespace Go.Proofs
open Go Go.Eng Go.Sort
set_option maxRecDepth 100000
theorem LSt.intss {w : World} {base : Nat} {N : Value} {vs : List Value} {rows : List (List Int)} (h : LSt TDIs TDI 1 w base N vs (rows.map iRow)) : IntssAt w N rows := by
  have hl : vs.length = rows.length := by simpa using h.len
  refine ⟨vs, ?_, hl, fun i u l hu hl => ?_⟩
  · have ho := h.o
    rw [show vs = (vs.map fun x => [x]).flatten by simp [List.flatten_eq_flatMap, List.flatMap_map]] at ho
    exact own_slat ho (by intro r hr; simp only [List.mem_map] at hr; obtain ⟨x, _, rfl⟩ := hr; rfl) (by simp [hl]) (by decide)
  · exact own_intsD (h.inn i u (iRow l) hu (by rw [List.getElem?_map, hl]; rfl)) rfl
/-- A canonical automaton as a result. -/
def CanR (c : Nat) (f : List Nat → Int) (n m : Nat) (r : Value) (w : World) : Prop := ∃ C ca cc ma mc, CanOf c f C ∧ C.next.length ≤ n ∧ (∀ x ∈ C.accept, x < 2147483648) ∧ r = .agg #[.int .i64 C.start, .slice ca C.accept.length cc, .slice ma C.next.length mc] ∧ DfaNew m w C [.int .i64 C.start, .slice ca C.accept.length cc, .slice ma C.next.length mc]
theorem canon_f (w0 : World) (n c : Nat) (d : Dfa) (dv : List Value) (ok : OkD n c d) (h : DfaAt w0 d dv) (hn : n ≤ 20000 ∧ 1 ≤ c ∧ c ≤ 16) (hac : ∀ x ∈ d.accept, x < 2147483648) :
    Ret Try.prog 56 #[.agg dv.toArray] w0 fun r w => CanR c (beh d d.start) n w0.heap.size r w ∧ Ext w0 w := by
  refine (canon_c w0 n c d dv ok h hn hac).mono ?_
  rintro r w ⟨⟨C, cv, hC, hl, ha, rfl, hN⟩, e⟩
  have h1 := hN.at'
  obtain ⟨ca, cc, ma, mc, rfl, _, _⟩ := h1
  exact ⟨⟨C, ca, cc, ma, mc, hC, hl, ha, rfl, hN⟩, e⟩
end Go.Proofs
namespace Go.Proofs
open Go Go.Eng Go.Sort
set_option maxRecDepth 100000
/-- A canonical automaton and no error as a result. -/
def CanE (c : Nat) (f : List Nat → Int) (n m : Nat) (r : Value) (w : World) : Prop := ∃ C ca cc ma mc, CanOf c f C ∧ C.next.length ≤ n ∧ (∀ x ∈ C.accept, x < 2147483648) ∧ r = .tuple #[.agg #[.int .i64 C.start, .slice ca C.accept.length cc, .slice ma C.next.length mc], .int .i64 0] ∧ DfaNew m w C [.int .i64 C.start, .slice ca C.accept.length cc, .slice ma C.next.length mc]
end Go.Proofs
namespace Go.Proofs
open Go Go.Eng
--BEGIN
def cntF (c : Nat) : Nat → (List Nat → Int) → Int
  | 0, f => if 0 ≤ f [] then 1 else 0
  | k + 1, f => ((List.range c).map fun x => cntF c k fun w => f (x :: w)).sum
def dotF (g : Nat → Int) : Nat → List Int → Int
  | _, [] => 0
  | i, x :: l => x * g i + dotF g (i + 1) l
theorem sum_congr {c : Nat} {g h : Nat → Int} (e : ∀ x, x < c → g x = h x) : ((List.range c).map g).sum = ((List.range c).map h).sum := by
  congr 1
  exact List.map_congr_left fun x hx => e x (List.mem_range.1 hx)
theorem cntF_neg {c : Nat} : ∀ {k : Nat} {f : List Nat → Int}, (∀ w, inW c w → f w < 0) → cntF c k f = 0
  | 0, f, h => by simp only [cntF]; rw [if_neg (by have := h [] (inW.nil c); omega)]
  | k + 1, f, h => by
    have : ((List.range c).map fun x => cntF c k fun w => f (x :: w)).sum = ((List.range c).map fun _ => (0 : Int)).sum := sum_congr fun x hx => cntF_neg fun w hw => h (x :: w) (inW.cons hx hw)
    simp only [cntF]
    rw [this]
    clear this h
    induction c with
    | zero => rfl
    | succ c ih => rw [List.range_succ, List.map_append, List.sum_append, ih]; rfl
theorem cntF_nn {c : Nat} : ∀ {k : Nat} {f : List Nat → Int}, 0 ≤ cntF c k f
  | 0, f => by simp only [cntF]; split <;> decide
  | k + 1, f => by
    simp only [cntF]
    generalize hL : List.range c = L
    clear hL
    induction L with
    | nil => simp
    | cons x L ih => simp only [List.map_cons, List.sum_cons]; have := cntF_nn (c := c) (k := k) (f := fun w => f (x :: w)); omega
theorem cntF_some {c : Nat} : ∀ {k : Nat} {f : List Nat → Int}, 0 < cntF c k f → ∃ w, w.length = k ∧ inW c w ∧ 0 ≤ f w
  | 0, f, h => by
    simp only [cntF] at h
    split at h
    · exact ⟨[], rfl, inW.nil c, by assumption⟩
    · omega
  | k + 1, f, h => by
    simp only [cntF] at h
    have key : ∀ L : List Nat, (∀ x ∈ L, x < c) → 0 < (L.map fun x => cntF c k fun w => f (x :: w)).sum → ∃ x ∈ L, 0 < cntF c k fun w => f (x :: w) := by
      intro L
      induction L with
      | nil => intro _ h; simp at h
      | cons x L ih =>
        intro hL h
        simp only [List.map_cons, List.sum_cons] at h
        by_cases h1 : 0 < cntF c k fun w => f (x :: w)
        · exact ⟨x, List.mem_cons_self, h1⟩
        · obtain ⟨y, hy, h2⟩ := ih (fun z hz => hL z (List.mem_cons_of_mem _ hz)) (by omega)
          exact ⟨y, List.mem_cons_of_mem _ hy, h2⟩
    obtain ⟨x, hx, h1⟩ := key _ (fun x hx => List.mem_range.1 hx) h
    obtain ⟨w, hw, hw2, h2⟩ := cntF_some h1
    exact ⟨x :: w, by simp [hw], inW.cons (List.mem_range.1 hx) hw2, h2⟩
theorem dotF_append (g : Nat → Int) : ∀ (l m : List Int) (i : Nat), dotF g i (l ++ m) = dotF g i l + dotF g (i + l.length) m
  | [], m, i => by simp [dotF]
  | x :: l, m, i => by
    simp only [List.cons_append, dotF]
    rw [dotF_append g l m (i + 1), List.length_cons, show i + 1 + l.length = i + (l.length + 1) by omega]
    omega
theorem dotF_take (g : Nat → Int) {l : List Int} {s : Nat} {w : Int} (h : l[s]? = some w) : dotF g 0 (l.take (s + 1)) = dotF g 0 (l.take s) + w * g s := by
  have hs := lt_of_get h
  rw [List.take_add_one, h, dotF_append]
  simp only [Option.toList_some, dotF, List.length_take]
  rw [show 0 + min s l.length = s by omega]
  omega
theorem dotF_set (g : Nat → Int) : ∀ {l : List Int} {t i : Nat} {y w : Int}, l[t]? = some y → dotF g i (l.set t (y + w)) = dotF g i l + w * g (i + t)
  | [], _, _, _, _, h => by simp at h
  | x :: l, 0, i, y, w, h => by
    simp at h
    subst h
    simp only [List.set_cons_zero, dotF, Nat.add_zero, Int.add_mul]
    omega
  | x :: l, t + 1, i, y, w, h => by
    simp only [List.set_cons_succ, dotF]
    rw [dotF_set g (by simpa using h), show i + 1 + t = i + (t + 1) by omega]
    omega
theorem dotF_zero (g : Nat → Int) : ∀ (n i : Nat), dotF g i (List.replicate n 0) = 0
  | 0, _ => rfl
  | n + 1, i => by simp only [List.replicate_succ, dotF]; rw [dotF_zero g n]; simp
theorem sum_take {l : List Int} {s : Nat} {w : Int} (h : l[s]? = some w) : (l.take (s + 1)).sum = (l.take s).sum + w := by
  rw [List.take_add_one, h, List.sum_append]; simp
theorem sum_set : ∀ {l : List Int} {t : Nat} {y w : Int}, l[t]? = some y → (l.set t (y + w)).sum = l.sum + w
  | [], _, _, _, h => by simp at h
  | x :: l, 0, y, w, h => by simp at h; subst h; simp only [List.set_cons_zero, List.sum_cons]; omega
  | x :: l, t + 1, y, w, h => by simp only [List.set_cons_succ, List.sum_cons]; rw [sum_set (by simpa using h)]; omega
theorem set_nn {l : List Int} {t : Nat} {y w : Int} (h : ∀ x ∈ l, 0 ≤ x) (hy : 0 ≤ y + w) : ∀ x ∈ l.set t (y + w), 0 ≤ x := fun x hx => by
  rcases List.mem_or_eq_of_mem_set hx with h1 | h1
  · exact h x h1
  · omega
--END
end Go.Proofs
namespace Go.Proofs
open Go Go.Eng Go.Sort
set_option maxRecDepth 100000
def wt (c : Nat) (d : Dfa) (j : Nat) (i : Nat) : Int := cntF c j (beh d ((i : Nat) : Int))
/-- A vector of ways. -/
structure Ways (n c : Nat) (d : Dfa) (k : Nat) (l : List Int) : Prop where
  len : l.length = n
  nn : ∀ x ∈ l, 0 ≤ x
  sum : l.sum ≤ ((c ^ k : Nat) : Int)
  dot : ∀ j, dotF (wt c d j) 0 l = cntF c (k + j) (beh d d.start)
theorem Ways.start {n c : Nat} {d : Dfa} (ok : OkD n c d) {s : Nat} (hs : d.start = ((s : Nat) : Int)) : Ways n c d 0 ((List.replicate n (0 : Int)).set s 1) := by
  have hst := ok.st
  have h0 : (List.replicate n (0 : Int))[s]? = some 0 := by rw [List.getElem?_replicate, if_pos (by omega)]
  have e : (List.replicate n (0 : Int)).set s 1 = (List.replicate n (0 : Int)).set s (0 + 1) := rfl
  refine ⟨by simp, ?_, ?_, fun j => ?_⟩
  · rw [e]; exact set_nn (fun x hx => by rw [List.eq_of_mem_replicate hx]; decide) (by decide)
  · rw [e, sum_set h0]
    have : (List.replicate n (0 : Int)).sum = 0 := by clear e h0 hst ok; induction n with | zero => rfl | succ n ih => rw [List.replicate_succ, List.sum_cons, ih]; rfl
    rw [this]; simp
  · rw [e, dotF_set _ h0, dotF_zero, Nat.zero_add, Nat.zero_add, wt, hs]; omega
/-- The next vector while it is made: the states below s done, of state s the symbols below x. -/
structure Nxt (n c : Nat) (d : Dfa) (ways : List Int) (s x : Nat) (l : List Int) : Prop where
  len : l.length = n
  nn : ∀ y ∈ l, 0 ≤ y
  sum : l.sum ≤ c * (ways.take s).sum + x * ways.getD s 0
  dot : ∀ j, dotF (wt c d j) 0 l = dotF (wt c d (j + 1)) 0 (ways.take s) + ways.getD s 0 * ((List.range x).map fun y => cntF c j (beh d (toD d ((s : Nat) : Int) y))).sum
theorem Nxt.start (n c : Nat) (d : Dfa) (ways : List Int) : Nxt n c d ways 0 0 (List.replicate n 0) := by
  refine ⟨by simp, fun y hy => by rw [List.eq_of_mem_replicate hy]; decide, ?_, fun j => ?_⟩
  · have : (List.replicate n (0 : Int)).sum = 0 := by induction n with | zero => rfl | succ n ih => rw [List.replicate_succ, List.sum_cons, ih]; rfl
    rw [this]; simp
  · rw [dotF_zero]; simp [dotF]
theorem Nxt.skip {n c : Nat} {d : Dfa} {ways l : List Int} {s x : Nat} (h : Nxt n c d ways s x l) (hw : 0 ≤ ways.getD s 0) (ht : toD d ((s : Nat) : Int) x < 0) : Nxt n c d ways s (x + 1) l := by
  refine ⟨h.len, h.nn, ?_, fun j => ?_⟩
  · have := h.sum
    rw [show ((x + 1 : Nat) : Int) * ways.getD s 0 = x * ways.getD s 0 + ways.getD s 0 by rw [Int.natCast_add, Int.add_mul]; simp]
    omega
  · rw [h.dot j, List.range_succ, List.map_append, List.sum_append]
    simp only [List.map_cons, List.map_nil, List.sum_cons, List.sum_nil]
    rw [cntF_neg fun w _ => by rw [beh_neg ht]; decide]
    simp
theorem Nxt.put {n c : Nat} {d : Dfa} {ways l : List Int} {s x t : Nat} {y : Int} (h : Nxt n c d ways s x l) (hw : 0 ≤ ways.getD s 0) (ht : toD d ((s : Nat) : Int) x = ((t : Nat) : Int)) (hy : l[t]? = some y) : Nxt n c d ways s (x + 1) (l.set t (y + ways.getD s 0)) := by
  have hyn := h.nn y (List.mem_of_getElem? hy)
  refine ⟨by simp [h.len], set_nn h.nn (by omega), ?_, fun j => ?_⟩
  · have := h.sum
    rw [sum_set hy, show ((x + 1 : Nat) : Int) * ways.getD s 0 = x * ways.getD s 0 + ways.getD s 0 by rw [Int.natCast_add, Int.add_mul]; simp]
    omega
  · rw [dotF_set _ hy, h.dot j, List.range_succ, List.map_append, List.sum_append, Nat.zero_add]
    simp only [List.map_cons, List.map_nil, List.sum_cons, List.sum_nil]
    rw [ht, Int.mul_add, wt, Int.add_zero]
    omega
theorem Nxt.row {n c : Nat} {d : Dfa} {ways l : List Int} {s : Nat} {w : Int} (h : Nxt n c d ways s c l) (hw : ways[s]? = some w) : Nxt n c d ways (s + 1) 0 l := by
  have hg : ways.getD s 0 = w := by rw [List.getD_eq_getElem?_getD, hw, Option.getD_some]
  refine ⟨h.len, h.nn, ?_, fun j => ?_⟩
  · have := h.sum
    rw [hg] at this
    rw [sum_take hw, Int.mul_add]
    simp only [Int.natCast_zero, Int.zero_mul]
    omega
  · rw [h.dot j, hg, dotF_take _ hw]
    simp only [List.range_zero, List.map_nil, List.sum_nil, Int.mul_zero, Int.add_zero]
    rfl
theorem Nxt.done {n c k : Nat} {d : Dfa} {ways l : List Int} {s : Nat} (h : Nxt n c d ways s 0 l) (hs : s = ways.length) (hW : Ways n c d k ways) : Ways n c d (k + 1) l := by
  subst hs
  refine ⟨h.len, h.nn, ?_, fun j => ?_⟩
  · have h1 := h.sum
    have h2 := hW.sum
    rw [List.take_length] at h1
    simp only [Int.natCast_zero, Int.zero_mul, Int.add_zero] at h1
    have h3 : (c : Int) * ways.sum ≤ c * ((c ^ k : Nat) : Int) := Int.mul_le_mul_of_nonneg_left h2 (by omega)
    rw [Nat.pow_succ, Nat.mul_comm, Int.natCast_mul]
    omega
  · rw [h.dot j, List.take_length, hW.dot (j + 1)]
    simp only [List.range_zero, List.map_nil, List.sum_nil, Int.mul_zero, Int.add_zero]
    congr 1
    omega
end Go.Proofs
namespace Go.Proofs
open Go Go.Eng Go.Sort
--BEGIN
section
variable {α : Type}
def runO (stp : α → Nat → Option α) : α → List Nat → Option α
  | a, [] => some a
  | a, x :: w => (stp a x).bind fun b => runO stp b w
theorem runO_snoc (stp : α → Nat → Option α) (x : Nat) : ∀ (w : List Nat) (a : α), runO stp a (w ++ [x]) = (runO stp a w).bind fun b => stp b x
  | [], a => by simp only [List.nil_append, runO, Option.bind_some]; cases stp a x <;> rfl
  | y :: w, a => by
    simp only [List.cons_append, runO]
    cases h : stp a y with
    | none => rfl
    | some b => simp only [Option.bind_some]; exact runO_snoc stp x w b
theorem inW.snoc {c x : Nat} {w : List Nat} (h : inW c w) (hx : x < c) : inW c (w ++ [x]) := fun y hy => by
  rcases List.mem_append.1 hy with h1 | h1
  · exact h y h1
  · rw [List.mem_singleton] at h1; rw [h1]; exact hx
theorem inW.init {c x : Nat} {w : List Nat} (h : inW c (w ++ [x])) : inW c w ∧ x < c := ⟨fun y hy => h y (List.mem_append_left _ hy), h x (List.mem_append_right _ (List.mem_singleton.2 rfl))⟩
/-- Keys as they are met: the keys below i are done, of key i the symbols below x. -/
structure BfsW (c : Nat) (stp : α → Nat → Option α) (a0 : α) (work : List α) (ws : List (List Nat)) (ps : List (Nat × Nat)) (i x : Nat) : Prop where
  len : ws.length = work.length
  plen : ps.length = work.length
  fst : work[0]? = some a0
  wf : ws[0]? = some []
  nd : work.Nodup
  run : ∀ (j : Nat) a w, work[j]? = some a → ws[j]? = some w → runO stp a0 w = some a
  inw : ∀ w ∈ ws, inW c w
  mono : ∀ (j k : Nat) w v, j ≤ k → ws[j]? = some w → ws[k]? = some v → w.length ≤ v.length
  near : ∀ (j : Nat) w v, ws[i]? = some v → ws[j]? = some w → w.length ≤ v.length + 1
  par : ∀ (k : Nat) w, 0 < k → ws[k]? = some w → ∃ j y v, j < k ∧ ps[k]? = some (j, y) ∧ ws[j]? = some v ∧ w = v ++ [y]
  done : ∀ (j : Nat) a y b v, (j < i ∨ (j = i ∧ y < x)) → y < c → work[j]? = some a → ws[j]? = some v → stp a y = some b → ∃ (k : Nat) (w : List Nat), work[k]? = some b ∧ ws[k]? = some w ∧ w.length ≤ v.length + 1
variable {c : Nat} {stp : α → Nat → Option α} {a0 : α} {work : List α} {ws : List (List Nat)} {ps : List (Nat × Nat)} {i x : Nat}
theorem one_get {β : Type} {a b : β} {j : Nat} (h : [a][j]? = some b) : j = 0 ∧ b = a := by
  have := lt_of_get h
  simp at this
  subst this
  simp at h
  exact ⟨rfl, h.symm⟩
theorem BfsW.start (c : Nat) (stp : α → Nat → Option α) (a0 : α) (p : Nat × Nat) : BfsW c stp a0 [a0] [[]] [p] 0 0 where
  len := rfl
  plen := rfl
  fst := rfl
  wf := rfl
  nd := by simp
  run := fun j a w h1 h2 => by obtain ⟨_, rfl⟩ := one_get h1; obtain ⟨_, rfl⟩ := one_get h2; rfl
  inw := fun w h => by rw [List.mem_singleton] at h; subst h; exact inW.nil c
  mono := fun j k w v _ h1 h2 => by obtain ⟨_, rfl⟩ := one_get h1; simp
  near := fun j w v _ h2 => by obtain ⟨_, rfl⟩ := one_get h2; simp
  par := fun k w hk h => by obtain ⟨rfl, _⟩ := one_get h; omega
  done := fun j a y b v h => by omega
theorem BfsW.get (h : BfsW c stp a0 work ws ps i x) {k : Nat} {a : α} (ha : work[k]? = some a) : ∃ w, ws[k]? = some w := get_of_lt (by rw [h.len]; exact lt_of_get ha)
theorem BfsW.none (h : BfsW c stp a0 work ws ps i x) {a : α} (ha : work[i]? = some a) (hn : stp a x = none) : BfsW c stp a0 work ws ps i (x + 1) := by
  refine { h with done := fun j b y b' v hj hy hb hv hs => ?_ }
  by_cases hjx : j < i ∨ (j = i ∧ y < x)
  · exact h.done j b y b' v hjx hy hb hv hs
  · have e1 : j = i := by omega
    have e2 : y = x := by omega
    subst e1; subst e2
    rw [ha] at hb; cases hb
    rw [hn] at hs; cases hs
theorem BfsW.old (h : BfsW c stp a0 work ws ps i x) {a b : α} (ha : work[i]? = some a) (hs : stp a x = some b) (hb : b ∈ work) : BfsW c stp a0 work ws ps i (x + 1) := by
  refine { h with done := fun j a' y b' v hj hy hb' hv hs' => ?_ }
  by_cases hjx : j < i ∨ (j = i ∧ y < x)
  · exact h.done j a' y b' v hjx hy hb' hv hs'
  · have e1 : j = i := by omega
    have e2 : y = x := by omega
    subst e1; subst e2
    rw [ha] at hb'; cases hb'
    rw [hs] at hs'; cases hs'
    obtain ⟨k, hk⟩ := List.getElem?_of_mem hb
    obtain ⟨w, hw⟩ := h.get hk
    exact ⟨k, w, hk, hw, h.near k w v hv hw⟩
theorem BfsW.new (h : BfsW c stp a0 work ws ps i x) {a b : α} {v : List Nat} (ha : work[i]? = some a) (hv : ws[i]? = some v) (hx : x < c) (hs : stp a x = some b) (hb : b ∉ work) : BfsW c stp a0 (work ++ [b]) (ws ++ [v ++ [x]]) (ps ++ [(i, x)]) i (x + 1) := by
  have hle : ∀ (j : Nat) w, ws[j]? = some w → w.length ≤ v.length + 1 := fun j w hw => h.near j w v hv hw
  have hil := lt_of_get ha
  refine ⟨by simp [h.len], by simp [h.plen], by rw [List.getElem?_append_left (lt_of_get h.fst)]; exact h.fst, by rw [List.getElem?_append_left (lt_of_get h.wf)]; exact h.wf, ?_, ?_, ?_, ?_, ?_, ?_, ?_⟩
  · rw [List.nodup_append]
    refine ⟨h.nd, by simp, fun p hp q hq => ?_⟩
    rw [List.mem_singleton] at hq
    subst hq
    exact fun e => hb (e ▸ hp)
  · intro j p w hp hw
    rcases snoc_get hp with h1 | ⟨h1, h2⟩
    · rcases snoc_get hw with h3 | ⟨h3, _⟩
      · exact h.run j p w h1 h3
      · have := lt_of_get h1; have := h.len; omega
    · rcases snoc_get hw with h3 | ⟨h3, h4⟩
      · have := lt_of_get h3; have := h.len; omega
      · subst h2; subst h4
        rw [runO_snoc, h.run i a v ha hv]; exact hs
  · intro w hw
    rcases List.mem_append.1 hw with h1 | h1
    · exact h.inw w h1
    · rw [List.mem_singleton] at h1; subst h1
      exact (h.inw v (List.mem_of_getElem? hv)).snoc hx
  · intro j k w u hjk hj hk
    rcases snoc_get hk with h1 | ⟨h1, h2⟩
    · rcases snoc_get hj with h3 | ⟨h3, _⟩
      · exact h.mono j k w u hjk h3 h1
      · have := lt_of_get h1; omega
    · subst h2
      rw [List.length_append]
      rcases snoc_get hj with h3 | ⟨h3, h4⟩
      · exact hle j w h3
      · subst h4; simp
  · intro j w u hu hj
    have hu2 : u = v := by
      rw [List.getElem?_append_left (lt_of_get hv), hv] at hu
      exact (Option.some.inj hu).symm
    subst hu2
    rcases snoc_get hj with h3 | ⟨h3, h4⟩
    · exact hle j w h3
    · subst h4; simp
  · intro k w hk hw
    rcases snoc_get hw with h1 | ⟨h1, h2⟩
    · obtain ⟨j, y, u, h3, h4, h5, h6⟩ := h.par k w hk h1
      exact ⟨j, y, u, h3, by rw [List.getElem?_append_left (lt_of_get h4)]; exact h4, by rw [List.getElem?_append_left (lt_of_get h5)]; exact h5, h6⟩
    · refine ⟨i, x, v, ?_, ?_, by rw [List.getElem?_append_left (lt_of_get hv)]; exact hv, h2⟩
      · have := h.len; omega
      · rw [List.getElem?_append_right (by rw [h.plen, h1, h.len]; exact Nat.le_refl _), h1, h.plen, h.len, Nat.sub_self]; rfl
  · intro j a' y b' u hj hy ha' hu hs'
    have hjl : j < work.length := by omega
    rw [List.getElem?_append_left hjl] at ha'
    rw [List.getElem?_append_left (by rw [h.len]; exact hjl)] at hu
    by_cases hjx : j < i ∨ (j = i ∧ y < x)
    · obtain ⟨k, w, h1, h2, h3⟩ := h.done j a' y b' u hjx hy ha' hu hs'
      exact ⟨k, w, by rw [List.getElem?_append_left (lt_of_get h1)]; exact h1, by rw [List.getElem?_append_left (lt_of_get h2)]; exact h2, h3⟩
    · have e1 : j = i := by omega
      have e2 : y = x := by omega
      subst e1; subst e2
      rw [ha] at ha'; cases ha'
      rw [hs] at hs'; cases hs'
      rw [hv] at hu; cases hu
      exact ⟨work.length, v ++ [y], by simp, by rw [← h.len]; simp, by simp⟩
theorem BfsW.row (h : BfsW c stp a0 work ws ps i c) : BfsW c stp a0 work ws ps (i + 1) 0 := by
  refine { h with near := fun j w v hv hw => ?_, done := fun j a y b v hj hy ha hv hs => ?_ }
  · obtain ⟨u, hu⟩ := get_of_lt (l := ws) (i := i) (by have := lt_of_get hv; omega)
    have h1 := h.near j w u hu hw
    have h2 := h.mono i (i + 1) u v (by omega) hu hv
    omega
  · refine h.done j a y b v ?_ hy ha hv hs
    rcases hj with h1 | h1
    · rcases Nat.lt_or_ge j i with h2 | h2
      · exact .inl h2
      · exact .inr ⟨by omega, hy⟩
    · omega
theorem BfsW.reach (h : BfsW c stp a0 work ws ps i 0) (u : List Nat) (hu : inW c u) : ∀ a, runO stp a0 u = some a → (∃ (j : Nat) (v : List Nat), work[j]? = some a ∧ ws[j]? = some v ∧ v.length ≤ u.length) ∨ ∃ (j : Nat) (v : List Nat), i ≤ j ∧ ws[j]? = some v ∧ v.length ≤ u.length := by
  obtain ⟨n, hn⟩ : ∃ n, n = u.length := ⟨_, rfl⟩
  induction n generalizing u with
  | zero =>
    intro a ha
    have : u = [] := List.eq_nil_of_length_eq_zero hn.symm
    subst this
    simp only [runO, Option.some.injEq] at ha
    subst ha
    exact .inl ⟨0, [], h.fst, h.wf, Nat.le_refl _⟩
  | succ n ih =>
    intro a ha
    rcases List.eq_nil_or_concat u with rfl | ⟨u', y, rfl⟩
    · simp at hn
    rw [List.concat_eq_append] at hu hn ha ⊢
    rw [runO_snoc] at ha
    have hn' : n = u'.length := by simpa using hn
    cases hr : runO stp a0 u' with
    | none => rw [hr] at ha; cases ha
    | some b =>
      rw [hr] at ha
      simp only [Option.bind_some] at ha
      rcases ih u' hu.init.1 hn' b hr with ⟨j, v, h1, h2, h3⟩ | ⟨j, v, h1, h2, h3⟩
      · rcases Nat.lt_or_ge j i with h4 | h4
        · obtain ⟨k, w, h5, h6, h7⟩ := h.done j b y a v (.inl h4) hu.init.2 h1 h2 ha
          exact .inl ⟨k, w, h5, h6, by simp; omega⟩
        · exact .inr ⟨j, v, h4, h2, by simp; omega⟩
      · exact .inr ⟨j, v, h1, h2, by simp; omega⟩
/-- What is reached by a shorter word has been looked at before. -/
theorem BfsW.before (h : BfsW c stp a0 work ws ps i 0) {v : List Nat} (hv : ws[i]? = some v) {u : List Nat} (hu : inW c u) (hl : u.length < v.length) {a : α} (ha : runO stp a0 u = some a) : ∃ j : Nat, j < i ∧ work[j]? = some a := by
  rcases h.reach u hu a ha with ⟨j, w, h1, h2, h3⟩ | ⟨j, w, h1, h2, h3⟩
  · refine ⟨j, ?_, h1⟩
    apply Classical.byContradiction
    intro hj
    have := h.mono i j v w (by omega) hv h2
    omega
  · have := h.mono i j v w h1 hv h2
    omega
theorem BfsW.all (h : BfsW c stp a0 work ws ps i 0) (hi : i = work.length) {u : List Nat} (hu : inW c u) {a : α} (ha : runO stp a0 u = some a) : ∃ j : Nat, j < i ∧ work[j]? = some a := by
  rcases h.reach u hu a ha with ⟨j, w, h1, h2, h3⟩ | ⟨j, w, h1, h2, h3⟩
  · exact ⟨j, by have := lt_of_get h1; omega, h1⟩
  · have := lt_of_get h2; have := h.len; omega
theorem BfsW.wlen (h : BfsW c stp a0 work ws ps i x) : ∀ (k : Nat) w, ws[k]? = some w → w.length ≤ k := by
  intro k
  induction k using Nat.strongRecOn with
  | ind k ih =>
    intro w hw
    rcases Nat.eq_zero_or_pos k with rfl | hk
    · rw [h.wf] at hw; cases hw; simp
    · obtain ⟨j, y, v, h1, h2, h3, rfl⟩ := h.par k w hk hw
      have := ih j h1 v h3
      simp; omega
end
def stpD (d : Dfa) (s : Int) (x : Nat) : Option Int := if 0 ≤ toD d s x then some (toD d s x) else none
/-- The least accepted word. -/
structure LeastOf (c : Nat) (f : List Nat → Int) (w : List Nat) : Prop where
  inw : inW c w
  acc : 0 ≤ f w
  min : ∀ u, inW c u → u.length < w.length → f u < 0
structure ByOf (work : List Int) (ps : List (Nat × Nat)) (es : List (Int × (Int × Int))) : Prop where
  keys : es.map (·.1) = work
  first : ∃ t, es[0]? = some (t, (-1, -1))
  link : ∀ (k j y : Nat) s, 0 < k → j < k → ps[k]? = some (j, y) → work[j]? = some s → ∃ t, es[k]? = some (t, (s, ((y : Nat) : Int)))
theorem ByOf.len {work : List Int} {ps : List (Nat × Nat)} {es : List (Int × (Int × Int))} (h : ByOf work ps es) : es.length = work.length := by rw [← h.keys, List.length_map]
theorem ByOf.start (s : Int) (p : Nat × Nat) : ByOf [s] [p] [(s, (-1, -1))] where
  keys := rfl
  first := ⟨s, rfl⟩
  link := fun k j y t hk _ h => by obtain ⟨rfl, _⟩ := one_get h; omega
theorem ByOf.put {work : List Int} {ps : List (Nat × Nat)} {es : List (Int × (Int × Int))} (h : ByOf work ps es) (hpl : ps.length = work.length) {i x : Nat} {s t : Int} (hs : work[i]? = some s) (ht : t ∉ work) : putM es t (s, ((x : Nat) : Int)) = es ++ [(t, (s, ((x : Nat) : Int)))] ∧ ByOf (work ++ [t]) (ps ++ [(i, x)]) (es ++ [(t, (s, ((x : Nat) : Int)))]) := by
  have hg : getM es t = none := by
    cases hg : getM es t with
    | none => rfl
    | some v => exact absurd (by have := getM_isSome.1 (show (getM es t).isSome = true by rw [hg]; rfl); rwa [h.keys] at this) ht
  refine ⟨putM_none _ hg, ⟨by rw [List.map_append, h.keys]; rfl, ?_, fun k j y s' hk hjk hp hs' => ?_⟩⟩
  · obtain ⟨t0, h0⟩ := h.first
    exact ⟨t0, by rw [List.getElem?_append_left (lt_of_get h0)]; exact h0⟩
  · rcases snoc_get hp with h1 | ⟨h1, h2⟩
    · rw [List.getElem?_append_left (by have := lt_of_get h1; omega)] at hs'
      obtain ⟨t1, h3⟩ := h.link k j y s' hk hjk h1 hs'
      exact ⟨t1, by rw [List.getElem?_append_left (lt_of_get h3)]; exact h3⟩
    · simp only [Prod.mk.injEq] at h2
      obtain ⟨rfl, rfl⟩ := h2
      rw [List.getElem?_append_left (lt_of_get hs), hs] at hs'
      cases hs'
      exact ⟨t, by rw [h1, hpl, ← h.len]; simp⟩
theorem ByOf.get {work : List Int} {ps : List (Nat × Nat)} {es : List (Int × (Int × Int))} (h : ByOf work ps es) (nd : work.Nodup) {k : Nat} {t : Int} {q : Int × Int} {t' : Int} (ht : work[k]? = some t) (he : es[k]? = some (t', q)) : getM es t = some q := by
  have e1 : work[k]? = some t' := by rw [← h.keys, List.getElem?_map, he]; rfl
  rw [ht] at e1
  cases e1
  have h1 : (getM es t).isSome = true := getM_isSome.2 (by rw [h.keys]; exact List.mem_of_getElem? ht)
  obtain ⟨v, hv⟩ := Option.isSome_iff_exists.1 h1
  obtain ⟨j, _, h2, _⟩ := findM_some (eV := fun _ => undef) (i := 0) hv
  have e2 : work[j]? = some t := by rw [← h.keys, List.getElem?_map, h2]; rfl
  have hjk : j = k := by
    have h3 := List.getElem?_eq_some_iff.1 e2
    have h4 := List.getElem?_eq_some_iff.1 ht
    obtain ⟨p1, p2⟩ := h3
    obtain ⟨q1, q2⟩ := h4
    exact (List.getElem_inj nd).1 (p2.trans q2.symm)
  rw [hjk, he] at h2
  cases h2
  exact hv
--END
end Go.Proofs
namespace Go.Eng
open Go
def kPair (p : Int × Int) : Value := .agg #[.int .i64 p.1, .int .i64 p.2]
end Go.Eng
namespace Go.Proofs
open Go Go.Eng Go.Sort
set_option maxRecDepth 100000
def toI (w : List Nat) : List Int := w.map fun x => ((x : Nat) : Int)
theorem revo_c (w0 : World) (base c : Nat) (a : Option Addr) (l : List Int) (n : Nat) (hn : n = l.length) (h : w0.ownsRow base TDI 1 (.slice a n c) n (l.map (Value.int .i64))) (hl : l.length ≤ 1000000000) :
    Ret Try.prog 53 #[.slice a n c] w0 fun _ w => w.ownsRow base TDI 1 (.slice a n c) n (l.reverse.map (Value.int .i64)) ∧ Chg (fun x => (Value.slice a n c).ownBlock = some x) w0 w := by
  subst hn
  rcases h.2 with ⟨h1, h2⟩ | ⟨g, cap, cur, hv, hb, hg, hnc, hcm, hcs, htake⟩
  · have hl0 : l = [] := by simpa using h2
    subst hl0
    exact (revi0_c w0 a c).mono fun v w h3 => ⟨own_ext h h3, Ext.chg h3⟩
  · simp only [Value.slice.injEq] at hv
    obtain ⟨rfl, _, rfl⟩ := hv
    have e9 : (l.map (Value.int .i64) ++ cur.toList.drop (l.length * 1)).toArray = cur := by rw [← htake, List.take_append_drop]
    refine (revi_c w0 g c TDI l (cur.toList.drop (l.length * 1)) (by rw [e9]; exact hg) hl).mono fun v w h3 => ⟨⟨by simp, .inr ⟨g, c, _, rfl, hb, h3.1, hnc, hcm, ?_, ?_⟩⟩, h3.2.mono fun y _ hy => by subst hy; rfl⟩
    · have := congrArg Array.size e9
      simp at this ⊢; omega
    · simp [List.take_append_of_le_length]
theorem ByOf.cases {c n i x : Nat} {d : Dfa} {work : List Int} {wd : List (List Nat)} {ps : List (Nat × Nat)} {es : List (Int × (Int × Int))} (h : ByOf work ps es) (hB : BfsW c (stpD d) d.start work wd ps i x) (hsl : ∀ t ∈ work, 0 ≤ t ∧ t < n) {j : Nat} {s : Int} {v : List Nat} (hj : work[j]? = some s) (hv : wd[j]? = some v) :
    (((getM es s).getD (0, 0)).1 < 0 ∧ v = []) ∨ (0 ≤ ((getM es s).getD (0, 0)).1 ∧ ∃ (j2 y : Nat) (v2 : List Nat) (s2 : Int), j2 < j ∧ work[j2]? = some s2 ∧ wd[j2]? = some v2 ∧ v = v2 ++ [y] ∧ getM es s = some (s2, ((y : Nat) : Int))) := by
  rcases Nat.eq_zero_or_pos j with h0 | h0
  · subst h0
    obtain ⟨t0, ht0⟩ := h.first
    rw [h.get hB.nd hj ht0]
    refine .inl ⟨by decide, ?_⟩
    rw [hB.wf] at hv
    exact (Option.some.inj hv).symm
  · obtain ⟨j2, y, v2, hj2, hps, hv2, rfl⟩ := hB.par j v h0 hv
    obtain ⟨s2, hs2⟩ := get_of_lt (l := work) (i := j2) (by rw [← hB.len]; exact lt_of_get hv2)
    obtain ⟨t0, ht0⟩ := h.link j j2 y s2 h0 hj2 hps hs2
    have hg := h.get hB.nd hj ht0
    refine .inr ⟨?_, j2, y, v2, s2, hj2, hs2, hv2, rfl, hg⟩
    rw [hg]
    exact (hsl s2 (List.mem_of_getElem? hs2)).1
end Go.Proofs
namespace Go.Proofs
open Go Go.Eng
set_option maxRecDepth 100000
abbrev TS : Nat := 99
def StrAt (wb w : World) (bs : Nat) (l : List Int) : Prop := ∃ a c, Blk w bs #[.slice a l.length c] TS ∧ IntsAt wb (.slice a l.length c) l
theorem StrAt.ext {wb w w' : World} {bs : Nat} {l : List Int} (h : StrAt wb w bs l) (e : Ext w w') : StrAt wb w' bs l := let ⟨a, c, h1, h2⟩ := h; ⟨a, c, e.keep h1, h2⟩
theorem StrAt.lt {wb w : World} {bs : Nat} {l : List Int} (h : StrAt wb w bs l) : bs < w.heap.size := let ⟨_, _, h1, _⟩ := h; h1.lt
end Go.Proofs
namespace Go.Eng
open Go
def SlIn (S : Nat → Prop) (w : World) (k : Nat) (v : Value) (rows : List (List Value)) : Prop :=
  ∃ a cap, v = .slice a rows.length cap ∧ rows.length ≤ 9223372036854775807 ∧ rows.length ≤ cap ∧ (rows = [] ∨ ∃ b o, S b ∧ a = some ⟨b, o, none⟩ ∧ ∀ i r, rows[i]? = some r → CellsAt w b (o + i * k) r)
theorem SlIn.at {S : Nat → Prop} {w : World} {k : Nat} {v : Value} {rows : List (List Value)} (h : SlIn S w k v rows) : SlAt w k v rows := by
  obtain ⟨a, cap, h1, h2, h3, h4⟩ := h
  refine ⟨a, cap, h1, h2, h3, ?_⟩
  rcases h4 with h | ⟨b, o, _, h5, h6⟩
  · exact .inl h
  · exact .inr ⟨b, o, h5, h6⟩
theorem SlIn.of {w : World} {k : Nat} {v : Value} {rows : List (List Value)} (h : SlAt w k v rows) : SlIn (fun _ => True) w k v rows := by
  obtain ⟨a, cap, h1, h2, h3, h4⟩ := h
  refine ⟨a, cap, h1, h2, h3, ?_⟩
  rcases h4 with h | ⟨b, o, h5, h6⟩
  · exact .inl h
  · exact .inr ⟨b, o, trivial, h5, h6⟩
theorem SlIn.chg {S M : Nat → Prop} {w w' : World} {k : Nat} {v : Value} {rows : List (List Value)} (h : SlIn S w k v rows) (c : Chg M w w') (hm : ∀ b, S b → ¬ M b) : SlIn S w' k v rows := by
  obtain ⟨a, cap, h1, h2, h3, h4⟩ := h
  refine ⟨a, cap, h1, h2, h3, ?_⟩
  rcases h4 with h | ⟨b, o, hb, h5, h6⟩
  · exact .inl h
  · exact .inr ⟨b, o, hb, h5, fun i r hr => (h6 i r hr).chg c (hm b hb)⟩
theorem SlIn.mono {S S' : Nat → Prop} {w : World} {k : Nat} {v : Value} {rows : List (List Value)} (h : SlIn S w k v rows) (hs : ∀ b, S b → S' b) : SlIn S' w k v rows := by
  obtain ⟨a, cap, h1, h2, h3, h4⟩ := h
  refine ⟨a, cap, h1, h2, h3, ?_⟩
  rcases h4 with h | ⟨b, o, hb, h5⟩
  · exact .inl h
  · exact .inr ⟨b, o, hs b hb, h5⟩
theorem SlIn.nil (S : Nat → Prop) (w : World) (k : Nat) (a : Option Addr) (cap : Nat) : SlIn S w k (.slice a 0 cap) [] := ⟨a, cap, rfl, by simp, by simp, .inl rfl⟩
theorem SlIn.mk {S : Nat → Prop} {w : World} {k : Nat} {b o n c : Nat} {rows : List (List Value)} (h : SlAt w k (.slice (some ⟨b, o, none⟩) n c) rows) (hs : S b) : SlIn S w k (.slice (some ⟨b, o, none⟩) n c) rows := by
  obtain ⟨a, cap, h1, h2, h3, h4⟩ := h
  refine ⟨a, cap, h1, h2, h3, ?_⟩
  rcases h4 with h | ⟨b', o', h5, h6⟩
  · exact .inl h
  · simp only [Value.slice.injEq] at h1
    have : b' = b := by rw [← h1.1] at h5; simp at h5; exact h5.1.symm
    exact .inr ⟨b', o', this ▸ hs, h5, h6⟩
mutual
def ReIn (S : Nat → Prop) (w : World) : Re → List Value → Prop
  | .mk k set args mn mx ng, vs => ∃ sa sc aa ac, vs = [.int .i64 k, .slice sa set.length sc, .slice aa args.length ac, .int .i64 mn, .int .i64 mx, .bool ng] ∧ SlIn S w 2 (.slice sa set.length sc) (set.map spanV) ∧ (args.length ≤ ac ∧ ac ≤ 9223372036854775807) ∧
      (args = [] ∨ ∃ b o, S b ∧ aa = some ⟨b, o, none⟩ ∧ ResIn S w b o args)
def ResIn (S : Nat → Prop) (w : World) (b : Nat) : Nat → List Re → Prop
  | _, [] => True
  | o, t :: ts => (∃ vs, CellsAt w b o vs ∧ ReIn S w t vs) ∧ ResIn S w b (o + 6) ts
end
mutual
theorem ReIn.at {S : Nat → Prop} {w : World} : ∀ (t : Re) {vs : List Value}, ReIn S w t vs → ReAt w t vs
  | .mk k set args mn mx ng, vs, h => by
    simp only [ReIn] at h
    simp only [ReAt]
    obtain ⟨sa, sc, aa, ac, hv, hs, hl, ha⟩ := h
    refine ⟨sa, sc, aa, ac, hv, hs.at, hl, ?_⟩
    rcases ha with h | ⟨b, o, _, h1, h2⟩
    · exact .inl h
    · exact .inr ⟨b, o, h1, ResIn.at args h2⟩
theorem ResIn.at {S : Nat → Prop} {w : World} {b : Nat} : ∀ (ts : List Re) {o : Nat}, ResIn S w b o ts → ResAt w b o ts
  | [], _, _ => by simp only [ResAt]
  | t :: ts, o, h => by
    simp only [ResIn] at h
    simp only [ResAt]
    obtain ⟨⟨vs, h1, h2⟩, h3⟩ := h
    exact ⟨⟨vs, h1, ReIn.at t h2⟩, ResIn.at ts h3⟩
end
mutual
theorem ReIn.chg {S M : Nat → Prop} {w w' : World} (c : Chg M w w') (hm : ∀ b, S b → ¬ M b) : ∀ (t : Re) {vs : List Value}, ReIn S w t vs → ReIn S w' t vs
  | .mk k set args mn mx ng, vs, h => by
    simp only [ReIn] at h ⊢
    obtain ⟨sa, sc, aa, ac, hv, hs, hl, ha⟩ := h
    refine ⟨sa, sc, aa, ac, hv, hs.chg c hm, hl, ?_⟩
    rcases ha with h | ⟨b, o, hb, h1, h2⟩
    · exact .inl h
    · exact .inr ⟨b, o, hb, h1, ResIn.chg c hm args hb h2⟩
theorem ResIn.chg {S M : Nat → Prop} {w w' : World} (c : Chg M w w') (hm : ∀ b, S b → ¬ M b) {b : Nat} : ∀ (ts : List Re) {o : Nat}, S b → ResIn S w b o ts → ResIn S w' b o ts
  | [], _, _, _ => by simp only [ResIn]
  | t :: ts, o, hb, h => by
    simp only [ResIn] at h ⊢
    obtain ⟨⟨vs, h1, h2⟩, h3⟩ := h
    exact ⟨⟨vs, h1.chg c (hm b hb), ReIn.chg c hm t h2⟩, ResIn.chg c hm ts hb h3⟩
end
mutual
theorem ReIn.mono {S S' : Nat → Prop} {w : World} (hs : ∀ b, S b → S' b) : ∀ (t : Re) {vs : List Value}, ReIn S w t vs → ReIn S' w t vs
  | .mk k set args mn mx ng, vs, h => by
    simp only [ReIn] at h ⊢
    obtain ⟨sa, sc, aa, ac, hv, h0, hl, ha⟩ := h
    refine ⟨sa, sc, aa, ac, hv, h0.mono hs, hl, ?_⟩
    rcases ha with h | ⟨b, o, hb, h1, h2⟩
    · exact .inl h
    · exact .inr ⟨b, o, hs b hb, h1, ResIn.mono hs args h2⟩
theorem ResIn.mono {S S' : Nat → Prop} {w : World} (hs : ∀ b, S b → S' b) {b : Nat} : ∀ (ts : List Re) {o : Nat}, ResIn S w b o ts → ResIn S' w b o ts
  | [], _, _ => by simp only [ResIn]
  | t :: ts, o, h => by
    simp only [ResIn] at h ⊢
    obtain ⟨⟨vs, h1, h2⟩, h3⟩ := h
    exact ⟨⟨vs, h1, ReIn.mono hs t h2⟩, ResIn.mono hs ts h3⟩
end
theorem ReIn.ext {S : Nat → Prop} {w w' : World} (e : Ext w w') (t : Re) {vs : List Value} (h : ReIn S w t vs) : ReIn S w' t vs := ReIn.chg e (fun _ _ f => f) t h
theorem ReIn.form {S : Nat → Prop} {w : World} {t : Re} {vs : List Value} (h : ReIn S w t vs) : ∃ sa sc aa ac, vs = [.int .i64 t.kind, .slice sa t.set.length sc, .slice aa t.args.length ac, .int .i64 t.mn, .int .i64 t.mx, .bool t.neg] ∧ SlIn S w 2 (.slice sa t.set.length sc) (t.set.map spanV) ∧ (t.args.length ≤ ac ∧ ac ≤ 9223372036854775807) ∧
    (t.args = [] ∨ ∃ b o, S b ∧ aa = some ⟨b, o, none⟩ ∧ ResIn S w b o t.args) := by
  cases t; simp only [ReIn] at h; exact h
theorem ReIn.of {S : Nat → Prop} {w : World} {k : Int} {set : List (Int × Int)} {args : List Re} {mn mx : Int} {ng : Bool} {sa aa : Option Addr} {sc ac : Nat} (hs : SlIn S w 2 (.slice sa set.length sc) (set.map spanV)) (hl : (args.length ≤ ac ∧ ac ≤ 9223372036854775807)) (ha : args = [] ∨ ∃ b o, S b ∧ aa = some ⟨b, o, none⟩ ∧ ResIn S w b o args) :
    ReIn S w (.mk k set args mn mx ng) [.int .i64 k, .slice sa set.length sc, .slice aa args.length ac, .int .i64 mn, .int .i64 mx, .bool ng] := by
  simp only [ReIn]; exact ⟨sa, sc, aa, ac, rfl, hs, hl, ha⟩
theorem ResIn.one {S : Nat → Prop} {w : World} {b o : Nat} {t : Re} {vs : List Value} (hc : CellsAt w b o vs) (h : ReIn S w t vs) : ResIn S w b o [t] := by
  simp only [ResIn]; exact ⟨⟨vs, hc, h⟩, trivial⟩
theorem ResIn.two {S : Nat → Prop} {w : World} {b o : Nat} {t u : Re} {vs us : List Value} (hc : CellsAt w b o vs) (h : ReIn S w t vs) (hc' : CellsAt w b (o + 6) us) (h' : ReIn S w u us) : ResIn S w b o [t, u] := by
  simp only [ResIn]; exact ⟨⟨vs, hc, h⟩, ⟨us, hc', h'⟩, trivial⟩
theorem ResIn.get {S : Nat → Prop} {w : World} {b : Nat} : ∀ {ts : List Re} {o i : Nat} {t : Re}, ResIn S w b o ts → ts[i]? = some t → ∃ vs, CellsAt w b (o + i * 6) vs ∧ ReIn S w t vs
  | [], _, _, _, _, h => by simp at h
  | x :: ts, o, 0, t, h, hi => by
    simp only [ResIn] at h
    simp at hi
    subst hi
    simpa using h.1
  | x :: ts, o, i + 1, t, h, hi => by
    simp only [ResIn] at h
    have := ResIn.get h.2 (i := i) (by simpa using hi)
    rwa [show o + (i + 1) * 6 = o + 6 + i * 6 from by omega]
theorem ReIn.len {S : Nat → Prop} {w : World} {t : Re} {vs : List Value} (h : ReIn S w t vs) : vs.length = 6 := (ReIn.at t h).len
end Go.Eng
namespace Go.Proofs
open Go Go.Eng
set_option maxRecDepth 100000
abbrev TI : Nat := 3
abbrev TL : Nat := 22
/-- The lists of an automaton while it is made: each is in blocks of its own, below a bound. -/
def MStP (base top : Nat) (vals : List Value) (D : Nat → Prop) (w : World) (va vn : Value) (ka kn : Nat) (acc : List Int) (rows : List (List Int)) : Prop :=
  w.ownsRow base TI 1 va ka (acc.map (Value.int .i64)) ∧ w.ownsRow base TL 1 vn kn vals ∧ vals.length = rows.length ∧ (∀ (i : Nat) (u : Value) (l : List Int), vals[i]? = some u → rows[i]? = some l → SlIn D w 1 u (l.map intV)) ∧
    (∀ y, va.ownBlock = some y → vn.ownBlock ≠ some y) ∧ (∀ y, D y → (base ≤ y ∧ y < top) ∧ va.ownBlock ≠ some y ∧ vn.ownBlock ≠ some y) ∧ (∀ y, va.ownBlock = some y ∨ vn.ownBlock = some y → y < top) ∧ top ≤ w.heap.size
def MSt (base top : Nat) (w : World) (va vn : Value) (ka kn : Nat) (acc : List Int) (rows : List (List Int)) : Prop :=
  ∃ (vals : List Value) (D : Nat → Prop), MStP base top vals D w va vn ka kn acc rows
theorem MSt.chg {base top : Nat} {w w' : World} {va vn : Value} {ka kn : Nat} {acc : List Int} {rows : List (List Int)} {M : Nat → Prop} (h : MSt base top w va vn ka kn acc rows) (c : Chg M w w') (hM : ∀ y, M y → y < base ∨ top ≤ y) : MSt base top w' va vn ka kn acc rows := by
  obtain ⟨vals, D, h1, h2, h3, h4, h5, h6, h7, h8⟩ := h
  have hb : ∀ y, base ≤ y → y < top → ¬ M y := fun y h hlt hm => by have := hM y hm; omega
  exact ⟨vals, D, own_chg h1 c (fun q hq => hb q (h1.lt q hq).1 (h7 q (.inl hq))), own_chg h2 c (fun q hq => hb q (h2.lt q hq).1 (h7 q (.inr hq))), h3, fun i u l hu hl => (h4 i u l hu hl).chg c (fun y hy => hb y (h6 y hy).1.1 (h6 y hy).1.2), h5, h6, h7, Nat.le_trans h8 c.size⟩
theorem MSt.ext {base top : Nat} {w w' : World} {va vn : Value} {ka kn : Nat} {acc : List Int} {rows : List (List Int)} (h : MSt base top w va vn ka kn acc rows) (c : Ext w w') : MSt base top w' va vn ka kn acc rows := h.chg c fun y f => f.elim
theorem MSt.acc {base top : Nat} {w w' : World} {va va' vn : Value} {ka kn ka' : Nat} {acc acc' : List Int} {rows : List (List Int)} (h : MSt base top w va vn ka kn acc rows) (O : w'.ownsRow base TI 1 va' ka' (acc'.map (Value.int .i64))) (C : Chg (fun y => va.ownBlock = some y) w w') (hD : ∀ k, va'.ownBlock = some k → va.ownBlock = some k ∨ w.heap.size ≤ k) : MSt base w'.heap.size w' va' vn ka' kn acc' rows := by
  obtain ⟨vals, D, h1, h2, h3, h4, h5, h6, h7, h8⟩ := h
  have hs := C.size
  refine ⟨vals, D, O, own_chg h2 C (fun q hq hm => h5 q hm hq), h3, fun i u l hu hl => (h4 i u l hu hl).chg C (fun y hy hm => (h6 y hy).2.1 hm), fun y hy hn => ?_, fun y hy => ⟨⟨(h6 y hy).1.1, by have := (h6 y hy).1.2; omega⟩, fun hv => ?_, (h6 y hy).2.2⟩, fun y hy => ?_, Nat.le_refl _⟩
  · rcases hD y hy with h | h
    · exact h5 y h hn
    · have := (h2.lt y hn).2; omega
  · rcases hD y hv with h | h
    · exact (h6 y hy).2.1 h
    · have := (h6 y hy).1.2; omega
  · rcases hy with hy | hy
    · exact (O.lt y hy).2
    · have := h7 y (.inr hy); omega
theorem MSt.nxt {base top : Nat} {w w' : World} {va vn vn' u : Value} {ka kn kn' b : Nat} {acc : List Int} {rows : List (List Int)} {row : List Int} {vals : List Value} {D : Nat → Prop} (h : MStP base top vals D w va vn ka kn acc rows) (O : w'.ownsRow base TL 1 vn' kn' (vals ++ [u])) (C : Chg (fun y => vn.ownBlock = some y) w w') (hD : ∀ k, vn'.ownBlock = some k → vn.ownBlock = some k ∨ w.heap.size ≤ k)
    (hu : SlIn (fun y => y = b) w 1 u (row.map intV)) (hb : base ≤ b ∧ b < w.heap.size) (hb1 : top ≤ b) : MSt base w'.heap.size w' va vn' ka kn' acc (rows ++ [row]) := by
  obtain ⟨h1, h2, h3, h4, h5, h6, h7, h8⟩ := h
  have hs := C.size
  have hO := O
  have hb2 : vn.ownBlock ≠ some b := fun h => by have := h7 b (.inr h); omega
  have hb3 : va.ownBlock ≠ some b := fun h => by have := h7 b (.inl h); omega
  refine ⟨vals ++ [u], fun y => D y ∨ y = b, own_chg h1 C (fun q hq hm => h5 q hq hm), hO, by simp [h3], fun i v l hv hl => ?_, fun y hy hn => ?_, fun y hy => ?_, fun y hy => ?_, Nat.le_refl _⟩
  · rcases Nat.lt_or_ge i vals.length with hi | hi
    · rw [List.getElem?_append_left hi] at hv
      rw [List.getElem?_append_left (by omega)] at hl
      exact ((h4 i v l hv hl).chg C (fun y hy hm => (h6 y hy).2.2 hm)).mono (fun y hy => .inl hy)
    · rw [List.getElem?_append_right hi] at hv
      rw [List.getElem?_append_right (by omega), ← h3] at hl
      have hi0 : i - vals.length = 0 := by
        rcases Nat.eq_zero_or_pos (i - vals.length) with h | h
        · exact h
        · rw [List.getElem?_eq_none (by simp; omega)] at hv; cases hv
      rw [hi0] at hv hl
      simp at hv hl
      subst hv; subst hl
      exact (hu.chg C (fun y hy hm => by have hy' : y = b := hy; subst hy'; exact hb2 hm)).mono (fun y hy => .inr hy)
  · rcases hD y hn with h | h
    · exact h5 y hy h
    · have := (h1.lt y hy).2; omega
  · rcases hy with hy | hy
    · refine ⟨⟨(h6 y hy).1.1, by have := (h6 y hy).1.2; omega⟩, (h6 y hy).2.1, fun hn => ?_⟩
      rcases hD y hn with h | h
      · exact (h6 y hy).2.2 h
      · have := (h6 y hy).1.2; omega
    · subst hy
      refine ⟨⟨hb.1, by omega⟩, hb3, fun hn => ?_⟩
      rcases hD y hn with h | h
      · exact hb2 h
      · omega
  · rcases hy with hy | hy
    · have := h7 y (.inl hy); omega
    · exact (hO.lt y hy).2
theorem MSt.nil (base : Nat) (w : World) : MSt base 0 w (.slice none 0 0) (.slice none 0 0) 0 0 [] [] :=
  ⟨[], fun _ => False, World.ownsRow_nil _ _ _ _, World.ownsRow_nil _ _ _ _, rfl, fun i u l h => by simp at h, (fun y h => by simp [Value.ownBlock] at h), (fun y f => False.elim f), (fun y h => by simp [Value.ownBlock] at h), Nat.zero_le _⟩
theorem MSt.done {base top : Nat} {w : World} {aa na : Option Addr} {ac nc n : Nat} {start : Int} {acc : List Int} {rows : List (List Int)} (h : MSt base top w (.slice aa n ac) (.slice na n nc) n n acc rows) (hacc : acc.length = n) (hrows : rows.length = n) : DfaAt w ⟨start, acc, rows⟩ [.int .i64 start, .slice aa n ac, .slice na n nc] := by
  obtain ⟨vals, D, h1, h2, h3, h4, _, _⟩ := h
  refine ⟨aa, ac, na, nc, by rw [hacc, hrows], ?_, vals, ?_, h3, fun i u l hu hl => (h4 i u l hu hl).at⟩
  · have h5 : w.ownsRow base TI 1 (.slice aa n ac) n (acc.map intV).flatten := by rw [flat_intV]; exact h1
    have := own_slat h5 (by intro r hr; simp only [List.mem_map] at hr; obtain ⟨p, _, rfl⟩ := hr; rfl) (by simpa using hacc) (by decide)
    simp only [hacc]; exact this
  · have h5 : w.ownsRow base TL 1 (.slice na n nc) n (vals.map fun x => [x]).flatten := by
      have e : (vals.map fun x => [x]).flatten = vals := by
        clear h2 h3 h4
        induction vals with
        | nil => rfl
        | cons v vs ih => rw [List.map_cons, List.flatten_cons, ih]; rfl
      rw [e]; exact h2
    have := own_slat h5 (by intro r hr; simp only [List.mem_map] at hr; obtain ⟨p, _, rfl⟩ := hr; rfl) (by simp; omega) (by decide)
    simp only [hrows]; exact this
theorem StrAt.chg {wb w w' : World} {bs : Nat} {l : List Int} {M : Nat → Prop} (h : StrAt wb w bs l) (c : Chg M w w') (hm : ¬ M bs) : StrAt wb w' bs l := let ⟨a, cc, h1, h2⟩ := h; ⟨a, cc, c.keep hm h1, h2⟩
end Go.Proofs
namespace Go.Proofs
open Go Go.Eng Go.Sort
set_option maxRecDepth 100000
theorem MStP.chg {base top ka kn : Nat} {vals : List Value} {D M : Nat → Prop} {w w' : World} {va vn : Value} {acc : List Int} {rows : List (List Int)} (c : Chg M w w') (hM : ∀ y, M y → y < base ∨ top ≤ y) (h : MStP base top vals D w va vn ka kn acc rows) : MStP base top vals D w' va vn ka kn acc rows := by
  obtain ⟨h1, h2, h3, h4, h5, h6, h7, h8⟩ := h
  have hb : ∀ y, base ≤ y → y < top → ¬ M y := fun y h hlt hm => by have := hM y hm; omega
  exact ⟨own_chg h1 c (fun q hq => hb q (h1.lt q hq).1 (h7 q (.inl hq))), own_chg h2 c (fun q hq => hb q (h2.lt q hq).1 (h7 q (.inr hq))), h3, fun i u l hu hl => (h4 i u l hu hl).chg c (fun y hy => hb y (h6 y hy).1.1 (h6 y hy).1.2), h5, h6, h7, Nat.le_trans h8 c.size⟩
theorem MStP.ext {base top ka kn : Nat} {vals : List Value} {D : Nat → Prop} {w w' : World} {va vn : Value} {acc : List Int} {rows : List (List Int)} (c : Ext w w') (h : MStP base top vals D w va vn ka kn acc rows) : MStP base top vals D w' va vn ka kn acc rows := MStP.chg c (fun _ f => f.elim) h
theorem MStP.row {base top n nc c ka : Nat} {vals : List Value} {D : Nat → Prop} {w : World} {va : Value} {acc row : List Int} {rows : List (List Int)} {gn s : Nat} (h : MStP base top vals D w va (.slice (some ⟨gn, 0, none⟩) n nc) ka n acc rows) (hr : rows[s]? = some row) (hn : rows.length = n) (hl : row.length = c) (hc : 0 < c) :
    ∃ rb ro rc, vals[s]? = some (.slice (some ⟨rb, ro, none⟩) c rc) ∧ w.cell? ⟨gn, 0 + s, none⟩ = some (.slice (some ⟨rb, ro, none⟩) c rc) ∧ CellsAt w rb ro (row.map (Value.int .i64)) := by
  obtain ⟨h1, h2, h3, h4, h5, h6, h7, h8⟩ := h
  have hsl := lt_of_get hr
  obtain ⟨u, hu⟩ := get_of_lt (l := vals) (i := s) (by omega)
  have hs := (h4 s u row hu hr).at
  obtain ⟨ra, rc, rfl⟩ := SlAt.form hs
  simp only [List.length_map] at hs hu
  rw [hl] at hs hu
  obtain ⟨rb, ro, rfl, hx⟩ := ints_cells hs hc
  obtain ⟨g9, hg9, _, hca⟩ := own_cells h2 (by omega)
  simp only [Option.some.injEq, Addr.mk.injEq, and_true] at hg9
  subst hg9
  refine ⟨rb, ro, rc, hu, hca s _ hu, fun j v hv => ?_⟩
  rw [List.getElem?_map] at hv
  cases hj : row[j]? with
  | none => rw [hj] at hv; cases hv
  | some y => rw [hj] at hv; simp only [Option.map_some, Option.some.injEq] at hv; subst hv; exact hx j y hj
theorem MSt.own {base top n : Nat} {w : World} {va vn : Value} {acc : List Int} {rows : List (List Int)} {aa na : Option Addr} {ac nc : Nat} (h : MSt base top w (.slice aa n ac) (.slice na n nc) n n acc rows) (hn : 0 < n) : ∃ ga gn, aa = some ⟨ga, 0, none⟩ ∧ na = some ⟨gn, 0, none⟩ ∧ base ≤ ga ∧ base ≤ gn ∧ ga < top ∧ gn < top ∧ ga ≠ gn := by
  obtain ⟨vals, D, h1, h2, h3, h4, h5, h6, h7, h8⟩ := h
  obtain ⟨ga, rfl, hg1, _⟩ := own_cells h1 hn
  obtain ⟨gn, rfl, hg2, _⟩ := own_cells h2 hn
  exact ⟨ga, gn, rfl, rfl, hg1, hg2, h7 ga (.inl rfl), h7 gn (.inr rfl), fun e => h5 ga rfl (by rw [e]; rfl)⟩
end Go.Proofs
namespace Go.Proofs
open Go Go.Eng Go.Sort
set_option maxRecDepth 100000
def evnD : Dfa := ⟨0, [0, -1], [[1], [0]]⟩
theorem evn_ok : OkD 2 1 evnD := ⟨rfl, rfl, by decide, by decide, by decide⟩
/-- What Least gives, in one form. -/
def LstW (n c : Nat) (f : List Nat → Int) (l : List Nat) (s : Bool) : Prop := (s = true → LeastOf c f l ∧ l.length < n) ∧ (s = false → l = [] ∧ ∀ u, inW c u → f u < 0)
theorem LstW.inw {n c : Nat} {f : List Nat → Int} {l : List Nat} {s : Bool} (h : LstW n c f l s) (hn : 1 ≤ n) : inW c l ∧ l.length < n := by
  cases s with
  | true => exact ⟨(h.1 rfl).1.inw, (h.1 rfl).2⟩
  | false => rw [(h.2 rfl).1]; exact ⟨inW.nil c, hn⟩
theorem LstW.cnt {n c : Nat} {f : List Nat → Int} {l : List Nat} {s : Bool} (h : LstW n c f l s) {k : Nat} (hk : k < l.length) : cntF c k f = 0 := by
  have hm : ∀ u, inW c u → u.length = k → f u < 0 := fun u hu hl => by
    cases s with
    | true => exact (h.1 rfl).1.min u hu (by omega)
    | false => exact (h.2 rfl).2 u hu
  rcases Int.lt_or_le 0 (cntF c k f) with h1 | h1
  · obtain ⟨u, h2, h3, h4⟩ := cntF_some h1
    have := hm u h3 h2
    omega
  · have := cntF_nn (c := c) (k := k) (f := f); omega
end Go.Proofs
namespace Go.Eng
open Go
theorem keyOfEq {P : Program} {kt : TypeId} {κ : Type} [DecidableEq κ] {ek : κ → Value} (hwide : (match P.underlying kt with | some (.array _ _) | some (.struct _) => true | _ => false) = true)
    (hchk : ∀ (b : Bool) (w : World) (k : κ), (Instr.checkKey b 10000 kt (ek k)).run P w = .ok () w) (heq : ∀ (w : World) (a b : κ), (Op.equal kt (ek a) (ek b)).run P w = .ok (decide (a = b)) w) (hsame : ∀ k, Instr.sameBits 10000 (ek k) (ek k) = true) : KeyOk P kt ek where
  check := hchk
  same := hsame
  find := fun ν w k es eV L hL => by
    have key : ∀ (L : List MapEntry) (es : List (κ × ν)) (i : Nat), L.map (fun e => (e.key, e.val)) = es.map (fun p => (ek p.1, eV p.2)) → (Instr.findAsking kt (ek k) L i).run P w = .ok (findM eV es k i) w := by
      intro L
      induction L with
      | nil =>
        intro es i h
        cases es with
        | nil => rfl
        | cons _ _ => simp at h
      | cons e L ih =>
        intro es i h
        cases es with
        | nil => simp at h
        | cons p es =>
          simp only [List.map_cons, List.cons.injEq, Prod.mk.injEq] at h
          obtain ⟨⟨h1, h2⟩, h3⟩ := h
          unfold Instr.findAsking findM
          simp only [Sem.run_bind, h1, heq, Result.andThen_ok]
          by_cases hk : p.1 = k
          · rw [if_pos hk, hk]; simp [h2]
          · rw [if_neg hk, show decide (k = p.1) = false by simpa using fun h => hk h.symm]
            exact ih es (i + 1) h3
    rw [run_findKey_eq w hwide]
    exact key L es 0 hL
theorem eqArr2 {P : Program} {t e : TypeId} {i : TypeInfo} (hu : P.underlying t = some (.array 2 e)) (he : P.underlying e = some (.int .i64)) (hi : P.info? e = some i) (hc : P.cellsOf e = 1) (w : World) (a b : Int × Int) : (Op.equal t (kPair a) (kPair b)).run P w = .ok (decide (a = b)) w := by
  have hp : P.plainKey e = true := by simp [Program.plainKey, he]
  have hq0 : ∀ (d : Nat) (x y : Int), (Op.equalIn (d + 1) e (.int .i64 x) (.int .i64 y)).run P w = .ok (x == y) w := fun d x y => by
    simp [Op.equalIn, run_underlying he]
  have hq : ∀ x y : Int, (Op.equalIn 9999 e (.int .i64 x) (.int .i64 y)).run P w = .ok (x == y) w := hq0 9998
  show (Op.equalIn (9999 + 1) t (.agg #[.int .i64 a.1, .int .i64 a.2]) (.agg #[.int .i64 b.1, .int .i64 b.2])).run P w = _
  rw [run_equalIn_array w 9999 _ _ hu hi, hc, show List.range 2 = [0, 1] from rfl]
  obtain ⟨a1, a2⟩ := a
  obtain ⟨b1, b2⟩ := b
  have p1 : ∀ (x y : Int), (part e #[.int .i64 x, .int .i64 y] 0).run P w = .ok (.int .i64 x) w := fun x y => run_part_plain w hp rfl
  have p2 : ∀ (x y : Int), (part e #[.int .i64 x, .int .i64 y] 1).run P w = .ok (.int .i64 y) w := fun x y => run_part_plain w hp rfl
  simp only [Op.eqItems, Sem.run_bind, Nat.zero_mul, Nat.one_mul, p1, p2, Result.andThen_ok, hq, Prod.mk.injEq]
  by_cases h1 : a1 = b1
  · by_cases h2 : a2 = b2
    · simp [h1, h2, p2, hq]
    · simp [h1, h2, p2, hq, show (a2 == b2) = false by simpa using h2]
  · simp [h1, show (a1 == b1) = false by simpa using h1]
theorem same_pair (k : Int × Int) : Instr.sameBits 10000 (kPair k) (kPair k) = true := by
  show Instr.sameBits (9999 + 1) (.agg _) (.agg _) = true
  simp [Instr.sameBits]
end Go.Eng
namespace Go.Proofs
open Go Go.Eng Go.Sort
set_option maxRecDepth 100000
--BEGIN
section
variable {α : Type}
/-- An entry of a row: the number of the key that follows, or -1. -/
def EntX (stp : α → Nat → Option α) (keys : List α) (k : α) (x : Nat) (y : Int) : Prop := match stp k x with | none => y = -1 | some b => ∃ j : Nat, y = ((j : Nat) : Int) ∧ keys[j]? = some b
theorem EntX.mono {stp : α → Nat → Option α} {keys : List α} {k : α} {x : Nat} {y : Int} (h : EntX stp keys k x y) (u : List α) : EntX stp (keys ++ u) k x y := by
  unfold EntX at h ⊢
  cases hs : stp k x with
  | none => rw [hs] at h; exact h
  | some b => rw [hs] at h; obtain ⟨j, h1, h2⟩ := h; exact ⟨j, h1, by rw [List.getElem?_append_left (lt_of_get h2)]; exact h2⟩
structure ExpP (c : Nat) (stp : α → Nat → Option α) (a0 : α) (keys : List α) (rows : List (List Int)) (row : List Int) : Prop where
  k0 : keys[0]? = some a0
  nd : keys.Nodup
  rch : ∀ k ∈ keys, ∃ w, inW c w ∧ runO stp a0 w = some k
  len : ∀ r ∈ rows, r.length = c
  ent : ∀ (i x : Nat) r y k, rows[i]? = some r → r[x]? = some y → keys[i]? = some k → EntX stp keys k x y
  cur : ∀ (x : Nat) y k, row[x]? = some y → keys[rows.length]? = some k → EntX stp keys k x y
variable {c : Nat} {stp : α → Nat → Option α} {a0 : α} {keys : List α} {rows : List (List Int)} {row : List Int}
theorem ExpP.start (c : Nat) (stp : α → Nat → Option α) (a0 : α) : ExpP c stp a0 [a0] [] [] := by
  refine ⟨rfl, by simp, fun k hk => ?_, fun r h => (by cases h), fun i x r y k h => by simp at h, fun x y k h => by simp at h⟩
  rw [List.mem_singleton] at hk
  subst hk
  exact ⟨[], inW.nil c, rfl⟩
theorem ExpP.add {k : α} {y : Int} (h : ExpP c stp a0 keys rows row) (hk : keys[rows.length]? = some k) (hE : EntX stp keys k row.length y) : ExpP c stp a0 keys rows (row ++ [y]) := by
  refine { h with cur := fun x z q hx hq => ?_ }
  rcases snoc_get hx with h1 | ⟨h1, h2⟩
  · exact h.cur x z q h1 hq
  · rw [hk] at hq; cases hq
    rw [h1, h2]; exact hE
theorem ExpP.new {k b : α} (h : ExpP c stp a0 keys rows row) (hk : keys[rows.length]? = some k) (hx : row.length < c) (hs : stp k row.length = some b) (hb : b ∉ keys) : ExpP c stp a0 (keys ++ [b]) rows (row ++ [((keys.length : Nat) : Int)]) := by
  have hkl := lt_of_get hk
  have hE : EntX stp (keys ++ [b]) k row.length ((keys.length : Nat) : Int) := by
    unfold EntX; rw [hs]; exact ⟨keys.length, rfl, by simp⟩
  refine ⟨by rw [List.getElem?_append_left (lt_of_get h.k0)]; exact h.k0, ?_, fun q hq => ?_, h.len, fun i x r y q hr hy hq => ?_, fun x z q hz hq => ?_⟩
  · rw [List.nodup_append]
    refine ⟨h.nd, by simp, fun p hp q hq => ?_⟩
    rw [List.mem_singleton] at hq
    subst hq
    exact fun e => hb (e ▸ hp)
  · rcases List.mem_append.1 hq with h1 | h1
    · exact h.rch q h1
    · rw [List.mem_singleton] at h1
      subst h1
      obtain ⟨w, h2, h3⟩ := h.rch k (List.mem_of_getElem? hk)
      exact ⟨w ++ [row.length], h2.snoc hx, by rw [runO_snoc, h3]; exact hs⟩
  · rcases snoc_get hq with h1 | ⟨h1, _⟩
    · exact (h.ent i x r y q hr hy h1).mono _
    · have := lt_of_get hr; omega
  · have hq2 : q = k := by
      rw [List.getElem?_append_left hkl, hk] at hq
      exact (Option.some.inj hq).symm
    subst hq2
    rcases snoc_get hz with h1 | ⟨h1, h2⟩
    · exact (h.cur x z q h1 hk).mono _
    · rw [h1, h2]; exact hE
/-- What an explored automaton tells. -/
def behX (stp : α → Nat → Option α) (acc : α → Int) (k : α) (w : List Nat) : Int := match runO stp k w with | some b => acc b | none => -1
theorem ExpP.done {acc : α → Int} (h : ExpP c stp a0 keys rows []) (hl : rows.length = keys.length) (ha : ∀ k ∈ keys, -1 ≤ acc k) : OkD keys.length c ⟨0, keys.map acc, rows⟩ ∧ ∀ w, inW c w → beh ⟨0, keys.map acc, rows⟩ 0 w = behX stp acc a0 w := by
  have hk0 := lt_of_get h.k0
  have ok : OkD keys.length c ⟨0, keys.map acc, rows⟩ := ⟨hl, by simp, ⟨Int.le_refl _, by show (0 : Int) < _; omega⟩, fun x hx => by
    obtain ⟨k, hk, rfl⟩ := List.mem_map.1 hx
    exact ha k hk, fun r hr => by
    have hr : r ∈ rows := hr
    refine ⟨h.len r hr, fun y hy => ?_⟩
    obtain ⟨i, hi⟩ := List.getElem?_of_mem hr
    obtain ⟨x, hx⟩ := List.getElem?_of_mem hy
    obtain ⟨k, hk⟩ := get_of_lt (l := keys) (i := i) (by have := lt_of_get hi; omega)
    have hE := h.ent i x r y k hi hx hk
    unfold EntX at hE
    cases hs : stp k x with
    | none => rw [hs] at hE; simp only at hE; omega
    | some b => rw [hs] at hE; obtain ⟨j, h1, h2⟩ := hE; have := lt_of_get h2; omega⟩
  refine ⟨ok, ?_⟩
  have key : ∀ (w : List Nat) (i : Nat) (k : α), inW c w → keys[i]? = some k → beh ⟨0, keys.map acc, rows⟩ ((i : Nat) : Int) w = behX stp acc k w := by
    intro w
    induction w with
    | nil =>
      intro i k _ hk
      simp only [beh, behX, runO]
      exact atD_get (by simp [hk])
    | cons x w ih =>
      intro i k hw hk
      obtain ⟨r, hr⟩ := get_of_lt (l := rows) (i := i) (by have := lt_of_get hk; omega)
      obtain ⟨y, hy⟩ := get_of_lt (l := r) (i := x) (by have := h.len r (List.mem_of_getElem? hr); have := hw.head; omega)
      have hE := h.ent i x r y k hr hy hk
      simp only [beh, behX, runO]
      rw [toD_get (d := ⟨0, keys.map acc, rows⟩) hr hy]
      unfold EntX at hE
      cases hs : stp k x with
      | none => rw [hs] at hE; simp only at hE; simp only [Option.bind_none]; exact beh_neg (by omega)
      | some b =>
        rw [hs] at hE
        obtain ⟨j, rfl, h2⟩ := hE
        simp only [Option.bind_some]
        exact ih j b hw.tail h2
  intro w hw
  exact key w 0 a0 hw h.k0
end
--END
end Go.Proofs
namespace Go.Proofs
open Go Go.Eng Go.Sort
set_option maxRecDepth 100000
theorem flat_cells {α : Type} {kc : α → List Value} {sz : Nat} (hk : ∀ k, (kc k).length = sz) {w : World} {b : Nat} : ∀ {l : List α} {o i : Nat} {k : α}, CellsAt w b o (l.map kc).flatten → l[i]? = some k → CellsAt w b (o + i * sz) (kc k)
  | [], _, _, _, _, h => by simp at h
  | q :: l, o, 0, k, h, hi => by
    simp at hi
    subst hi
    intro j v hv
    rw [Nat.zero_mul, Nat.add_zero]
    exact h j v (by rw [List.map_cons, List.flatten_cons, List.getElem?_append_left (lt_of_get hv)]; exact hv)
  | q :: l, o, i + 1, k, h, hi => by
    have h2 : CellsAt w b (o + sz) (l.map kc).flatten := fun j v hv => by
      have := h (sz + j) v (by rw [List.map_cons, List.flatten_cons, List.getElem?_append_right (by rw [hk]; omega), hk, show sz + j - sz = j by omega]; exact hv)
      rwa [← Nat.add_assoc] at this
    have := flat_cells hk h2 (i := i) (k := k) (by simpa using hi)
    rwa [show o + (i + 1) * sz = o + sz + i * sz by rw [Nat.add_mul]; omega]
/-- An automaton in memory of its own, above a bound. -/
def DfaOwn (base : Nat) (D : Dfa) (r : Value) (w : World) : Prop := ∃ ea ec na nc vs, r = .agg #[.int .i64 D.start, .slice ea D.accept.length ec, .slice na D.next.length nc] ∧ OutSt w base (.slice ea D.accept.length ec) (.slice na D.next.length nc) vs D.accept D.next
theorem OutSt.low {w : World} {base b0 : Nat} {E N : Value} {vs : List Value} {acc : List Int} {rows : List (List Int)} (h : OutSt w base E N vs acc rows) (hb : b0 ≤ base) : OutSt w b0 E N vs acc rows :=
  ⟨own_low h.e hb, ⟨own_low h.n.o hb, h.n.len, fun i v p hv hp => own_low (h.n.inn i v p hv hp) hb, h.n.apo⟩, h.en, h.ei⟩
end Go.Proofs
namespace Go.Proofs
open Go Go.Eng Go.Sort
set_option maxRecDepth 100000
theorem chk_pair (b : Bool) (w : World) (k : Int × Int) : (Instr.checkKey b 10000 75 (kPair k)).run Try.prog w = .ok () w := by kernel_rfl
theorem info_int : ∃ i, Try.prog.info? 3 = some i := info_of_underlying Try.underlying3
theorem cells_int : Try.prog.cellsOf 3 = 1 := by kernel_rfl
theorem key75 : KeyOk Try.prog 75 kPair := keyOfEq (by rw [Try.underlying75]) chk_pair (fun w a b => by obtain ⟨i, hi⟩ := info_int; exact eqArr2 Try.underlying75 Try.underlying3 hi cells_int w a b) same_pair
end Go.Proofs
namespace Go.Eng
open Go
def edgeB (l : List Oper) (t u : Nat) : Bool := match l[t]? with
  | some o => o.after.any fun e => Region.binds .any e && Nat.beq e.on u
  | none => false
def guardB (hd : List Bool) (o : Oper) : Bool := match o.guard with | some p => hd.getD p.1 false | none => true
/-- Each operation is of the head or of the tail, and one of the tail waits for the whole head or for another of the tail. -/
def tailPB (l : List Oper) (hd : List Bool) (ts : List Nat) : Bool :=
  (List.range l.length).all fun i => hd.getD i false || (ts.contains i && ((List.range l.length).all (fun u => !hd.getD u false || edgeB l i u) || ts.any fun p => !hd.getD p true && edgeB l i p))
def permB (ops : Array Oper) : List Nat → Array Bool → Bool
  | [], listed => (Region.ready .any ops listed).isEmpty
  | k :: ks, listed => decide (Region.ready .any ops listed = [k]) && permB ops ks (listed.setIfInBounds k true)
theorem wpAny_of_perm {P : Program} {ops : Array Oper} {Q' : Exit → Act → World → Prop} : ∀ (ks : List Nat) (listed : Array Bool) (a : Act) (w : World), permB ops ks listed = true → wpList P ops Q' (ks.filterMap fun k => ops[k]?) a w → wpAny P .any ops Q' ks.length listed a w
  | [], _, _, _, hB, h => ⟨by simpa [permB] using hB, h⟩
  | k :: ks, listed, a, w, hB, h => by
    simp only [permB, Bool.and_eq_true, decide_eq_true_eq] at hB
    refine ⟨fun h1 => (by rw [hB.1] at h1; cases h1), fun i hi => ?_⟩
    have hi0 := hi
    rw [hB.1] at hi
    have hik : i = k := by simpa using hi
    subst hik
    obtain ⟨_, o, h0, _⟩ := mem_ready.1 hi0
    have hw : wpOp P ops Q' i (wpList P ops Q' (ks.filterMap fun k => ops[k]?)) a w := by
      rw [List.filterMap_cons, h0] at h
      unfold wpOp; simp only [h0]; exact h
    exact wpOp_mono (fun a' w' h' => wpAny_of_perm ks _ a' w' hB.2 h') hw
inductive DagStepsP (P : Program) (N : Nat) (ds : List Nat) (Fs : List Fact) (σ : Env) (w : World) : List Oper → List (List Nat) → List Bool → List Fact → Prop where
  | nil : DagStepsP P N ds Fs σ w [] [] [] []
  | cons {o : Oper} {ws : List Nat} {F : Fact} {l : List Oper} {wss : List (List Nat)} {hs : List Bool} {Gs : List Fact} : DagStep P N ds Fs σ w o ws F → DagStepsP P N ds Fs σ w l wss hs Gs → DagStepsP P N ds Fs σ w (o :: l) (ws :: wss) (true :: hs) (F :: Gs)
  | tail {o : Oper} {ws : List Nat} {F : Fact} {l : List Oper} {wss : List (List Nat)} {hs : List Bool} {Gs : List Fact} : DagStepsP P N ds Fs σ w l wss hs Gs → DagStepsP P N ds Fs σ w (o :: l) (ws :: wss) (false :: hs) (F :: Gs)
theorem DagStepsP.get {P : Program} {N : Nat} {ds : List Nat} {Fs : List Fact} {σ : Env} {w : World} : ∀ {l : List Oper} {wss : List (List Nat)} {hs : List Bool} {Gs : List Fact}, DagStepsP P N ds Fs σ w l wss hs Gs → ∀ {j : Nat} {o : Oper}, l[j]? = some o → hs[j]? = some true → ∃ ws F, wss[j]? = some ws ∧ Gs[j]? = some F ∧ DagStep P N ds Fs σ w o ws F
  | _, _, _, _, .nil, j, o, h, _ => by simp at h
  | _, _, _, _, .cons h1 h2, 0, o, h, _ => by simp at h; subst h; exact ⟨_, _, rfl, rfl, h1⟩
  | _, _, _, _, .tail h2, 0, o, h, ht => by simp at ht
  | _, _, _, _, .cons h1 h2, j + 1, o, h, ht => by
    obtain ⟨ws, F, a, b, c⟩ := h2.get (j := j) (by simpa using h) (by simpa using ht)
    exact ⟨ws, F, by simpa using a, by simpa using b, c⟩
  | _, _, _, _, .tail h2, j + 1, o, h, ht => by
    obtain ⟨ws, F, a, b, c⟩ := h2.get (j := j) (by simpa using h) (by simpa using ht)
    exact ⟨ws, F, by simpa using a, by simpa using b, c⟩
/-- How many of the head are yet to come. -/
def leftH (hd : List Bool) (listed : List Bool) : Nat := ((hd.zip listed).filter fun p => p.1 && !p.2).length
theorem leftH_set : ∀ {hd listed : List Bool} {i : Nat}, hd[i]? = some true → listed[i]? = some false → leftH hd (listed.set i true) + 1 = leftH hd listed
  | [], _, _, h, _ => by simp at h
  | _ :: _, [], _, _, h => by simp at h
  | h :: hd, x :: listed, 0, h1, h2 => by
    simp at h1 h2
    subst h1; subst h2
    simp [leftH]
  | h :: hd, x :: listed, i + 1, h1, h2 => by
    have := leftH_set (hd := hd) (listed := listed) (i := i) (by simpa using h1) (by simpa using h2)
    simp only [leftH, List.set_cons_succ, List.zip_cons_cons, List.filter_cons] at this ⊢
    split
    · simp only [List.length_cons]; omega
    · exact this
theorem leftH_zero : ∀ {hd listed : List Bool}, hd.length = listed.length → leftH hd listed = 0 → (∀ (i : Nat), hd[i]? = some false → listed[i]? = some false) → listed = hd
  | [], [], _, _, _ => rfl
  | [], _ :: _, h, _, _ => by simp at h
  | _ :: _, [], h, _, _ => by simp at h
  | h :: hd, x :: listed, hl, h0, ht => by
    have e1 : leftH hd listed = 0 := by
      simp only [leftH, List.zip_cons_cons, List.filter_cons] at h0 ⊢
      split at h0
      · simp at h0
      · exact h0
    have e2 := leftH_zero (by simpa using hl) e1 fun i hi => by have := ht (i + 1) (by simpa using hi); simpa using this
    have e3 : x = h := by
      cases h with
      | false => have := ht 0 rfl; simpa using this
      | true =>
        cases x with
        | true => rfl
        | false => simp [leftH] at h0
    rw [e2, e3]
theorem leftH_pos : ∀ {hd listed : List Bool}, 0 < leftH hd listed → ∃ i : Nat, hd[i]? = some true ∧ listed[i]? = some false
  | [], _, h => by simp [leftH] at h
  | _ :: _, [], h => by simp [leftH] at h
  | h :: hd, x :: listed, hp => by
    simp only [leftH, List.zip_cons_cons, List.filter_cons] at hp
    split at hp
    · rename_i hc
      simp at hc
      exact ⟨0, by simp [hc.1], by simp [hc.2]⟩
    · obtain ⟨i, h1, h2⟩ := leftH_pos (hd := hd) (listed := listed) hp
      exact ⟨i + 1, by simpa using h1, by simpa using h2⟩
theorem getD_arr {listed : Array Bool} {i : Nat} {b d : Bool} (h : listed.toList[i]? = some b) : listed.getD i d = b := by
  have : listed[i]? = some b := by simpa using h
  simp [Array.getD_eq_getD_getElem?, this]
section
variable {P : Program} {N : Nat} {σ : Env} {w : World} {dst : Option Tmp} {ty : TypeId} {pos : String} {af : Array Edge} {g : Option (Nat × Bool)} {t : TypeId} {x y z u : Operand} {a b c d : Value} {i j k m : Nat}
theorem bld2 (h : ev σ x = a) (h2 : ev σ y = b) : ([(i, x), (j, y)].map fun (i, x) => (i, ev σ x)) = [(i, a), (j, b)] := by simp only [List.map, h, h2]
/-- A new variable, with its cells. -/
def alF (e : Nat) (c : Array Value) (hs : Nat) : Fct := fun v w => ∃ b, v = .pointer (some ⟨b, 0, none⟩) ∧ Blk w b c e ∧ hs ≤ b
theorem alF_ext (e : Nat) (c : Array Value) (hs : Nat) : Stable (alF e c hs) := by
  rintro v w w' x ⟨b, h1, h2, h3⟩
  exact ⟨b, h1, Ext.keep x h2, h3⟩
end
end Go.Eng
namespace Go.Eng
open Go
abbrev FctS := (Nat → Bool) → Env → Fct
def HoldsS (ds : List Nat) (Fs : List FctS) (S : Nat → Bool) (j : Nat) (σ : Env) (w : World) : Prop := ∀ d F, ds[j]? = some d → Fs[j]? = some F → F S σ (σ d) w
def insS (S : Nat → Bool) (i : Nat) : Nat → Bool := fun j => bif Nat.beq j i then true else S j
theorem insS_self (S : Nat → Bool) (i : Nat) : insS S i i = true := by simp [insS]
theorem insS_ne {S : Nat → Bool} {i j : Nat} (h : j ≠ i) : insS S i j = S j := by
  have : Nat.beq j i = false := by cases hb : Nat.beq j i; rfl; exact absurd (Nat.eq_of_beq_eq_true hb) h
  simp [insS, this]
/-- The blocks that the operations change. -/
def MsL : List (Nat × (Nat → Prop)) → Nat → Nat → Prop
  | [], _, _ => False
  | p :: r, j, y => (j = p.1 ∧ p.2 y) ∨ MsL r j y
theorem MsL_or {c : Nat} {M : Nat → Prop} {r : List (Nat × (Nat → Prop))} {j y : Nat} (h : MsL ((c, M) :: r) j y) : (j = c ∧ M y) ∨ MsL r j y := h
def dagOneS (N i : Nat) (hd : List Bool) (o : Oper) (d : Nat) (ws : List Nat) : Bool :=
  (match o.dst with | some d' => Nat.beq d' d && Nat.blt d N | none => Nat.ble N d) && (o.after.all fun e => !Region.binds .any e || (Nat.blt e.on i && hd.getD e.on false)) && (ws.all fun j => o.after.any fun e => Region.binds .any e && Nat.beq e.on j) && guardB hd o
def dagSB (N : Nat) (hd : List Bool) : Nat → List Oper → List Nat → List (List Nat) → List Bool → Bool
  | _, [], [], [], [] => true
  | i, o :: l, d :: ds, ws :: wss, h :: hs => (bif h then dagOneS N i hd o d ws else Nat.ble N d) && dagSB N hd (i + 1) l ds wss hs
  | _, _, _, _, _ => false
theorem dagSB_get {N : Nat} {hd : List Bool} : ∀ {i : Nat} {l : List Oper} {ds : List Nat} {wss : List (List Nat)} {hs : List Bool}, dagSB N hd i l ds wss hs = true → ∀ {j : Nat} {o : Oper}, l[j]? = some o → ∃ d ws h, ds[j]? = some d ∧ wss[j]? = some ws ∧ hs[j]? = some h ∧ (bif h then dagOneS N (i + j) hd o d ws else Nat.ble N d) = true
  | _, [], _, _, _, _, j, o, h => by simp at h
  | i, x :: l, [], _, _, hB, _, _, _ => by simp [dagSB] at hB
  | i, x :: l, d :: ds, [], _, hB, _, _, _ => by simp [dagSB] at hB
  | i, x :: l, d :: ds, ws :: wss, [], hB, _, _, _ => by simp [dagSB] at hB
  | i, x :: l, d :: ds, ws :: wss, h0 :: hs, hB, j, o, h => by
    simp only [dagSB, Bool.and_eq_true] at hB
    cases j with
    | zero => simp at h; subst h; exact ⟨d, ws, h0, rfl, rfl, rfl, hB.1⟩
    | succ j =>
      simp at h
      obtain ⟨d', ws', h', h1, h2, h3, h4⟩ := dagSB_get hB.2 h
      exact ⟨d', ws', h', by simpa using h1, by simpa using h2, by simpa using h3, by rw [show i + (j + 1) = i + 1 + j from by omega]; exact h4⟩
theorem dagSB_len {N : Nat} {hd : List Bool} : ∀ {i : Nat} {l : List Oper} {ds : List Nat} {wss : List (List Nat)} {hs : List Bool}, dagSB N hd i l ds wss hs = true → ds.length = l.length ∧ hs.length = l.length ∧ wss.length = l.length
  | _, [], [], [], [], _ => ⟨rfl, rfl, rfl⟩
  | _, [], [], [], _ :: _, hB => by simp [dagSB] at hB
  | _, [], [], _ :: _, _, hB => by simp [dagSB] at hB
  | _, [], _ :: _, _, _, hB => by simp [dagSB] at hB
  | i, x :: l, [], _, _, hB => by simp [dagSB] at hB
  | i, x :: l, d :: ds, [], _, hB => by simp [dagSB] at hB
  | i, x :: l, d :: ds, ws :: wss, [], hB => by simp [dagSB] at hB
  | i, x :: l, d :: ds, ws :: wss, h0 :: hs, hB => by
    simp only [dagSB, Bool.and_eq_true] at hB
    have := dagSB_len hB.2
    simp [this.1, this.2.1, this.2.2]
def DagStepS (P : Program) (N : Nat) (ds : List Nat) (Fs : List FctS) (σ : Env) (w : World) (Ms : Nat → Nat → Prop) (cl : List (List Nat)) (i : Nat) (o : Oper) (ws : List Nat) (F : FctS) : Prop :=
  ∀ (S : Nat → Bool) σ' w', S i = false → (∀ j, (cl.getD j []).contains i = true → S j = false) → Chg (fun y => ∃ j, S j = true ∧ Ms j y) w w' → (∀ t, ds.contains t = false → σ' t = σ t) → (∀ j, ws.contains j = true → S j = true ∧ HoldsS ds Fs S j σ' w') →
    (Guarded ds o σ' ∧ DoesT (Ms i) P N o (fun v w => F (insS S i) σ' (Go.Eng.valOf o v) w) σ' w') ∨ (Unmet ds o σ' ∧ F (insS S i) σ' undef w')
/-- A fact lasts while other operations are done. -/
def StabS (Ms : Nat → Nat → Prop) (i : Nat) (ws : List Nat) (F : FctS) : Prop := ∀ p, p ≠ i → ws.contains p = false → ∀ S σ v w w', S i = true → S p = false → Chg (Ms p) w w' → F S σ v w → F (insS S p) σ v w'
/-- A fact speaks of the values of the operations that it waits for alone. -/
def LocS (ds : List Nat) (ws : List Nat) (F : FctS) : Prop := ∀ S (σ1 σ2 : Env), (∀ j d, ws.contains j = true → ds[j]? = some d → σ2 d = σ1 d) → ∀ v w, F S σ1 v w → F S σ2 v w
inductive DagStepsS (P : Program) (N : Nat) (ds : List Nat) (Fs : List FctS) (σ : Env) (w : World) (Ms : Nat → Nat → Prop) (cl : List (List Nat)) : Nat → List Oper → List (List Nat) → List Bool → List FctS → Prop where
  | nil {i : Nat} : DagStepsS P N ds Fs σ w Ms cl i [] [] [] []
  | cons {i : Nat} {o : Oper} {ws : List Nat} {F : FctS} {l : List Oper} {wss : List (List Nat)} {hs : List Bool} {Gs : List FctS} (s : StabS Ms i ws F) (lc : LocS ds ws F) (h : DagStepS P N ds Fs σ w Ms cl i o ws F) (t : DagStepsS P N ds Fs σ w Ms cl (i + 1) l wss hs Gs) : DagStepsS P N ds Fs σ w Ms cl i (o :: l) (ws :: wss) (true :: hs) (F :: Gs)
  | tail {i : Nat} {o : Oper} {ws : List Nat} {F : FctS} {l : List Oper} {wss : List (List Nat)} {hs : List Bool} {Gs : List FctS} (t : DagStepsS P N ds Fs σ w Ms cl (i + 1) l wss hs Gs) : DagStepsS P N ds Fs σ w Ms cl i (o :: l) (ws :: wss) (false :: hs) (F :: Gs)
theorem DagStepsS.get {P : Program} {N : Nat} {ds : List Nat} {Fs : List FctS} {σ : Env} {w : World} {Ms : Nat → Nat → Prop} {cl : List (List Nat)} : ∀ {i : Nat} {l : List Oper} {wss : List (List Nat)} {hs : List Bool} {Gs : List FctS}, DagStepsS P N ds Fs σ w Ms cl i l wss hs Gs → ∀ {j : Nat} {o : Oper}, l[j]? = some o → hs[j]? = some true → ∃ ws F, wss[j]? = some ws ∧ Gs[j]? = some F ∧ StabS Ms (i + j) ws F ∧ LocS ds ws F ∧ DagStepS P N ds Fs σ w Ms cl (i + j) o ws F
  | _, _, _, _, _, .nil, j, o, h, _ => by simp at h
  | i, _, _, _, _, .cons s lc h t, 0, o, ho, _ => by
    simp at ho; subst ho
    exact ⟨_, _, rfl, rfl, s, lc, h⟩
  | _, _, _, _, _, .tail t, 0, o, h, ht => by simp at ht
  | i, _, _, _, _, .cons s lc h t, j + 1, o, ho, ht => by
    obtain ⟨ws, F, h1, h2, h3, h5, h4⟩ := t.get (j := j) (by simpa using ho) (by simpa using ht)
    exact ⟨ws, F, by simpa using h1, by simpa using h2, by rw [show i + (j + 1) = i + 1 + j from by omega]; exact h3, h5, by rw [show i + (j + 1) = i + 1 + j from by omega]; exact h4⟩
  | i, _, _, _, _, .tail t, j + 1, o, ho, ht => by
    obtain ⟨ws, F, h1, h2, h3, h5, h4⟩ := t.get (j := j) (by simpa using ho) (by simpa using ht)
    exact ⟨ws, F, by simpa using h1, by simpa using h2, by rw [show i + (j + 1) = i + 1 + j from by omega]; exact h3, h5, by rw [show i + (j + 1) = i + 1 + j from by omega]; exact h4⟩
def allS (hd : List Bool) : Nat → Bool := fun j => hd.getD j false
theorem Wp_dagS {P : Program} {N : Nat} {Q : Post} {σ : Env} {w : World} {id : Nat} {l : List Oper} (Ms : Nat → Nat → Prop) (hd : List Bool) (ts : List Nat) (ds : List Nat) (wss cl : List (List Nat)) (Fs : List FctS) {Gs : List FctS} (hG : Fs = Gs) (hC : closB wss cl = true) (hm : P.follows .mixedOrders = true) (hB : dagSB N hd 0 l ds wss hd = true) (hn : nodupB ds = true)
    (hT : (tailPB l hd ts && permB l.toArray ts hd.toArray) = true) (hN : Nat.beq (leftH hd (List.replicate l.length false) + ts.length) l.length = true)
    (steps : ∀ w1, Ext w w1 → DagStepsS P N ds Fs σ w1 Ms cl 0 l cl hd Gs)
    (k : ∀ σ' w1 w', Ext w w1 → Chg (fun y => ∃ j, hd.getD j false = true ∧ Ms j y) w1 w' → (∀ t, ds.contains t = false → σ' t = σ t) → (∀ j, hd[j]? = some true → HoldsS ds Fs (allS hd) j σ' w') → WpL P N l.toArray (Q .normal) Q (ts.filterMap fun k => l[k]?) σ' w') : Wp P N (.region id l.toArray true) Q σ w := by
  intro a ha he
  have eQ : lift N (thn (Q .normal) Q) = lift N Q := by funext e a w; cases e <;> rfl
  refine wp_region_any hm ?_
  obtain ⟨w1, hw1⟩ : ∃ w1 : World, w1 = { w with drawn := w.drawn + 1 } := ⟨_, rfl⟩
  have hE1 : Ext w w1 := by rw [hw1]; exact drew_ext w
  rw [← hw1]
  have hst := steps w1 hE1
  rw [← hG] at hst
  rw [Bool.and_eq_true] at hT
  obtain ⟨hT1, hT2⟩ := hT
  obtain ⟨hlen, hlen2, hlen3⟩ := dagSB_len hB
  let Lf : Array Bool → Nat → Bool := fun listed j => listed.getD j false
  have key : ∀ (m : Nat) (listed : Array Bool) (a : Act) (w' : World), leftH hd listed.toList = m → listed.size = l.length → (∀ (t : Nat), hd[t]? = some false → listed.toList[t]? = some false) → (∀ (j : Nat) oj, l[j]? = some oj → listed.getD j false = true → ∀ e ∈ oj.after, Region.binds .any e = true → listed.getD e.on false = true) → Ok N a → Chg (fun y => ∃ j, listed.getD j false = true ∧ Ms j y) w1 w' → (∀ t, ds.contains t = false → env a t = σ t) → (∀ j, hd[j]? = some true → listed.getD j false = true → HoldsS ds Fs (Lf listed) j (env a) w') →
      wpAny P .any l.toArray (lift N Q) (m + ts.length) listed a w' := by
    intro m
    induction m with
    | zero =>
      intro listed a w' hc0 hsz htl hcd ha hx hu hh
      have hl : listed = hd.toArray := by
        apply Array.ext'
        exact leftH_zero (by simp; omega) hc0 htl
      have hLf : Lf listed = allS hd := by
        funext j
        show listed.getD j false = hd.getD j false
        rw [hl]; simp [List.getD_eq_getElem?_getD]
      rw [Nat.zero_add]
      have h1 := k (env a) w1 w' hE1 (hx.mono fun y _ h => by
        obtain ⟨j, h1, h2⟩ := h
        have : allS hd j = true := by rw [← hLf]; exact h1
        exact ⟨j, this, h2⟩) hu (fun j hj => by rw [← hLf]; exact hh j hj (getD_arr (by rw [hl]; exact hj))) a ha rfl
      rw [eQ] at h1
      exact wpAny_of_perm ts listed a w' (by rw [hl]; exact hT2) (by simpa using h1)
    | succ m ih =>
      intro listed a w' hcm hsz htl hcd ha hx hu hh
      obtain ⟨i0, hi0, hi1⟩ := leftH_pos (hd := hd) (listed := listed.toList) (by omega)
      rw [show m + 1 + ts.length = (m + ts.length) + 1 by omega]
      refine ⟨fun hr => ?_, fun i hi => ?_⟩
      · exfalso
        have hall : ∀ i : Nat, hd[i]? = some true → listed.getD i true = true := by
          intro i
          induction i using Nat.strongRecOn with
          | _ i ihi =>
            intro hi
            cases hv : listed.getD i true with
            | true => rfl
            | false =>
              exfalso
              obtain ⟨o, ho⟩ := get_of_lt (l := l) (i := i) (by have := lt_of_get hi; omega)
              obtain ⟨d, ws, h, _, _, h2, h3⟩ := dagSB_get hB ho
              rw [hi] at h2
              cases h2
              simp only [cond_true, dagOneS, Bool.and_eq_true, Nat.zero_add] at h3
              have : i ∈ Region.ready .any l.toArray listed := by
                refine mem_ready.2 ⟨hv, o, by simpa using ho, fun e he hb => ?_⟩
                have h4 := h3.1.1.2
                simp only [Array.all_eq_true_iff_forall_mem, Bool.or_eq_true, Bool.not_eq_true', Bool.and_eq_true] at h4
                have h6 := (h4 e he).resolve_left (by simp [hb])
                have hlt : e.on < i := by simpa [Nat.blt_eq] using h6.1
                have h7 := h6.2
                have hj0 : e.on < hd.length := by have := lt_of_get hi; omega
                have h8 : hd[e.on]? = some true := by
                  rw [List.getD_eq_getElem?_getD, List.getElem?_eq_getElem hj0, Option.getD_some] at h7
                  rw [List.getElem?_eq_getElem hj0, h7]
                have h9 := ihi e.on hlt h8
                have hj : e.on < listed.size := by omega
                simpa only [Array.getD_eq_getD_getElem?, Array.getElem?_eq_getElem hj, Option.getD_some] using h9
              rw [hr] at this
              cases this
        have := hall i0 hi0
        rw [getD_arr hi1] at this
        cases this
      · obtain ⟨h1, o, h2, h3⟩ := mem_ready.1 hi
        have ho : l[i]? = some o := by simpa using h2
        have hil : i < l.length := lt_of_get ho
        have hih : hd[i]? = some true := by
          obtain ⟨b, hb⟩ := get_of_lt (l := hd) (i := i) (by omega)
          cases b with
          | true => exact hb
          | false =>
            exfalso
            have h4 := List.all_eq_true.1 hT1 i (List.mem_range.2 hil)
            rw [List.getD_eq_getElem?_getD, hb, Option.getD_some, Bool.false_or, Bool.and_eq_true, Bool.or_eq_true] at h4
            have edge : ∀ u, edgeB l i u = true → listed.getD u false = true := fun u hu' => by
              unfold edgeB at hu'
              rw [ho] at hu'
              simp only [Array.any_eq_true', Bool.and_eq_true] at hu'
              obtain ⟨e, he, hb1, hb2⟩ := hu'
              have := Nat.eq_of_beq_eq_true hb2
              rw [← this]
              exact h3 e he hb1
            rcases h4.2 with h5 | h5
            · have h6 := List.all_eq_true.1 h5 i0 (List.mem_range.2 (by have := lt_of_get hi0; omega))
              rw [List.getD_eq_getElem?_getD, hi0, Option.getD_some, Bool.not_true, Bool.false_or] at h6
              have := edge i0 h6
              rw [getD_arr hi1] at this
              cases this
            · obtain ⟨p, _, h6⟩ := List.any_eq_true.1 h5
              rw [Bool.and_eq_true, Bool.not_eq_true'] at h6
              have h7 := edge p h6.2
              have hp : hd[p]? = some false := by
                have h8 := h6.1
                rw [List.getD_eq_getElem?_getD] at h8
                cases h9 : hd[p]? with
                | none => rw [h9] at h8; cases h8
                | some b => rw [h9, Option.getD_some] at h8; rw [h8]
              rw [getD_arr (htl p hp)] at h7
              cases h7
        obtain ⟨d, ws, h, hd', hws, hhs, h4⟩ := dagSB_get hB ho
        rw [hih] at hhs
        cases hhs
        obtain ⟨ci, F, hci, hF, hstab, hloc, hstep⟩ := hst.get ho hih
        rw [Nat.zero_add] at hstab hstep
        simp only [cond_true, dagOneS, Bool.and_eq_true, List.all_eq_true, Array.any_eq_true', Nat.zero_add] at h4
        obtain ⟨⟨⟨hdst, _⟩, hwait⟩, hgB⟩ := h4
        have hlisted : ∀ j, listed.getD j false = true → hd[j]? = some true := fun j hj => by
          obtain ⟨b, hb⟩ := get_of_lt (l := hd) (i := j) (by
            rcases Nat.lt_or_ge j listed.size with h9 | h9
            · omega
            · simp [Array.getD_eq_getD_getElem?, Array.getElem?_eq_none h9] at hj)
          cases b with
          | true => exact hb
          | false => rw [getD_arr (htl j hb)] at hj; cases hj
        have hcl : ∀ j, listed.getD j false = true → ∀ c, (cl.getD j []).contains c = true → listed.getD c false = true := by
          intro j
          induction j using Nat.strongRecOn with
          | _ j ihj =>
            intro hlj c hc
            have hjh := hlisted j hlj
            obtain ⟨oc, hoc⟩ := get_of_lt (l := l) (i := j) (by have := lt_of_get hjh; omega)
            obtain ⟨dc, wsc, hb, _, hwsc, hhb, h5⟩ := dagSB_get hB hoc
            rw [hjh] at hhb
            cases hhb
            simp only [cond_true, dagOneS, Bool.and_eq_true, List.all_eq_true, Array.any_eq_true', Array.all_eq_true_iff_forall_mem, Bool.or_eq_true, Bool.not_eq_true', Nat.zero_add] at h5
            have hdir : ∀ e' ∈ wsc, listed.getD e' false = true ∧ e' < j := by
              intro e' he'
              obtain ⟨e, he, hb1, hb2⟩ := h5.1.2 e' he'
              have hei : e.on = e' := Nat.eq_of_beq_eq_true hb2
              have h6 := hcd j oc hoc hlj e he hb1
              have h7 := (h5.1.1.2 e he).resolve_left (by simp [hb1])
              rw [hei] at h6 h7
              exact ⟨h6, by simpa [Nat.blt_eq] using h7.1⟩
            rcases closB_get hC hwsc hc with h6 | ⟨e', he', h6⟩
            · exact (hdir c h6).1
            · exact ihj e' (hdir e' he').2 (hdir e' he').1 c h6
        have hclo : ∀ j, ci.contains j = true → listed.getD j false = true := by
          intro j hj
          have hj' : (cl.getD i []).contains j = true := by rw [List.getD_eq_getElem?_getD, hci, Option.getD_some]; exact hj
          have hdir : ∀ e' ∈ ws, listed.getD e' false = true := by
            intro e' he'
            obtain ⟨e, he, hb1, hb2⟩ := hwait e' he'
            have : e.on = e' := Nat.eq_of_beq_eq_true hb2
            exact this ▸ h3 e he hb1
          rcases closB_get hC hws hj' with h6 | ⟨e', he', h6⟩
          · exact hdir j h6
          · exact hcl e' (hdir e' he') j h6
        have hSi : Lf listed i = false := getD_both h1
        have hSn : ∀ j, (cl.getD j []).contains i = true → Lf listed j = false := by
          intro j hj
          cases hlj : Lf listed j with
          | false => rfl
          | true =>
            exfalso
            have := hcl j hlj i hj
            rw [getD_both h1] at this; cases this
        have hH : ∀ j, ci.contains j = true → Lf listed j = true ∧ HoldsS ds Fs (Lf listed) j (env a) w' := fun j hj => ⟨hclo j hj, hh j (hlisted j (hclo j hj)) (hclo j hj)⟩
        have hil2 : i < listed.size := by omega
        have hLs : Lf (listed.setIfInBounds i true) = insS (Lf listed) i := by
          funext j
          by_cases hij : j = i
          · subst hij
            rw [insS_self]
            show (listed.setIfInBounds j true).getD j false = true
            simp [Array.getD_eq_getD_getElem?, hil2]
          · rw [insS_ne hij]
            exact getD_set_ne _ (Ne.symm hij)
        have hstep2 : ∀ w2, Chg (Ms i) w' w2 → Chg (fun y => ∃ j, (listed.setIfInBounds i true).getD j false = true ∧ Ms j y) w1 w2 := by
          intro w2 hx2
          have hg : (listed.setIfInBounds i true).getD i false = true := by simp [Array.getD_eq_getD_getElem?, hil2]
          refine Chg.step (hx.mono fun y _ h => ?_) hx2 (fun y _ h => ⟨i, hg, h⟩)
          obtain ⟨j, h5, h6⟩ := h
          by_cases hij : j = i
          · exact ⟨i, hg, hij ▸ h6⟩
          · exact ⟨j, by rw [getD_set_ne _ (Ne.symm hij)]; exact h5, h6⟩
        have cont : ∀ v w2, Chg (Ms i) w' w2 → F (insS (Lf listed) i) (env a) (Go.Eng.valOf o v) w2 → wpAny P .any l.toArray (lift N Q) (m + ts.length) (listed.setIfInBounds i true) (a.put o.dst v) w2 := by
          intro v w2 hx2 hv
          have henv : (∀ t, t ≠ d → env (a.put o.dst v) t = env a t) ∧ env (a.put o.dst v) d = Go.Eng.valOf o v := by
            cases hod : o.dst with
            | none =>
              rw [hod] at hdst
              have hNd : N ≤ d := Nat.le_of_ble_eq_true hdst
              refine ⟨fun t _ => rfl, ?_⟩
              simp only [Go.Eng.valOf, hod]
              show a.tmps.getD d undef = undef
              have : a.tmps.size ≤ d := by rw [ha.size]; exact hNd
              simp [Array.getElem?_eq_none this]
            | some d' =>
              rw [hod] at hdst
              simp only [Bool.and_eq_true] at hdst
              have hd1 : d' = d := Nat.eq_of_beq_eq_true hdst.1
              have hd2 : d < N := by simpa [Nat.blt_eq] using hdst.2
              subst hd1
              rw [env_put ha hd2 v]
              refine ⟨fun t ht => ?_, ?_⟩
              · have : Nat.beq t d' = false := by cases hb : Nat.beq t d'; rfl; exact absurd (Nat.eq_of_beq_eq_true hb) ht
                simp [upd, this]
              · simp [upd, Go.Eng.valOf, hod]
          have hlf : listed.toList[i]? = some false := by
            simp only [Array.getD_eq_getD_getElem?, Array.getElem?_eq_getElem hil2, Option.getD_some] at h1
            rw [Array.getElem?_toList, Array.getElem?_eq_getElem hil2, h1]
          refine ih _ _ _ ?_ (by simpa using hsz) (fun t ht => ?_) (fun j oj hoj hlj e he hb => ?_) (ha.put _ _) (hstep2 w2 hx2) ?_ ?_
          · rw [Array.toList_setIfInBounds]
            have := leftH_set hih hlf
            omega
          · rw [Array.toList_setIfInBounds, List.getElem?_set]
            have hne : i ≠ t := fun e => by rw [← e, hih] at ht; cases ht
            rw [if_neg hne]
            exact htl t ht
          · refine getD_set_true ?_
            by_cases hij : j = i
            · subst hij
              rw [ho] at hoj; cases hoj
              exact h3 e he hb
            · rw [getD_set_ne _ (Ne.symm hij)] at hlj
              exact hcd j oj hoj hlj e he hb
          · intro t ht
            rw [henv.1 t (fun h => by
              subst h
              have := List.mem_of_getElem? hd'
              simp [this] at ht), hu t ht]
          · intro j hjh hj d2 F2 hd2 hF2
            rw [hLs]
            by_cases hij : j = i
            · subst hij
              rw [hd'] at hd2; cases hd2
              rw [hF] at hF2; cases hF2
              rw [henv.2]
              refine hloc _ (env a) _ (fun j' d2 hj' hd2 => henv.1 d2 fun he => ?_) _ _ hv
              have := nodupB_get hn (he ▸ hd2) hd'
              subst this
              have := hclo j' hj'
              rw [getD_both h1] at this
              cases this
            · have hne : d2 ≠ d := by
                intro h
                subst h
                exact hij (nodupB_get hn hd2 hd')
              rw [henv.1 d2 hne]
              rw [getD_set_ne _ (Ne.symm hij)] at hj
              have h6 := hh j hjh hj d2 F2 hd2 hF2
              obtain ⟨oj, hoj⟩ := get_of_lt (l := l) (i := j) (by have := lt_of_get hjh; omega)
              obtain ⟨cj, Fj, hcj, hFj, hsj, hlj, _⟩ := hst.get hoj hjh
              rw [hF2] at hFj; cases hFj
              rw [Nat.zero_add] at hsj
              have hgc : cl.getD j [] = cj := by rw [List.getD_eq_getElem?_getD, hcj, Option.getD_some]
              have hcji : cj.contains i = false := by
                cases hcji : cj.contains i with
                | false => rfl
                | true =>
                  exfalso
                  have := hSn j (by rw [hgc]; exact hcji)
                  have hj' : Lf listed j = true := hj
                  rw [hj'] at this; cases this
              refine hlj _ (env a) _ (fun j' d3 hj' hd3 => henv.1 d3 fun he => ?_) _ _ (hsj i (Ne.symm hij) hcji (Lf listed) (env a) _ _ _ hj hSi hx2 h6)
              have h8 := nodupB_get hn (he ▸ hd3) hd'
              subst h8
              rw [hcji] at hj'
              cases hj'
        have gd : ∀ j b, o.guard = some (j, b) → ∀ dj, ds[j]? = some dj → ((∃ oj, l[j]? = some oj ∧ oj.dst = some dj) ∧ dj < N) ∨ (N ≤ dj ∧ ∃ oj, l[j]? = some oj ∧ oj.dst = none) := fun j b hgd dj hdj => by
          obtain ⟨oj, hoj⟩ := get_of_lt (l := l) (i := j) (by have := lt_of_get hdj; omega)
          obtain ⟨dj', _, hj, hdj', _, h5, h6⟩ := dagSB_get hB hoj
          rw [hdj] at hdj'
          cases hdj'
          unfold guardB at hgB
          rw [hgd] at hgB
          simp only at hgB
          have h7 : hj = true := by rw [List.getD_eq_getElem?_getD, h5, Option.getD_some] at hgB; exact hgB
          rw [h7] at h6
          simp only [cond_true, Bool.and_eq_true, dagOneS] at h6
          have hdst2 := h6.1.1.1
          split at hdst2
          · rename_i d2 hq
            rw [Bool.and_eq_true] at hdst2
            exact .inl ⟨⟨oj, hoj, by rw [hq, Nat.eq_of_beq_eq_true hdst2.1]⟩, by simpa [Nat.blt_eq] using hdst2.2⟩
          · rename_i hq
            exact .inr ⟨Nat.le_of_ble_eq_true hdst2, oj, hoj, hq⟩
        rcases hstep (Lf listed) (env a) w' hSi hSn hx hu hH with ⟨hg, hdo⟩ | ⟨⟨j, b, dj, hgd, hdj, hvj⟩, hund⟩
        · have hw : Region.wanted o (yielded l.toArray a.tmps) = true := by
            cases hgd : o.guard with
            | none => simp [Region.wanted, hgd]
            | some p =>
              obtain ⟨j, b⟩ := p
              obtain ⟨dj, hdj, hvj⟩ := hg j b hgd
              rcases gd j b hgd dj hdj with ⟨hdst2, hdN2⟩ | ⟨hge, _⟩
              · have h6 : a.tmps[dj]? = some (Value.bool b) := by
                  have h2 : a.tmps.getD dj undef = .bool b := hvj
                  have hlt : dj < a.tmps.size := by rw [ha.size]; exact hdN2
                  rw [Array.getElem?_eq_getElem hlt]
                  simpa [hlt] using h2
                obtain ⟨oj, hoj, hdst2⟩ := hdst2
                simp [Region.wanted, hgd, yielded, hoj, hdst2, h6]
              · exfalso
                have h2 : a.tmps.getD dj undef = .bool b := hvj
                have : a.tmps.size ≤ dj := by rw [ha.size]; exact hge
                simp [Array.getElem?_eq_none this, undef] at h2
          unfold wpOp
          simp only [h2, hw, if_true]
          exact Or.inl (hdo a ha rfl _ _ cont)
        · have hw : Region.wanted o (yielded l.toArray a.tmps) = false := by
            rcases gd j b hgd dj hdj with ⟨hdst2, hdN2⟩ | ⟨_, oj, hoj, hq⟩
            · have hlt : dj < a.tmps.size := by rw [ha.size]; exact hdN2
              have h6 : a.tmps[dj]? = some (env a dj) := by
                rw [Array.getElem?_eq_getElem hlt]
                simp [env, hlt]
              obtain ⟨oj, hoj, hdst2⟩ := hdst2
              rcases hvj with hvj | hvj
              · rw [hvj] at h6
                cases b <;> simp [Region.wanted, hgd, yielded, hoj, hdst2, h6]
              · rw [hvj] at h6
                simp [Region.wanted, hgd, yielded, hoj, hdst2, h6, undef]
            · simp [Region.wanted, hgd, yielded, hoj, hq]
          unfold wpOp
          simp only [h2, hw, Bool.false_eq_true, if_false]
          exact cont undef w' (Chg.refl _ _) (by
            have : Go.Eng.valOf o undef = undef := by unfold Go.Eng.valOf; split <;> rfl
            rw [this]; exact hund)
  have h1 := key (leftH hd (Array.replicate l.toArray.size false).toList) (Array.replicate l.toArray.size false) a w1 rfl (by simp) (fun t ht => by have h9 := lt_of_get ht; rw [Array.toList_replicate, List.getElem?_replicate, if_pos (by rw [List.size_toArray]; omega)]) (fun j oj _ hl => (by rw [getD_replicate_false] at hl; cases hl)) ha (Chg.refl _ _) (fun t _ => by rw [he]) (fun j _ hj => by rw [getD_replicate_false] at hj; cases hj)
  have e3 : leftH hd (Array.replicate l.toArray.size false).toList + ts.length = l.toArray.size := by have h9 := Nat.eq_of_beq_eq_true hN; simpa using h9
  rw [e3] at h1
  exact h1
section
variable {Ms : Nat → Nat → Prop} {i : Nat} {ws ds : List Nat}
theorem StabS.eq {u : Value} : StabS Ms i ws (fun _ _ v _ => v = u) := fun _ _ _ _ _ _ _ _ _ _ _ h => h
theorem StabS.chg {F : Fct} {U : Nat → Prop} (hF : ∀ v w w', Chg U w w' → F v w → F v w') (hM : ∀ p y, p ≠ i → ws.contains p = false → Ms p y → U y) : StabS Ms i ws (fun _ _ => F) :=
  fun p h1 h2 _ _ v w w' _ _ x h => hF v w w' (x.mono fun y _ hy => hM p y h1 h2 hy) h
theorem StabS.till {F : Fct} {U : Nat → Prop} {c : Nat} (hF : ∀ v w w', Chg U w w' → F v w → F v w') (hM : ∀ p y, p ≠ i → ws.contains p = false → p ≠ c → Ms p y → U y) : StabS Ms i ws (fun S _ v w => S c = false → F v w) :=
  fun p h1 h2 S _ v w w' _ _ x h hc => by
    have hpc : p ≠ c := fun e => by subst e; rw [insS_self] at hc; cases hc
    rw [insS_ne (Ne.symm hpc)] at hc
    exact hF v w w' (x.mono fun y _ hy => hM p y h1 h2 hpc hy) (h hc)
theorem LocS.const {G : (Nat → Bool) → Fct} : LocS ds ws (fun S _ => G S) := fun _ _ _ _ _ _ h => h
end
section
variable {M : Nat → Prop} {P : Program} {N : Nat} {o : Oper} {R : Fct} {σ : Env} {w : World} {dst : Option Tmp} {ty : TypeId} {pos : String} {af : Array Edge} {g : Option (Nat × Bool)} {t : TypeId}
theorem DoesT_pure {v : Value} (hr : (execOp (ev σ) o).run P w = .ok (.value v) w) (h : R v w) : DoesT M P N o R σ w := DoesT_val hr (Chg.refl _ _) h
theorem DoesT_callE {f : FuncId} {args : Array Value} (hr : (execOp (ev σ) o).run P w = .ok (.enter f args) w) (hc : Ret P f args w fun v w' => R v w' ∧ Ext w w') : DoesT M P N o R σ w :=
  DoesT_enter hr (hc.mono fun _ _ h => ⟨h.1, Ext.chg h.2⟩)
theorem DoesT_alloc {d hs : Nat} {z : Value} {c : Array Value} (hz : Zer P t z) (hc : z.cells = c) (hh : hs ≤ w.heap.size) : DoesT M P N ⟨some d, .alloc t, ty, pos, af, g⟩ (alF t c hs) σ w := by
  subst hc
  have hn := New.mk' w z.cells t
  exact DoesT_val (v := .pointer (some ⟨w.heap.size, 0, none⟩)) (by simp [execOp, Instr.alloc, hz.run, newVar, newRow]) (Ext.chg hn.ext) ⟨_, rfl, hn.blk, hh⟩
end
def putF (sa n : Nat) (T : TypeId) (G : Fct) : FctS := fun _ s _ w => ∃ b vs, s sa = .pointer (some ⟨b, 0, none⟩) ∧ n ≤ b ∧ Blk w b vs T ∧ G (.agg vs) w
section
variable {Ms : Nat → Nat → Prop} {i : Nat} {ws ds : List Nat}
theorem StabS.put {sa n : Nat} {T : TypeId} {G : Fct} (hG : ∀ v w w', Ext w w' → G v w → G v w') (hM : ∀ p y, p ≠ i → ws.contains p = false → Ms p y → False) : StabS Ms i ws (putF sa n T G) :=
  fun p h1 h2 _ _ v w w' _ _ x h => by
    obtain ⟨b, vs, h3, h4, h5, h6⟩ := h
    have hx : Ext w w' := x.mono fun y _ hy => (hM p y h1 h2 hy).elim
    exact ⟨b, vs, h3, h4, Ext.keep hx h5, hG _ _ _ hx h6⟩
theorem LocS.put {sa n j : Nat} {T : TypeId} {G : Fct} (hj : ws.contains j = true) (hd : ds[j]? = some sa) : LocS ds ws (putF sa n T G) :=
  fun _ σ1 σ2 hs v w h => by
    obtain ⟨b, vs, h3, h4⟩ := h
    exact ⟨b, vs, by rw [hs j sa hj hd]; exact h3, h4⟩
end
end Go.Eng
namespace Go.Proofs
open Go Go.Eng Go.Sort
set_option maxRecDepth 100000
--BEGIN
theorem DfaOwn.low {b0 base : Nat} {D : Dfa} {r : Value} {w : World} (h : DfaOwn base D r w) (hb : b0 ≤ base) : DfaOwn b0 D r w := by
  obtain ⟨ea, ec, na, nc, vs, h1, h2⟩ := h
  exact ⟨ea, ec, na, nc, vs, h1, h2.low hb⟩
end Go.Proofs
namespace Go.Proofs
open Go Go.Eng Go.Sort
set_option maxRecDepth 100000
theorem okD_row0 {n c : Nat} {d : Dfa} {dv : List Value} {w : World} (ok : OkD n c d) (h : DfaAt w d dv) (hn : 1 ≤ n) : ∃ nb no nc aa ac ra rc, dv = [.int .i64 d.start, .slice aa d.accept.length ac, .slice (some ⟨nb, no, none⟩) d.next.length nc] ∧ w.cell? ⟨nb, no + 0, none⟩ = some (.slice ra c rc) := by
  have hnl := ok.nl
  obtain ⟨aa, ac, na, nc, rfl, hacc, hnxt⟩ := h
  obtain ⟨nb, no, rfl, hnx⟩ := intss_cells (n := d.next.length) hnxt (by omega)
  obtain ⟨row, hrow⟩ := get_of_lt (l := d.next) (i := 0) (by omega)
  have hrl := (ok.row row (List.mem_of_getElem? hrow)).1
  obtain ⟨ra, rc, hcell, _⟩ := hnx 0 row hrow
  rw [hrl] at hcell
  exact ⟨nb, no, nc, aa, ac, ra, rc, rfl, hcell⟩
end Go.Proofs
