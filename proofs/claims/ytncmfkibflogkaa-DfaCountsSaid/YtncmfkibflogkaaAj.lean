/- slices.Repeat of one number. -/
import Derived.Test.YtncmfkibflogkaaGx
import Derived.Test.YtncmfkibflogkaaAd
import Derived.Laws.CopyRow
namespace Go.Proofs
open Go Go.Eng Go.Sort
set_option maxRecDepth 100000

theorem run_copyOp {P : Program} {σ : Env} {w : World} {dst : Option Tmp} {ty : TypeId} {pos : String} {af : Array Edge} {g0 : Option (Nat × Bool)} {t e : TypeId} {x y : Operand} {g o dl dc sb so sl sc : Nat} {cur c' : Array Value} {T : TypeId} {cs : List Value} (hu : P.underlying t = some (.slice e)) (hs : Siz P e 1) (hx : ev σ x = .slice (some ⟨g, o, none⟩) dl dc) (hy : ev σ y = .slice (some ⟨sb, so, none⟩) sl sc)
    (hB : Blk w g cur T) (hcs : CellsAt w sb so cs) (hn : cs.length = Nat.min sl dl) (hfit : o + cs.length ≤ cur.size) (h1 : ∀ v ∈ cs, v.oneCell' = true) (hc : (cur.toList.take o ++ cs ++ cur.toList.drop (o + cs.length)).toArray = c') :
    (execOp (ev σ) ⟨dst, .call ⟨.builtin .copy, #[x, y], #[t, t]⟩, ty, pos, af, g0⟩).run P w = .ok (.value (.int .i64 ((cs.length : Nat) : Int))) (w.setRow g c') := by
  subst hc
  have hr := run_copy_row (P := P) w t t ty e g o dl dc ⟨sb, so, none⟩ sl sc cur T cs hu hs hB hn (fun j v hj => by rw [Addr.add_lit]; exact hcs j v hj) hfit h1
  simp [execOp, resolve, invoke, builtin, hx, hy, hr, goInt]
theorem s_copy {P : Program} {N : Nat} {Q : Post} {σ : Env} {w : World} {K : Env → World → Prop} {ops : Array Oper} {rest : List Oper} {d : Nat} {ty : TypeId} {pos : String} {af : Array Edge} {t e : TypeId} {x y : Operand} {g o dl dc sb so sl sc : Nat} {cur c' : Array Value} {T : TypeId} {cs : List Value} (hN : d < N) (hu : P.underlying t = some (.slice e)) (hs : Siz P e 1) (hx : ev σ x = .slice (some ⟨g, o, none⟩) dl dc) (hy : ev σ y = .slice (some ⟨sb, so, none⟩) sl sc)
    (hB : Blk w g cur T) (hcs : CellsAt w sb so cs) (hn : cs.length = Nat.min sl dl) (hfit : o + cs.length ≤ cur.size) (h1 : ∀ v ∈ cs, v.oneCell' = true) (hc : (cur.toList.take o ++ cs ++ cur.toList.drop (o + cs.length)).toArray = c')
    (k : ∀ w', Put w w' g c' T → WpL P N ops K Q rest (upd σ d (.int .i64 ((cs.length : Nat) : Int))) w') : WpL P N ops K Q (⟨some d, .call ⟨.builtin .copy, #[x, y], #[t, t]⟩, ty, pos, af, none⟩ :: rest) σ w :=
  WpL_val rfl rfl hN (run_copyOp hu hs hx hy hB hcs hn hfit h1 hc) (k _ (Put.of_setRow hB _))
theorem DoesT_copy {P : Program} {N : Nat} {σ : Env} {w : World} {M : Nat → Prop} {R : Fct} {dst : Option Tmp} {ty : TypeId} {pos : String} {af : Array Edge} {g0 : Option (Nat × Bool)} {t e : TypeId} {x y : Operand} {g o dl dc sb so sl sc : Nat} {cur c' : Array Value} {T : TypeId} {cs : List Value} (hu : P.underlying t = some (.slice e)) (hs : Siz P e 1) (hx : ev σ x = .slice (some ⟨g, o, none⟩) dl dc) (hy : ev σ y = .slice (some ⟨sb, so, none⟩) sl sc)
    (hB : Blk w g cur T) (hcs : CellsAt w sb so cs) (hn : cs.length = Nat.min sl dl) (hfit : o + cs.length ≤ cur.size) (h1 : ∀ v ∈ cs, v.oneCell' = true) (hc : (cur.toList.take o ++ cs ++ cur.toList.drop (o + cs.length)).toArray = c') (hM : M g)
    (hR : ∀ w', Blk w' g c' T → R (.int .i64 ((cs.length : Nat) : Int)) w') : DoesT M P N ⟨dst, .call ⟨.builtin .copy, #[x, y], #[t, t]⟩, ty, pos, af, g0⟩ R σ w := by
  have hp := Put.of_setRow hB c'
  exact DoesT_val (run_copyOp hu hs hx hy hB hcs hn hfit h1 hc) (hp.chg.mono fun z _ h => by subst h; exact hM) (hR _ hp.blk)
theorem ofInt64 (m : Nat) (h : m < 18446744073709551616) : (BitVec.ofInt 64 (m : Int)).toNat = m := by
  rw [BitVec.toNat_ofInt]; omega
theorem and64 {P : Program} {w : World} (m : Nat) (hm : m < 4294967296) : (Op.intBits .and .u64 (m : Int) 4294967295).run P w = .ok (.int .u64 (m : Int)) w := by
  have h1 : m &&& 4294967295 = m := by
    have := Nat.and_two_pow_sub_one_eq_mod m 32
    rw [show (2 : Nat) ^ 32 - 1 = 4294967295 by decide] at this
    rw [this]; omega
  show Result.ok (Value.int .u64 (IntKind.u64.wrap ((BitVec.ofInt 64 (m : Int) &&& BitVec.ofInt 64 (((4294967295 : Nat) : Nat) : Int) : BitVec 64).toNat : Int))) w = _
  rw [BitVec.toNat_and, ofInt64 m (by omega), ofInt64 _ (by decide), h1, wU64 (by omega)]
theorem shr32 {n : Int} (h : 0 ≤ n ∧ n < 4294967296) : n.fdiv (2 ^ min (Int.toNat 32) IntKind.u64.bits) = 0 := by
  show n.fdiv 4294967296 = 0
  rw [Int.fdiv_eq_ediv_of_nonneg n (by decide)]
  omega
theorem mul64_c (w0 : World) (m n : Nat) (hm : m ≤ 60000) (hn : n ≤ 60000) : Ret Try.prog 115 #[.int .u64 (m : Int), .int .u64 (n : Int)] w0 fun r w => r = .tuple #[.int .u64 0, .int .u64 ((m * n : Nat) : Int)] ∧ Ext w0 w := by
  have hmn : m * n ≤ 60000 * 60000 := Nat.mul_le_mul hm hn
  have hc : ((m : Int) * (n : Int)) = ((m * n : Nat) : Int) := by simp
  refine Ret_of Try.func115 rfl Try.ntmps115 (Nat.le_of_ble_eq_true rfl) ?_
  have E : Chg none1 w0 w0 := Chg.refl _ _
  refine Wp_seq_region ?_
  refine WpL_val rfl rfl (by decide) (r_assign (v := (.int .u64 0)) rfl) ?_
  refine WpL_val rfl rfl (by decide) (r_assign (v := (.int .u64 0)) rfl) ?_
  refine WpL_nil ?_
  refine Wp_seq_region ?_
  refine WpL_val rfl rfl (by decide) (r_move (v := (.int .u64 ((m : Nat) : Int))) rfl) ?_
  refine WpL_val rfl rfl (by decide) (r_bits (k := .u64) (a := ((m : Nat) : Int)) (b := 4294967295) (v := .int .u64 ((m : Nat) : Int)) rfl rfl (by simp) (and64 m (by omega))) ?_
  refine WpL_val rfl rfl (by decide) (r_assign (v := (.int .u64 ((m : Nat) : Int))) rfl) ?_
  refine WpL_nil ?_
  refine Wp_seq_region ?_
  refine WpL_val rfl rfl (by decide) (r_move (v := (.int .u64 ((m : Nat) : Int))) rfl) ?_
  refine WpL_val rfl rfl (by decide) (r_shr (k := .u64) (a := ((m : Nat) : Int)) (b := 32) (c := 0) (k' := .u64) rfl rfl (by omega) (shr32 (by omega))) ?_
  refine WpL_val rfl rfl (by decide) (r_assign (v := (.int .u64 0)) rfl) ?_
  refine WpL_nil ?_
  refine Wp_seq_region ?_
  refine WpL_val rfl rfl (by decide) (r_move (v := (.int .u64 ((n : Nat) : Int))) rfl) ?_
  refine WpL_val rfl rfl (by decide) (r_bits (k := .u64) (a := ((n : Nat) : Int)) (b := 4294967295) (v := .int .u64 ((n : Nat) : Int)) rfl rfl (by simp) (and64 n (by omega))) ?_
  refine WpL_val rfl rfl (by decide) (r_assign (v := (.int .u64 ((n : Nat) : Int))) rfl) ?_
  refine WpL_nil ?_
  refine Wp_seq_region ?_
  refine WpL_val rfl rfl (by decide) (r_move (v := (.int .u64 ((n : Nat) : Int))) rfl) ?_
  refine WpL_val rfl rfl (by decide) (r_shr (k := .u64) (a := ((n : Nat) : Int)) (b := 32) (c := 0) (k' := .u64) rfl rfl (by omega) (shr32 (by omega))) ?_
  refine WpL_val rfl rfl (by decide) (r_assign (v := (.int .u64 0)) rfl) ?_
  refine WpL_nil ?_
  refine Wp_seq_region ?_
  refine WpL_val rfl rfl (by decide) (r_move (v := (.int .u64 ((m : Nat) : Int))) rfl) ?_
  refine WpL_val rfl rfl (by decide) (r_move (v := (.int .u64 ((n : Nat) : Int))) rfl) ?_
  refine WpL_val rfl rfl (by decide) (r_mul (k := .u64) (a := ((m : Nat) : Int)) (b := ((n : Nat) : Int)) (c := ((m * n : Nat) : Int)) rfl rfl (by rw [hc]; exact wU64 (by omega))) ?_
  refine WpL_val rfl rfl (by decide) (r_assign (v := (.int .u64 ((m * n : Nat) : Int))) rfl) ?_
  refine WpL_nil ?_
  refine Wp_seq_region ?_
  refine WpL_val rfl rfl (by decide) (r_move (v := (.int .u64 0)) rfl) ?_
  refine WpL_val rfl rfl (by decide) (r_move (v := (.int .u64 ((n : Nat) : Int))) rfl) ?_
  refine WpL_val rfl rfl (by decide) (r_mul (k := .u64) (a := 0) (b := ((n : Nat) : Int)) (c := 0) rfl rfl (by rw [Int.zero_mul]; rfl)) ?_
  refine WpL_val rfl rfl (by decide) (r_move (v := (.int .u64 ((m * n : Nat) : Int))) rfl) ?_
  refine WpL_val rfl rfl (by decide) (r_shr (k := .u64) (a := ((m * n : Nat) : Int)) (b := 32) (c := 0) (k' := .u64) rfl rfl (by omega) (shr32 (by omega))) ?_
  refine WpL_val rfl rfl (by decide) (r_add (k := .u64) (a := 0) (b := 0) (c := 0) rfl rfl (by rfl)) ?_
  refine WpL_val rfl rfl (by decide) (r_assign (v := (.int .u64 0)) rfl) ?_
  refine WpL_nil ?_
  refine Wp_seq_region ?_
  refine WpL_val rfl rfl (by decide) (r_move (v := (.int .u64 0)) rfl) ?_
  refine WpL_val rfl rfl (by decide) (r_bits (k := .u64) (a := 0) (b := 4294967295) (v := .int .u64 0) rfl rfl (by simp) (and64 0 (by decide))) ?_
  refine WpL_val rfl rfl (by decide) (r_assign (v := (.int .u64 0)) rfl) ?_
  refine WpL_nil ?_
  refine Wp_seq_region ?_
  refine WpL_val rfl rfl (by decide) (r_move (v := (.int .u64 0)) rfl) ?_
  refine WpL_val rfl rfl (by decide) (r_shr (k := .u64) (a := 0) (b := 32) (c := 0) (k' := .u64) rfl rfl (by omega) (shr32 (by omega))) ?_
  refine WpL_val rfl rfl (by decide) (r_assign (v := (.int .u64 0)) rfl) ?_
  refine WpL_nil ?_
  refine Wp_seq_region ?_
  refine WpL_val rfl rfl (by decide) (r_move (v := (.int .u64 0)) rfl) ?_
  refine WpL_val rfl rfl (by decide) (r_move (v := (.int .u64 ((m : Nat) : Int))) rfl) ?_
  refine WpL_val rfl rfl (by decide) (r_move (v := (.int .u64 0)) rfl) ?_
  refine WpL_val rfl rfl (by decide) (r_mul (k := .u64) (a := ((m : Nat) : Int)) (b := 0) (c := 0) rfl rfl (by rw [Int.mul_zero]; rfl)) ?_
  refine WpL_val rfl rfl (by decide) (r_add (k := .u64) (a := 0) (b := 0) (c := 0) rfl rfl (by rfl)) ?_
  refine WpL_val rfl rfl (by decide) (r_assign (v := (.int .u64 0)) rfl) ?_
  refine WpL_nil ?_
  refine Wp_seq_region ?_
  refine WpL_val rfl rfl (by decide) (r_move (v := (.int .u64 0)) rfl) ?_
  refine WpL_val rfl rfl (by decide) (r_move (v := (.int .u64 0)) rfl) ?_
  refine WpL_val rfl rfl (by decide) (r_mul (k := .u64) (a := 0) (b := 0) (c := 0) rfl rfl (by rfl)) ?_
  refine WpL_val rfl rfl (by decide) (r_move (v := (.int .u64 0)) rfl) ?_
  refine WpL_val rfl rfl (by decide) (r_add (k := .u64) (a := 0) (b := 0) (c := 0) rfl rfl (by rfl)) ?_
  refine WpL_val rfl rfl (by decide) (r_move (v := (.int .u64 0)) rfl) ?_
  refine WpL_val rfl rfl (by decide) (r_shr (k := .u64) (a := 0) (b := 32) (c := 0) (k' := .u64) rfl rfl (by omega) (shr32 (by omega))) ?_
  refine WpL_val rfl rfl (by decide) (r_add (k := .u64) (a := 0) (b := 0) (c := 0) rfl rfl (by rfl)) ?_
  refine WpL_val rfl rfl (by decide) (r_assign (v := (.int .u64 0)) rfl) ?_
  refine WpL_nil ?_
  refine Wp_seq_region ?_
  refine WpL_val rfl rfl (by decide) (r_move (v := (.int .u64 ((m : Nat) : Int))) rfl) ?_
  refine WpL_val rfl rfl (by decide) (r_move (v := (.int .u64 ((n : Nat) : Int))) rfl) ?_
  refine WpL_val rfl rfl (by decide) (r_mul (k := .u64) (a := ((m : Nat) : Int)) (b := ((n : Nat) : Int)) (c := ((m * n : Nat) : Int)) rfl rfl (by rw [hc]; exact wU64 (by omega))) ?_
  refine WpL_val rfl rfl (by decide) (r_assign (v := (.int .u64 ((m * n : Nat) : Int))) rfl) ?_
  refine WpL_nil ?_
  refine Wp_ret ?_
  refine fin_tmp2 Try.results115 (v := (.int .u64 0)) (v' := (.int .u64 ((m * n : Nat) : Int))) rfl rfl ?_
  exact ⟨rfl, E⟩
theorem mul_c (w0 : World) (m n : Nat) (hm : m ≤ 60000) (hn : n ≤ 60000) : Ret Try.prog 90 #[.int .u64 (m : Int), .int .u64 (n : Int)] w0 fun r w => r = .tuple #[.int .u64 0, .int .u64 ((m * n : Nat) : Int)] ∧ Ext w0 w := by
  refine Ret_of Try.func90 rfl Try.ntmps90 (Nat.le_of_ble_eq_true rfl) ?_
  have E : Chg none1 w0 w0 := Chg.refl _ _
  refine Wp_seq_region ?_
  refine WpL_val rfl rfl (by decide) (r_assign (v := (.int .u64 0)) rfl) ?_
  refine WpL_val rfl rfl (by decide) (r_assign (v := (.int .u64 0)) rfl) ?_
  refine WpL_nil ?_
  refine Wp_seq ?_
  refine Wp_cond_false rfl ?_
  refine Wp_skip ?_
  refine thn_normal ?_
  refine Wp_seq_region ?_
  refine WpL_val rfl rfl (by decide) (r_move (v := (.int .u64 ((m : Nat) : Int))) rfl) ?_
  refine WpL_val rfl rfl (by decide) (r_move (v := (.int .u64 ((n : Nat) : Int))) rfl) ?_
  refine WpL_enter rfl rfl (by decide) (r_callF (vs := [(.int .u64 ((m : Nat) : Int)), (.int .u64 ((n : Nat) : Int))]) Try.func115 nm115 bd115 rfl) (mul64_c _ m n hm hn) ?_
  rintro _ w9 ⟨rfl, X9⟩
  replace E := E.ext X9
  refine WpL_val rfl rfl (by decide) (r_move (v := (.tuple #[(.int .u64 0), (.int .u64 ((m * n : Nat) : Int))])) rfl) ?_
  refine WpL_val rfl rfl (by decide) (r_extract (vs := #[(.int .u64 0), (.int .u64 ((m * n : Nat) : Int))]) (v := (.int .u64 0)) rfl rfl) ?_
  refine WpL_val rfl rfl (by decide) (r_extract (vs := #[(.int .u64 0), (.int .u64 ((m * n : Nat) : Int))]) (v := (.int .u64 ((m * n : Nat) : Int))) rfl rfl) ?_
  refine WpL_val rfl rfl (by decide) (r_assign (v := (.int .u64 0)) rfl) ?_
  refine WpL_val rfl rfl (by decide) (r_assign (v := (.int .u64 ((m * n : Nat) : Int))) rfl) ?_
  refine WpL_nil ?_
  refine Wp_seq_region ?_
  refine WpL_val rfl rfl (by decide) (r_move (v := (.int .u64 0)) rfl) ?_
  refine WpL_val rfl rfl (by decide) (r_move (v := (.int .u64 ((m * n : Nat) : Int))) rfl) ?_
  refine WpL_val rfl rfl (by decide) (r_assign (v := (.int .u64 0)) rfl) ?_
  refine WpL_val rfl rfl (by decide) (r_assign (v := (.int .u64 ((m * n : Nat) : Int))) rfl) ?_
  refine WpL_nil ?_
  refine Wp_ret ?_
  refine fin_tmp2 Try.results90 (v := (.int .u64 0)) (v' := (.int .u64 ((m * n : Nat) : Int))) rfl rfl ?_
  exact ⟨rfl, E⟩
def repV (y : Int) (m n : Nat) : List Value := (List.replicate m y ++ List.replicate (n - m) 0).map (Value.int .i64)
theorem repV_len (y : Int) {m n : Nat} (h : m ≤ n) : (repV y m n).length = n := by simp [repV]; omega
theorem repV_take (y : Int) {m n k : Nat} (h : k ≤ m) : (repV y m n).take k = List.replicate k (Value.int .i64 y) := by
  simp only [repV, List.map_append, List.map_replicate]
  rw [List.take_append_of_le_length (by simp; omega), List.take_replicate, Nat.min_eq_left h]
theorem repV_copy (y : Int) {m n k : Nat} (h : m + k ≤ n) : ((repV y m n).toArray.toList.take m ++ List.replicate k (Value.int .i64 y) ++ (repV y m n).toArray.toList.drop (m + k)).toArray = (repV y (m + k) n).toArray := by
  have e1 := repV_take y (m := m) (n := n) (k := m) (Nat.le_refl _)
  have e2 : (repV y m n).drop (m + k) = List.replicate (n - (m + k)) (Value.int .i64 0) := by
    simp only [repV, List.map_append, List.map_replicate]
    rw [List.drop_append, List.drop_of_length_le (by simp), List.length_replicate, List.drop_replicate, List.nil_append]
    congr 1; omega
  show ((repV y m n).take m ++ List.replicate k (Value.int .i64 y) ++ (repV y m n).drop (m + k)).toArray = _
  rw [e1, e2]
  simp only [repV, List.map_append, List.map_replicate, List.replicate_append_replicate]
set_option maxHeartbeats 1000000 in
theorem repeat_c (w0 : World) (b sc n : Nat) (y : Int) (T : TypeId) (hB : Blk w0 b #[.int .i64 y] T) (h1 : 1 ≤ n) (hn : n ≤ 60000) :
    Ret Try.prog 55 #[.slice (some ⟨b, 0, none⟩) 1 sc, .int .i64 ((n : Nat) : Int)] w0 fun r w => (∃ g, r = .slice (some ⟨g, 0, none⟩) n n ∧ w0.heap.size ≤ g ∧ Blk w g ((List.replicate n y).map (Value.int .i64)).toArray 3) ∧ Ext w0 w := by
  have hbl := hB.lt
  refine Ret_of Try.func55 rfl Try.ntmps55 (Nat.le_of_ble_eq_true rfl) ?_
  have E : Chg none1 w0 w0 := Chg.refl _ _
  refine Wp_seq_region ?_
  refine WpL_val rfl rfl (by decide) (r_assign (v := (.slice none 0 0)) rfl) ?_
  refine WpL_nil ?_
  refine Wp_seq ?_
  refine Wp_seq_region ?_
  refine WpL_val rfl rfl (by decide) (r_move (v := (.int .i64 ((n : Nat) : Int))) rfl) ?_
  refine WpL_val rfl rfl (by decide) (r_lss (k := .i64) (a := ((n : Nat) : Int)) (b := 0) rfl rfl) ?_
  refine WpL_nil ?_
  have hc1 : (decide ((((n : Nat) : Int) : Int) < 0)) = false := decide_eq_false (by omega)
  refine Wp_cond_false (congrArg Value.bool hc1) ?_
  refine Wp_skip ?_
  refine thn_normal ?_
  refine Wp_seq_region ?_
  refine WpL_val rfl rfl (by decide) (r_move (v := (.slice (some ⟨b, 0, none⟩) 1 sc)) rfl) ?_
  refine WpL_val rfl rfl (by decide) (r_lenSlice (ad := some ⟨b, 0, none⟩) (n := 1) (cap := sc) Try.underlying22 rfl) ?_
  refine WpL_val rfl rfl (by decide) (r_convInt (k := .i64) (k' := .u64) (n := 1) (c := ((1 : Nat) : Int)) ⟨_, Try.underlying3⟩ Try.underlying106 rfl (rfl)) ?_
  refine WpL_val rfl rfl (by decide) (r_move (v := (.int .i64 ((n : Nat) : Int))) rfl) ?_
  refine WpL_val rfl rfl (by decide) (r_convInt (k := .i64) (k' := .u64) (n := ((n : Nat) : Int)) (c := ((n : Nat) : Int)) ⟨_, Try.underlying3⟩ Try.underlying106 rfl (wU64 (by omega))) ?_
  refine WpL_enter rfl rfl (by decide) (r_callF (vs := [(.int .u64 ((1 : Nat) : Int)), (.int .u64 ((n : Nat) : Int))]) Try.func90 nm90 bd90 rfl) (mul_c _ 1 n (by decide) hn) ?_
  rintro _ w9 ⟨rfl, X9⟩
  replace hB := X9.keep hB
  replace E := E.ext X9
  refine WpL_val rfl rfl (by decide) (r_move (v := (.tuple #[(.int .u64 0), (.int .u64 ((1 * n : Nat) : Int))])) rfl) ?_
  refine WpL_val rfl rfl (by decide) (r_extract (vs := #[(.int .u64 0), (.int .u64 ((1 * n : Nat) : Int))]) (v := (.int .u64 0)) rfl rfl) ?_
  refine WpL_val rfl rfl (by decide) (r_extract (vs := #[(.int .u64 0), (.int .u64 ((1 * n : Nat) : Int))]) (v := (.int .u64 ((1 * n : Nat) : Int))) rfl rfl) ?_
  refine WpL_val rfl rfl (by decide) (r_assign (v := (.int .u64 0)) rfl) ?_
  refine WpL_val rfl rfl (by decide) (r_assign (v := (.int .u64 ((1 * n : Nat) : Int))) rfl) ?_
  refine WpL_nil ?_
  refine Wp_seq ?_
  refine Wp_seq_region ?_
  refine WpL_val rfl rfl (by decide) (r_move (v := (.int .u64 0)) rfl) ?_
  refine WpL_val rfl rfl (by decide) (r_gtr (k := .u64) (a := 0) (b := 0) rfl rfl) ?_
  refine WpL_val rfl rfl (by decide) (r_move (v := (.bool false)) rfl) ?_
  refine WpL_guard_yes (oj := _) rfl rfl (by decide) rfl ?_
  refine WpL_val rfl rfl (by decide) (r_move (v := (.int .u64 ((1 * n : Nat) : Int))) rfl) ?_
  refine WpL_guard_yes (oj := _) rfl rfl (by decide) rfl ?_
  obtain ⟨e2, he2⟩ : ∃ e, (decide ((9223372036854775807 : Int) < ((1 * n : Nat) : Int))) = e := ⟨_, rfl⟩
  refine WpL_val rfl rfl (by decide) ((r_gtr (k := .u64) (a := ((1 * n : Nat) : Int)) (b := 9223372036854775807) rfl rfl).trans (by rw [he2]; try rfl)) ?_
  refine WpL_val rfl rfl (by decide) (r_pick (b := false) (v := (.bool e2)) rfl rfl) ?_
  refine WpL_nil ?_
  subst he2
  have hc3 : ((decide ((9223372036854775807 : Int) < ((1 * n : Nat) : Int)))) = false := decide_eq_false (by omega)
  refine Wp_cond_false (congrArg Value.bool hc3) ?_
  refine Wp_skip ?_
  refine thn_normal ?_
  refine Wp_seq_region ?_
  refine WpL_val rfl rfl (by decide) (r_move (v := (.int .u64 ((1 * n : Nat) : Int))) rfl) ?_
  refine WpL_val rfl rfl (by decide) (r_convInt (k := .u64) (k' := .i64) (n := ((1 * n : Nat) : Int)) (c := ((n : Nat) : Int)) ⟨_, Try.underlying106⟩ Try.underlying3 rfl ((wI64 (by omega)).trans (by omega))) ?_
  refine s_make (n := n) (z := (.int .i64 0)) (bytes := 8) (by decide) Try.underlying22 siz3 byt3 zer3 rfl rfl rfl (by omega) (by omega) ?_
  intro bz wz Nz
  have Fz := Nz.ge E
  have Oz_b := Nz.lt hB
  replace hB := Nz.keep hB
  replace E := E.ext Nz.ext
  have Bz := Nz.blk
  refine WpL_val rfl rfl (by decide) (r_assign (v := (.slice (some ⟨bz, 0, none⟩) n n)) rfl) ?_
  refine WpL_nil ?_
  refine Wp_seq_region ?_
  refine WpL_val rfl rfl (by decide) (r_move (v := (.slice (some ⟨bz, 0, none⟩) n n)) rfl) ?_
  refine WpL_val rfl rfl (by decide) (r_move (v := (.slice (some ⟨b, 0, none⟩) 1 sc)) rfl) ?_
  rw [show List.replicate n (Value.int .i64 0) = repV y 0 n by simp [repV]] at Bz
  refine s_copy (g := bz) (o := 0) (cs := [Value.int .i64 y]) (c' := (repV y 1 n).toArray) (by decide) Try.underlying22 siz3 rfl rfl Bz (hB.cells rfl) (by show 1 = Nat.min 1 n; simp only [Nat.min_def]; split <;> omega) (by simp [repV]; omega) (by simp [Value.oneCell']) (repV_copy y (m := 0) (k := 1) (by omega)) ?_
  intro w4 S4
  replace hB := S4.keep (by omega) hB
  replace E := S4.step E (by first | exact Or.inl (by omega) | exact Or.inr rfl | exact Or.inr (by assumption) | exact Or.inr (by simp) | exact Or.inr (by omega) | exact Or.inr (by dsimp only; omega))
  replace Bz := S4.blk
  refine WpL_val rfl rfl (by decide) (r_assign (v := (.int .i64 1)) rfl) ?_
  refine WpL_nil ?_
  refine Wp_seq ?_
  refine Wp_block ?_
  refine Wp_loop (fun nn_ σ W5 => ∃ (m : Nat), (∃ jj_, σ = upds jj_ [(7, (.slice (some ⟨bz, 0, none⟩) n n)), (8, (.int .i64 ((m : Nat) : Int)))]) ∧ Chg none1 w0 W5 ∧ Blk W5 b #[(.int .i64 y)] T ∧ Blk W5 bz ((repV y m n).toArray) 3 ∧ (1 ≤ m ∧ m ≤ n) ∧ nn_ = n - m) (n := n - 1) ?_ ?_
  · exact ⟨1, Fits.out ⟨rfl, rfl, trivial⟩, E, hB, Bz, ⟨Nat.le_refl _, h1⟩, rfl⟩
  · clear E hB Bz
    rintro _ _ W5 ⟨m, ⟨j5, rfl⟩, E, hB, Bz, hm, rfl⟩
    refine Wp_seq ?_
    refine Wp_seq_region ?_
    refine WpL_val rfl rfl (by decide) (r_move (v := (.int .i64 ((m : Nat) : Int))) rfl) ?_
    refine WpL_val rfl rfl (by decide) (r_move (v := (.slice (some ⟨bz, 0, none⟩) n n)) rfl) ?_
    refine WpL_val rfl rfl (by decide) (r_lenSlice (ad := some ⟨bz, 0, none⟩) (n := n) (cap := n) Try.underlying22 rfl) ?_
    refine WpL_val rfl rfl (by decide) (r_lss (k := .i64) (a := ((m : Nat) : Int)) (b := ((n : Nat) : Int)) rfl rfl) ?_
    refine WpL_nil ?_
    refine Wp_cond (b := decide ((((m : Nat) : Int) : Int) < ((n : Nat) : Int))) rfl (fun hlt => ?_) (fun hlt => ?_)
    · have khlt := hlt
      replace hlt := of_decide_eq_true hlt
      obtain ⟨k, hk⟩ : ∃ k, k = Nat.min m (n - m) := ⟨_, rfl⟩
      have hk1 : 1 ≤ k ∧ k ≤ m ∧ m + k ≤ n := by rw [hk]; simp only [Nat.min_def]; split <;> omega
      refine Wp_skip ?_
      refine thn_normal ?_
      refine Wp_block ?_
      obtain ⟨Fs7, hFs7⟩ : ∃ Fs : List (FactT ((fun q => q = bz))), Fs = [.eq (.int .i64 ((m : Nat) : Int)), .eq (.slice (some ⟨bz, 0, none⟩) n n), .eq (.int .i64 ((m : Nat) : Int)), .eq (.slice (some ⟨bz, m, none⟩) (n - m) (n - m)), .eq (.slice (some ⟨bz, 0, none⟩) n n), .eq (.int .i64 ((m : Nat) : Int)), .eq (.slice (some ⟨bz, 0, none⟩) m n), .own (fun v w => v = .int .i64 ((k : Nat) : Int) ∧ Blk w bz (repV y (m + k) n).toArray 3) (fun _ _ _ e h => ⟨h.1, Ext.keep e h.2⟩), .eq (.int .i64 (((m : Nat) : Int) + ((k : Nat) : Int)))] := ⟨_, rfl⟩
      refine Wp_dagT ((fun q => q = bz)) 9 7 [38, 39, 40, 41, 42, 43, 44, 45, 46] [[], [], [], [1, 2], [], [], [4, 5], [3, 6], [0, 7]] Fs7 hFs7 rfl mixed (by kernel_rfl) (by kernel_rfl) (by kernel_rfl) ?_ ?_
      · intro wd X0
        refine DagStepsT.cons (fun s' w' X U H => ?_) ?_
        · exact DoesT_val (r_move (v := (.int .i64 ((m : Nat) : Int))) (U 8 rfl)) (Chg.refl _ _) rfl
        refine DagStepsT.cons (fun s' w' X U H => ?_) ?_
        · exact DoesT_val (r_move (v := (.slice (some ⟨bz, 0, none⟩) n n)) (U 7 rfl)) (Chg.refl _ _) rfl
        refine DagStepsT.cons (fun s' w' X U H => ?_) ?_
        · exact DoesT_val (r_move (v := (.int .i64 ((m : Nat) : Int))) (U 8 rfl)) (Chg.refl _ _) rfl
        refine DagStepsT.cons (fun s' w' X U H => ?_) ?_
        · have e39 : s' 39 = (.slice (some ⟨bz, 0, none⟩) n n) := H 1 rfl 39 (.eq (.slice (some ⟨bz, 0, none⟩) n n)) rfl (by rw [hFs7]; rfl)
          have e40 : s' 40 = (.int .i64 ((m : Nat) : Int)) := H 2 rfl 40 (.eq (.int .i64 ((m : Nat) : Int))) rfl (by rw [hFs7]; rfl)
          exact DoesT_val (r_sliceLo (a := some ⟨bz, 0, none⟩) (len := n) (cap := n) (lo := m) (l := ((m : Nat) : Int)) (n' := n - m) (c' := n - m) Try.underlying22 siz3 e39 e40 rfl (by omega) (by rw [if_neg (by omega)]; simp only [Option.map_some, Addr.add_lit, Nat.mul_one, Nat.zero_add]) rfl rfl) (Chg.refl _ _) rfl
        refine DagStepsT.cons (fun s' w' X U H => ?_) ?_
        · exact DoesT_val (r_move (v := (.slice (some ⟨bz, 0, none⟩) n n)) (U 7 rfl)) (Chg.refl _ _) rfl
        refine DagStepsT.cons (fun s' w' X U H => ?_) ?_
        · exact DoesT_val (r_move (v := (.int .i64 ((m : Nat) : Int))) (U 8 rfl)) (Chg.refl _ _) rfl
        refine DagStepsT.cons (fun s' w' X U H => ?_) ?_
        · have e42 : s' 42 = (.slice (some ⟨bz, 0, none⟩) n n) := H 4 rfl 42 (.eq (.slice (some ⟨bz, 0, none⟩) n n)) rfl (by rw [hFs7]; rfl)
          have e43 : s' 43 = (.int .i64 ((m : Nat) : Int)) := H 5 rfl 43 (.eq (.int .i64 ((m : Nat) : Int))) rfl (by rw [hFs7]; rfl)
          exact DoesT_val (r_sliceHi (a := some ⟨bz, 0, none⟩) (len := n) (cap := n) (hi := m) (l := ((m : Nat) : Int)) Try.underlying22 siz3 e42 e43 rfl (by omega) (by rw [if_neg (by omega)]; simp only [Option.map_some, Addr.add_lit, Nat.zero_mul, Nat.add_zero])) (Chg.refl _ _) rfl
        refine DagStepsT.cons (fun s' w' X U H => ?_) ?_
        · have e41 : s' 41 = (.slice (some ⟨bz, m, none⟩) (n - m) (n - m)) := H 3 rfl 41 (.eq (.slice (some ⟨bz, m, none⟩) (n - m) (n - m))) rfl (by rw [hFs7]; rfl)
          have e44 : s' 44 = (.slice (some ⟨bz, 0, none⟩) m n) := H 6 rfl 44 (.eq (.slice (some ⟨bz, 0, none⟩) m n)) rfl (by rw [hFs7]; rfl)
          exact DoesT_copy (cs := List.replicate k (Value.int .i64 y)) (c' := (repV y (m + k) n).toArray) Try.underlying22 siz3 e41 e44 (Ext.keep X (X0.keep Bz)) (Blk.cells (Ext.keep X (X0.keep Bz)) (by show ((repV y m n).drop 0).take _ = _; rw [List.drop_zero, List.length_replicate, repV_take y hk1.2.1])) (by rw [List.length_replicate]; exact hk) (by rw [List.length_replicate]; simp [repV]; omega) (by intro v hv; rw [(List.mem_replicate.1 hv).2]; rfl) (by rw [List.length_replicate]; exact repV_copy y hk1.2.2) rfl (fun w9 hb9 => ⟨by show Value.int .i64 (((List.replicate k (Value.int .i64 y)).length : Nat) : Int) = _; rw [List.length_replicate], hb9⟩)
        refine DagStepsT.cons (fun s' w' X U H => ?_) ?_
        · have e38 : s' 38 = (.int .i64 ((m : Nat) : Int)) := H 0 rfl 38 (.eq (.int .i64 ((m : Nat) : Int))) rfl (by rw [hFs7]; rfl)
          obtain ⟨e45, B45⟩ := (show (.own (fun v w => v = .int .i64 ((k : Nat) : Int) ∧ Blk w bz (repV y (m + k) n).toArray 3) (fun _ _ _ e h => ⟨h.1, Ext.keep e h.2⟩) : FactT ((fun q => q = bz))).In (s' 45) w' from H 7 rfl 45 (.own (fun v w => v = .int .i64 ((k : Nat) : Int) ∧ Blk w bz (repV y (m + k) n).toArray 3) (fun _ _ _ e h => ⟨h.1, Ext.keep e h.2⟩)) rfl (by rw [hFs7]; rfl))
          exact DoesT_val (r_add (k := .i64) (a := ((m : Nat) : Int)) (b := ((k : Nat) : Int)) (c := ((m : Nat) : Int) + ((k : Nat) : Int)) e38 e45 (wI64 (by omega))) (Chg.refl _ _) rfl
        exact DagStepsT.nil
      · intro s' wd7 w7 X0 X7 U H
        obtain ⟨e45, B45⟩ := (show (.own (fun v w => v = .int .i64 ((k : Nat) : Int) ∧ Blk w bz (repV y (m + k) n).toArray 3) (fun _ _ _ e h => ⟨h.1, Ext.keep e h.2⟩) : FactT ((fun q => q = bz))).In (s' 45) w7 from H 7 45 (.own (fun v w => v = .int .i64 ((k : Nat) : Int) ∧ Blk w bz (repV y (m + k) n).toArray 3) (fun _ _ _ e h => ⟨h.1, Ext.keep e h.2⟩)) rfl (by rw [hFs7]; rfl))
        have e46 : s' 46 = (.int .i64 (((m : Nat) : Int) + ((k : Nat) : Int))) := H 8 46 (.eq (.int .i64 (((m : Nat) : Int) + ((k : Nat) : Int)))) rfl (by rw [hFs7]; rfl)
        obtain ⟨j7, rfl⟩ := Fits.out (σ := s') (l := [(7, (.slice (some ⟨bz, 0, none⟩) n n)), (46, (.int .i64 (((m : Nat) : Int) + ((k : Nat) : Int))))]) ⟨U 7 rfl, e46, trivial⟩
        clear U H
        replace hB := Chg.keep X7 (fun h => by have h' : b = bz := h; omega) (X0.keep hB)
        replace E := (E.ext X0).step X7 (fun q hq h => by have h' : q = bz := h; omega)
        refine WpL_val rfl rfl (by decide) (r_assign (v := (.int .i64 (((m : Nat) : Int) + ((k : Nat) : Int)))) rfl) ?_
        refine WpL_nil ?_
        refine inB_normal ?_
        refine thn_normal ?_
        exact ⟨n - (m + k), by omega, m + k, Fits.out ⟨rfl, rfl, trivial⟩, E, hB, B45, (by omega), rfl⟩
    · have khlt := hlt
      replace hlt := of_decide_eq_false hlt
      have hmn : m = n := by omega
      refine Wp_exit ?_
      refine thn_exit ?_
      refine thn_exit ?_
      refine inB_here ?_
      refine thn_normal ?_
      refine Wp_seq_region ?_
      refine WpL_val rfl rfl (by decide) (r_move (v := (.slice (some ⟨bz, 0, none⟩) n n)) rfl) ?_
      refine WpL_val rfl rfl (by decide) (r_assign (v := (.slice (some ⟨bz, 0, none⟩) n n)) rfl) ?_
      refine WpL_nil ?_
      refine Wp_ret ?_
      refine fin_tmp Try.results55 (v := (.slice (some ⟨bz, 0, none⟩) n n)) rfl ?_
      rw [hmn, show repV y n n = (List.replicate n y).map (Value.int .i64) by simp [repV]] at Bz
      exact ⟨⟨bz, rfl, by omega, Bz⟩, E⟩
end Go.Proofs
