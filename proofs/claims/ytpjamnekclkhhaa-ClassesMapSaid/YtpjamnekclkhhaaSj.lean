/- Contracts: package fold; the law FoldCloses, walked. -/
import Derived.Test.YtpjamnekclkhhaaSi
import Derived.Test.YtpjamnekclkhhaaOwn
namespace Go.Proofs
open Go Go.Eng Go.Sort
set_option maxRecDepth 100000

section
variable {P : Program} {σ : Env} {w : World} {dst : Option Tmp} {ty : TypeId} {pos : String} {af : Array Edge} {g : Option (Nat × Bool)} {x y : Operand}
theorem r_indexV {t e len n i : Nat} {cs c' : Array Value} {k : IntKind} {a : Int} (hu : P.underlying t = some (.array len e)) (hs : Siz P e n) (hg : aggB P e = true) (hx : ev σ x = .agg cs) (hy : ev σ y = .int k a) (ha : a = ((i : Nat) : Int)) (hi : i < len) (hv : cs.extract (i * n) (i * n + n) = c') :
    (execOp (ev σ) ⟨dst, .index t x y, ty, pos, af, g⟩).run P w = .ok (.value (.agg c')) w := by
  subst ha; subst hv
  simp [execOp, hx, hy, Instr.index, asIntOf, run_underlying hu, hs.run, hi, part, aggB.run hg]
theorem r_sliceArr {t e len n b : Nat} (hu : P.underlying t = some (.array len e)) (hs : Siz P e n) (hx : ev σ x = .pointer (some ⟨b, 0, none⟩)) :
    (execOp (ev σ) ⟨dst, .slice t x none none none, ty, pos, af, g⟩).run P w = .ok (.value (.slice (some ⟨b, 0, none⟩) len len)) w := by
  have h0 : (if len = 0 then (⟨b, 0, none⟩ : Addr) else Addr.add ⟨b, 0, none⟩ (0 * n)) = ⟨b, 0, none⟩ := by split <;> simp [Addr.add_lit]
  simp only [execOp, hx, Option.map_none, Instr.sliceAt, Sem.run_bind, run_underlying hu, Result.andThen_ok, Instr.sureAddr, Instr.sliceBounds, Sem.run_pure, hs.run, Nat.sub_zero]
  rw [h0]
end
def upperB (r : Int) : Bool := decide ((65 ≤ r ∧ r ≤ 90) ∨ (192 ≤ r ∧ r ≤ 222 ∧ r ≠ 215) ∨ (913 ≤ r ∧ r ≤ 939 ∧ r ≠ 930))
theorem upper_c (w0 : World) (r : Int) : Ret Try.prog 93 #[.int .i64 r] w0 fun v w => v = .bool (upperB r) ∧ Ext w0 w := by
  refine Ret_of Try.func93 rfl Try.ntmps93 (Nat.le_of_ble_eq_true rfl) ?_
  have E : Chg none1 w0 w0 := Chg.refl _ _
  refine Wp_seq_region ?_
  refine WpL_val rfl rfl (by decide) (r_assign (v := (.bool false)) rfl) ?_
  refine WpL_nil ?_
  refine Wp_seq_region ?_
  refine WpL_val rfl rfl (by decide) (r_move (v := (.int .i64 r)) rfl) ?_
  obtain ⟨e1, he1⟩ : ∃ e, (decide ((65 : Int) ≤ r)) = e := ⟨_, rfl⟩
  refine WpL_val rfl rfl (by decide) ((r_geq (k := .i64) (a := r) (b := 65) rfl rfl).trans (by rw [he1]; try rfl)) ?_
  refine WpL_val rfl rfl (by decide) (r_move (v := (.bool e1)) rfl) ?_
  refine WpL_guard_any (oj := _) (gv := (.bool e1)) (u := (bif e1 then (.int .i64 r) else undef)) rfl rfl (by decide) (by decide) rfl (by cases e1 <;> first | exact Or.inr ⟨Or.inl rfl, rfl⟩ | exact Or.inr ⟨Or.inr rfl, rfl⟩ | exact Or.inl ⟨rfl, r_move (v := (.int .i64 r)) rfl⟩) ?_
  obtain ⟨e2, he2⟩ : ∃ e, (decide ((r : Int) ≤ 90)) = e := ⟨_, rfl⟩
  refine WpL_guard_any (oj := _) (gv := (.bool e1)) (u := (bif e1 then (.bool e2) else undef)) rfl rfl (by decide) (by decide) rfl (by cases e1 <;> first | exact Or.inr ⟨Or.inl rfl, rfl⟩ | exact Or.inr ⟨Or.inr rfl, rfl⟩ | exact Or.inl ⟨rfl, (r_leq (k := .i64) (a := r) (b := 90) rfl rfl).trans (by rw [he2]; try rfl)⟩) ?_
  obtain ⟨e3, he3⟩ : ∃ e, (e1 && e2) = e := ⟨_, rfl⟩
  refine WpL_val rfl rfl (by decide) (r_pick (b := e1) (v := .bool e3) rfl (by rw [← he3]; cases e1 <;> rfl)) ?_
  refine WpL_val rfl rfl (by decide) (r_move (v := (.bool e3)) rfl) ?_
  refine WpL_guard_any (oj := _) (gv := (.bool e3)) (u := (bif e3 then undef else (.int .i64 r))) rfl rfl (by decide) (by decide) rfl (by cases e3 <;> first | exact Or.inr ⟨Or.inl rfl, rfl⟩ | exact Or.inr ⟨Or.inr rfl, rfl⟩ | exact Or.inl ⟨rfl, r_move (v := (.int .i64 r)) rfl⟩) ?_
  obtain ⟨e4, he4⟩ : ∃ e, (decide ((192 : Int) ≤ r)) = e := ⟨_, rfl⟩
  refine WpL_guard_any (oj := _) (gv := (.bool e3)) (u := (bif e3 then undef else (.bool e4))) rfl rfl (by decide) (by decide) rfl (by cases e3 <;> first | exact Or.inr ⟨Or.inl rfl, rfl⟩ | exact Or.inr ⟨Or.inr rfl, rfl⟩ | exact Or.inl ⟨rfl, (r_geq (k := .i64) (a := r) (b := 192) rfl rfl).trans (by rw [he4]; try rfl)⟩) ?_
  refine WpL_guard_any (oj := _) (gv := (.bool e3)) (u := (bif e3 then undef else (.bool e4))) rfl rfl (by decide) (by decide) rfl (by cases e3 <;> first | exact Or.inr ⟨Or.inl rfl, rfl⟩ | exact Or.inr ⟨Or.inr rfl, rfl⟩ | exact Or.inl ⟨rfl, r_move (v := (.bool e4)) rfl⟩) ?_
  refine WpL_guard_any (oj := _) (gv := (bif e3 then undef else (.bool e4))) (u := (bif e3 then undef else (bif e4 then (.int .i64 r) else undef))) rfl rfl (by decide) (by decide) rfl (by cases e3 <;> cases e4 <;> first | exact Or.inr ⟨Or.inl rfl, rfl⟩ | exact Or.inr ⟨Or.inr rfl, rfl⟩ | exact Or.inl ⟨rfl, r_move (v := (.int .i64 r)) rfl⟩) ?_
  obtain ⟨e5, he5⟩ : ∃ e, (decide ((r : Int) ≤ 222)) = e := ⟨_, rfl⟩
  refine WpL_guard_any (oj := _) (gv := (bif e3 then undef else (.bool e4))) (u := (bif e3 then undef else (bif e4 then (.bool e5) else undef))) rfl rfl (by decide) (by decide) rfl (by cases e3 <;> cases e4 <;> first | exact Or.inr ⟨Or.inl rfl, rfl⟩ | exact Or.inr ⟨Or.inr rfl, rfl⟩ | exact Or.inl ⟨rfl, (r_leq (k := .i64) (a := r) (b := 222) rfl rfl).trans (by rw [he5]; try rfl)⟩) ?_
  obtain ⟨e6, he6⟩ : ∃ e, (e4 && e5) = e := ⟨_, rfl⟩
  refine WpL_guard_any (oj := _) (gv := (.bool e3)) (u := (bif e3 then undef else (.bool e6))) rfl rfl (by decide) (by decide) rfl (by cases e3 <;> first | exact Or.inr ⟨Or.inl rfl, rfl⟩ | exact Or.inr ⟨Or.inr rfl, rfl⟩ | exact Or.inl ⟨rfl, r_pick (b := e4) (v := .bool e6) rfl (by rw [← he6]; cases e4 <;> rfl)⟩) ?_
  refine WpL_guard_any (oj := _) (gv := (.bool e3)) (u := (bif e3 then undef else (.bool e6))) rfl rfl (by decide) (by decide) rfl (by cases e3 <;> first | exact Or.inr ⟨Or.inl rfl, rfl⟩ | exact Or.inr ⟨Or.inr rfl, rfl⟩ | exact Or.inl ⟨rfl, r_move (v := (.bool e6)) rfl⟩) ?_
  refine WpL_guard_any (oj := _) (gv := (bif e3 then undef else (.bool e6))) (u := (bif e3 then undef else (bif e6 then (.int .i64 r) else undef))) rfl rfl (by decide) (by decide) rfl (by cases e3 <;> cases e6 <;> first | exact Or.inr ⟨Or.inl rfl, rfl⟩ | exact Or.inr ⟨Or.inr rfl, rfl⟩ | exact Or.inl ⟨rfl, r_move (v := (.int .i64 r)) rfl⟩) ?_
  obtain ⟨e7, he7⟩ : ∃ e, (decide ((r : Int) ≠ 215)) = e := ⟨_, rfl⟩
  refine WpL_guard_any (oj := _) (gv := (bif e3 then undef else (.bool e6))) (u := (bif e3 then undef else (bif e6 then (.bool e7) else undef))) rfl rfl (by decide) (by decide) rfl (by cases e3 <;> cases e6 <;> first | exact Or.inr ⟨Or.inl rfl, rfl⟩ | exact Or.inr ⟨Or.inr rfl, rfl⟩ | exact Or.inl ⟨rfl, (r_neq (k := .i64) (a := r) (b := 215) rfl rfl).trans (by rw [he7]; try rfl)⟩) ?_
  obtain ⟨e8, he8⟩ : ∃ e, (e6 && e7) = e := ⟨_, rfl⟩
  refine WpL_guard_any (oj := _) (gv := (.bool e3)) (u := (bif e3 then undef else (.bool e8))) rfl rfl (by decide) (by decide) rfl (by cases e3 <;> first | exact Or.inr ⟨Or.inl rfl, rfl⟩ | exact Or.inr ⟨Or.inr rfl, rfl⟩ | exact Or.inl ⟨rfl, r_pick (b := e6) (v := .bool e8) rfl (by rw [← he8]; cases e6 <;> rfl)⟩) ?_
  obtain ⟨e9, he9⟩ : ∃ e, (e3 || e8) = e := ⟨_, rfl⟩
  refine WpL_val rfl rfl (by decide) (r_pick (b := e3) (v := .bool e9) rfl (by rw [← he9]; cases e3 <;> rfl)) ?_
  refine WpL_val rfl rfl (by decide) (r_move (v := (.bool e9)) rfl) ?_
  refine WpL_guard_any (oj := _) (gv := (.bool e9)) (u := (bif e9 then undef else (.int .i64 r))) rfl rfl (by decide) (by decide) rfl (by cases e9 <;> first | exact Or.inr ⟨Or.inl rfl, rfl⟩ | exact Or.inr ⟨Or.inr rfl, rfl⟩ | exact Or.inl ⟨rfl, r_move (v := (.int .i64 r)) rfl⟩) ?_
  obtain ⟨e10, he10⟩ : ∃ e, (decide ((913 : Int) ≤ r)) = e := ⟨_, rfl⟩
  refine WpL_guard_any (oj := _) (gv := (.bool e9)) (u := (bif e9 then undef else (.bool e10))) rfl rfl (by decide) (by decide) rfl (by cases e9 <;> first | exact Or.inr ⟨Or.inl rfl, rfl⟩ | exact Or.inr ⟨Or.inr rfl, rfl⟩ | exact Or.inl ⟨rfl, (r_geq (k := .i64) (a := r) (b := 913) rfl rfl).trans (by rw [he10]; try rfl)⟩) ?_
  refine WpL_guard_any (oj := _) (gv := (.bool e9)) (u := (bif e9 then undef else (.bool e10))) rfl rfl (by decide) (by decide) rfl (by cases e9 <;> first | exact Or.inr ⟨Or.inl rfl, rfl⟩ | exact Or.inr ⟨Or.inr rfl, rfl⟩ | exact Or.inl ⟨rfl, r_move (v := (.bool e10)) rfl⟩) ?_
  refine WpL_guard_any (oj := _) (gv := (bif e9 then undef else (.bool e10))) (u := (bif e9 then undef else (bif e10 then (.int .i64 r) else undef))) rfl rfl (by decide) (by decide) rfl (by cases e9 <;> cases e10 <;> first | exact Or.inr ⟨Or.inl rfl, rfl⟩ | exact Or.inr ⟨Or.inr rfl, rfl⟩ | exact Or.inl ⟨rfl, r_move (v := (.int .i64 r)) rfl⟩) ?_
  obtain ⟨e11, he11⟩ : ∃ e, (decide ((r : Int) ≤ 939)) = e := ⟨_, rfl⟩
  refine WpL_guard_any (oj := _) (gv := (bif e9 then undef else (.bool e10))) (u := (bif e9 then undef else (bif e10 then (.bool e11) else undef))) rfl rfl (by decide) (by decide) rfl (by cases e9 <;> cases e10 <;> first | exact Or.inr ⟨Or.inl rfl, rfl⟩ | exact Or.inr ⟨Or.inr rfl, rfl⟩ | exact Or.inl ⟨rfl, (r_leq (k := .i64) (a := r) (b := 939) rfl rfl).trans (by rw [he11]; try rfl)⟩) ?_
  obtain ⟨e12, he12⟩ : ∃ e, (e10 && e11) = e := ⟨_, rfl⟩
  refine WpL_guard_any (oj := _) (gv := (.bool e9)) (u := (bif e9 then undef else (.bool e12))) rfl rfl (by decide) (by decide) rfl (by cases e9 <;> first | exact Or.inr ⟨Or.inl rfl, rfl⟩ | exact Or.inr ⟨Or.inr rfl, rfl⟩ | exact Or.inl ⟨rfl, r_pick (b := e10) (v := .bool e12) rfl (by rw [← he12]; cases e10 <;> rfl)⟩) ?_
  refine WpL_guard_any (oj := _) (gv := (.bool e9)) (u := (bif e9 then undef else (.bool e12))) rfl rfl (by decide) (by decide) rfl (by cases e9 <;> first | exact Or.inr ⟨Or.inl rfl, rfl⟩ | exact Or.inr ⟨Or.inr rfl, rfl⟩ | exact Or.inl ⟨rfl, r_move (v := (.bool e12)) rfl⟩) ?_
  refine WpL_guard_any (oj := _) (gv := (bif e9 then undef else (.bool e12))) (u := (bif e9 then undef else (bif e12 then (.int .i64 r) else undef))) rfl rfl (by decide) (by decide) rfl (by cases e9 <;> cases e12 <;> first | exact Or.inr ⟨Or.inl rfl, rfl⟩ | exact Or.inr ⟨Or.inr rfl, rfl⟩ | exact Or.inl ⟨rfl, r_move (v := (.int .i64 r)) rfl⟩) ?_
  obtain ⟨e13, he13⟩ : ∃ e, (decide ((r : Int) ≠ 930)) = e := ⟨_, rfl⟩
  refine WpL_guard_any (oj := _) (gv := (bif e9 then undef else (.bool e12))) (u := (bif e9 then undef else (bif e12 then (.bool e13) else undef))) rfl rfl (by decide) (by decide) rfl (by cases e9 <;> cases e12 <;> first | exact Or.inr ⟨Or.inl rfl, rfl⟩ | exact Or.inr ⟨Or.inr rfl, rfl⟩ | exact Or.inl ⟨rfl, (r_neq (k := .i64) (a := r) (b := 930) rfl rfl).trans (by rw [he13]; try rfl)⟩) ?_
  obtain ⟨e14, he14⟩ : ∃ e, (e12 && e13) = e := ⟨_, rfl⟩
  refine WpL_guard_any (oj := _) (gv := (.bool e9)) (u := (bif e9 then undef else (.bool e14))) rfl rfl (by decide) (by decide) rfl (by cases e9 <;> first | exact Or.inr ⟨Or.inl rfl, rfl⟩ | exact Or.inr ⟨Or.inr rfl, rfl⟩ | exact Or.inl ⟨rfl, r_pick (b := e12) (v := .bool e14) rfl (by rw [← he14]; cases e12 <;> rfl)⟩) ?_
  obtain ⟨e15, he15⟩ : ∃ e, (e9 || e14) = e := ⟨_, rfl⟩
  refine WpL_val rfl rfl (by decide) (r_pick (b := e9) (v := .bool e15) rfl (by rw [← he15]; cases e9 <;> rfl)) ?_
  refine WpL_val rfl rfl (by decide) (r_assign (v := (.bool e15)) rfl) ?_
  refine WpL_nil ?_
  subst he15
  subst he14
  subst he13
  subst he12
  subst he11
  subst he10
  subst he9
  subst he8
  subst he7
  subst he6
  subst he5
  subst he4
  subst he3
  subst he2
  subst he1
  refine Wp_ret ?_
  refine fin_tmp Try.results93 (v := (.bool ((((decide ((65 : Int) ≤ r)) && (decide ((r : Int) ≤ 90))) || (((decide ((192 : Int) ≤ r)) && (decide ((r : Int) ≤ 222))) && (decide ((r : Int) ≠ 215)))) || (((decide ((913 : Int) ≤ r)) && (decide ((r : Int) ≤ 939))) && (decide ((r : Int) ≠ 930)))))) rfl ?_
  exact ⟨bool_eq (by unfold upperB; rw [Bool.eq_iff_iff]; simp only [Bool.or_eq_true, Bool.and_eq_true, decide_eq_true_eq]; omega), E⟩
def orbitL (r : Int) : List Int :=
  if r = 181 ∨ r = 924 ∨ r = 956 then [181, 924, 956] else if r = 931 ∨ r = 962 ∨ r = 963 then [931, 962, 963] else if upperB r = true then [r, r + 32] else if upperB (r - 32) = true then [r - 32, r] else [r]
def triL (k : Nat) : List Int := if k = 0 then [181, 924, 956] else [931, 962, 963]
def IntsN (n0 : Nat) (w : World) (v : Value) (l : List Int) : Prop := (∃ a c, v = .slice a l.length c) ∧ SlIn (fun b => n0 ≤ b ∧ b < w.heap.size) w 1 v (l.map intV)
theorem IntsN.at {n0 : Nat} {w : World} {v : Value} {l : List Int} (h : IntsN n0 w v l) : IntsAt w v l := SlIn.at h.2
theorem ints_new {w : World} {b T n0 : Nat} (l : List Int) (h : Blk w b (l.map intV).flatten.toArray T) (hl : l.length ≤ 1000) (h0 : n0 ≤ b) : IntsN n0 w (.slice (some ⟨b, 0, none⟩) l.length l.length) l :=
  ⟨⟨_, _, rfl⟩, SlIn.mk (ints_of_blk l h (by omega) (Nat.le_refl _)) ⟨h0, h.lt⟩⟩
theorem tri_has (k : Nat) (r : Int) : (triL k).contains r = true ↔ (k = 0 ∧ (r = 181 ∨ r = 924 ∨ r = 956)) ∨ (k ≠ 0 ∧ (r = 931 ∨ r = 962 ∨ r = 963)) := by
  unfold triL
  split <;> rename_i h <;> simp [h]
set_option maxHeartbeats 1000000 in
theorem orbit_c (w0 : World) (r : Int) (hr : 0 ≤ r ∧ r ≤ 1114111) : Ret Try.prog 54 #[.int .i64 r] w0 fun v w => IntsN w0.heap.size w v (orbitL r) ∧ Ext w0 w := by
  refine Ret_of Try.func54 rfl Try.ntmps54 (Nat.le_of_ble_eq_true rfl) ?_
  have E : Chg none1 w0 w0 := Chg.refl _ _
  refine Wp_seq_region ?_
  refine WpL_val rfl rfl (by decide) (r_assign (v := (.slice none 0 0)) rfl) ?_
  refine WpL_nil ?_
  refine Wp_seq ?_
  refine Wp_seq_region ?_
  refine WpL_val rfl rfl (by decide) (r_build (ps := [(0, (.int .i64 181)), (1, (.int .i64 924)), (2, (.int .i64 956))]) (v := (.agg #[(.int .i64 181), (.int .i64 924), (.int .i64 956)])) rfl (by kernel_rfl)) ?_
  refine WpL_val rfl rfl (by decide) (r_build (ps := [(0, (.int .i64 931)), (1, (.int .i64 962)), (2, (.int .i64 963))]) (v := (.agg #[(.int .i64 931), (.int .i64 962), (.int .i64 963)])) rfl (by kernel_rfl)) ?_
  refine WpL_val rfl rfl (by decide) (r_build (ps := [(0, (.agg #[(.int .i64 181), (.int .i64 924), (.int .i64 956)])), (1, (.agg #[(.int .i64 931), (.int .i64 962), (.int .i64 963)]))]) (v := (.agg #[(.int .i64 181), (.int .i64 924), (.int .i64 956), (.int .i64 931), (.int .i64 962), (.int .i64 963)])) rfl (by kernel_rfl)) ?_
  refine WpL_val rfl rfl (by decide) (r_move (v := (.int .i64 0)) rfl) ?_
  refine WpL_nil ?_
  refine Wp_block ?_
  refine Wp_loop (fun nn_ σ W1 => ∃ (k : Nat), (∃ jj_, σ = upds jj_ [(0, (.int .i64 r)), (7, (.agg #[(.int .i64 181), (.int .i64 924), (.int .i64 956), (.int .i64 931), (.int .i64 962), (.int .i64 963)])), (8, (.int .i64 ((k : Nat) : Int)))]) ∧ Chg none1 w0 W1 ∧ (k ≤ 2) ∧ (0 < k → ¬ (r = 181 ∨ r = 924 ∨ r = 956)) ∧ (1 < k → ¬ (r = 931 ∨ r = 962 ∨ r = 963)) ∧ nn_ = 2 - k) (n := 2 - 0) ?_ ?_
  · exact ⟨0, Fits.out ⟨rfl, rfl, rfl, trivial⟩, E, (by omega), (fun h => absurd h (by omega)), (fun h => absurd h (by omega)), rfl⟩
  · clear E
    rintro _ _ W1 ⟨k, ⟨j1, rfl⟩, E, hk, h0, h1, rfl⟩
    refine Wp_seq_region ?_
    refine WpL_val rfl rfl (by decide) (r_lss (k := .i64) (a := ((k : Nat) : Int)) (b := 2) rfl rfl) ?_
    refine WpL_nil ?_
    refine Wp_seq ?_
    refine Wp_cond (b := decide ((((k : Nat) : Int) : Int) < 2)) rfl (fun hlt => ?_) (fun hlt => ?_)
    · have khlt := hlt
      replace hlt := of_decide_eq_true hlt
      obtain ⟨t1, t2, t3, ht⟩ : ∃ t1 t2 t3 : Int, triL k = [t1, t2, t3] := by unfold triL; split <;> exact ⟨_, _, _, rfl⟩
      refine Wp_skip ?_
      refine thn_normal ?_
      refine Wp_seq ?_
      refine Wp_block ?_
      refine Wp_seq_region ?_
      refine WpL_val rfl rfl (by decide) (r_indexV (i := k) (n := 3) (c' := #[.int .i64 t1, .int .i64 t2, .int .i64 t3]) Try.underlying102 siz101 agg101 rfl rfl rfl (by omega) (by rcases (show k = 0 ∨ k = 1 by omega) with rfl | rfl <;> (simp [triL] at ht; obtain ⟨rfl, rfl, rfl⟩ := ht; rfl))) ?_
      refine s_allocStore (v := (.agg #[(.int .i64 t1), (.int .i64 t2), (.int .i64 t3)])) (c := #[(.int .i64 t1), (.int .i64 t2), (.int .i64 t3)]) (n := 3) (by decide) zer101 rfl siz101 rfl rfl rfl (by simp [Value.oneCell']) ?_
      intro bq wq Nq
      have Fq := Nq.ge E
      replace E := E.ext Nq.ext
      have Bq := Nq.blk
      refine WpL_nil ?_
      refine Wp_seq_region ?_
      refine WpL_val rfl rfl (by decide) (r_sliceArr (b := bq) Try.underlying101 siz3 rfl) ?_
      have hq : IntsAt wq (.slice (some ⟨bq, 0, none⟩) 3 3) (triL k) := by rw [ht]; exact ints_of_blk [t1, t2, t3] Bq (by simp) (by simp)
      refine WpL_val rfl rfl (by decide) (r_move (v := (.int .i64 r)) rfl) ?_
      refine WpL_enter rfl rfl (by decide) (r_callF (vs := [(.slice (some ⟨bq, 0, none⟩) 3 3), (.int .i64 r)]) Try.func18 nm18 bd18 rfl) (hasi_c _ _ r (triL k) hq) ?_
      rintro _ w9 ⟨rfl, X9⟩
      replace Bq := X9.keep Bq
      replace E := E.ext X9
      refine WpL_nil ?_
      refine Wp_cond (b := (triL k).contains r) rfl (fun hin => ?_) (fun hin => ?_)
      · have khin := hin
        refine Wp_seq_region ?_
        refine WpL_val rfl rfl (by decide) (r_sliceArr (b := bq) Try.underlying101 siz3 rfl) ?_
        refine WpL_enter rfl rfl (by decide) (r_callF (vs := [(.slice (some ⟨bq, 0, none⟩) 3 3)]) Try.func92 nm92 bd92 rfl) (clonei_c _ _ (triL k) (hq.ext X9) (by rw [ht]; simp)) ?_
        rintro _ w8 ⟨ca, cc, rfl, hlc, hcl, X8⟩
        replace Bq := X8.keep Bq
        replace E := E.ext X8
        refine WpL_val rfl rfl (by decide) (r_assign (v := (.slice ca ((triL k).length) cc)) rfl) ?_
        refine WpL_nil ?_
        refine Wp_ret ?_
        refine inB_ret ?_
        refine thn_ret ?_
        refine thn_ret ?_
        refine inB_ret ?_
        refine thn_ret ?_
        refine fin_tmp Try.results54 (v := (.slice ca ((triL k).length) cc)) rfl ?_
        have hin2 := (tri_has k r).1 hin
        have he : orbitL r = triL k := by
          unfold orbitL
          rcases hin2 with ⟨hk0, h2⟩ | ⟨hk0, h2⟩
          · rw [if_pos h2, hk0]; rfl
          · rw [if_neg (h0 (by omega)), if_pos h2]; unfold triL; rw [if_neg hk0]
        refine ⟨⟨⟨ca, cc, by rw [he]⟩, ?_⟩, E⟩
        rw [he]
        rcases hcl with hn | ⟨b, rest, rfl, hge, hB⟩
        · rw [ht] at hn; cases hn
        · exact SlIn.mk (ints_own hB hlc (by rw [ht]; simp)) ⟨by have := Fq; have := X9.size; have := Nq.eq; have := Nq.size; omega, hB.lt⟩
      · have khin := hin
        have hin2 : ¬ ((k = 0 ∧ (r = 181 ∨ r = 924 ∨ r = 956)) ∨ (k ≠ 0 ∧ (r = 931 ∨ r = 962 ∨ r = 963))) := fun hh => by have := (tri_has k r).2 hh; rw [hin] at this; cases this
        refine Wp_skip ?_
        refine inB_normal ?_
        refine thn_normal ?_
        refine Wp_region ?_
        refine WpL_val rfl rfl (by decide) (r_add (k := .i64) (a := ((k : Nat) : Int)) (b := 1) (c := ((k : Nat) : Int) + 1) rfl rfl (wI64 (by omega))) ?_
        refine WpL_val rfl rfl (by decide) (r_move (v := (.int .i64 (((k : Nat) : Int) + 1))) rfl) ?_
        refine WpL_nil ?_
        refine thn_normal ?_
        exact ⟨2 - (k + 1), by omega, k + 1, Fits.out ⟨rfl, rfl, rfl, trivial⟩, E, (by omega), (fun _ => by omega), (fun _ => by omega), rfl⟩
    · have khlt := hlt
      replace hlt := of_decide_eq_false hlt
      have hk2 : k = 2 := by omega
      have q0 := h0 (by omega)
      have q1 := h1 (by omega)
      refine Wp_exit ?_
      refine thn_exit ?_
      refine thn_exit ?_
      refine inB_here ?_
      refine thn_normal ?_
      refine Wp_seq ?_
      refine Wp_block ?_
      refine Wp_seq_region ?_
      refine WpL_val rfl rfl (by decide) (r_move (v := (.int .i64 r)) rfl) ?_
      refine WpL_enter rfl rfl (by decide) (r_callF (vs := [(.int .i64 r)]) Try.func93 nm93 bd93 rfl) (upper_c _ r) ?_
      rintro _ w9 ⟨rfl, X9⟩
      replace E := E.ext X9
      refine WpL_val rfl rfl (by decide) (r_assign (v := (.bool (upperB r))) rfl) ?_
      refine WpL_nil ?_
      refine Wp_cond (b := upperB r) rfl (fun hu => ?_) (fun hu => ?_)
      · have khu := hu
        refine Wp_seq_region ?_
        refine WpL_val rfl rfl (by decide) (r_move (v := (.int .i64 r)) rfl) ?_
        refine WpL_val rfl rfl (by decide) (r_move (v := (.int .i64 r)) rfl) ?_
        refine WpL_val rfl rfl (by decide) (r_add (k := .i64) (a := r) (b := 32) (c := r + 32) rfl rfl (wI64 (by omega))) ?_
        refine s_buildSlice (ps := [(0, (.int .i64 r)), (1, (.int .i64 (r + 32)))]) (c := #[(.int .i64 r), (.int .i64 (r + 32))]) (by decide) rfl Try.underlying22 siz3 zer3 (by decide) (by decide) (by kernel_rfl) ?_
        intro bq wq Nq
        have Fq := Nq.ge E
        replace E := E.ext Nq.ext
        have Bq := Nq.blk
        refine WpL_val rfl rfl (by decide) (r_assign (v := (.slice (some ⟨bq, 0, none⟩) 2 2)) rfl) ?_
        refine WpL_nil ?_
        refine Wp_ret ?_
        refine inB_ret ?_
        refine thn_ret ?_
        refine fin_tmp Try.results54 (v := (.slice (some ⟨bq, 0, none⟩) 2 2)) rfl ?_
        have he : orbitL r = [r, r + 32] := by unfold orbitL; rw [if_neg q0, if_neg q1, if_pos hu]
        rw [he]
        exact ⟨ints_new [r, r + 32] Bq (by simp) Fq, E⟩
      · have khu := hu
        refine Wp_seq_region ?_
        refine WpL_val rfl rfl (by decide) (r_move (v := (.int .i64 r)) rfl) ?_
        refine WpL_val rfl rfl (by decide) (r_sub (k := .i64) (a := r) (b := 32) (c := r - 32) rfl rfl (wI64 (by omega))) ?_
        refine WpL_enter rfl rfl (by decide) (r_callF (vs := [(.int .i64 (r - 32))]) Try.func93 nm93 bd93 rfl) (upper_c _ (r - 32)) ?_
        rintro _ w8 ⟨rfl, X8⟩
        replace E := E.ext X8
        refine WpL_val rfl rfl (by decide) (r_assign (v := (.bool (upperB (r - 32)))) rfl) ?_
        refine WpL_nil ?_
        refine Wp_cond (b := upperB (r - 32)) rfl (fun hv => ?_) (fun hv => ?_)
        · have khv := hv
          refine Wp_seq_region ?_
          refine WpL_val rfl rfl (by decide) (r_move (v := (.int .i64 r)) rfl) ?_
          refine WpL_val rfl rfl (by decide) (r_sub (k := .i64) (a := r) (b := 32) (c := r - 32) rfl rfl (wI64 (by omega))) ?_
          refine WpL_val rfl rfl (by decide) (r_move (v := (.int .i64 r)) rfl) ?_
          refine s_buildSlice (ps := [(0, (.int .i64 (r - 32))), (1, (.int .i64 r))]) (c := #[(.int .i64 (r - 32)), (.int .i64 r)]) (by decide) rfl Try.underlying22 siz3 zer3 (by decide) (by decide) (by kernel_rfl) ?_
          intro bq wq Nq
          have Fq := Nq.ge E
          replace E := E.ext Nq.ext
          have Bq := Nq.blk
          refine WpL_val rfl rfl (by decide) (r_assign (v := (.slice (some ⟨bq, 0, none⟩) 2 2)) rfl) ?_
          refine WpL_nil ?_
          refine Wp_ret ?_
          refine inB_ret ?_
          refine thn_ret ?_
          refine fin_tmp Try.results54 (v := (.slice (some ⟨bq, 0, none⟩) 2 2)) rfl ?_
          have he : orbitL r = [r - 32, r] := by unfold orbitL; rw [if_neg q0, if_neg q1, if_neg (by simp [hu]), if_pos hv]
          rw [he]
          exact ⟨ints_new [r - 32, r] Bq (by simp) Fq, E⟩
        · have khv := hv
          refine Wp_skip ?_
          refine inB_normal ?_
          refine thn_normal ?_
          refine Wp_seq_region ?_
          refine WpL_val rfl rfl (by decide) (r_move (v := (.int .i64 r)) rfl) ?_
          refine s_buildSlice (ps := [(0, (.int .i64 r))]) (c := #[(.int .i64 r)]) (by decide) rfl Try.underlying22 siz3 zer3 (by decide) (by decide) (by kernel_rfl) ?_
          intro bq wq Nq
          have Fq := Nq.ge E
          replace E := E.ext Nq.ext
          have Bq := Nq.blk
          refine WpL_val rfl rfl (by decide) (r_assign (v := (.slice (some ⟨bq, 0, none⟩) 1 1)) rfl) ?_
          refine WpL_nil ?_
          refine Wp_ret ?_
          refine fin_tmp Try.results54 (v := (.slice (some ⟨bq, 0, none⟩) 1 1)) rfl ?_
          have he : orbitL r = [r] := by unfold orbitL; rw [if_neg q0, if_neg q1, if_neg (by simp [hu]), if_neg (by simp [hv])]
          rw [he]
          exact ⟨ints_new [r] Bq (by simp) Fq, E⟩
/-! Orbits, plain. -/
def orbOk (n : Nat) : Bool := ((orbitL n).all fun x => decide (0 ≤ x) && decide (x < 1000) && decide (orbitL x = orbitL n)) && (orbitL n).contains (n : Int)
theorem orb_fin : (List.range 1000).all orbOk = true := by decide +kernel
theorem orb_lt {n : Nat} (h : n < 1000) : orbOk n = true := List.all_eq_true.1 orb_fin n (List.mem_range.2 h)
theorem orb_big {r : Int} (h : 1000 ≤ r) : orbitL r = [r] := by
  have h1 : upperB r = false := by unfold upperB; rw [decide_eq_false_iff_not]; omega
  have h2 : upperB (r - 32) = false := by unfold upperB; rw [decide_eq_false_iff_not]; omega
  unfold orbitL
  rw [if_neg (by omega), if_neg (by omega), h1, h2]; rfl
theorem orb_self {r : Int} (h : 0 ≤ r) : r ∈ orbitL r := by
  rcases ltLe r 1000 with h1 | h1
  · obtain ⟨n, rfl⟩ := Int.eq_ofNat_of_zero_le h
    have h2 := orb_lt (n := n) (by omega)
    unfold orbOk at h2
    rw [Bool.and_eq_true] at h2
    simpa using h2.2
  · rw [orb_big h1]; simp
theorem orb_same {r x : Int} (h : 0 ≤ r) (hx : x ∈ orbitL r) : orbitL x = orbitL r ∧ 0 ≤ x ∧ (r < 1000 → x < 1000) ∧ (1000 ≤ r → x = r) := by
  rcases ltLe r 1000 with h1 | h1
  · obtain ⟨n, rfl⟩ := Int.eq_ofNat_of_zero_le h
    have h2 := orb_lt (n := n) (by omega)
    unfold orbOk at h2
    rw [Bool.and_eq_true] at h2
    have h3 := List.all_eq_true.1 h2.1 x hx
    simp only [Bool.and_eq_true, decide_eq_true_eq] at h3
    exact ⟨h3.2, h3.1.1, fun _ => h3.1.2, fun h4 => by omega⟩
  · rw [orb_big h1, List.mem_singleton] at hx
    subst hx
    exact ⟨rfl, h, fun h4 => by omega, fun _ => rfl⟩
theorem orb_len (r : Int) : (orbitL r).length ≤ 3 := by
  unfold orbitL; (repeat' split) <;> simp
def pts (l : List Int) : List Sp := l.map fun x => (x, x)
def clo (l : List Sp) (n : Nat) : List Sp := (List.range n).flatMap fun r => if inS l ((r : Nat) : Int) then pts (orbitL ((r : Nat) : Int)) else []
theorem clo_succ (l : List Sp) (n : Nat) : clo l (n + 1) = clo l n ++ if inS l ((n : Nat) : Int) then pts (orbitL ((n : Nat) : Int)) else [] := by
  unfold clo; rw [List.range_succ, List.flatMap_append]; simp
theorem clo_len (l : List Sp) : ∀ n, (clo l n).length ≤ 3 * n
  | 0 => by simp [clo]
  | n + 1 => by
    have h1 := clo_len l n
    have h2 := orb_len ((n : Nat) : Int)
    rw [clo_succ, List.length_append]
    split
    · simp only [pts, List.length_map]; omega
    · simp only [List.length_nil]; omega
def closeAll (l : List Sp) : List Sp := l ++ clo l 1000
theorem mem_pts {l : List Int} {s : Sp} : s ∈ pts l ↔ s.1 ∈ l ∧ s.2 = s.1 := by
  unfold pts
  rw [List.mem_map]
  constructor
  · rintro ⟨x, hx, rfl⟩; exact ⟨hx, rfl⟩
  · rintro ⟨h1, h2⟩; exact ⟨s.1, h1, Prod.ext rfl h2.symm⟩
theorem mem_clo {l : List Sp} {s : Sp} {n : Nat} : s ∈ clo l n ↔ ∃ q : Nat, q < n ∧ inS l ((q : Nat) : Int) = true ∧ s.1 ∈ orbitL ((q : Nat) : Int) ∧ s.2 = s.1 := by
  unfold clo
  rw [List.mem_flatMap]
  constructor
  · rintro ⟨q, hq, h⟩
    split at h
    · rename_i h1; obtain ⟨h2, h3⟩ := mem_pts.1 h; exact ⟨q, List.mem_range.1 hq, h1, h2, h3⟩
    · cases h
  · rintro ⟨q, hq, h1, h2, h3⟩
    refine ⟨q, List.mem_range.2 hq, ?_⟩
    rw [if_pos h1]; exact mem_pts.2 ⟨h2, h3⟩
theorem inS_close {l : List Sp} {r : Int} : inS (closeAll l) r = true ↔ inS l r = true ∨ ∃ q : Nat, q < 1000 ∧ inS l ((q : Nat) : Int) = true ∧ r ∈ orbitL ((q : Nat) : Int) := by
  unfold closeAll
  rw [inS_append, Bool.or_eq_true]
  refine or_congr Iff.rfl ?_
  rw [inS_iff]
  constructor
  · rintro ⟨s, hs, h1, h2⟩
    obtain ⟨q, hq, h3, h4, h5⟩ := mem_clo.1 hs
    have : s.1 = r := by omega
    exact ⟨q, hq, h3, this ▸ h4⟩
  · rintro ⟨q, hq, h3, h4⟩
    exact ⟨(r, r), mem_clo.2 ⟨q, hq, h3, h4, rfl⟩, Int.le_refl _, Int.le_refl _⟩
theorem close_ok {l : List Sp} (h : Canon l) : ∀ s ∈ closeAll l, vSp s := by
  intro s hs
  rcases List.mem_append.1 hs with hs | hs
  · exact h.ok s hs
  · obtain ⟨q, hq, h3, h4, h5⟩ := mem_clo.1 hs
    have h6 := orb_same (by omega) h4
    have := h6.2.2.1 (by omega)
    unfold vSp; omega
theorem close_orb {l : List Sp} (h : Canon l) {r : Int} (h0 : 0 ≤ r) : inS (closeAll l) r = (orbitL r).any (inS l) := by
  rw [Bool.eq_iff_iff, inS_close, List.any_eq_true]
  constructor
  · rintro (h1 | ⟨q, hq, h1, h2⟩)
    · exact ⟨r, orb_self h0, h1⟩
    · refine ⟨((q : Nat) : Int), ?_, h1⟩
      rw [(orb_same (by omega) h2).1]; exact orb_self (by omega)
  · rintro ⟨c, hc, h1⟩
    obtain ⟨h2, h3, h4, h5⟩ := orb_same h0 hc
    rcases ltLe r 1000 with h6 | h6
    · right
      obtain ⟨n, rfl⟩ := Int.eq_ofNat_of_zero_le h3
      exact ⟨n, by have := h4 h6; omega, h1, by rw [h2]; exact orb_self h0⟩
    · left; rw [← h5 h6]; exact h1
theorem close_twice {x y : List Sp} (hx : Canon x) (hy : IsSet y (inS (closeAll x))) {r : Int} (h0 : 0 ≤ r) (h1 : r ≤ 1114111) : inS (closeAll y) r = inS y r := by
  rw [close_orb hy.1 h0, hy.2 r h0 h1, close_orb hx h0]
  rw [Bool.eq_iff_iff, List.any_eq_true, List.any_eq_true]
  constructor
  · rintro ⟨c, hc, h2⟩
    have h3 := orb_same h0 hc
    have h4 : inS (closeAll x) c = true := by
      rw [← hy.2 c h3.2.1 (by rcases ltLe r 1000 with h6 | h6; have := h3.2.2.1 h6; omega; have := h3.2.2.2 h6; omega)]; exact h2
    rw [close_orb hx h3.2.1, h3.1, List.any_eq_true] at h4
    exact h4
  · rintro ⟨c, hc, h2⟩
    refine ⟨r, orb_self h0, ?_⟩
    rw [hy.2 r h0 h1, close_orb hx h0, List.any_eq_true]
    exact ⟨c, hc, h2⟩
def closeP (a out : List Sp) (e : Int) : Prop := (checkE a ≠ 0 ∧ e = checkE a ∧ out = []) ∨ (checkE a = 0 ∧ ∃ j, IsSet j (inS (closeAll a)) ∧ fitsP j out e)
theorem pts_take {l : List Int} {i : Nat} {x : Int} (h : l[i]? = some x) : pts (l.take (i + 1)) = pts (l.take i) ++ [(x, x)] := by
  unfold pts; rw [List.take_add_one, h]; simp
set_option maxHeartbeats 2000000 in
theorem close_c (w0 : World) (u : Value) (a : List Sp) (ha : SpansAt w0 u a) : Ret Try.prog 10 #[u] w0 fun r w => (∃ out e, closeP a out e ∧ SetRes w r out e) ∧ Ext w0 w := by
  obtain ⟨base, hbase⟩ : ∃ base, base = w0.heap.size := ⟨_, rfl⟩
  refine Ret_of Try.func10 rfl Try.ntmps10 (Nat.le_of_ble_eq_true rfl) ?_
  have E : Chg none1 w0 w0 := Chg.refl _ _
  refine Wp_seq_region ?_
  refine WpL_val rfl rfl (by decide) (r_assign (v := (.slice none 0 0)) rfl) ?_
  refine WpL_val rfl rfl (by decide) (r_assign (v := (.int .i64 0)) rfl) ?_
  refine WpL_nil ?_
  refine Wp_seq ?_
  refine Wp_seq_region ?_
  refine WpL_val rfl rfl (by decide) (r_move (v := u) rfl) ?_
  refine WpL_enter rfl rfl (by decide) (r_callF (vs := [u]) Try.func33 nm33 bd33 rfl) (rcheck_c _ _ a ha) ?_
  rintro _ w9 ⟨rfl, X9⟩
  replace E := E.ext X9
  refine WpL_val rfl rfl (by decide) (r_assign (v := (.int .i64 (checkE a))) rfl) ?_
  refine WpL_nil ?_
  refine Wp_seq_region ?_
  refine WpL_val rfl rfl (by decide) (r_move (v := (.int .i64 (checkE a))) rfl) ?_
  refine WpL_val rfl rfl (by decide) (r_neq (k := .i64) (a := checkE a) (b := 0) rfl rfl) ?_
  refine WpL_nil ?_
  refine Wp_cond (b := decide ((checkE a : Int) ≠ 0)) rfl (fun hc0 => ?_) (fun hc0 => ?_)
  · have khc0 := hc0
    replace hc0 := of_decide_eq_true hc0
    refine Wp_seq_region ?_
    refine WpL_val rfl rfl (by decide) (r_move (v := (.int .i64 (checkE a))) rfl) ?_
    refine WpL_val rfl rfl (by decide) (r_assign (v := (.slice none 0 0)) rfl) ?_
    refine WpL_val rfl rfl (by decide) (r_assign (v := (.int .i64 (checkE a))) rfl) ?_
    refine WpL_nil ?_
    refine Wp_ret ?_
    refine thn_ret ?_
    refine fin_tmp2 Try.results10 (v := (.slice none 0 0)) (v' := (.int .i64 (checkE a))) rfl rfl ?_
    exact ⟨⟨[], _, .inl ⟨hc0, rfl, rfl⟩, none, 0, rfl, SlAt.nil _ _ _ _⟩, E⟩
  · have khc0 := hc0
    replace hc0 := of_decide_eq_false hc0
    have hc1 : checkE a = 0 := by omega
    obtain ⟨ca, la⟩ := checkE_canon hc1
    have hs0 := E.size
    refine Wp_skip ?_
    refine thn_normal ?_
    refine Wp_seq_region ?_
    refine WpL_val rfl rfl (by decide) (r_move (v := u) rfl) ?_
    refine WpL_enter rfl rfl (by decide) (r_callF (vs := [u]) Try.func52 nm52 bd52 rfl) (clones_c _ _ a (ha.ext E) (by omega)) ?_
    rintro _ w8 ⟨⟨⟨xa, xc, rfl⟩, O8⟩, X8⟩
    replace E := E.ext X8
    have O8' := own_low (base' := base) O8 (by omega)
    refine WpL_val rfl rfl (by decide) (r_assign (v := (.slice xa a.length xc)) rfl) ?_
    refine WpL_nil ?_
    refine Wp_seq ?_
    refine Wp_seq_region ?_
    refine WpL_val rfl rfl (by decide) (r_move (v := (.int .i64 0)) rfl) ?_
    refine WpL_nil ?_
    refine Wp_block ?_
    refine Wp_loop (fun nn_ σ W2 => ∃ (k : Nat) (la1 : Option Addr) (lc1 : Nat) (m1 : Nat), (∃ jj_, σ = upds jj_ [(0, u), (16, (.int .i64 ((k : Nat) : Int))), (5, (.slice la1 m1 lc1))]) ∧ Chg none1 w0 W2 ∧ (k ≤ 1000) ∧ (m1 = (a ++ clo a k).length) ∧ (W2.ownsRow base TSp 2 (.slice la1 m1 lc1) m1 ((a ++ clo a k).map spanV).flatten) ∧ (base ≤ W2.heap.size) ∧ nn_ = 1000 - k) (n := 1000 - 0) ?_ ?_
    · exact ⟨0, xa, xc, a.length, Fits.out ⟨rfl, rfl, rfl, trivial⟩, E, (by omega), (by simp [clo]), (by simpa [clo] using O8'), (by have := E.size; omega), rfl⟩
    · clear E
      rintro _ _ W2 ⟨k, la1, lc1, m1, ⟨j2, rfl⟩, E, hk, hm1, hown, hbs, rfl⟩
      refine Wp_seq_region ?_
      refine WpL_val rfl rfl (by decide) (r_lss (k := .i64) (a := ((k : Nat) : Int)) (b := 1000) rfl rfl) ?_
      refine WpL_nil ?_
      refine Wp_seq ?_
      refine Wp_cond (b := decide ((((k : Nat) : Int) : Int) < 1000)) rfl (fun hlt => ?_) (fun hlt => ?_)
      · have khlt := hlt
        replace hlt := of_decide_eq_true hlt
        have hcs := clo_succ a k
        have hcl := clo_len a k
        rw [List.length_append] at hm1
        refine Wp_skip ?_
        refine thn_normal ?_
        refine Wp_seq ?_
        refine Wp_block ?_
        refine Wp_seq_region ?_
        refine WpL_val rfl rfl (by decide) (r_move (v := (.int .i64 ((k : Nat) : Int))) rfl) ?_
        refine WpL_val rfl rfl (by decide) (r_assign (v := (.int .i64 ((k : Nat) : Int))) rfl) ?_
        refine WpL_nil ?_
        refine Wp_seq ?_
        refine Wp_seq_region ?_
        refine WpL_val rfl rfl (by decide) (r_move (v := u) rfl) ?_
        refine WpL_val rfl rfl (by decide) (r_move (v := (.int .i64 ((k : Nat) : Int))) rfl) ?_
        refine WpL_enter rfl rfl (by decide) (r_callF (vs := [u, (.int .i64 ((k : Nat) : Int))]) Try.func53 nm53 bd53 rfl) (in_c _ u a ((k : Nat) : Int) (ha.ext E)) ?_
        rintro _ w7 ⟨rfl, X7⟩
        replace hown := own_ext hown X7
        replace hbs := Nat.le_trans hbs X7.size
        replace E := E.ext X7
        refine WpL_val rfl rfl (by decide) (r_not (b := inS a ((k : Nat) : Int)) rfl) ?_
        refine WpL_nil ?_
        refine Wp_cond (b := !(inS a ((k : Nat) : Int))) rfl (fun hin => ?_) (fun hin => ?_)
        · have khin := hin
          replace hin := by simpa using hin
          refine Wp_exit ?_
          refine thn_exit ?_
          refine inB_here ?_
          refine thn_normal ?_
          refine Wp_region ?_
          refine WpL_val rfl rfl (by decide) (r_add (k := .i64) (a := ((k : Nat) : Int)) (b := 1) (c := ((k : Nat) : Int) + 1) rfl rfl (wI64 (by omega))) ?_
          refine WpL_val rfl rfl (by decide) (r_move (v := (.int .i64 (((k : Nat) : Int) + 1))) rfl) ?_
          refine WpL_nil ?_
          refine thn_normal ?_
          exact ⟨1000 - (k + 1), by omega, k + 1, la1, lc1, m1, Fits.out ⟨rfl, rfl, rfl, trivial⟩, E, (by omega), (by rw [hcs, hin]; simpa using hm1), (by rw [hcs, hin]; simpa using hown), hbs, rfl⟩
        · have khin := hin
          replace hin := by simpa using hin
          have hown7 := hown
          refine Wp_skip ?_
          refine thn_normal ?_
          refine Wp_seq_region ?_
          refine WpL_val rfl rfl (by decide) (r_move (v := (.int .i64 ((k : Nat) : Int))) rfl) ?_
          refine WpL_enter rfl rfl (by decide) (r_callF (vs := [(.int .i64 ((k : Nat) : Int))]) Try.func54 nm54 bd54 rfl) (orbit_c _ ((k : Nat) : Int) (by omega)) ?_
          rintro _ w6 ⟨⟨⟨oa, oc, rfl⟩, hor⟩, X6⟩
          replace hown := own_ext hown X6
          replace hbs := Nat.le_trans hbs X6.size
          replace E := E.ext X6
          obtain ⟨ob, hob⟩ : ∃ ob, ob = orbitL ((k : Nat) : Int) := ⟨_, rfl⟩
          have hol := orb_len ((k : Nat) : Int)
          rw [← hob] at hor hol
          rw [← hob, hin, if_pos rfl] at hcs
          obtain ⟨n6, hn6⟩ : ∃ n, n = w7.heap.size := ⟨_, rfl⟩
          obtain ⟨n7, hn7⟩ : ∃ n, n = w6.heap.size := ⟨_, rfl⟩
          rw [← hn6, ← hn7] at hor
          rw [← hob]
          refine WpL_val rfl rfl (by decide) (r_lenSlice (ad := oa) (n := ob.length) (cap := oc) Try.underlying22 rfl) ?_
          refine WpL_val rfl rfl (by decide) (r_move (v := (.int .i64 0)) rfl) ?_
          refine WpL_nil ?_
          refine Wp_block ?_
          refine Wp_loop (fun nn_ σ W5 => ∃ (i : Nat) (la2 : Option Addr) (lc2 : Nat) (m2 : Nat), (∃ jj_, σ = upds jj_ [(0, u), (16, (.int .i64 ((k : Nat) : Int))), (24, (.slice oa ob.length oc)), (25, (.int .i64 ((ob.length : Nat) : Int))), (26, (.int .i64 ((i : Nat) : Int))), (5, (.slice la2 m2 lc2))]) ∧ Chg none1 w0 W5 ∧ (i ≤ ob.length) ∧ (m2 = (a ++ clo a k ++ pts (ob.take i)).length) ∧ (W5.ownsRow base TSp 2 (.slice la2 m2 lc2) m2 ((a ++ clo a k ++ pts (ob.take i)).map spanV).flatten) ∧ (base ≤ W5.heap.size) ∧ (SlIn (fun b => n6 ≤ b ∧ b < n7) W5 1 (.slice oa ob.length oc) (ob.map intV)) ∧ (∀ x, (Value.slice la2 m2 lc2).ownBlock = some x → x < n6 ∨ n7 ≤ x) ∧ (n7 ≤ W5.heap.size) ∧ nn_ = ob.length - i) (n := ob.length - 0) ?_ ?_
          · exact ⟨0, la1, lc1, m1, Fits.out ⟨rfl, rfl, rfl, rfl, rfl, rfl, trivial⟩, E, Nat.zero_le _, (by simpa [pts] using hm1), (by simpa [pts] using hown), hbs, hor, (fun x hx => .inl (by rw [hn6]; exact (hown7.lt x hx).2)), (by omega), rfl⟩
          · clear E
            rintro _ _ W5 ⟨i, la2, lc2, m2, ⟨j5, rfl⟩, E, hi, hm2, hown2, hbs2, hor2, hap, hn72, rfl⟩
            refine Wp_seq_region ?_
            refine WpL_val rfl rfl (by decide) (r_lss (k := .i64) (a := ((i : Nat) : Int)) (b := ((ob.length : Nat) : Int)) rfl rfl) ?_
            refine WpL_nil ?_
            refine Wp_seq ?_
            refine Wp_cond (b := decide ((((i : Nat) : Int) : Int) < ((ob.length : Nat) : Int))) rfl (fun hlt2 => ?_) (fun hlt2 => ?_)
            · have khlt2 := hlt2
              replace hlt2 := of_decide_eq_true hlt2
              rw [List.length_append, List.length_append] at hm2
              have hpl : (pts (ob.take i)).length = i := by unfold pts; simp; omega
              obtain ⟨x, hx⟩ := get_of_lt (l := ob) (i := i) (by omega)
              have hpt := pts_take hx
              have hatI : IntsAt _ (.slice oa ob.length oc) ob := SlIn.at hor2
              obtain ⟨b, o, hab, hcc⟩ := ints_cells hatI (by omega)
              subst hab
              refine Wp_skip ?_
              refine thn_normal ?_
              refine Wp_seq ?_
              refine Wp_block ?_
              refine Wp_seq_region ?_
              refine WpL_val rfl rfl (by decide) (r_indexSlice (b := b) (o := o) (len := ob.length) (cap := oc) (i := i) (o' := o + i) rfl rfl rfl Try.underlying22 siz3 (by omega) (by omega)) ?_
              refine WpL_val rfl rfl (by decide) (r_load (v := (.int .i64 x)) rfl flat3 (hcc i x hx)) ?_
              refine WpL_val rfl rfl (by decide) (r_assign (v := (.int .i64 x)) rfl) ?_
              refine WpL_nil ?_
              refine Wp_region ?_
              refine WpL_val rfl rfl (by decide) (r_move (v := (.slice la2 m2 lc2)) rfl) ?_
              refine WpL_val rfl rfl (by decide) (r_move (v := (.int .i64 x)) rfl) ?_
              refine WpL_val rfl rfl (by decide) (r_move (v := (.int .i64 x)) rfl) ?_
              refine WpL_val rfl rfl (by decide) (r_build (ps := [(0, (.int .i64 x)), (1, (.int .i64 x))]) (v := (.agg #[(.int .i64 x), (.int .i64 x)])) rfl (by kernel_rfl)) ?_
              refine s_buildSlice (ps := [(0, (.agg #[(.int .i64 x), (.int .i64 x)]))]) (c := #[(.int .i64 x), (.int .i64 x)]) (by decide) rfl Try.underlying23 siz37 zer37 (by decide) (by decide) (by kernel_rfl) ?_
              intro bq wq Nq
              have Fq := Nq.ge E
              replace hown2 := own_ext hown2 Nq.ext
              replace hbs2 := Nat.le_trans hbs2 Nq.ext.size
              replace hn72 := Nat.le_trans hn72 Nq.ext.size
              replace hor2 := hor2.chg Nq.ext (fun _ _ f => f)
              replace E := E.ext Nq.ext
              have Bq := Nq.blk
              refine s_append (base := base) (n := m2) (m := 1) (xs := ((a ++ clo a k ++ pts (ob.take i)).map spanV).flatten) (news := [(.int .i64 x), (.int .i64 x)]) (size := 2) (bytes := 16) (v := (.slice la2 m2 lc2)) (by decide) Try.underlying23 siz37 byt37 zer37 rfl (by decide) rfl hown2 rfl (rfl) (Bq.cells rfl) (by simp [Value.oneCell']) (by unfold maxLen; omega) (by omega) (hbs2) ?_
              intro v9 w29 Ov9 Cv9 Dv9
              replace E := E.step Cv9 (fun x hx h => absurd (hown2.lt x h).1 (by omega))
              obtain ⟨la3, lc3, rfl⟩ := own_form Ov9
              refine WpL_val rfl rfl (by decide) (r_assign (v := (.slice la3 (m2 + 1) lc3)) rfl) ?_
              refine WpL_nil ?_
              refine inB_normal ?_
              refine thn_normal ?_
              refine Wp_region ?_
              refine WpL_val rfl rfl (by decide) (r_add (k := .i64) (a := ((i : Nat) : Int)) (b := 1) (c := ((i : Nat) : Int) + 1) rfl rfl (wI64 (by omega))) ?_
              refine WpL_val rfl rfl (by decide) (r_move (v := (.int .i64 (((i : Nat) : Int) + 1))) rfl) ?_
              refine WpL_nil ?_
              refine thn_normal ?_
              exact ⟨ob.length - (i + 1), by omega, i + 1, la3, lc3, m2 + 1, Fits.out ⟨rfl, rfl, rfl, rfl, rfl, rfl, trivial⟩, E, (by omega), (by rw [hpt]; simp only [List.length_append, hpl, List.length_singleton]; omega), (by rw [hpt, ← List.append_assoc, spanV_snoc]; exact Ov9), Nat.le_trans hbs2 Cv9.size, hor2.chg Cv9 (fun b hb h => by have := hap b h; omega), (fun x hx => by rcases Dv9 x hx with h | h; exact hap x h; exact .inr (by omega)), Nat.le_trans hn72 Cv9.size, rfl⟩
            · have khlt2 := hlt2
              replace hlt2 := of_decide_eq_false hlt2
              have hii : i = ob.length := by omega
              rw [hii, List.take_length, List.append_assoc, ← hcs] at hm2 hown2
              refine Wp_exit ?_
              refine thn_exit ?_
              refine thn_exit ?_
              refine inB_here ?_
              refine inB_normal ?_
              refine thn_normal ?_
              refine Wp_region ?_
              refine WpL_val rfl rfl (by decide) (r_add (k := .i64) (a := ((k : Nat) : Int)) (b := 1) (c := ((k : Nat) : Int) + 1) rfl rfl (wI64 (by omega))) ?_
              refine WpL_val rfl rfl (by decide) (r_move (v := (.int .i64 (((k : Nat) : Int) + 1))) rfl) ?_
              refine WpL_nil ?_
              refine thn_normal ?_
              exact ⟨1000 - (k + 1), by omega, k + 1, la2, lc2, m2, Fits.out ⟨rfl, rfl, rfl, trivial⟩, E, (by omega), hm2, hown2, hbs2, rfl⟩
      · have khlt := hlt
        replace hlt := of_decide_eq_false hlt
        have hk2 : k = 1000 := by omega
        rw [hk2] at hm1 hown
        have hcl2 := clo_len a 1000
        have hS : OwnS W2 base (.slice la1 m1 lc1) (closeAll a) := ⟨⟨la1, lc1, by rw [hm1]; rfl⟩, by have h9 := hown; rw [hm1] at h9 ⊢; exact h9⟩
        have hlen : (closeAll a).length ≤ 4000 := by unfold closeAll; rw [List.length_append]; omega
        refine Wp_exit ?_
        refine thn_exit ?_
        refine thn_exit ?_
        refine inB_here ?_
        refine thn_normal ?_
        refine Wp_seq_region ?_
        refine WpL_val rfl rfl (by decide) (r_move (v := (.slice la1 m1 lc1)) rfl) ?_
        refine WpL_enter rfl rfl (by decide) (r_callF (vs := [(.slice la1 m1 lc1)]) Try.func35 nm35 bd35 rfl) (norm_c _ _ (closeAll a) hS.at (by omega)) ?_
        rintro _ w5 ⟨⟨out, e, hn, fa, fc, rfl, hsp⟩, X5⟩
        replace E := E.ext X5
        refine WpL_val rfl rfl (by decide) (r_extract (vs := #[(.slice fa out.length fc), (.int .i64 e)]) (v := (.slice fa out.length fc)) rfl rfl) ?_
        refine WpL_val rfl rfl (by decide) (r_extract (vs := #[(.slice fa out.length fc), (.int .i64 e)]) (v := (.int .i64 e)) rfl rfl) ?_
        refine WpL_val rfl rfl (by decide) (r_assign (v := (.slice fa out.length fc)) rfl) ?_
        refine WpL_val rfl rfl (by decide) (r_assign (v := (.int .i64 e)) rfl) ?_
        refine WpL_nil ?_
        refine Wp_ret ?_
        refine fin_tmp2 Try.results10 (v := (.slice fa out.length fc)) (v' := (.int .i64 e)) rfl rfl ?_
        refine ⟨⟨out, e, .inr ⟨hc1, ?_⟩, fa, fc, rfl, hsp⟩, E⟩
        rcases hn with ⟨⟨s, hs, hv⟩, _⟩ | ⟨_, j, hj, _, hf⟩
        · exact absurd (close_ok ca s hs) hv
        · exact ⟨j, hj, hf⟩
def orbV (r : Int) : List Int × Int := if runeB r = false then ([], 1) else (orbitL r, 0)
theorem Orbit_c (w0 : World) (r : Int) : Ret Try.prog 15 #[.int .i64 r] w0 fun v w => (∃ a c, v = .tuple #[.slice a (orbV r).1.length c, .int .i64 (orbV r).2] ∧ IntsAt w (.slice a (orbV r).1.length c) (orbV r).1) ∧ Ext w0 w := by
  refine Ret_of Try.func15 rfl Try.ntmps15 (Nat.le_of_ble_eq_true rfl) ?_
  have E : Chg none1 w0 w0 := Chg.refl _ _
  refine Wp_seq_region ?_
  refine WpL_val rfl rfl (by decide) (r_assign (v := (.slice none 0 0)) rfl) ?_
  refine WpL_val rfl rfl (by decide) (r_assign (v := (.int .i64 0)) rfl) ?_
  refine WpL_nil ?_
  refine Wp_seq ?_
  refine Wp_seq_region ?_
  refine WpL_val rfl rfl (by decide) (r_move (v := (.int .i64 r)) rfl) ?_
  refine WpL_enter rfl rfl (by decide) (r_callF (vs := [(.int .i64 r)]) Try.func57 nm57 bd57 rfl) (rune_c r _) ?_
  rintro _ w8 ⟨rfl, X8⟩
  replace E := E.ext X8
  refine WpL_val rfl rfl (by decide) (r_not (b := runeB r) rfl) ?_
  refine WpL_nil ?_
  refine Wp_cond (b := !(runeB r)) rfl (fun h1 => ?_) (fun h1 => ?_)
  · have kh1 := h1
    replace h1 := by simpa using h1
    refine Wp_seq_region ?_
    refine WpL_val rfl rfl (by decide) (r_assign (v := (.slice none 0 0)) rfl) ?_
    refine WpL_val rfl rfl (by decide) (r_assign (v := (.int .i64 1)) rfl) ?_
    refine WpL_nil ?_
    refine Wp_ret ?_
    refine thn_ret ?_
    refine fin_tmp2 Try.results15 (v := (.slice none 0 0)) (v' := (.int .i64 1)) rfl rfl ?_
    unfold orbV; rw [if_pos h1]; exact ⟨⟨none, 0, rfl, SlAt.nil _ _ _ _⟩, E⟩
  · have kh1 := h1
    replace h1 := by simpa using h1
    have hr : 0 ≤ r ∧ r ≤ 1114111 := by unfold runeB at h1; simp at h1; omega
    refine Wp_skip ?_
    refine thn_normal ?_
    refine Wp_seq_region ?_
    refine WpL_val rfl rfl (by decide) (r_move (v := (.int .i64 r)) rfl) ?_
    refine WpL_enter rfl rfl (by decide) (r_callF (vs := [(.int .i64 r)]) Try.func54 nm54 bd54 rfl) (orbit_c _ r hr) ?_
    rintro _ w6 ⟨⟨⟨oa, oc, rfl⟩, hor⟩, X6⟩
    replace E := E.ext X6
    refine WpL_val rfl rfl (by decide) (r_assign (v := (.slice oa ((orbitL r).length) oc)) rfl) ?_
    refine WpL_val rfl rfl (by decide) (r_assign (v := (.int .i64 0)) rfl) ?_
    refine WpL_nil ?_
    refine Wp_ret ?_
    refine fin_tmp2 Try.results15 (v := (.slice oa ((orbitL r).length) oc)) (v' := (.int .i64 0)) rfl rfl ?_
    unfold orbV; rw [if_neg (by simp [h1])]; exact ⟨⟨oa, oc, rfl, SlIn.at hor⟩, E⟩
theorem Orbit_ok (w0 : World) (r : Int) (hr : 0 ≤ r ∧ r ≤ 1114111) : Ret Try.prog 15 #[.int .i64 r] w0 fun v w => (∃ a c, v = .tuple #[.slice a (orbitL r).length c, .int .i64 0] ∧ IntsAt w (.slice a (orbitL r).length c) (orbitL r)) ∧ Ext w0 w :=
  (Orbit_c w0 r).mono fun v w h => by
    have e : orbV r = (orbitL r, 0) := by unfold orbV; rw [if_neg (by unfold runeB; simp; omega)]
    rw [e] at h; exact h
set_option maxHeartbeats 400000 in
theorem eqi_c (w0 : World) (v1 v2 : Value) (l1 l2 : List Int) (h1 : IntsAt w0 v1 l1) (h2 : IntsAt w0 v2 l2) :
    Ret Try.prog 19 #[v1, v2] w0 fun v w => v = .bool (decide (l1 = l2)) ∧ Ext w0 w := by
  obtain ⟨a1, c1, rfl⟩ := SlAt.form h1
  obtain ⟨a2, c2, rfl⟩ := SlAt.form h2
  have hb1 : l1.length ≤ 9223372036854775807 := by simpa using SlAt.le h1
  simp only [List.length_map] at h1 h2 ⊢
  refine Ret_of Try.func19 rfl Try.ntmps19 (Nat.le_of_ble_eq_true rfl) ?_
  have E : Chg none1 w0 w0 := Chg.refl _ _
  refine Wp_seq_region ?_
  refine WpL_val rfl rfl (by decide) (r_assign (v := (.bool false)) rfl) ?_
  refine WpL_nil ?_
  refine Wp_seq ?_
  refine Wp_seq_region ?_
  refine WpL_val rfl rfl (by decide) (r_move (v := (.slice a1 l1.length c1)) rfl) ?_
  refine WpL_val rfl rfl (by decide) (r_lenSlice (ad := a1) (n := l1.length) (cap := c1) Try.underlying22 rfl) ?_
  refine WpL_val rfl rfl (by decide) (r_move (v := (.slice a2 l2.length c2)) rfl) ?_
  refine WpL_val rfl rfl (by decide) (r_lenSlice (ad := a2) (n := l2.length) (cap := c2) Try.underlying22 rfl) ?_
  refine WpL_val rfl rfl (by decide) (r_neq (k := .i64) (a := ((l1.length : Nat) : Int)) (b := ((l2.length : Nat) : Int)) rfl rfl) ?_
  refine WpL_nil ?_
  refine Wp_cond (b := decide ((((l1.length : Nat) : Int) : Int) ≠ ((l2.length : Nat) : Int))) rfl (fun hl => ?_) (fun hl => ?_)
  · have khl := hl
    replace hl := of_decide_eq_true hl
    refine Wp_seq_region ?_
    refine WpL_val rfl rfl (by decide) (r_assign (v := (.bool false)) rfl) ?_
    refine WpL_nil ?_
    refine Wp_ret ?_
    refine thn_ret ?_
    refine fin_tmp Try.results19 (v := (.bool false)) rfl ?_
    exact ⟨bool_eq (by symm; rw [decide_eq_false_iff_not]; intro h; rw [h] at hl; exact hl rfl), E⟩
  · have khl := hl
    replace hl := of_decide_eq_false hl
    refine Wp_skip ?_
    refine thn_normal ?_
    refine Wp_seq ?_
    refine Wp_seq_region ?_
    refine WpL_val rfl rfl (by decide) (r_move (v := (.slice a1 l1.length c1)) rfl) ?_
    refine WpL_val rfl rfl (by decide) (r_lenSlice (ad := a1) (n := l1.length) (cap := c1) Try.underlying22 rfl) ?_
    refine WpL_val rfl rfl (by decide) (r_move (v := (.int .i64 0)) rfl) ?_
    refine WpL_nil ?_
    refine Wp_block ?_
    refine Wp_loop (fun nn_ σ W2 => ∃ (k : Nat), (∃ jj_, σ = upds jj_ [(0, (.slice a1 l1.length c1)), (1, (.slice a2 l2.length c2)), (12, (.int .i64 ((l1.length : Nat) : Int))), (13, (.int .i64 ((k : Nat) : Int)))]) ∧ Chg none1 w0 W2 ∧ (k ≤ l1.length) ∧ (∀ (i : Nat), i < k → l1[i]? = l2[i]?) ∧ nn_ = l1.length - k) (n := l1.length - 0) ?_ ?_
    · exact ⟨0, Fits.out ⟨rfl, rfl, rfl, rfl, trivial⟩, E, Nat.zero_le _, (fun i h => absurd h (Nat.not_lt_zero _)), rfl⟩
    · clear E
      rintro _ _ W2 ⟨k, ⟨j2, rfl⟩, E, hk, heq, rfl⟩
      refine Wp_seq_region ?_
      refine WpL_val rfl rfl (by decide) (r_lss (k := .i64) (a := ((k : Nat) : Int)) (b := ((l1.length : Nat) : Int)) rfl rfl) ?_
      refine WpL_nil ?_
      refine Wp_seq ?_
      refine Wp_cond (b := decide ((((k : Nat) : Int) : Int) < ((l1.length : Nat) : Int))) rfl (fun hlt => ?_) (fun hlt => ?_)
      · have khlt := hlt
        replace hlt := of_decide_eq_true hlt
        obtain ⟨p, hp⟩ := get_of_lt (l := l1) (i := k) (by omega)
        obtain ⟨q, hq⟩ := get_of_lt (l := l2) (i := k) (by omega)
        obtain ⟨b1, o1, rfl, hc1⟩ := ints_cells h1 (by omega)
        obtain ⟨b2, o2, rfl, hc2⟩ := ints_cells h2 (by omega)
        refine Wp_skip ?_
        refine thn_normal ?_
        refine Wp_seq ?_
        refine Wp_block ?_
        refine Wp_seq_region ?_
        refine WpL_val rfl rfl (by decide) (r_move (v := (.int .i64 ((k : Nat) : Int))) rfl) ?_
        refine WpL_val rfl rfl (by decide) (r_assign (v := (.int .i64 ((k : Nat) : Int))) rfl) ?_
        refine WpL_nil ?_
        refine Wp_seq_draw 8 mixed (by kernel_rfl) ?_
        intro w4 X4 _
        replace E := E.ext X4
        refine WpT_val rfl rfl (by decide) (r_move (v := (.slice (some ⟨b1, o1, none⟩) l1.length c1)) rfl) ?_
        refine WpT_val rfl rfl (by decide) (r_move (v := (.int .i64 ((k : Nat) : Int))) rfl) ?_
        refine WpT_val rfl rfl (by decide) (r_indexSlice (b := b1) (o := o1) (len := l1.length) (cap := c1) (i := k) (o' := o1 + k) rfl rfl rfl Try.underlying22 siz3 (by omega) (by omega)) ?_
        refine WpT_val rfl rfl (by decide) (r_load (v := (.int .i64 p)) rfl flat3 (E.cell (fun f => f) (hc1 k p hp))) ?_
        refine WpT_val rfl rfl (by decide) (r_move (v := (.slice (some ⟨b2, o2, none⟩) l2.length c2)) rfl) ?_
        refine WpT_val rfl rfl (by decide) (r_move (v := (.int .i64 ((k : Nat) : Int))) rfl) ?_
        refine WpT_val rfl rfl (by decide) (r_indexSlice (b := b2) (o := o2) (len := l2.length) (cap := c2) (i := k) (o' := o2 + k) rfl rfl rfl Try.underlying22 siz3 (by omega) (by omega)) ?_
        refine WpT_val rfl rfl (by decide) (r_load (v := (.int .i64 q)) rfl flat3 (E.cell (fun f => f) (hc2 k q hq))) ?_
        refine WpT_zero ?_
        refine WpL_val rfl rfl (by decide) (r_neq (k := .i64) (a := p) (b := q) rfl rfl) ?_
        refine WpL_nil ?_
        refine Wp_cond (b := decide ((p : Int) ≠ q)) rfl (fun hpq => ?_) (fun hpq => ?_)
        · have khpq := hpq
          replace hpq := of_decide_eq_true hpq
          refine Wp_seq_region ?_
          refine WpL_val rfl rfl (by decide) (r_assign (v := (.bool false)) rfl) ?_
          refine WpL_nil ?_
          refine Wp_ret ?_
          refine inB_ret ?_
          refine thn_ret ?_
          refine thn_ret ?_
          refine inB_ret ?_
          refine thn_ret ?_
          refine fin_tmp Try.results19 (v := (.bool false)) rfl ?_
          exact ⟨bool_eq (by symm; rw [decide_eq_false_iff_not]; intro h; subst h; rw [hp] at hq; cases hq; exact hpq rfl), E⟩
        · have khpq := hpq
          replace hpq := of_decide_eq_false hpq
          have hpq2 : p = q := by omega
          refine Wp_skip ?_
          refine inB_normal ?_
          refine thn_normal ?_
          refine Wp_region ?_
          refine WpL_val rfl rfl (by decide) (r_add (k := .i64) (a := ((k : Nat) : Int)) (b := 1) (c := ((k : Nat) : Int) + 1) rfl rfl (wI64 (by omega))) ?_
          refine WpL_val rfl rfl (by decide) (r_move (v := (.int .i64 (((k : Nat) : Int) + 1))) rfl) ?_
          refine WpL_nil ?_
          refine thn_normal ?_
          exact ⟨l1.length - (k + 1), by omega, k + 1, Fits.out ⟨rfl, rfl, rfl, rfl, trivial⟩, E, (by omega), (fun i hi => by rcases Nat.lt_or_ge i k with h | h; exact heq i h; obtain rfl : i = k := (by omega); rw [hp, hq, hpq2]), rfl⟩
      · have khlt := hlt
        replace hlt := of_decide_eq_false hlt
        have hkk : k = l1.length := by omega
        refine Wp_exit ?_
        refine thn_exit ?_
        refine thn_exit ?_
        refine inB_here ?_
        refine thn_normal ?_
        refine Wp_seq_region ?_
        refine WpL_val rfl rfl (by decide) (r_assign (v := (.bool true)) rfl) ?_
        refine WpL_nil ?_
        refine Wp_ret ?_
        refine fin_tmp Try.results19 (v := (.bool true)) rfl ?_
        exact ⟨bool_eq (by symm; rw [decide_eq_true_eq]; exact get_ext (by omega) (fun i hi => heq i (by omega))), E⟩
theorem canon_k : Canon [((107 : Int), (107 : Int))] := Canon.one (by unfold vSp; simp)
theorem close_k {out : List Sp} {e : Int} (h : closeP [(107, 107)] out e) : e = 0 ∧ out = [(75, 75), (107, 107)] := by
  rcases h with ⟨h, _⟩ | ⟨_, j, hj, hf⟩
  · exact absurd (checkE_ok canon_k (by simp)) h
  · have e1 : closeAll [(107, 107)] = [(107, 107), (75, 75), (107, 107)] := by decide +kernel
    have cj : Canon [((75 : Int), (75 : Int)), (107, 107)] := Canon.cons (by unfold vSp; simp) (fun t ht => by rw [List.mem_singleton] at ht; subst ht; simp) canon_k
    have e2 : j = [(75, 75), (107, 107)] := canon_ext hj.1 cj fun r r0 r1 => by
      rw [hj.2 r r0 r1, e1]
      simp only [inS_cons, inS_nil, Bool.or_false]
      rw [Bool.eq_iff_iff]
      simp only [Bool.or_eq_true, Bool.and_eq_true, decide_eq_true_eq]
      omega
    subst e2
    exact fitsP_ok hf (by simp)
theorem close_again (w0 : World) (u : Value) (x y : List Sp) (hy : SpansAt w0 u y) (cx : Canon x) (hs : IsSet y (inS (closeAll x))) (hl : y.length ≤ 16) : Ret Try.prog 10 #[u] w0 fun r w => OkRes w r y ∧ Ext w0 w :=
  (close_c w0 u y hy).mono fun r w ⟨⟨out, e, h1, h2⟩, h3⟩ => by
    rcases h1 with ⟨h, _⟩ | ⟨_, j, hj, hf⟩
    · exact absurd (checkE_ok hs.1 hl) h
    · have e2 : j = y := canon_ext hj.1 hs.1 fun r r0 r1 => by rw [hj.2 r r0 r1]; exact close_twice cx hs r0 r1
      subst e2
      obtain ⟨rfl, rfl⟩ := fitsP_ok hf hl
      exact ⟨h2, h3⟩
theorem has_ok (w0 : World) (u : Value) (a : List Sp) (r : Int) (ha : SpansAt w0 u a) (ca : Canon a) (la : a.length ≤ 16) (hr : 0 ≤ r ∧ r ≤ 1114111) : Ret Try.prog 14 #[u, .int .i64 r] w0 fun v w => v = .tuple #[.bool (inS a r), .int .i64 0] ∧ Ext w0 w :=
  (has_c w0 u a r ha).mono fun v w ⟨h1, h2⟩ => ⟨by rw [h1]; unfold hasV; rw [if_neg (by rw [checkE_ok ca la]; simp), if_neg (by unfold runeB; simp; omega)], h2⟩
set_option maxHeartbeats 4000000 in
theorem fcloses_c (w0 : World) (v1 : Value) (l1 : List Int) (r0 : Int) (h1 : IntsAt w0 v1 l1) :
    Ret Try.prog 3 #[v1, .int .i64 r0] w0 fun v w => v = .bool true ∧ Ext w0 w := by
  have q1 := Int.emod_nonneg r0 (b := 1200) (by decide)
  have q2 := Int.emod_lt_of_pos r0 (b := 1200) (by decide)
  obtain ⟨r, hr⟩ : ∃ r, r = r0 % 1200 := ⟨_, rfl⟩
  obtain ⟨ob, hob⟩ : ∃ ob, ob = orbitL r := ⟨_, rfl⟩
  have hol := orb_len r
  rw [← hob] at hol
  refine Ret_of Try.func3 rfl Try.ntmps3 (Nat.le_of_ble_eq_true rfl) ?_
  have E : Chg none1 w0 w0 := Chg.refl _ _
  refine Wp_seq_region ?_
  refine WpL_val rfl rfl (by decide) (r_assign (v := (.bool false)) rfl) ?_
  refine WpL_nil ?_
  refine Wp_seq ?_
  refine Wp_seq_region ?_
  refine WpL_enter rfl rfl (by decide) (r_callF (vs := [(.int .i64 107), (.int .i64 107)]) Try.func11 nm11 bd11 rfl) (span_c _ 107 107) ?_
  rintro _ w10 ⟨⟨b10, rfl, h10⟩, X10⟩
  replace E := E.ext X10
  refine WpL_enter rfl rfl (by decide) (r_callF (vs := [(.slice (some ⟨b10, 0, none⟩) 1 1)]) Try.func10 nm10 bd10 rfl) ((close_c _ _ _ h10).mono (fun v w ⟨⟨out, e, h1, h2⟩, h3⟩ => (by obtain ⟨rfl, rfl⟩ := close_k h1; exact ⟨h2, h3⟩ : SetRes w v [(75, 75), (107, 107)] 0 ∧ Ext _ w))) ?_
  rintro _ w11 ⟨⟨a11, c11, rfl, h11⟩, X11⟩
  replace E := E.ext X11
  refine WpL_val rfl rfl (by decide) (r_move (v := (.tuple #[(.slice a11 2 c11), (.int .i64 0)])) rfl) ?_
  refine WpL_val rfl rfl (by decide) (r_extract (vs := #[(.slice a11 2 c11), (.int .i64 0)]) (v := (.slice a11 2 c11)) rfl rfl) ?_
  refine WpL_val rfl rfl (by decide) (r_extract (vs := #[(.slice a11 2 c11), (.int .i64 0)]) (v := (.int .i64 0)) rfl rfl) ?_
  refine WpL_val rfl rfl (by decide) (r_assign (v := (.slice a11 2 c11)) rfl) ?_
  refine WpL_val rfl rfl (by decide) (r_assign (v := (.int .i64 0)) rfl) ?_
  refine WpL_nil ?_
  refine Wp_seq_region ?_
  refine WpL_val rfl rfl (by decide) (r_move (v := (.int .i64 0)) rfl) ?_
  refine WpL_val rfl rfl (by decide) (r_neq (k := .i64) (a := 0) (b := 0) rfl rfl) ?_
  refine WpL_val rfl rfl (by decide) (r_move (v := (.bool false)) rfl) ?_
  refine WpL_guard_yes (oj := _) rfl rfl (by decide) rfl ?_
  refine WpL_val rfl rfl (by decide) (r_move (v := (.slice a11 2 c11)) rfl) ?_
  refine WpL_guard_yes (oj := _) rfl rfl (by decide) rfl ?_
  refine WpL_val rfl rfl (by decide) (r_lenSlice (ad := a11) (n := 2) (cap := c11) Try.underlying23 rfl) ?_
  refine WpL_guard_yes (oj := _) rfl rfl (by decide) rfl ?_
  refine WpL_val rfl rfl (by decide) (r_neq (k := .i64) (a := 2) (b := 2) rfl rfl) ?_
  refine WpL_val rfl rfl (by decide) (r_pick (b := false) (v := (.bool false)) rfl rfl) ?_
  refine WpL_nil ?_
  refine Wp_cond_false rfl ?_
  refine Wp_skip ?_
  refine thn_normal ?_
  refine Wp_seq_region ?_
  refine WpL_val rfl rfl (by decide) (r_move (v := v1) rfl) ?_
  refine WpL_enter rfl rfl (by decide) (r_callF (vs := [v1]) Try.func12 nm12 bd12 rfl) (set_c _ _ l1 (h1.ext E)) ?_
  rintro _ w14 ⟨⟨x, Cx, Lx, Bx, ⟨⟨ax, cx, rfl⟩, hx⟩⟩, X14⟩
  replace E := E.ext X14
  refine WpL_val rfl rfl (by decide) (r_assign (v := (.slice ax x.length cx)) rfl) ?_
  refine WpL_nil ?_
  refine Wp_seq_region ?_
  refine WpL_val rfl rfl (by decide) (r_move (v := (.slice ax x.length cx)) rfl) ?_
  refine WpL_enter rfl rfl (by decide) (r_callF (vs := [(.slice ax x.length cx)]) Try.func10 nm10 bd10 rfl) (close_c _ _ x hx) ?_
  rintro _ w15 ⟨⟨y, e, hP, ay, cy, rfl, hy⟩, X15⟩
  replace E := E.ext X15
  replace hx := hx.ext X15
  refine WpL_val rfl rfl (by decide) (r_move (v := (.tuple #[(.slice ay y.length cy), (.int .i64 e)])) rfl) ?_
  refine WpL_val rfl rfl (by decide) (r_extract (vs := #[(.slice ay y.length cy), (.int .i64 e)]) (v := (.slice ay y.length cy)) rfl rfl) ?_
  refine WpL_val rfl rfl (by decide) (r_extract (vs := #[(.slice ay y.length cy), (.int .i64 e)]) (v := (.int .i64 e)) rfl rfl) ?_
  refine WpL_val rfl rfl (by decide) (r_assign (v := (.slice ay y.length cy)) rfl) ?_
  refine WpL_val rfl rfl (by decide) (r_assign (v := (.int .i64 e)) rfl) ?_
  refine WpL_nil ?_
  refine Wp_seq ?_
  refine Wp_seq_region ?_
  refine WpL_val rfl rfl (by decide) (r_move (v := (.int .i64 e)) rfl) ?_
  refine WpL_val rfl rfl (by decide) (r_eql (k := .i64) (a := e) (b := 2) rfl rfl) ?_
  refine WpL_nil ?_
  refine Wp_cond (b := decide ((e : Int) = 2)) rfl (fun he2 => ?_) (fun he2 => ?_)
  · have khe2 := he2
    replace he2 := of_decide_eq_true he2
    refine Wp_seq_region ?_
    refine WpL_val rfl rfl (by decide) (r_assign (v := (.bool true)) rfl) ?_
    refine WpL_nil ?_
    refine Wp_ret ?_
    refine thn_ret ?_
    refine fin_tmp Try.results3 (v := (.bool true)) rfl ?_
    exact ⟨rfl, E⟩
  · have khe2 := he2
    replace he2 := of_decide_eq_false he2
    obtain ⟨hI, hyl, he0⟩ : IsSet y (inS (closeAll x)) ∧ y.length ≤ 16 ∧ e = 0 := by rcases hP with ⟨h, _⟩ | ⟨_, j, hj, hf⟩; exact absurd (checkE_ok Cx (by omega)) h; unfold fitsP at hf; split at hf; exact absurd hf.1 he2; obtain ⟨rfl, rfl⟩ := hf; exact ⟨hj, by omega, rfl⟩
    subst he0
    refine Wp_skip ?_
    refine thn_normal ?_
    refine Wp_seq_region ?_
    refine WpL_val rfl rfl (by decide) (r_move (v := (.slice ay y.length cy)) rfl) ?_
    refine WpL_enter rfl rfl (by decide) (r_callF (vs := [(.slice ay y.length cy)]) Try.func10 nm10 bd10 rfl) (close_again _ _ x y hy Cx hI hyl) ?_
    rintro _ w16 ⟨⟨az, cz, rfl, hz⟩, X16⟩
    replace E := E.ext X16
    replace hx := hx.ext X16
    replace hy := hy.ext X16
    refine WpL_val rfl rfl (by decide) (r_move (v := (.tuple #[(.slice az y.length cz), (.int .i64 0)])) rfl) ?_
    refine WpL_val rfl rfl (by decide) (r_extract (vs := #[(.slice az y.length cz), (.int .i64 0)]) (v := (.slice az y.length cz)) rfl rfl) ?_
    refine WpL_val rfl rfl (by decide) (r_extract (vs := #[(.slice az y.length cz), (.int .i64 0)]) (v := (.int .i64 0)) rfl rfl) ?_
    refine WpL_val rfl rfl (by decide) (r_assign (v := (.slice az y.length cz)) rfl) ?_
    refine WpL_val rfl rfl (by decide) (r_assign (v := (.int .i64 0)) rfl) ?_
    refine WpL_nil ?_
    refine Wp_seq_region ?_
    refine WpL_val rfl rfl (by decide) (r_move (v := (.int .i64 r0)) rfl) ?_
    refine WpL_enter rfl rfl (by decide) (r_callF (vs := [(.int .i64 r0), (.int .i64 1200)]) Try.func13 nm13 bd13 rfl) ((below_c r0 1200 (by decide) (by decide) _).mono (fun v w h => (⟨h.1.trans (by rw [hr]), h.2⟩ : v = .int .i64 r ∧ w = _))) ?_
    rintro _ w17 ⟨rfl, rfl⟩
    have hr2 : 0 ≤ r ∧ r ≤ 1114111 := by omega
    refine WpL_val rfl rfl (by decide) (r_assign (v := (.int .i64 r)) rfl) ?_
    refine WpL_nil ?_
    refine Wp_seq_region ?_
    refine WpL_val rfl rfl (by decide) (r_move (v := (.slice ay y.length cy)) rfl) ?_
    refine WpL_val rfl rfl (by decide) (r_move (v := (.int .i64 r)) rfl) ?_
    refine WpL_enter rfl rfl (by decide) (r_callF (vs := [(.slice ay y.length cy), (.int .i64 r)]) Try.func14 nm14 bd14 rfl) (has_ok _ _ y r hy hI.1 hyl hr2) ?_
    rintro _ w18 ⟨rfl, X18⟩
    replace E := E.ext X18
    refine WpL_val rfl rfl (by decide) (r_move (v := (.tuple #[(.bool (inS y r)), (.int .i64 0)])) rfl) ?_
    refine WpL_val rfl rfl (by decide) (r_extract (vs := #[(.bool (inS y r)), (.int .i64 0)]) (v := (.bool (inS y r))) rfl rfl) ?_
    refine WpL_val rfl rfl (by decide) (r_extract (vs := #[(.bool (inS y r)), (.int .i64 0)]) (v := (.int .i64 0)) rfl rfl) ?_
    refine WpL_val rfl rfl (by decide) (r_assign (v := (.bool (inS y r))) rfl) ?_
    refine WpL_val rfl rfl (by decide) (r_assign (v := (.int .i64 0)) rfl) ?_
    refine WpL_nil ?_
    refine Wp_seq_region ?_
    refine WpL_val rfl rfl (by decide) (r_move (v := (.int .i64 r)) rfl) ?_
    refine WpL_enter rfl rfl (by decide) (r_callF (vs := [(.int .i64 r)]) Try.func15 nm15 bd15 rfl) ((Orbit_ok _ r hr2).mono (fun v w h => (by rw [← hob] at h; exact h : (∃ a c, v = .tuple #[.slice a ob.length c, .int .i64 0] ∧ IntsAt w (.slice a ob.length c) ob) ∧ Ext _ w))) ?_
    rintro _ w19 ⟨⟨ao, co, rfl, ho⟩, X19⟩
    replace E := E.ext X19
    have XA := X18.trans X19
    refine WpL_val rfl rfl (by decide) (r_move (v := (.tuple #[(.slice ao ob.length co), (.int .i64 0)])) rfl) ?_
    refine WpL_val rfl rfl (by decide) (r_extract (vs := #[(.slice ao ob.length co), (.int .i64 0)]) (v := (.slice ao ob.length co)) rfl rfl) ?_
    refine WpL_val rfl rfl (by decide) (r_extract (vs := #[(.slice ao ob.length co), (.int .i64 0)]) (v := (.int .i64 0)) rfl rfl) ?_
    refine WpL_val rfl rfl (by decide) (r_assign (v := (.slice ao ob.length co)) rfl) ?_
    refine WpL_val rfl rfl (by decide) (r_assign (v := (.int .i64 0)) rfl) ?_
    refine WpL_nil ?_
    refine Wp_seq ?_
    refine Wp_seq_region ?_
    refine WpL_val rfl rfl (by decide) (r_move (v := (.int .i64 0)) rfl) ?_
    refine WpL_val rfl rfl (by decide) (r_move (v := (.int .i64 0)) rfl) ?_
    refine WpL_val rfl rfl (by decide) (r_move (v := (.int .i64 0)) rfl) ?_
    refine WpL_val rfl rfl (by decide) (r_move (v := (.int .i64 0)) rfl) ?_
    refine s_buildSlice (ps := [(0, (.int .i64 0)), (1, (.int .i64 0)), (2, (.int .i64 0)), (3, (.int .i64 0))]) (c := #[(.int .i64 0), (.int .i64 0), (.int .i64 0), (.int .i64 0)]) (by decide) rfl Try.underlying72 siz24 zer24 (by decide) (by decide) (by kernel_rfl) ?_
    intro bq wq Nq
    have Fq := Nq.ge E
    replace E := E.ext Nq.ext
    have Bq := Nq.blk
    refine WpL_enter rfl rfl (by decide) (r_callF (vs := [(.slice (some ⟨bq, 0, none⟩) 4 4)]) Try.func16 nm16 bd16 rfl) (good_c _ _ [0, 0, 0, 0] (ints_of_blk [0, 0, 0, 0] Bq (by simp) (by simp))) ?_
    rintro _ w20 ⟨rfl, X20⟩
    replace Bq := X20.keep Bq
    replace E := E.ext X20
    have XB := XA.trans (Nq.ext.trans X20)
    refine WpL_val rfl rfl (by decide) (r_not (b := true) rfl) ?_
    refine WpL_val rfl rfl (by decide) (r_move (v := (.bool false)) rfl) ?_
    refine WpL_guard_yes (oj := _) rfl rfl (by decide) rfl ?_
    refine WpL_val rfl rfl (by decide) (r_move (v := (.slice ay y.length cy)) rfl) ?_
    refine WpL_guard_yes (oj := _) rfl rfl (by decide) rfl ?_
    refine WpL_val rfl rfl (by decide) (r_move (v := (.slice az y.length cz)) rfl) ?_
    refine WpL_guard_yes (oj := _) rfl rfl (by decide) rfl ?_
    refine WpL_enter rfl rfl (by decide) (r_callF (vs := [(.slice ay y.length cy), (.slice az y.length cz)]) Try.func17 nm17 bd17 rfl) (speq_ok _ _ _ _ _ (hy.ext XB) (hz.ext XB) rfl) ?_
    rintro _ w21 ⟨rfl, X21⟩
    replace Bq := X21.keep Bq
    replace E := E.ext X21
    have XC := (Nq.ext.trans X20).trans X21
    refine WpL_guard_yes (oj := _) rfl rfl (by decide) rfl ?_
    refine WpL_val rfl rfl (by decide) (r_not (b := true) rfl) ?_
    refine WpL_val rfl rfl (by decide) (r_pick (b := false) (v := (.bool false)) rfl rfl) ?_
    refine WpL_val rfl rfl (by decide) (r_move (v := (.bool false)) rfl) ?_
    refine WpL_guard_yes (oj := _) rfl rfl (by decide) rfl ?_
    refine WpL_val rfl rfl (by decide) (r_move (v := (.slice ao ob.length co)) rfl) ?_
    refine WpL_guard_yes (oj := _) rfl rfl (by decide) rfl ?_
    refine WpL_val rfl rfl (by decide) (r_move (v := (.int .i64 r)) rfl) ?_
    refine WpL_guard_yes (oj := _) rfl rfl (by decide) rfl ?_
    refine WpL_enter rfl rfl (by decide) (r_callF (vs := [(.slice ao ob.length co), (.int .i64 r)]) Try.func18 nm18 bd18 rfl) ((hasi_c _ _ r ob (ho.ext XC)).mono (fun v w h => (⟨h.1.trans (by rw [hob]; exact bool_eq (by simpa using orb_self hr2.1)), h.2⟩ : v = .bool true ∧ Ext _ w))) ?_
    rintro _ w22 ⟨rfl, X22⟩
    replace Bq := X22.keep Bq
    replace E := E.ext X22
    replace ho := (ho.ext XC).ext X22
    replace hx := (hx.ext (XB.trans X21)).ext X22
    have E5 : Chg none1 w22 w22 := Chg.refl _ _
    refine WpL_guard_yes (oj := _) rfl rfl (by decide) rfl ?_
    refine WpL_val rfl rfl (by decide) (r_not (b := true) rfl) ?_
    refine WpL_val rfl rfl (by decide) (r_pick (b := false) (v := (.bool false)) rfl rfl) ?_
    refine WpL_nil ?_
    refine Wp_cond_false rfl ?_
    refine Wp_skip ?_
    refine thn_normal ?_
    refine Wp_seq_region ?_
    refine WpL_val rfl rfl (by decide) (r_assign (v := (.bool false)) rfl) ?_
    refine WpL_nil ?_
    refine Wp_seq ?_
    refine Wp_seq_region ?_
    refine WpL_val rfl rfl (by decide) (r_move (v := (.slice ao ob.length co)) rfl) ?_
    refine WpL_val rfl rfl (by decide) (r_lenSlice (ad := ao) (n := ob.length) (cap := co) Try.underlying22 rfl) ?_
    refine WpL_val rfl rfl (by decide) (r_move (v := (.int .i64 0)) rfl) ?_
    refine WpL_nil ?_
    refine Wp_block ?_
    refine Wp_loop (fun nn_ σ W2 => ∃ (k : Nat) (sm : Bool), (∃ jj_, σ = upds jj_ [(7, (.slice ax x.length cx)), (12, (.bool (inS y r))), (14, (.slice ao ob.length co)), (81, (.slice ao ob.length co)), (82, (.int .i64 ((ob.length : Nat) : Int))), (83, (.int .i64 ((k : Nat) : Int))), (16, (.bool sm))]) ∧ Chg none1 w0 W2 ∧ Chg none1 w22 W2 ∧ (k ≤ ob.length) ∧ (sm = (ob.take k).any (inS x)) ∧ nn_ = ob.length - k) (n := ob.length - 0) ?_ ?_
    · exact ⟨0, false, Fits.out ⟨rfl, rfl, rfl, rfl, rfl, rfl, rfl, trivial⟩, E, E5, Nat.zero_le _, rfl, rfl⟩
    · clear E E5
      rintro _ _ W2 ⟨k, sm, ⟨j2, rfl⟩, E, E5, hk, hsm, rfl⟩
      refine Wp_seq_region ?_
      refine WpL_val rfl rfl (by decide) (r_lss (k := .i64) (a := ((k : Nat) : Int)) (b := ((ob.length : Nat) : Int)) rfl rfl) ?_
      refine WpL_nil ?_
      refine Wp_seq ?_
      refine Wp_cond (b := decide ((((k : Nat) : Int) : Int) < ((ob.length : Nat) : Int))) rfl (fun hlt => ?_) (fun hlt => ?_)
      · have khlt := hlt
        replace hlt := of_decide_eq_true hlt
        obtain ⟨c, hc⟩ := get_of_lt (l := ob) (i := k) (by omega)
        have hcm : c ∈ orbitL r := by rw [← hob]; exact List.mem_of_getElem? hc
        have hos := orb_same hr2.1 hcm
        have hc2 : 0 ≤ c ∧ c ≤ 1114111 := by rcases ltLe r 1000 with h6 | h6; have := hos.2.2.1 h6; omega; have := hos.2.2.2 h6; omega
        obtain ⟨b, o, hab, hcl⟩ := ints_cells ho (by omega)
        subst hab
        refine Wp_skip ?_
        refine thn_normal ?_
        refine Wp_seq ?_
        refine Wp_block ?_
        refine Wp_seq_region ?_
        refine WpL_val rfl rfl (by decide) (r_indexSlice (b := b) (o := o) (len := ob.length) (cap := co) (i := k) (o' := o + k) rfl rfl rfl Try.underlying22 siz3 (by omega) (by omega)) ?_
        refine WpL_val rfl rfl (by decide) (r_load (v := (.int .i64 c)) rfl flat3 (E5.cell (fun f => f) (hcl k c hc))) ?_
        refine WpL_val rfl rfl (by decide) (r_assign (v := (.int .i64 c)) rfl) ?_
        refine WpL_nil ?_
        refine Wp_seq_region ?_
        refine WpL_val rfl rfl (by decide) (r_move (v := (.slice ax x.length cx)) rfl) ?_
        refine WpL_val rfl rfl (by decide) (r_move (v := (.int .i64 c)) rfl) ?_
        refine WpL_enter rfl rfl (by decide) (r_callF (vs := [(.slice ax x.length cx), (.int .i64 c)]) Try.func14 nm14 bd14 rfl) (has_ok _ _ x c (hx.ext E5) Cx (by omega) hc2) ?_
        rintro _ w31 ⟨rfl, X31⟩
        replace E := E.ext X31
        replace E5 := E5.ext X31
        refine WpL_val rfl rfl (by decide) (r_move (v := (.tuple #[(.bool (inS x c)), (.int .i64 0)])) rfl) ?_
        refine WpL_val rfl rfl (by decide) (r_extract (vs := #[(.bool (inS x c)), (.int .i64 0)]) (v := (.bool (inS x c))) rfl rfl) ?_
        refine WpL_val rfl rfl (by decide) (r_extract (vs := #[(.bool (inS x c)), (.int .i64 0)]) (v := (.int .i64 0)) rfl rfl) ?_
        refine WpL_val rfl rfl (by decide) (r_assign (v := (.bool (inS x c))) rfl) ?_
        refine WpL_val rfl rfl (by decide) (r_assign (v := (.int .i64 0)) rfl) ?_
        refine WpL_nil ?_
        refine Wp_seq_region ?_
        refine WpL_val rfl rfl (by decide) (r_move (v := (.int .i64 c)) rfl) ?_
        refine WpL_enter rfl rfl (by decide) (r_callF (vs := [(.int .i64 c)]) Try.func15 nm15 bd15 rfl) ((Orbit_ok _ c hc2).mono (fun v w h => (by rw [hos.1, ← hob] at h; exact h : (∃ a c, v = .tuple #[.slice a ob.length c, .int .i64 0] ∧ IntsAt w (.slice a ob.length c) ob) ∧ Ext _ w))) ?_
        rintro _ w32 ⟨⟨ap, cp, rfl, hp⟩, X32⟩
        replace E := E.ext X32
        replace E5 := E5.ext X32
        refine WpL_val rfl rfl (by decide) (r_move (v := (.tuple #[(.slice ap ob.length cp), (.int .i64 0)])) rfl) ?_
        refine WpL_val rfl rfl (by decide) (r_extract (vs := #[(.slice ap ob.length cp), (.int .i64 0)]) (v := (.slice ap ob.length cp)) rfl rfl) ?_
        refine WpL_val rfl rfl (by decide) (r_extract (vs := #[(.slice ap ob.length cp), (.int .i64 0)]) (v := (.int .i64 0)) rfl rfl) ?_
        refine WpL_val rfl rfl (by decide) (r_assign (v := (.slice ap ob.length cp)) rfl) ?_
        refine WpL_val rfl rfl (by decide) (r_assign (v := (.int .i64 0)) rfl) ?_
        refine WpL_nil ?_
        refine Wp_seq ?_
        refine Wp_seq_region ?_
        refine WpL_val rfl rfl (by decide) (r_move (v := (.int .i64 0)) rfl) ?_
        refine WpL_val rfl rfl (by decide) (r_move (v := (.int .i64 0)) rfl) ?_
        refine s_buildSlice (ps := [(0, (.int .i64 0)), (1, (.int .i64 0))]) (c := #[(.int .i64 0), (.int .i64 0)]) (by decide) rfl Try.underlying72 siz24 zer24 (by decide) (by decide) (by kernel_rfl) ?_
        intro bt wt Nt
        have Ft := Nt.ge E
        have Ft_E5 := Nt.ge E5
        replace E := E.ext Nt.ext
        have Bt := Nt.blk
        replace E5 := E5.ext Nt.ext
        refine WpL_enter rfl rfl (by decide) (r_callF (vs := [(.slice (some ⟨bt, 0, none⟩) 2 2)]) Try.func16 nm16 bd16 rfl) (good_c _ _ [0, 0] (ints_of_blk [0, 0] Bt (by simp) (by simp))) ?_
        rintro _ w33 ⟨rfl, X33⟩
        replace Bt := X33.keep Bt
        replace E := E.ext X33
        replace E5 := E5.ext X33
        refine WpL_val rfl rfl (by decide) (r_not (b := true) rfl) ?_
        refine WpL_val rfl rfl (by decide) (r_move (v := (.bool false)) rfl) ?_
        refine WpL_guard_yes (oj := _) rfl rfl (by decide) rfl ?_
        refine WpL_val rfl rfl (by decide) (r_move (v := (.slice (some ⟨b, o, none⟩) ob.length co)) rfl) ?_
        refine WpL_guard_yes (oj := _) rfl rfl (by decide) rfl ?_
        refine WpL_val rfl rfl (by decide) (r_move (v := (.slice ap ob.length cp)) rfl) ?_
        refine WpL_guard_yes (oj := _) rfl rfl (by decide) rfl ?_
        refine WpL_enter rfl rfl (by decide) (r_callF (vs := [(.slice (some ⟨b, o, none⟩) ob.length co), (.slice ap ob.length cp)]) Try.func19 nm19 bd19 rfl) ((eqi_c _ _ _ ob ob (ho.ext E5) (hp.ext (Nt.ext.trans X33))).mono (fun v w h => (⟨h.1.trans (bool_eq (decide_eq_true rfl)), h.2⟩ : v = .bool true ∧ Ext _ w))) ?_
        rintro _ w34 ⟨rfl, X34⟩
        replace Bt := X34.keep Bt
        replace E := E.ext X34
        replace E5 := E5.ext X34
        refine WpL_guard_yes (oj := _) rfl rfl (by decide) rfl ?_
        refine WpL_val rfl rfl (by decide) (r_not (b := true) rfl) ?_
        refine WpL_val rfl rfl (by decide) (r_pick (b := false) (v := (.bool false)) rfl rfl) ?_
        refine WpL_nil ?_
        refine Wp_cond_false rfl ?_
        refine Wp_skip ?_
        refine thn_normal ?_
        refine Wp_region ?_
        refine WpL_val rfl rfl (by decide) (r_move (v := (.bool sm)) rfl) ?_
        refine WpL_val rfl rfl (by decide) (r_move (v := (.bool sm)) rfl) ?_
        obtain ⟨e4, he4⟩ : ∃ e, (inS x c) = e := ⟨_, rfl⟩
        refine WpL_guard_any (oj := _) (gv := (.bool sm)) (u := (bif sm then undef else (.bool e4))) rfl rfl (by decide) (by decide) rfl (by cases sm <;> first | exact Or.inr ⟨Or.inl rfl, rfl⟩ | exact Or.inr ⟨Or.inr rfl, rfl⟩ | exact Or.inl ⟨rfl, r_move (v := .bool e4) (congrArg Value.bool he4)⟩) ?_
        obtain ⟨e5, he5⟩ : ∃ e, (sm || e4) = e := ⟨_, rfl⟩
        refine WpL_val rfl rfl (by decide) (r_pick (b := sm) (v := .bool e5) rfl (by rw [← he5]; cases sm <;> rfl)) ?_
        refine WpL_val rfl rfl (by decide) (r_assign (v := (.bool e5)) rfl) ?_
        refine WpL_nil ?_
        subst he5
        subst he4
        refine inB_normal ?_
        refine thn_normal ?_
        refine Wp_region ?_
        refine WpL_val rfl rfl (by decide) (r_add (k := .i64) (a := ((k : Nat) : Int)) (b := 1) (c := ((k : Nat) : Int) + 1) rfl rfl (wI64 (by omega))) ?_
        refine WpL_val rfl rfl (by decide) (r_move (v := (.int .i64 (((k : Nat) : Int) + 1))) rfl) ?_
        refine WpL_nil ?_
        refine thn_normal ?_
        exact ⟨ob.length - (k + 1), by omega, k + 1, sm || inS x c, Fits.out ⟨rfl, rfl, rfl, rfl, rfl, rfl, rfl, trivial⟩, E, E5, (by omega), (by rw [List.take_add_one, hc, hsm]; simp [List.any_append]), rfl⟩
      · have khlt := hlt
        replace hlt := of_decide_eq_false hlt
        have hkk : k = ob.length := by omega
        refine Wp_exit ?_
        refine thn_exit ?_
        refine thn_exit ?_
        refine inB_here ?_
        refine thn_normal ?_
        refine Wp_seq_region ?_
        refine WpL_val rfl rfl (by decide) (r_move (v := (.bool (inS y r))) rfl) ?_
        refine WpL_val rfl rfl (by decide) (r_move (v := (.bool sm)) rfl) ?_
        refine WpL_val rfl rfl (by decide) (r_eqlB (p := inS y r) (q := sm) Try.underlying4 rfl rfl) ?_
        refine WpL_val rfl rfl (by decide) (r_assign (v := (.bool ((inS y r) == sm))) rfl) ?_
        refine WpL_nil ?_
        refine Wp_ret ?_
        refine fin_tmp Try.results3 (v := (.bool ((inS y r) == sm))) rfl ?_
        exact ⟨bool_eq (by rw [hsm, hkk, List.take_length, hob, hI.2 r hr2.1 hr2.2, close_orb Cx hr2.1]; simp), E⟩
end Go.Proofs
