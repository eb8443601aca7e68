/- The law FoldTells, walked. -/
import Derived.Test.YtpjamnekclkhhaaSn
import Derived.Test.YtpjamnekclkhhaaSo4
namespace Go.Proofs
open Go Go.Eng Go.Sort
set_option maxRecDepth 100000

theorem rinteq_c (w0 : World) (v1 v2 : Value) (l1 l2 : List Int) (h1 : IntsAt w0 v1 l1) (h2 : IntsAt w0 v2 l2) :
    Ret Try.prog 28 #[v1, v2] w0 fun v w => v = .bool (decide (l1 = l2)) ∧ Ext w0 w := by
  obtain ⟨a1, c1, rfl⟩ := SlAt.form h1
  obtain ⟨a2, c2, rfl⟩ := SlAt.form h2
  have hb1 : l1.length ≤ 9223372036854775807 := by simpa using SlAt.le h1
  simp only [List.length_map] at h1 h2 ⊢
  refine Ret_of Try.func28 rfl Try.ntmps28 (Nat.le_of_ble_eq_true rfl) ?_
  have E : Chg none1 w0 w0 := Chg.refl _ _
  refine Wp_seq_region ?_
  refine WpL_val rfl rfl (by decide) (r_assign (v := (.bool false)) rfl) ?_
  refine WpL_nil ?_
  refine Wp_seq ?_
  refine Wp_seq_region ?_
  refine WpL_val rfl rfl (by decide) (r_move (v := (.slice a1 l1.length c1)) rfl) ?_
  refine WpL_val rfl rfl (by decide) (r_lenSlice (ad := a1) (n := l1.length) (cap := c1) Try.underlying22 rfl) ?_
  refine WpL_val rfl rfl (by decide) (r_move (v := (.slice a2 l2.length c2)) rfl) ?_
  refine WpL_val rfl rfl (by decide) (r_lenSlice (ad := a2) (n := l2.length) (cap := c2) Try.underlying22 rfl) ?_
  refine WpL_val rfl rfl (by decide) (r_neq (k := .i64) (a := ((l1.length : Nat) : Int)) (b := ((l2.length : Nat) : Int)) rfl rfl) ?_
  refine WpL_nil ?_
  refine Wp_cond (b := decide ((((l1.length : Nat) : Int) : Int) ≠ ((l2.length : Nat) : Int))) rfl (fun hl => ?_) (fun hl => ?_)
  · have khl := hl
    replace hl := of_decide_eq_true hl
    refine Wp_seq_region ?_
    refine WpL_val rfl rfl (by decide) (r_assign (v := (.bool false)) rfl) ?_
    refine WpL_nil ?_
    refine Wp_ret ?_
    refine thn_ret ?_
    refine fin_tmp Try.results28 (v := (.bool false)) rfl ?_
    exact ⟨bool_eq (by symm; rw [decide_eq_false_iff_not]; intro h; rw [h] at hl; exact hl rfl), E⟩
  · have khl := hl
    replace hl := of_decide_eq_false hl
    refine Wp_skip ?_
    refine thn_normal ?_
    refine Wp_seq ?_
    refine Wp_seq_region ?_
    refine WpL_val rfl rfl (by decide) (r_move (v := (.slice a1 l1.length c1)) rfl) ?_
    refine WpL_val rfl rfl (by decide) (r_lenSlice (ad := a1) (n := l1.length) (cap := c1) Try.underlying22 rfl) ?_
    refine WpL_val rfl rfl (by decide) (r_move (v := (.int .i64 0)) rfl) ?_
    refine WpL_nil ?_
    refine Wp_block ?_
    refine Wp_loop (fun nn_ σ W2 => ∃ (k : Nat), (∃ jj_, σ = upds jj_ [(0, (.slice a1 l1.length c1)), (1, (.slice a2 l2.length c2)), (12, (.int .i64 ((l1.length : Nat) : Int))), (13, (.int .i64 ((k : Nat) : Int)))]) ∧ Chg none1 w0 W2 ∧ (k ≤ l1.length) ∧ (∀ (i : Nat), i < k → l1[i]? = l2[i]?) ∧ nn_ = l1.length - k) (n := l1.length - 0) ?_ ?_
    · exact ⟨0, Fits.out ⟨rfl, rfl, rfl, rfl, trivial⟩, E, Nat.zero_le _, (fun i h => absurd h (Nat.not_lt_zero _)), rfl⟩
    · clear E
      rintro _ _ W2 ⟨k, ⟨j2, rfl⟩, E, hk, heq, rfl⟩
      refine Wp_seq_region ?_
      refine WpL_val rfl rfl (by decide) (r_lss (k := .i64) (a := ((k : Nat) : Int)) (b := ((l1.length : Nat) : Int)) rfl rfl) ?_
      refine WpL_nil ?_
      refine Wp_seq ?_
      refine Wp_cond (b := decide ((((k : Nat) : Int) : Int) < ((l1.length : Nat) : Int))) rfl (fun hlt => ?_) (fun hlt => ?_)
      · have khlt := hlt
        replace hlt := of_decide_eq_true hlt
        obtain ⟨p, hp⟩ := get_of_lt (l := l1) (i := k) (by omega)
        obtain ⟨q, hq⟩ := get_of_lt (l := l2) (i := k) (by omega)
        obtain ⟨b1, o1, rfl, hc1⟩ := ints_cells h1 (by omega)
        obtain ⟨b2, o2, rfl, hc2⟩ := ints_cells h2 (by omega)
        refine Wp_skip ?_
        refine thn_normal ?_
        refine Wp_seq ?_
        refine Wp_block ?_
        refine Wp_seq_region ?_
        refine WpL_val rfl rfl (by decide) (r_move (v := (.int .i64 ((k : Nat) : Int))) rfl) ?_
        refine WpL_val rfl rfl (by decide) (r_assign (v := (.int .i64 ((k : Nat) : Int))) rfl) ?_
        refine WpL_nil ?_
        refine Wp_seq_draw 8 mixed (by kernel_rfl) ?_
        intro w4 X4 _
        replace E := E.ext X4
        refine WpT_val rfl rfl (by decide) (r_move (v := (.slice (some ⟨b1, o1, none⟩) l1.length c1)) rfl) ?_
        refine WpT_val rfl rfl (by decide) (r_move (v := (.int .i64 ((k : Nat) : Int))) rfl) ?_
        refine WpT_val rfl rfl (by decide) (r_indexSlice (b := b1) (o := o1) (len := l1.length) (cap := c1) (i := k) (o' := o1 + k) rfl rfl rfl Try.underlying22 siz3 (by omega) (by omega)) ?_
        refine WpT_val rfl rfl (by decide) (r_load (v := (.int .i64 p)) rfl flat3 (E.cell (fun f => f) (hc1 k p hp))) ?_
        refine WpT_val rfl rfl (by decide) (r_move (v := (.slice (some ⟨b2, o2, none⟩) l2.length c2)) rfl) ?_
        refine WpT_val rfl rfl (by decide) (r_move (v := (.int .i64 ((k : Nat) : Int))) rfl) ?_
        refine WpT_val rfl rfl (by decide) (r_indexSlice (b := b2) (o := o2) (len := l2.length) (cap := c2) (i := k) (o' := o2 + k) rfl rfl rfl Try.underlying22 siz3 (by omega) (by omega)) ?_
        refine WpT_val rfl rfl (by decide) (r_load (v := (.int .i64 q)) rfl flat3 (E.cell (fun f => f) (hc2 k q hq))) ?_
        refine WpT_zero ?_
        refine WpL_val rfl rfl (by decide) (r_neq (k := .i64) (a := p) (b := q) rfl rfl) ?_
        refine WpL_nil ?_
        refine Wp_cond (b := decide ((p : Int) ≠ q)) rfl (fun hpq => ?_) (fun hpq => ?_)
        · have khpq := hpq
          replace hpq := of_decide_eq_true hpq
          refine Wp_seq_region ?_
          refine WpL_val rfl rfl (by decide) (r_assign (v := (.bool false)) rfl) ?_
          refine WpL_nil ?_
          refine Wp_ret ?_
          refine inB_ret ?_
          refine thn_ret ?_
          refine thn_ret ?_
          refine inB_ret ?_
          refine thn_ret ?_
          refine fin_tmp Try.results28 (v := (.bool false)) rfl ?_
          exact ⟨bool_eq (by symm; rw [decide_eq_false_iff_not]; intro h; subst h; rw [hp] at hq; cases hq; exact hpq rfl), E⟩
        · have khpq := hpq
          replace hpq := of_decide_eq_false hpq
          have hpq2 : p = q := by omega
          refine Wp_skip ?_
          refine inB_normal ?_
          refine thn_normal ?_
          refine Wp_region ?_
          refine WpL_val rfl rfl (by decide) (r_add (k := .i64) (a := ((k : Nat) : Int)) (b := 1) (c := ((k : Nat) : Int) + 1) rfl rfl (wI64 (by omega))) ?_
          refine WpL_val rfl rfl (by decide) (r_move (v := (.int .i64 (((k : Nat) : Int) + 1))) rfl) ?_
          refine WpL_nil ?_
          refine thn_normal ?_
          exact ⟨l1.length - (k + 1), by omega, k + 1, Fits.out ⟨rfl, rfl, rfl, rfl, trivial⟩, E, (by omega), (fun i hi => by rcases Nat.lt_or_ge i k with h | h; exact heq i h; obtain rfl : i = k := (by omega); rw [hp, hq, hpq2]), rfl⟩
      · have khlt := hlt
        replace hlt := of_decide_eq_false hlt
        have hkk : k = l1.length := by omega
        refine Wp_exit ?_
        refine thn_exit ?_
        refine thn_exit ?_
        refine inB_here ?_
        refine thn_normal ?_
        refine Wp_seq_region ?_
        refine WpL_val rfl rfl (by decide) (r_assign (v := (.bool true)) rfl) ?_
        refine WpL_nil ?_
        refine Wp_ret ?_
        refine fin_tmp Try.results28 (v := (.bool true)) rfl ?_
        exact ⟨bool_eq (by symm; rw [decide_eq_true_eq]; exact get_ext (by omega) (fun i hi => heq i (by omega))), E⟩
theorem rinteq_ok (w0 : World) (v1 v2 : Value) (l : List Int) (h1 : IntsAt w0 v1 l) (h2 : IntsAt w0 v2 l) : Ret Try.prog 28 #[v1, v2] w0 fun v w => v = .bool true ∧ Ext w0 w :=
  (rinteq_c w0 v1 v2 l l h1 h2).mono fun v w ⟨h3, h4⟩ => ⟨by rw [h3]; simp, h4⟩
theorem orb963 : orbitL 963 = [931, 962, 963] := by decide
theorem key122 : keyV 122 = (90, 0) := by decide
theorem fbegun_c (w0 : World) : Ret Try.prog 26 #[] w0 fun v w => v = .bool true ∧ Ext w0 w := by
  refine Ret_of Try.func26 rfl Try.ntmps26 (Nat.le_of_ble_eq_true rfl) ?_
  have E : Chg none1 w0 w0 := Chg.refl _ _
  refine Wp_seq_region ?_
  refine WpL_val rfl rfl (by decide) (r_assign (v := (.bool false)) rfl) ?_
  refine WpL_nil ?_
  refine Wp_seq_region ?_
  refine WpL_enter rfl rfl (by decide) (r_callF (vs := [(.int .i64 963)]) Try.func15 nm15 bd15 rfl) ((Orbit_ok _ 963 (by decide)).mono (fun v w h => (by rw [orb963] at h; exact h : (∃ a c, v = .tuple #[.slice a 3 c, .int .i64 0] ∧ IntsAt w (.slice a 3 c) [931, 962, 963]) ∧ Ext _ w))) ?_
  rintro _ w1 ⟨⟨ao, co, rfl, ho⟩, X1⟩
  replace E := E.ext X1
  refine WpL_val rfl rfl (by decide) (r_move (v := (.tuple #[(.slice ao 3 co), (.int .i64 0)])) rfl) ?_
  refine WpL_val rfl rfl (by decide) (r_extract (vs := #[(.slice ao 3 co), (.int .i64 0)]) (v := (.slice ao 3 co)) rfl rfl) ?_
  refine WpL_val rfl rfl (by decide) (r_extract (vs := #[(.slice ao 3 co), (.int .i64 0)]) (v := (.int .i64 0)) rfl rfl) ?_
  refine WpL_val rfl rfl (by decide) (r_assign (v := (.slice ao 3 co)) rfl) ?_
  refine WpL_val rfl rfl (by decide) (r_assign (v := (.int .i64 0)) rfl) ?_
  refine WpL_nil ?_
  refine Wp_seq_region ?_
  refine WpL_enter rfl rfl (by decide) (r_callF (vs := [(.int .i64 122)]) Try.func25 nm25 bd25 rfl) ((key_c _ 122).mono (fun v w h => (by rw [key122] at h; exact h : v = .tuple #[.int .i64 90, .int .i64 0] ∧ Ext _ w))) ?_
  rintro _ w2 ⟨rfl, X2⟩
  replace E := E.ext X2
  refine WpL_val rfl rfl (by decide) (r_move (v := (.tuple #[(.int .i64 90), (.int .i64 0)])) rfl) ?_
  refine WpL_val rfl rfl (by decide) (r_extract (vs := #[(.int .i64 90), (.int .i64 0)]) (v := (.int .i64 90)) rfl rfl) ?_
  refine WpL_val rfl rfl (by decide) (r_extract (vs := #[(.int .i64 90), (.int .i64 0)]) (v := (.int .i64 0)) rfl rfl) ?_
  refine WpL_val rfl rfl (by decide) (r_assign (v := (.int .i64 90)) rfl) ?_
  refine WpL_val rfl rfl (by decide) (r_assign (v := (.int .i64 0)) rfl) ?_
  refine WpL_nil ?_
  refine Wp_seq_region ?_
  refine WpL_val rfl rfl (by decide) (r_move (v := (.int .i64 0)) rfl) ?_
  refine WpL_val rfl rfl (by decide) (r_eql (k := .i64) (a := 0) (b := 0) rfl rfl) ?_
  refine WpL_val rfl rfl (by decide) (r_move (v := (.bool true)) rfl) ?_
  refine WpL_guard_yes (oj := _) rfl rfl (by decide) rfl ?_
  refine WpL_val rfl rfl (by decide) (r_move (v := (.int .i64 0)) rfl) ?_
  refine WpL_guard_yes (oj := _) rfl rfl (by decide) rfl ?_
  refine WpL_val rfl rfl (by decide) (r_eql (k := .i64) (a := 0) (b := 0) rfl rfl) ?_
  refine WpL_val rfl rfl (by decide) (r_pick (b := true) (v := (.bool true)) rfl rfl) ?_
  refine WpL_val rfl rfl (by decide) (r_move (v := (.bool true)) rfl) ?_
  refine WpL_guard_yes (oj := _) rfl rfl (by decide) rfl ?_
  refine WpL_val rfl rfl (by decide) (r_move (v := (.int .i64 90)) rfl) ?_
  refine WpL_guard_yes (oj := _) rfl rfl (by decide) rfl ?_
  refine WpL_val rfl rfl (by decide) (r_eql (k := .i64) (a := 90) (b := 90) rfl rfl) ?_
  refine WpL_val rfl rfl (by decide) (r_pick (b := true) (v := (.bool true)) rfl rfl) ?_
  refine WpL_val rfl rfl (by decide) (r_move (v := (.bool true)) rfl) ?_
  refine WpL_guard_yes (oj := _) rfl rfl (by decide) rfl ?_
  refine WpL_val rfl rfl (by decide) (r_move (v := (.slice ao 3 co)) rfl) ?_
  refine WpL_guard_yes (oj := _) rfl rfl (by decide) rfl ?_
  refine s_buildSlice (ps := [(0, (.int .i64 931)), (1, (.int .i64 962)), (2, (.int .i64 963))]) (c := #[(.int .i64 931), (.int .i64 962), (.int .i64 963)]) (by decide) rfl Try.underlying22 siz3 zer3 (by decide) (by decide) (by kernel_rfl) ?_
  intro bq wq Nq
  have Fq := Nq.ge E
  replace E := E.ext Nq.ext
  have Bq := Nq.blk
  refine WpL_guard_yes (oj := _) rfl rfl (by decide) rfl ?_
  refine WpL_enter rfl rfl (by decide) (r_callF (vs := [(.slice ao 3 co), (.slice (some ⟨bq, 0, none⟩) 3 3)]) Try.func28 nm28 bd28 rfl) (rinteq_ok _ _ _ [931, 962, 963] ((ho.ext X2).ext Nq.ext) (ints_of_blk [931, 962, 963] Bq (by simp) (by simp))) ?_
  rintro _ w3 ⟨rfl, X3⟩
  replace Bq := X3.keep Bq
  replace E := E.ext X3
  refine WpL_val rfl rfl (by decide) (r_pick (b := true) (v := (.bool true)) rfl rfl) ?_
  refine WpL_val rfl rfl (by decide) (r_assign (v := (.bool true)) rfl) ?_
  refine WpL_nil ?_
  refine Wp_ret ?_
  refine fin_tmp Try.results26 (v := (.bool true)) rfl ?_
  exact ⟨rfl, E⟩
theorem closeP.uniq {a o o' : List Sp} {e e' : Int} (h : closeP a o e) (h' : closeP a o' e') : e = e' ∧ o = o' := by
  rcases h with ⟨h1, rfl, rfl⟩ | ⟨h1, j, hj, hf⟩ <;> rcases h' with ⟨h2, rfl, rfl⟩ | ⟨h2, k, hk, hg⟩
  · exact ⟨rfl, rfl⟩
  · exact absurd h2 h1
  · exact absurd h1 h2
  · obtain rfl := IsSet.eq hj hk fun _ _ _ => rfl
    exact fitsP_uniq hf hg
def stepW (w1 : Int) (l : List Int) : Int := if w1 = 0 ∧ badB l = true then 1 else w1
theorem stepW_one {w1 c : Int} {l : List Int} {i : Nat} (h : l[i]? = some c) (hw : stepW w1 (l.take i) = 0) (hc : c < 0 ∨ 1114111 < c) : stepW w1 (l.take (i + 1)) = 1 := by
  unfold stepW at hw ⊢
  have hb : runeB c = false := by unfold runeB; simp; omega
  have : badB (l.take (i + 1)) = true := by rw [take_snoc h]; unfold badB; rw [List.any_append]; simp [hb]
  rw [if_pos ⟨by split at hw; omega; exact hw, this⟩]
theorem stepW_same {w1 c : Int} {l : List Int} {i : Nat} (h : l[i]? = some c) (hc : ¬ (stepW w1 (l.take i) = 0 ∧ (c < 0 ∨ 1114111 < c))) : stepW w1 (l.take (i + 1)) = stepW w1 (l.take i) := by
  have e : badB (l.take (i + 1)) = (badB (l.take i) || !runeB c) := by rw [take_snoc h]; unfold badB; rw [List.any_append]; simp
  unfold stepW at hc ⊢
  rw [e]
  by_cases h0 : w1 = 0
  · by_cases h1 : badB (l.take i) = true
    · rw [h1]; rfl
    · simp only [h1, h0] at hc
      have hb : runeB c = true := by unfold runeB; simp at hc ⊢; omega
      simp [hb]
  · simp [h0]
theorem same_law {a b : List Int} {w1 ww : Int} {ii js : Bool} {k : Nat} (hw1 : w1 = if 1000 < a.length ∨ 1000 < b.length then 2 else 0) (hw : ww = stepW w1 (a ++ b)) (hii : ii = (decide (ww = 0) && decide (a.length = b.length)))
    (hjs : js = (ii && decide ((a.take k).map hdO = (b.take k).map hdO))) (hx : k < a.length → js = false) (hk : k ≤ a.length) : (sameV a b).2 = ww ∧ (sameV a b).1 = js := by
  have hbad : badB (a ++ b) = (badB a || badB b) := by unfold badB; rw [List.any_append]
  unfold sameV
  unfold stepW at hw
  rw [hbad] at hw
  split
  · rename_i h; rw [if_pos h] at hw1; subst hw1; simp at hw; subst hw; simp at hii; subst hii; simp at hjs; exact ⟨rfl, hjs.symm⟩
  · rename_i h; rw [if_neg h] at hw1; subst hw1
    split
    · rename_i h2; rw [h2] at hw; simp at hw; subst hw; simp at hii; subst hii; simp at hjs; exact ⟨rfl, hjs.symm⟩
    · rename_i h2; rw [if_neg (by simpa using h2)] at hw; subst hw
      refine ⟨rfl, ?_⟩
      rw [hjs, hii, Bool.eq_iff_iff]
      simp only [decide_true, Bool.true_and, Bool.and_eq_true, decide_eq_true_eq]
      constructor
      · intro h
        have hl := congrArg List.length h
        have ht := congrArg (List.take k) h
        simp only [List.length_map, List.map_take] at hl ht ⊢
        exact ⟨hl, ht⟩
      · rintro ⟨hl, ht⟩
        rcases Nat.lt_or_ge k a.length with h4 | h4
        · have := hx h4
          rw [hjs, hii] at this
          simp [hl, ht] at this
        · rw [List.take_of_length_le h4, List.take_of_length_le (by omega)] at ht
          exact ht
theorem heads_succ {a b : List Int} {k : Nat} {p q : Int} (hp : a[k]? = some p) (hq : b[k]? = some q) (h : (a.take k).map hdO = (b.take k).map hdO) : decide ((a.take (k + 1)).map hdO = (b.take (k + 1)).map hdO) = decide (hdO p = hdO q) := by
  rw [take_snoc hp, take_snoc hq, List.map_append, List.map_append, h]
  simp
set_option maxHeartbeats 4000000 in
theorem ftells_c (w0 : World) (vl va vb : Value) (l : List Sp) (r : Int) (a b : List Int) (hl : SpansAt w0 vl l) (ha : IntsAt w0 va a) (hb : IntsAt w0 vb b) (hsz : a.length + b.length ≤ 1048576) :
    Ret Try.prog 5 #[vl, .int .i64 r, va, vb] w0 fun v w => v = .bool true ∧ Ext w0 w := by
  obtain ⟨aa, ac, rfl⟩ := SlAt.form ha
  obtain ⟨ba, bc, rfl⟩ := SlAt.form hb
  simp only [List.length_map] at ha hb ⊢
  obtain ⟨ss, hss⟩ : ∃ x, x = (sameV a b).1 := ⟨_, rfl⟩
  obtain ⟨se, hse⟩ : ∃ x, x = (sameV a b).2 := ⟨_, rfl⟩
  obtain ⟨base, hbase⟩ : ∃ base, base = w0.heap.size := ⟨_, rfl⟩
  refine Ret_of Try.func5 rfl Try.ntmps5 (Nat.le_of_ble_eq_true rfl) ?_
  have E : Chg none1 w0 w0 := Chg.refl _ _
  rcases Bool.eq_false_or_eq_true ((decide (r < 0) || decide (1114111 < r))) with hz | hz
  · have khz := hz
    have hz2 : runeB r = false := by unfold runeB; simp at khz ⊢; omega
    refine Wp_seq_region ?_
    refine WpL_val rfl rfl (by decide) (r_assign (v := (.bool false)) rfl) ?_
    refine WpL_nil ?_
    refine Wp_seq_region ?_
    refine WpL_val rfl rfl (by decide) (r_move (v := (.int .i64 r)) rfl) ?_
    refine WpL_enter rfl rfl (by decide) (r_callF (vs := [(.int .i64 r)]) Try.func15 nm15 bd15 rfl) ((Orbit_c _ r).mono (fun v w h => (by have e : orbV r = ([], 1) := (by unfold orbV; rw [if_pos hz2]); rw [e] at h; exact h : (∃ a c, v = .tuple #[.slice a 0 c, .int .i64 1] ∧ IntsAt w (.slice a 0 c) []) ∧ Ext _ w))) ?_
    rintro _ w21 ⟨⟨oa, oc, rfl, ho⟩, X21⟩
    replace E := E.ext X21
    refine WpL_val rfl rfl (by decide) (r_move (v := (.tuple #[(.slice oa 0 oc), (.int .i64 1)])) rfl) ?_
    refine WpL_val rfl rfl (by decide) (r_extract (vs := #[(.slice oa 0 oc), (.int .i64 1)]) (v := (.slice oa 0 oc)) rfl rfl) ?_
    refine WpL_val rfl rfl (by decide) (r_extract (vs := #[(.slice oa 0 oc), (.int .i64 1)]) (v := (.int .i64 1)) rfl rfl) ?_
    refine WpL_val rfl rfl (by decide) (r_assign (v := (.slice oa 0 oc)) rfl) ?_
    refine WpL_val rfl rfl (by decide) (r_assign (v := (.int .i64 1)) rfl) ?_
    refine WpL_nil ?_
    refine Wp_seq_region ?_
    refine WpL_val rfl rfl (by decide) (r_move (v := (.int .i64 r)) rfl) ?_
    refine WpL_enter rfl rfl (by decide) (r_callF (vs := [(.int .i64 r)]) Try.func25 nm25 bd25 rfl) ((key_c _ r).mono (fun v w h => (by have e : keyV r = (0, 1) := (by unfold keyV; rw [if_pos hz2]); rw [e] at h; exact h : v = .tuple #[.int .i64 0, .int .i64 1] ∧ Ext _ w))) ?_
    rintro _ w22 ⟨rfl, X22⟩
    replace E := E.ext X22
    refine WpL_val rfl rfl (by decide) (r_move (v := (.tuple #[(.int .i64 0), (.int .i64 1)])) rfl) ?_
    refine WpL_val rfl rfl (by decide) (r_extract (vs := #[(.int .i64 0), (.int .i64 1)]) (v := (.int .i64 0)) rfl rfl) ?_
    refine WpL_val rfl rfl (by decide) (r_extract (vs := #[(.int .i64 0), (.int .i64 1)]) (v := (.int .i64 1)) rfl rfl) ?_
    refine WpL_val rfl rfl (by decide) (r_assign (v := (.int .i64 0)) rfl) ?_
    refine WpL_val rfl rfl (by decide) (r_assign (v := (.int .i64 1)) rfl) ?_
    refine WpL_nil ?_
    refine Wp_seq ?_
    refine Wp_seq_region ?_
    refine WpL_enter rfl rfl (by decide) (r_callF (vs := []) Try.func26 nm26 bd26 rfl) (fbegun_c _) ?_
    rintro _ w23 ⟨rfl, X23⟩
    replace E := E.ext X23
    refine WpL_val rfl rfl (by decide) (r_not (b := true) rfl) ?_
    refine WpL_nil ?_
    refine Wp_cond_false rfl ?_
    refine Wp_skip ?_
    refine thn_normal ?_
    refine Wp_seq ?_
    refine Wp_seq_region ?_
    refine WpL_val rfl rfl (by decide) (r_move (v := (.int .i64 r)) rfl) ?_
    obtain ⟨e1, he1⟩ : ∃ e, (decide ((r : Int) < 0)) = e := ⟨_, rfl⟩
    refine WpL_val rfl rfl (by decide) ((r_lss (k := .i64) (a := r) (b := 0) rfl rfl).trans (by rw [he1]; try rfl)) ?_
    refine WpL_val rfl rfl (by decide) (r_move (v := (.bool e1)) rfl) ?_
    refine WpL_guard_any (oj := _) (gv := (.bool e1)) (u := (bif e1 then undef else (.int .i64 r))) rfl rfl (by decide) (by decide) rfl (by cases e1 <;> first | exact Or.inr ⟨Or.inl rfl, rfl⟩ | exact Or.inr ⟨Or.inr rfl, rfl⟩ | exact Or.inl ⟨rfl, r_move (v := (.int .i64 r)) rfl⟩) ?_
    obtain ⟨e2, he2⟩ : ∃ e, (decide ((1114111 : Int) < r)) = e := ⟨_, rfl⟩
    refine WpL_guard_any (oj := _) (gv := (.bool e1)) (u := (bif e1 then undef else (.bool e2))) rfl rfl (by decide) (by decide) rfl (by cases e1 <;> first | exact Or.inr ⟨Or.inl rfl, rfl⟩ | exact Or.inr ⟨Or.inr rfl, rfl⟩ | exact Or.inl ⟨rfl, (r_gtr (k := .i64) (a := r) (b := 1114111) rfl rfl).trans (by rw [he2]; try rfl)⟩) ?_
    obtain ⟨e3, he3⟩ : ∃ e, (e1 || e2) = e := ⟨_, rfl⟩
    refine WpL_val rfl rfl (by decide) (r_pick (b := e1) (v := .bool e3) rfl (by rw [← he3]; cases e1 <;> rfl)) ?_
    refine WpL_nil ?_
    subst he3
    subst he2
    subst he1
    have hc4 : (((decide ((r : Int) < 0)) || (decide ((1114111 : Int) < r)))) = true := khz
    refine Wp_cond_true (congrArg Value.bool hc4) ?_
    refine Wp_seq_region ?_
    refine WpL_val rfl rfl (by decide) (r_move (v := (.int .i64 1)) rfl) ?_
    refine WpL_val rfl rfl (by decide) (r_neq (k := .i64) (a := 1) (b := 1) rfl rfl) ?_
    refine WpL_val rfl rfl (by decide) (r_move (v := (.bool false)) rfl) ?_
    refine WpL_guard_yes (oj := _) rfl rfl (by decide) rfl ?_
    refine WpL_val rfl rfl (by decide) (r_move (v := (.int .i64 1)) rfl) ?_
    refine WpL_guard_yes (oj := _) rfl rfl (by decide) rfl ?_
    refine WpL_val rfl rfl (by decide) (r_neq (k := .i64) (a := 1) (b := 1) rfl rfl) ?_
    refine WpL_val rfl rfl (by decide) (r_pick (b := false) (v := (.bool false)) rfl rfl) ?_
    refine WpL_val rfl rfl (by decide) (r_move (v := (.bool false)) rfl) ?_
    refine WpL_guard_yes (oj := _) rfl rfl (by decide) rfl ?_
    refine WpL_val rfl rfl (by decide) (r_move (v := (.slice oa 0 oc)) rfl) ?_
    refine WpL_guard_yes (oj := _) rfl rfl (by decide) rfl ?_
    refine WpL_val rfl rfl (by decide) (r_lenSlice (ad := oa) (n := 0) (cap := oc) Try.underlying22 rfl) ?_
    refine WpL_guard_yes (oj := _) rfl rfl (by decide) rfl ?_
    refine WpL_val rfl rfl (by decide) (r_gtr (k := .i64) (a := 0) (b := 0) rfl rfl) ?_
    refine WpL_val rfl rfl (by decide) (r_pick (b := false) (v := (.bool false)) rfl rfl) ?_
    refine WpL_val rfl rfl (by decide) (r_move (v := (.bool false)) rfl) ?_
    refine WpL_guard_yes (oj := _) rfl rfl (by decide) rfl ?_
    refine WpL_val rfl rfl (by decide) (r_move (v := (.int .i64 0)) rfl) ?_
    refine WpL_guard_yes (oj := _) rfl rfl (by decide) rfl ?_
    refine WpL_val rfl rfl (by decide) (r_neq (k := .i64) (a := 0) (b := 0) rfl rfl) ?_
    refine WpL_val rfl rfl (by decide) (r_pick (b := false) (v := (.bool false)) rfl rfl) ?_
    refine WpL_nil ?_
    refine Wp_cond_false rfl ?_
    refine Wp_skip ?_
    refine thn_normal ?_
    refine Wp_seq_region ?_
    refine WpL_val rfl rfl (by decide) (r_move (v := vl) rfl) ?_
    refine WpL_enter rfl rfl (by decide) (r_callF (vs := [vl]) Try.func10 nm10 bd10 rfl) (close_c _ _ l (hl.ext E)) ?_
    rintro _ w31 ⟨⟨o1, e1, p1, xa1, xc1, rfl, hx1⟩, X31⟩
    replace E := E.ext X31
    refine WpL_val rfl rfl (by decide) (r_move (v := (.tuple #[(.slice xa1 o1.length xc1), (.int .i64 e1)])) rfl) ?_
    refine WpL_val rfl rfl (by decide) (r_extract (vs := #[(.slice xa1 o1.length xc1), (.int .i64 e1)]) (v := (.slice xa1 o1.length xc1)) rfl rfl) ?_
    refine WpL_val rfl rfl (by decide) (r_extract (vs := #[(.slice xa1 o1.length xc1), (.int .i64 e1)]) (v := (.int .i64 e1)) rfl rfl) ?_
    refine WpL_val rfl rfl (by decide) (r_assign (v := (.slice xa1 o1.length xc1)) rfl) ?_
    refine WpL_val rfl rfl (by decide) (r_assign (v := (.int .i64 e1)) rfl) ?_
    refine WpL_nil ?_
    refine Wp_seq_region ?_
    refine WpL_val rfl rfl (by decide) (r_move (v := vl) rfl) ?_
    refine WpL_enter rfl rfl (by decide) (r_callF (vs := [vl]) Try.func29 nm29 bd29 rfl) ((rclose_c _ _ l (hl.ext E)).mono (fun v w h => (by obtain ⟨⟨o2, e2, p2, h2⟩, h3⟩ := h; obtain ⟨rfl, rfl⟩ := p1.uniq p2; exact ⟨h2, h3⟩ : SetRes w v o1 e1 ∧ Ext _ w))) ?_
    rintro _ w32 ⟨⟨xa2, xc2, rfl, hx2⟩, X32⟩
    replace E := E.ext X32
    have hk2 : decide ((e1 : Int) ≠ e1) = false := by simp
    refine WpL_val rfl rfl (by decide) (r_move (v := (.tuple #[(.slice xa2 o1.length xc2), (.int .i64 e1)])) rfl) ?_
    refine WpL_val rfl rfl (by decide) (r_extract (vs := #[(.slice xa2 o1.length xc2), (.int .i64 e1)]) (v := (.slice xa2 o1.length xc2)) rfl rfl) ?_
    refine WpL_val rfl rfl (by decide) (r_extract (vs := #[(.slice xa2 o1.length xc2), (.int .i64 e1)]) (v := (.int .i64 e1)) rfl rfl) ?_
    refine WpL_val rfl rfl (by decide) (r_assign (v := (.slice xa2 o1.length xc2)) rfl) ?_
    refine WpL_val rfl rfl (by decide) (r_assign (v := (.int .i64 e1)) rfl) ?_
    refine WpL_nil ?_
    refine Wp_seq ?_
    refine Wp_seq_region ?_
    refine WpL_val rfl rfl (by decide) (r_move (v := (.int .i64 e1)) rfl) ?_
    refine WpL_val rfl rfl (by decide) (r_move (v := (.int .i64 e1)) rfl) ?_
    refine WpL_val rfl rfl (by decide) (r_neq (k := .i64) (a := e1) (b := e1) rfl rfl) ?_
    refine WpL_val rfl rfl (by decide) (r_move (v := (.bool (decide ((e1 : Int) ≠ e1)))) rfl) ?_
    refine WpL_guard_yes (oj := _) rfl rfl (by decide) (congrArg Value.bool hk2) ?_
    refine WpL_val rfl rfl (by decide) (r_move (v := (.slice xa1 o1.length xc1)) rfl) ?_
    refine WpL_guard_yes (oj := _) rfl rfl (by decide) (congrArg Value.bool hk2) ?_
    refine WpL_val rfl rfl (by decide) (r_move (v := (.slice xa2 o1.length xc2)) rfl) ?_
    refine WpL_guard_yes (oj := _) rfl rfl (by decide) (congrArg Value.bool hk2) ?_
    refine WpL_enter rfl rfl (by decide) (r_callF (vs := [(.slice xa1 o1.length xc1), (.slice xa2 o1.length xc2)]) Try.func30 nm30 bd30 rfl) (req_ok _ _ _ o1 (hx1.ext X32) hx2) ?_
    rintro _ w33 ⟨rfl, X33⟩
    replace E := E.ext X33
    refine WpL_guard_yes (oj := _) rfl rfl (by decide) (congrArg Value.bool hk2) ?_
    refine WpL_val rfl rfl (by decide) (r_not (b := true) rfl) ?_
    refine WpL_val rfl rfl (by decide) (r_pick (b := decide ((e1 : Int) ≠ e1)) (v := (.bool false)) rfl (by rw [hk2]; rfl)) ?_
    refine WpL_nil ?_
    refine Wp_cond_false rfl ?_
    refine Wp_skip ?_
    refine thn_normal ?_
    refine Wp_seq_region ?_
    refine WpL_val rfl rfl (by decide) (r_move (v := (.slice aa a.length ac)) rfl) ?_
    refine WpL_val rfl rfl (by decide) (r_move (v := (.slice ba b.length bc)) rfl) ?_
    refine WpL_enter rfl rfl (by decide) (r_callF (vs := [(.slice aa a.length ac), (.slice ba b.length bc)]) Try.func31 nm31 bd31 rfl) ((same_c' _ _ _ a b (ha.ext E) (hb.ext E)).mono (fun v w h => (by rw [← hss, ← hse] at h; exact h : v = .tuple #[.bool ss, .int .i64 se] ∧ Ext _ w))) ?_
    rintro _ w34 ⟨rfl, X34⟩
    replace E := E.ext X34
    refine WpL_val rfl rfl (by decide) (r_move (v := (.tuple #[(.bool ss), (.int .i64 se)])) rfl) ?_
    refine WpL_val rfl rfl (by decide) (r_extract (vs := #[(.bool ss), (.int .i64 se)]) (v := (.bool ss)) rfl rfl) ?_
    refine WpL_val rfl rfl (by decide) (r_extract (vs := #[(.bool ss), (.int .i64 se)]) (v := (.int .i64 se)) rfl rfl) ?_
    refine WpL_val rfl rfl (by decide) (r_assign (v := (.bool ss)) rfl) ?_
    refine WpL_val rfl rfl (by decide) (r_assign (v := (.int .i64 se)) rfl) ?_
    refine WpL_nil ?_
    refine Wp_seq_region ?_
    refine WpL_val rfl rfl (by decide) (r_assign (v := (.int .i64 0)) rfl) ?_
    refine WpL_nil ?_
    refine Wp_seq ?_
    refine Wp_seq_region ?_
    refine WpL_val rfl rfl (by decide) (r_move (v := (.slice aa a.length ac)) rfl) ?_
    refine WpL_val rfl rfl (by decide) (r_lenSlice (ad := aa) (n := a.length) (cap := ac) Try.underlying22 rfl) ?_
    obtain ⟨e5, he5⟩ : ∃ e, (decide ((1000 : Int) < ((a.length : Nat) : Int))) = e := ⟨_, rfl⟩
    refine WpL_val rfl rfl (by decide) ((r_gtr (k := .i64) (a := ((a.length : Nat) : Int)) (b := 1000) rfl rfl).trans (by rw [he5]; try rfl)) ?_
    refine WpL_val rfl rfl (by decide) (r_move (v := (.bool e5)) rfl) ?_
    refine WpL_guard_any (oj := _) (gv := (.bool e5)) (u := (bif e5 then undef else (.slice ba b.length bc))) rfl rfl (by decide) (by decide) rfl (by cases e5 <;> first | exact Or.inr ⟨Or.inl rfl, rfl⟩ | exact Or.inr ⟨Or.inr rfl, rfl⟩ | exact Or.inl ⟨rfl, r_move (v := (.slice ba b.length bc)) rfl⟩) ?_
    refine WpL_guard_any (oj := _) (gv := (.bool e5)) (u := (bif e5 then undef else (.int .i64 ((b.length : Nat) : Int)))) rfl rfl (by decide) (by decide) rfl (by cases e5 <;> first | exact Or.inr ⟨Or.inl rfl, rfl⟩ | exact Or.inr ⟨Or.inr rfl, rfl⟩ | exact Or.inl ⟨rfl, r_lenSlice (ad := ba) (n := b.length) (cap := bc) Try.underlying22 rfl⟩) ?_
    obtain ⟨e6, he6⟩ : ∃ e, (decide ((1000 : Int) < ((b.length : Nat) : Int))) = e := ⟨_, rfl⟩
    refine WpL_guard_any (oj := _) (gv := (.bool e5)) (u := (bif e5 then undef else (.bool e6))) rfl rfl (by decide) (by decide) rfl (by cases e5 <;> first | exact Or.inr ⟨Or.inl rfl, rfl⟩ | exact Or.inr ⟨Or.inr rfl, rfl⟩ | exact Or.inl ⟨rfl, (r_gtr (k := .i64) (a := ((b.length : Nat) : Int)) (b := 1000) rfl rfl).trans (by rw [he6]; try rfl)⟩) ?_
    obtain ⟨e7, he7⟩ : ∃ e, (e5 || e6) = e := ⟨_, rfl⟩
    refine WpL_val rfl rfl (by decide) (r_pick (b := e5) (v := .bool e7) rfl (by rw [← he7]; cases e5 <;> rfl)) ?_
    refine WpL_nil ?_
    subst he7
    subst he6
    subst he5
    refine Wp_cond (b := ((decide ((1000 : Int) < ((a.length : Nat) : Int))) || (decide ((1000 : Int) < ((b.length : Nat) : Int))))) rfl (fun hbig => ?_) (fun hbig => ?_)
    · have khbig := hbig
      have hw1 : (2 : Int) = if 1000 < a.length ∨ 1000 < b.length then 2 else 0 := by rw [if_pos (by simp at hbig; omega)]
      refine Wp_region ?_
      refine WpL_val rfl rfl (by decide) (r_assign (v := (.int .i64 2)) rfl) ?_
      refine WpL_nil ?_
      refine thn_normal ?_
      refine Wp_seq_region ?_
      refine WpL_val rfl rfl (by decide) (r_move (v := (.int .i64 2)) rfl) ?_
      refine WpL_val rfl rfl (by decide) (r_eql (k := .i64) (a := 2) (b := 0) rfl rfl) ?_
      refine WpL_val rfl rfl (by decide) (r_move (v := (.bool false)) rfl) ?_
      refine WpL_guard_no (oj := _) rfl rfl (by decide) (v := .bool false) rfl (Or.inl rfl) ?_
      refine WpL_guard_no (oj := _) rfl rfl (by decide) (v := .bool false) rfl (Or.inl rfl) ?_
      refine WpL_guard_no (oj := _) rfl rfl (by decide) (v := .bool false) rfl (Or.inl rfl) ?_
      refine WpL_guard_no (oj := _) rfl rfl (by decide) (v := .bool false) rfl (Or.inl rfl) ?_
      refine WpL_guard_no (oj := _) rfl rfl (by decide) (v := .bool false) rfl (Or.inl rfl) ?_
      refine WpL_val rfl rfl (by decide) (r_pick (b := false) (v := (.bool false)) rfl rfl) ?_
      refine WpL_val rfl rfl (by decide) (r_assign (v := (.bool false)) rfl) ?_
      refine WpL_nil ?_
      refine Wp_seq ?_
      refine Wp_seq_region ?_
      refine s_build0 (by decide) Try.underlying22 siz3 ?_
      intro bq wq Nq
      have Fq := Nq.ge E
      replace E := E.ext Nq.ext
      have Bq := Nq.blk
      refine WpL_val rfl rfl (by decide) (r_move (v := (.slice aa a.length ac)) rfl) ?_
      have hown0 := own_empty (base := base) (size := 1) Bq (by have := E.size; omega)
      refine s_appendAny (base := base) (n := 0) (m := a.length) (xs := []) (news := (a.map (Value.int .i64))) (size := 1) (bytes := 8) (v := (.slice (some ⟨bq, 0, none⟩) 0 0)) (by decide) Try.underlying22 siz3 byt3 zer3 rfl (by decide) rfl hown0 rfl (by simp) (ints_any (ha.ext E)) (by simp [Value.oneCell']) (by unfold maxLen; omega) (by omega) (by have := E.size; omega) ?_
      intro v8 w8 Ov8 Cv8 Dv8
      replace E := E.step Cv8 (fun x hx h => absurd (hown0.lt x h).1 (by omega))
      obtain ⟨xa, xc, rfl⟩ := own_form Ov8
      refine WpL_val rfl rfl (by decide) (r_move (v := (.slice ba b.length bc)) rfl) ?_
      refine s_appendAny (base := base) (n := 0 + a.length) (m := b.length) (xs := ([] ++ a.map (Value.int .i64))) (news := (b.map (Value.int .i64))) (size := 1) (bytes := 8) (v := (.slice xa (0 + a.length) xc)) (by decide) Try.underlying22 siz3 byt3 zer3 rfl (by decide) rfl Ov8 rfl (by simp) (ints_any (hb.ext E)) (by simp [Value.oneCell']) (by unfold maxLen; omega) (by omega) (by have := E.size; omega) ?_
      intro v9 w9 Ov9 Cv9 Dv9
      replace E := E.step Cv9 (fun x hx h => absurd (Ov8.lt x h).1 (by omega))
      obtain ⟨ya, yc, rfl⟩ := own_form Ov9
      have hO : w9.ownsRow base TInt 1 (.slice ya (0 + a.length + b.length) yc) (0 + a.length + b.length) ((a ++ b).map (Value.int .i64)) := by simpa using Ov9
      have hab : IntsAt w9 (.slice ya (0 + a.length + b.length) yc) (a ++ b) := by have h9 : OwnI w9 base (.slice ya (0 + a.length + b.length) yc) (a ++ b) := ⟨⟨ya, yc, by simp⟩, by rw [show (a ++ b).length = 0 + a.length + b.length by simp]; exact hO⟩; exact h9.at
      have hbl : (a ++ b).length = 0 + a.length + b.length := by simp
      have E5 : Chg none1 w9 w9 := Chg.refl _ _
      refine WpL_val rfl rfl (by decide) (r_lenSlice (ad := ya) (n := (0 + a.length + b.length)) (cap := yc) Try.underlying22 rfl) ?_
      refine WpL_val rfl rfl (by decide) (r_move (v := (.int .i64 0)) rfl) ?_
      refine WpL_nil ?_
      refine Wp_block ?_
      refine Wp_loop (fun nn_ σ W9 => ∃ (i : Nat) (ww : Int) (ii : Bool), (∃ jj_, σ = upds jj_ [(2, (.slice aa a.length ac)), (3, (.slice ba b.length bc)), (10, (.int .i64 se)), (16, (.bool ss)), (122, (.slice ya (0 + a.length + b.length) yc)), (123, (.int .i64 (((0 + a.length + b.length) : Nat) : Int))), (124, (.int .i64 ((i : Nat) : Int))), (17, (.int .i64 ww)), (18, (.bool ii))]) ∧ Chg none1 w0 W9 ∧ Chg none1 w9 W9 ∧ (i ≤ (a ++ b).length) ∧ (ww = stepW 2 ((a ++ b).take i)) ∧ (ii = (decide (ww = 0) && decide (a.length = b.length))) ∧ nn_ = (a ++ b).length - i) (n := (a ++ b).length - 0) ?_ ?_
      · exact ⟨0, 2, false, Fits.out ⟨rfl, rfl, rfl, rfl, rfl, rfl, rfl, rfl, rfl, trivial⟩, E, E5, Nat.zero_le _, (by simp [stepW, badB]), (by simp <;> omega), rfl⟩
      · clear E E5
        rintro _ _ W9 ⟨i, ww, ii, ⟨j9, rfl⟩, E, E5, hi, hww, hii, rfl⟩
        refine Wp_seq_region ?_
        refine WpL_val rfl rfl (by decide) (r_lss (k := .i64) (a := ((i : Nat) : Int)) (b := (((0 + a.length + b.length) : Nat) : Int)) rfl rfl) ?_
        refine WpL_nil ?_
        refine Wp_seq ?_
        refine Wp_cond (b := decide ((((i : Nat) : Int) : Int) < (((0 + a.length + b.length) : Nat) : Int))) rfl (fun hlt => ?_) (fun hlt => ?_)
        · have khlt := hlt
          replace hlt := of_decide_eq_true hlt
          obtain ⟨c, hc⟩ := get_of_lt (l := a ++ b) (i := i) (by omega)
          obtain ⟨bc1, oc1, rfl, hcl⟩ := ints_cells hab (by omega)
          refine Wp_skip ?_
          refine thn_normal ?_
          refine Wp_seq ?_
          refine Wp_block ?_
          refine Wp_seq_region ?_
          refine WpL_val rfl rfl (by decide) (r_indexSlice (b := bc1) (o := oc1) (len := (0 + a.length + b.length)) (cap := yc) (i := i) (o' := oc1 + i) rfl rfl rfl Try.underlying22 siz3 (by omega) (by omega)) ?_
          refine WpL_val rfl rfl (by decide) (r_load (v := (.int .i64 c)) rfl flat3 (E5.cell (fun f => f) (hcl i c hc))) ?_
          refine WpL_val rfl rfl (by decide) (r_assign (v := (.int .i64 c)) rfl) ?_
          refine WpL_nil ?_
          refine Wp_seq_region ?_
          refine WpL_val rfl rfl (by decide) (r_move (v := (.int .i64 ww)) rfl) ?_
          obtain ⟨e11, he11⟩ : ∃ e, (decide ((ww : Int) = 0)) = e := ⟨_, rfl⟩
          refine WpL_val rfl rfl (by decide) ((r_eql (k := .i64) (a := ww) (b := 0) rfl rfl).trans (by rw [he11]; try rfl)) ?_
          refine WpL_val rfl rfl (by decide) (r_move (v := (.bool e11)) rfl) ?_
          refine WpL_guard_any (oj := _) (gv := (.bool e11)) (u := (bif e11 then (.int .i64 c) else undef)) rfl rfl (by decide) (by decide) rfl (by cases e11 <;> first | exact Or.inr ⟨Or.inl rfl, rfl⟩ | exact Or.inr ⟨Or.inr rfl, rfl⟩ | exact Or.inl ⟨rfl, r_move (v := (.int .i64 c)) rfl⟩) ?_
          obtain ⟨e12, he12⟩ : ∃ e, (decide ((c : Int) < 0)) = e := ⟨_, rfl⟩
          refine WpL_guard_any (oj := _) (gv := (.bool e11)) (u := (bif e11 then (.bool e12) else undef)) rfl rfl (by decide) (by decide) rfl (by cases e11 <;> first | exact Or.inr ⟨Or.inl rfl, rfl⟩ | exact Or.inr ⟨Or.inr rfl, rfl⟩ | exact Or.inl ⟨rfl, (r_lss (k := .i64) (a := c) (b := 0) rfl rfl).trans (by rw [he12]; try rfl)⟩) ?_
          refine WpL_guard_any (oj := _) (gv := (.bool e11)) (u := (bif e11 then (.bool e12) else undef)) rfl rfl (by decide) (by decide) rfl (by cases e11 <;> first | exact Or.inr ⟨Or.inl rfl, rfl⟩ | exact Or.inr ⟨Or.inr rfl, rfl⟩ | exact Or.inl ⟨rfl, r_move (v := (.bool e12)) rfl⟩) ?_
          refine WpL_guard_any (oj := _) (gv := (bif e11 then (.bool e12) else undef)) (u := (bif e11 then (bif e12 then undef else (.int .i64 c)) else undef)) rfl rfl (by decide) (by decide) rfl (by cases e11 <;> cases e12 <;> first | exact Or.inr ⟨Or.inl rfl, rfl⟩ | exact Or.inr ⟨Or.inr rfl, rfl⟩ | exact Or.inl ⟨rfl, r_move (v := (.int .i64 c)) rfl⟩) ?_
          obtain ⟨e13, he13⟩ : ∃ e, (decide ((1114111 : Int) < c)) = e := ⟨_, rfl⟩
          refine WpL_guard_any (oj := _) (gv := (bif e11 then (.bool e12) else undef)) (u := (bif e11 then (bif e12 then undef else (.bool e13)) else undef)) rfl rfl (by decide) (by decide) rfl (by cases e11 <;> cases e12 <;> first | exact Or.inr ⟨Or.inl rfl, rfl⟩ | exact Or.inr ⟨Or.inr rfl, rfl⟩ | exact Or.inl ⟨rfl, (r_gtr (k := .i64) (a := c) (b := 1114111) rfl rfl).trans (by rw [he13]; try rfl)⟩) ?_
          obtain ⟨e14, he14⟩ : ∃ e, (e12 || e13) = e := ⟨_, rfl⟩
          refine WpL_guard_any (oj := _) (gv := (.bool e11)) (u := (bif e11 then (.bool e14) else undef)) rfl rfl (by decide) (by decide) rfl (by cases e11 <;> first | exact Or.inr ⟨Or.inl rfl, rfl⟩ | exact Or.inr ⟨Or.inr rfl, rfl⟩ | exact Or.inl ⟨rfl, r_pick (b := e12) (v := .bool e14) rfl (by rw [← he14]; cases e12 <;> rfl)⟩) ?_
          obtain ⟨e15, he15⟩ : ∃ e, (e11 && e14) = e := ⟨_, rfl⟩
          refine WpL_val rfl rfl (by decide) (r_pick (b := e11) (v := .bool e15) rfl (by rw [← he15]; cases e11 <;> rfl)) ?_
          refine WpL_nil ?_
          subst he15
          subst he14
          subst he13
          subst he12
          subst he11
          refine Wp_cond (b := ((decide ((ww : Int) = 0)) && ((decide ((c : Int) < 0)) || (decide ((1114111 : Int) < c))))) rfl (fun hcc => ?_) (fun hcc => ?_)
          · have khcc := hcc
            have hcc2 : ww = 0 ∧ (c < 0 ∨ 1114111 < c) := by simpa using hcc
            refine Wp_region ?_
            refine WpL_val rfl rfl (by decide) (r_assign (v := (.int .i64 1)) rfl) ?_
            refine WpL_val rfl rfl (by decide) (r_assign (v := (.bool false)) rfl) ?_
            refine WpL_nil ?_
            refine inB_normal ?_
            refine thn_normal ?_
            refine Wp_region ?_
            refine WpL_val rfl rfl (by decide) (r_add (k := .i64) (a := ((i : Nat) : Int)) (b := 1) (c := ((i : Nat) : Int) + 1) rfl rfl (wI64 (by omega))) ?_
            refine WpL_val rfl rfl (by decide) (r_move (v := (.int .i64 (((i : Nat) : Int) + 1))) rfl) ?_
            refine WpL_nil ?_
            refine thn_normal ?_
            exact ⟨(a ++ b).length - (i + 1), by omega, i + 1, 1, false, Fits.out ⟨rfl, rfl, rfl, rfl, rfl, rfl, rfl, rfl, rfl, trivial⟩, E, E5, (by omega), (stepW_one hc (by omega) hcc2.2).symm, rfl, rfl⟩
          · have khcc := hcc
            have hcc2 : ¬ (ww = 0 ∧ (c < 0 ∨ 1114111 < c)) := by simpa using hcc
            refine Wp_skip ?_
            refine inB_normal ?_
            refine thn_normal ?_
            refine Wp_region ?_
            refine WpL_val rfl rfl (by decide) (r_add (k := .i64) (a := ((i : Nat) : Int)) (b := 1) (c := ((i : Nat) : Int) + 1) rfl rfl (wI64 (by omega))) ?_
            refine WpL_val rfl rfl (by decide) (r_move (v := (.int .i64 (((i : Nat) : Int) + 1))) rfl) ?_
            refine WpL_nil ?_
            refine thn_normal ?_
            exact ⟨(a ++ b).length - (i + 1), by omega, i + 1, ww, ii, Fits.out ⟨rfl, rfl, rfl, rfl, rfl, rfl, rfl, rfl, rfl, trivial⟩, E, E5, (by omega), (by rw [hww] at hcc2; rw [stepW_same hc hcc2, hww]), hii, rfl⟩
        · have khlt := hlt
          replace hlt := of_decide_eq_false hlt
          have hie : i = (a ++ b).length := by omega
          rw [hie, List.take_length] at hww
          refine Wp_exit ?_
          refine thn_exit ?_
          refine thn_exit ?_
          refine inB_here ?_
          refine thn_normal ?_
          refine Wp_seq ?_
          refine Wp_seq_region ?_
          refine WpL_val rfl rfl (by decide) (r_assign (v := (.int .i64 0)) rfl) ?_
          refine WpL_nil ?_
          refine Wp_block ?_
          refine Wp_loop (fun nn_ σ W17 => ∃ (k : Nat) (js : Bool), (∃ jj_, σ = upds jj_ [(2, (.slice aa a.length ac)), (3, (.slice ba b.length bc)), (10, (.int .i64 se)), (16, (.bool ss)), (17, (.int .i64 ww)), (21, (.int .i64 ((k : Nat) : Int))), (18, (.bool js))]) ∧ Chg none1 w0 W17 ∧ Chg none1 w9 W17 ∧ (k ≤ a.length) ∧ (js = (ii && decide ((a.take k).map hdO = (b.take k).map hdO))) ∧ nn_ = a.length - k) (n := a.length - 0) ?_ ?_
          · exact ⟨0, ii, Fits.out ⟨rfl, rfl, rfl, rfl, rfl, rfl, rfl, trivial⟩, E, E5, Nat.zero_le _, (by simp), rfl⟩
          · clear E E5
            rintro _ _ W17 ⟨k, js, ⟨j17, rfl⟩, E, E5, hk, hjs, rfl⟩
            refine Wp_seq ?_
            refine Wp_seq_region ?_
            refine WpL_val rfl rfl (by decide) (r_move (v := (.int .i64 ((k : Nat) : Int))) rfl) ?_
            refine WpL_val rfl rfl (by decide) (r_move (v := (.slice aa a.length ac)) rfl) ?_
            refine WpL_val rfl rfl (by decide) (r_lenSlice (ad := aa) (n := a.length) (cap := ac) Try.underlying22 rfl) ?_
            obtain ⟨e18, he18⟩ : ∃ e, (decide ((((k : Nat) : Int) : Int) < ((a.length : Nat) : Int))) = e := ⟨_, rfl⟩
            refine WpL_val rfl rfl (by decide) ((r_lss (k := .i64) (a := ((k : Nat) : Int)) (b := ((a.length : Nat) : Int)) rfl rfl).trans (by rw [he18]; try rfl)) ?_
            refine WpL_val rfl rfl (by decide) (r_move (v := (.bool e18)) rfl) ?_
            refine WpL_guard_any (oj := _) (gv := (.bool e18)) (u := (bif e18 then (.bool js) else undef)) rfl rfl (by decide) (by decide) rfl (by cases e18 <;> first | exact Or.inr ⟨Or.inl rfl, rfl⟩ | exact Or.inr ⟨Or.inr rfl, rfl⟩ | exact Or.inl ⟨rfl, r_move (v := (.bool js)) rfl⟩) ?_
            obtain ⟨e19, he19⟩ : ∃ e, (e18 && js) = e := ⟨_, rfl⟩
            refine WpL_val rfl rfl (by decide) (r_pick (b := e18) (v := .bool e19) rfl (by rw [← he19]; cases e18 <;> rfl)) ?_
            refine WpL_nil ?_
            subst he19
            subst he18
            refine Wp_cond (b := ((decide ((((k : Nat) : Int) : Int) < ((a.length : Nat) : Int))) && js)) rfl (fun hlt2 => ?_) (fun hlt2 => ?_)
            · have khlt2 := hlt2
              have hlt3 : k < a.length ∧ js = true := by simpa using hlt2
              have hj2 : ii = true ∧ (a.take k).map hdO = (b.take k).map hdO := by have := hlt3.2; rw [hjs] at this; simpa using this
              have hlab : a.length = b.length := by have := hj2.1; rw [hii] at this; simp at this; exact this.2
              obtain ⟨p, hp⟩ := get_of_lt (l := a) (i := k) (by omega)
              obtain ⟨q, hq⟩ := get_of_lt (l := b) (i := k) (by omega)
              obtain ⟨b1, o1, rfl, hc1⟩ := ints_cells ha (by omega)
              obtain ⟨b2, o2, rfl, hc2⟩ := ints_cells hb (by omega)
              refine Wp_skip ?_
              refine thn_normal ?_
              refine Wp_seq ?_
              refine Wp_block ?_
              obtain ⟨Fs21, hFs21⟩ : ∃ Fs : List Fact, Fs = [.eq (.slice (some ⟨b1, o1, none⟩) a.length ac), .eq (.int .i64 ((k : Nat) : Int)), .eq (.pointer (some ⟨b1, o1 + k, none⟩)), .eq (.int .i64 p), .gen (headF (hdO p)) (headF_ext _), .gen (ptrF (hdO p)) (ptrF_ext _), .eq (.int .i64 (hdO p)), .eq (.slice (some ⟨b2, o2, none⟩) b.length bc), .eq (.int .i64 ((k : Nat) : Int)), .eq (.pointer (some ⟨b2, o2 + k, none⟩)), .eq (.int .i64 q), .gen (headF (hdO q)) (headF_ext _), .gen (ptrF (hdO q)) (ptrF_ext _), .eq (.int .i64 (hdO q)), .eq (.bool (decide (hdO p = hdO q))), .eq (.bool (decide (hdO p = hdO q)))] := ⟨_, rfl⟩
              refine Wp_dag [148, 149, 150, 151, 152, 153, 154, 155, 156, 157, 158, 159, 160, 161, 162, 18] [[], [], [0, 1], [2], [3], [4], [5], [], [], [7, 8], [9], [4, 10], [11], [12], [6, 13], [0, 1, 2, 3, 4, 5, 6, 7, 8, 9, 10, 11, 12, 13, 14]] Fs21 hFs21 mixed (by kernel_rfl) (by kernel_rfl) ?_ ?_
              · intro wd X0
                refine DagSteps.cons (fun s' w' X U H => Or.inl ⟨?_, ?_⟩) ?_
                · exact Guarded_none rfl
                · exact Does_val (r_move (v := (.slice (some ⟨b1, o1, none⟩) a.length ac)) (U 2 rfl)) (Ext.refl _) rfl
                refine DagSteps.cons (fun s' w' X U H => Or.inl ⟨?_, ?_⟩) ?_
                · exact Guarded_none rfl
                · exact Does_val (r_move (v := (.int .i64 ((k : Nat) : Int))) (U 21 rfl)) (Ext.refl _) rfl
                refine DagSteps.cons (fun s' w' X U H => Or.inl ⟨?_, ?_⟩) ?_
                · exact Guarded_none rfl
                · have e148 : s' 148 = (.slice (some ⟨b1, o1, none⟩) a.length ac) := H 0 rfl 148 (.eq (.slice (some ⟨b1, o1, none⟩) a.length ac)) rfl (by rw [hFs21]; rfl)
                  have e149 : s' 149 = (.int .i64 ((k : Nat) : Int)) := H 1 rfl 149 (.eq (.int .i64 ((k : Nat) : Int))) rfl (by rw [hFs21]; rfl)
                  exact Does_val (r_indexSlice (b := b1) (o := o1) (len := a.length) (cap := ac) (i := k) (o' := o1 + k) e148 e149 (by omega) Try.underlying22 siz3 (by omega) (by omega)) (Ext.refl _) rfl
                refine DagSteps.cons (fun s' w' X U H => Or.inl ⟨?_, ?_⟩) ?_
                · exact Guarded_none rfl
                · have e150 : s' 150 = (.pointer (some ⟨b1, o1 + k, none⟩)) := H 2 rfl 150 (.eq (.pointer (some ⟨b1, o1 + k, none⟩))) rfl (by rw [hFs21]; rfl)
                  exact Does_val (r_load (v := (.int .i64 p)) e150 flat3 ((Ext.trans E (X0.trans X)).cell (hc1 k p hp))) (Ext.refl _) rfl
                refine DagSteps.cons (fun s' w' X U H => Or.inl ⟨?_, ?_⟩) ?_
                · exact Guarded_none rfl
                · have e151 : s' 151 = (.int .i64 p) := H 3 rfl 151 (.eq (.int .i64 p)) rfl (by rw [hFs21]; rfl)
                  exact Does_enter (r_callF (vs := [(.int .i64 p)]) Try.func27 nm27 bd27 (lst1 e151)) (rorbit_h _ p)
                refine DagSteps.cons (fun s' w' X U H => Or.inl ⟨?_, ?_⟩) ?_
                · exact Guarded_none rfl
                · obtain ⟨b152, o152, c152, m152, e152, h152⟩ := H 4 rfl 152 (.gen (headF (hdO p)) (headF_ext _)) rfl (by rw [hFs21]; rfl)
                  exact Does_idx0 e152 h152
                refine DagSteps.cons (fun s' w' X U H => Or.inl ⟨?_, ?_⟩) ?_
                · exact Guarded_none rfl
                · obtain ⟨b153, o153, e153, h153⟩ := H 5 rfl 153 (.gen (ptrF (hdO p)) (ptrF_ext _)) rfl (by rw [hFs21]; rfl)
                  exact Does_ld e153 h153
                refine DagSteps.cons (fun s' w' X U H => Or.inl ⟨?_, ?_⟩) ?_
                · exact Guarded_none rfl
                · exact Does_val (r_move (v := (.slice (some ⟨b2, o2, none⟩) b.length bc)) (U 3 rfl)) (Ext.refl _) rfl
                refine DagSteps.cons (fun s' w' X U H => Or.inl ⟨?_, ?_⟩) ?_
                · exact Guarded_none rfl
                · exact Does_val (r_move (v := (.int .i64 ((k : Nat) : Int))) (U 21 rfl)) (Ext.refl _) rfl
                refine DagSteps.cons (fun s' w' X U H => Or.inl ⟨?_, ?_⟩) ?_
                · exact Guarded_none rfl
                · have e155 : s' 155 = (.slice (some ⟨b2, o2, none⟩) b.length bc) := H 7 rfl 155 (.eq (.slice (some ⟨b2, o2, none⟩) b.length bc)) rfl (by rw [hFs21]; rfl)
                  have e156 : s' 156 = (.int .i64 ((k : Nat) : Int)) := H 8 rfl 156 (.eq (.int .i64 ((k : Nat) : Int))) rfl (by rw [hFs21]; rfl)
                  exact Does_val (r_indexSlice (b := b2) (o := o2) (len := b.length) (cap := bc) (i := k) (o' := o2 + k) e155 e156 (by omega) Try.underlying22 siz3 (by omega) (by omega)) (Ext.refl _) rfl
                refine DagSteps.cons (fun s' w' X U H => Or.inl ⟨?_, ?_⟩) ?_
                · exact Guarded_none rfl
                · have e157 : s' 157 = (.pointer (some ⟨b2, o2 + k, none⟩)) := H 9 rfl 157 (.eq (.pointer (some ⟨b2, o2 + k, none⟩))) rfl (by rw [hFs21]; rfl)
                  exact Does_val (r_load (v := (.int .i64 q)) e157 flat3 ((Ext.trans E (X0.trans X)).cell (hc2 k q hq))) (Ext.refl _) rfl
                refine DagSteps.cons (fun s' w' X U H => Or.inl ⟨?_, ?_⟩) ?_
                · exact Guarded_none rfl
                · have e158 : s' 158 = (.int .i64 q) := H 10 rfl 158 (.eq (.int .i64 q)) rfl (by rw [hFs21]; rfl)
                  exact Does_enter (r_callF (vs := [(.int .i64 q)]) Try.func27 nm27 bd27 (lst1 e158)) (rorbit_h _ q)
                refine DagSteps.cons (fun s' w' X U H => Or.inl ⟨?_, ?_⟩) ?_
                · exact Guarded_none rfl
                · obtain ⟨b159, o159, c159, m159, e159, h159⟩ := H 11 rfl 159 (.gen (headF (hdO q)) (headF_ext _)) rfl (by rw [hFs21]; rfl)
                  exact Does_idx0 e159 h159
                refine DagSteps.cons (fun s' w' X U H => Or.inl ⟨?_, ?_⟩) ?_
                · exact Guarded_none rfl
                · obtain ⟨b160, o160, e160, h160⟩ := H 12 rfl 160 (.gen (ptrF (hdO q)) (ptrF_ext _)) rfl (by rw [hFs21]; rfl)
                  exact Does_ld e160 h160
                refine DagSteps.cons (fun s' w' X U H => Or.inl ⟨?_, ?_⟩) ?_
                · exact Guarded_none rfl
                · have e154 : s' 154 = (.int .i64 (hdO p)) := H 6 rfl 154 (.eq (.int .i64 (hdO p))) rfl (by rw [hFs21]; rfl)
                  have e161 : s' 161 = (.int .i64 (hdO q)) := H 13 rfl 161 (.eq (.int .i64 (hdO q))) rfl (by rw [hFs21]; rfl)
                  exact Does_val (r_eql (k := .i64) (a := hdO p) (b := hdO q) e154 e161) (Ext.refl _) rfl
                refine DagSteps.cons (fun s' w' X U H => Or.inl ⟨?_, ?_⟩) ?_
                · exact Guarded_none rfl
                · have e162 : s' 162 = (.bool (decide (hdO p = hdO q))) := H 14 rfl 162 (.eq (.bool (decide (hdO p = hdO q)))) rfl (by rw [hFs21]; rfl)
                  exact Does_val (r_assign (v := (.bool (decide (hdO p = hdO q)))) e162) (Ext.refl _) rfl
                exact DagSteps.nil
              · intro s' w21 X21 U H
                obtain ⟨j21, rfl⟩ := Fits.out (σ := s') (l := [(2, (.slice (some ⟨b1, o1, none⟩) a.length ac)), (3, (.slice (some ⟨b2, o2, none⟩) b.length bc)), (10, (.int .i64 se)), (16, (.bool ss)), (17, (.int .i64 ww)), (21, (.int .i64 ((k : Nat) : Int))), (139, (.int .i64 ((k : Nat) : Int))), (140, (.slice (some ⟨b1, o1, none⟩) a.length ac)), (141, (.int .i64 ((a.length : Nat) : Int))), (142, (.bool (decide ((((k : Nat) : Int) : Int) < ((a.length : Nat) : Int))))), (143, (.bool (decide ((((k : Nat) : Int) : Int) < ((a.length : Nat) : Int))))), (145, (.bool ((decide ((((k : Nat) : Int) : Int) < ((a.length : Nat) : Int))) && js))), (148, (.slice (some ⟨b1, o1, none⟩) a.length ac)), (149, (.int .i64 ((k : Nat) : Int))), (150, (.pointer (some ⟨b1, o1 + k, none⟩))), (151, (.int .i64 p)), (154, (.int .i64 (hdO p))), (155, (.slice (some ⟨b2, o2, none⟩) b.length bc)), (156, (.int .i64 ((k : Nat) : Int))), (157, (.pointer (some ⟨b2, o2 + k, none⟩))), (158, (.int .i64 q)), (161, (.int .i64 (hdO q))), (162, (.bool (decide (hdO p = hdO q)))), (18, (.bool (decide (hdO p = hdO q))))]) ⟨U 2 rfl, U 3 rfl, U 10 rfl, U 16 rfl, U 17 rfl, U 21 rfl, U 139 rfl, U 140 rfl, U 141 rfl, U 142 rfl, U 143 rfl, U 145 rfl, (show s' 148 = (.slice (some ⟨b1, o1, none⟩) a.length ac) from H 0 148 (.eq (.slice (some ⟨b1, o1, none⟩) a.length ac)) rfl (by rw [hFs21]; rfl)), (show s' 149 = (.int .i64 ((k : Nat) : Int)) from H 1 149 (.eq (.int .i64 ((k : Nat) : Int))) rfl (by rw [hFs21]; rfl)), (show s' 150 = (.pointer (some ⟨b1, o1 + k, none⟩)) from H 2 150 (.eq (.pointer (some ⟨b1, o1 + k, none⟩))) rfl (by rw [hFs21]; rfl)), (show s' 151 = (.int .i64 p) from H 3 151 (.eq (.int .i64 p)) rfl (by rw [hFs21]; rfl)), (show s' 154 = (.int .i64 (hdO p)) from H 6 154 (.eq (.int .i64 (hdO p))) rfl (by rw [hFs21]; rfl)), (show s' 155 = (.slice (some ⟨b2, o2, none⟩) b.length bc) from H 7 155 (.eq (.slice (some ⟨b2, o2, none⟩) b.length bc)) rfl (by rw [hFs21]; rfl)), (show s' 156 = (.int .i64 ((k : Nat) : Int)) from H 8 156 (.eq (.int .i64 ((k : Nat) : Int))) rfl (by rw [hFs21]; rfl)), (show s' 157 = (.pointer (some ⟨b2, o2 + k, none⟩)) from H 9 157 (.eq (.pointer (some ⟨b2, o2 + k, none⟩))) rfl (by rw [hFs21]; rfl)), (show s' 158 = (.int .i64 q) from H 10 158 (.eq (.int .i64 q)) rfl (by rw [hFs21]; rfl)), (show s' 161 = (.int .i64 (hdO q)) from H 13 161 (.eq (.int .i64 (hdO q))) rfl (by rw [hFs21]; rfl)), (show s' 162 = (.bool (decide (hdO p = hdO q))) from H 14 162 (.eq (.bool (decide (hdO p = hdO q)))) rfl (by rw [hFs21]; rfl)), (show s' 18 = (.bool (decide (hdO p = hdO q))) from H 15 18 (.eq (.bool (decide (hdO p = hdO q)))) rfl (by rw [hFs21]; rfl)), trivial⟩
                clear U H
                replace E := E.ext X21
                replace E5 := E5.ext X21
                refine inB_normal ?_
                refine thn_normal ?_
                refine Wp_region ?_
                refine WpL_val rfl rfl (by decide) (r_move (v := (.int .i64 ((k : Nat) : Int))) rfl) ?_
                refine WpL_val rfl rfl (by decide) (r_add (k := .i64) (a := ((k : Nat) : Int)) (b := 1) (c := ((k : Nat) : Int) + 1) rfl rfl (wI64 (by omega))) ?_
                refine WpL_val rfl rfl (by decide) (r_assign (v := (.int .i64 (((k : Nat) : Int) + 1))) rfl) ?_
                refine WpL_nil ?_
                refine thn_normal ?_
                exact ⟨a.length - (k + 1), by omega, k + 1, decide (hdO p = hdO q), Fits.out ⟨rfl, rfl, rfl, rfl, rfl, rfl, rfl, trivial⟩, E, E5, (by omega), (by rw [heads_succ hp hq hj2.2, hj2.1]; rfl), rfl⟩
            · have khlt2 := hlt2
              have hfin := same_law hw1 hww hii hjs (fun h => by simpa [h] using hlt2) hk
              refine Wp_exit ?_
              refine thn_exit ?_
              refine thn_exit ?_
              refine inB_here ?_
              refine thn_normal ?_
              refine Wp_seq_region ?_
              refine WpL_val rfl rfl (by decide) (r_move (v := (.int .i64 se)) rfl) ?_
              refine WpL_val rfl rfl (by decide) (r_move (v := (.int .i64 ww)) rfl) ?_
              obtain ⟨e22, he22⟩ : ∃ e, (decide ((se : Int) = ww)) = e := ⟨_, rfl⟩
              refine WpL_val rfl rfl (by decide) ((r_eql (k := .i64) (a := se) (b := ww) rfl rfl).trans (by rw [he22]; try rfl)) ?_
              refine WpL_val rfl rfl (by decide) (r_move (v := (.bool e22)) rfl) ?_
              refine WpL_guard_any (oj := _) (gv := (.bool e22)) (u := (bif e22 then (.bool ss) else undef)) rfl rfl (by decide) (by decide) rfl (by cases e22 <;> first | exact Or.inr ⟨Or.inl rfl, rfl⟩ | exact Or.inr ⟨Or.inr rfl, rfl⟩ | exact Or.inl ⟨rfl, r_move (v := (.bool ss)) rfl⟩) ?_
              refine WpL_guard_any (oj := _) (gv := (.bool e22)) (u := (bif e22 then (.bool js) else undef)) rfl rfl (by decide) (by decide) rfl (by cases e22 <;> first | exact Or.inr ⟨Or.inl rfl, rfl⟩ | exact Or.inr ⟨Or.inr rfl, rfl⟩ | exact Or.inl ⟨rfl, r_move (v := (.bool js)) rfl⟩) ?_
              refine WpL_guard_any (oj := _) (gv := (.bool e22)) (u := (bif e22 then (.bool (ss == js)) else undef)) rfl rfl (by decide) (by decide) rfl (by cases e22 <;> first | exact Or.inr ⟨Or.inl rfl, rfl⟩ | exact Or.inr ⟨Or.inr rfl, rfl⟩ | exact Or.inl ⟨rfl, r_eqlB (p := ss) (q := js) Try.underlying4 rfl rfl⟩) ?_
              obtain ⟨e23, he23⟩ : ∃ e, (e22 && (ss == js)) = e := ⟨_, rfl⟩
              refine WpL_val rfl rfl (by decide) (r_pick (b := e22) (v := .bool e23) rfl (by rw [← he23]; cases e22 <;> rfl)) ?_
              refine WpL_val rfl rfl (by decide) (r_assign (v := (.bool e23)) rfl) ?_
              refine WpL_nil ?_
              subst he23
              subst he22
              refine Wp_ret ?_
              refine fin_tmp Try.results5 (v := (.bool ((decide ((se : Int) = ww)) && (ss == js)))) rfl ?_
              exact ⟨bool_eq (by rw [hss, hse, hfin.1, hfin.2]; simp), E⟩
    · have khbig := hbig
      have hw1 : (0 : Int) = if 1000 < a.length ∨ 1000 < b.length then 2 else 0 := by rw [if_neg (by simp at hbig; omega)]
      refine Wp_skip ?_
      refine thn_normal ?_
      refine Wp_seq_region ?_
      refine WpL_val rfl rfl (by decide) (r_move (v := (.int .i64 0)) rfl) ?_
      refine WpL_val rfl rfl (by decide) (r_eql (k := .i64) (a := 0) (b := 0) rfl rfl) ?_
      refine WpL_val rfl rfl (by decide) (r_move (v := (.bool true)) rfl) ?_
      refine WpL_guard_yes (oj := _) rfl rfl (by decide) rfl ?_
      refine WpL_val rfl rfl (by decide) (r_move (v := (.slice aa a.length ac)) rfl) ?_
      refine WpL_guard_yes (oj := _) rfl rfl (by decide) rfl ?_
      refine WpL_val rfl rfl (by decide) (r_lenSlice (ad := aa) (n := a.length) (cap := ac) Try.underlying22 rfl) ?_
      refine WpL_guard_yes (oj := _) rfl rfl (by decide) rfl ?_
      refine WpL_val rfl rfl (by decide) (r_move (v := (.slice ba b.length bc)) rfl) ?_
      refine WpL_guard_yes (oj := _) rfl rfl (by decide) rfl ?_
      refine WpL_val rfl rfl (by decide) (r_lenSlice (ad := ba) (n := b.length) (cap := bc) Try.underlying22 rfl) ?_
      refine WpL_guard_yes (oj := _) rfl rfl (by decide) rfl ?_
      obtain ⟨e24, he24⟩ : ∃ e, (decide ((((a.length : Nat) : Int) : Int) = ((b.length : Nat) : Int))) = e := ⟨_, rfl⟩
      refine WpL_val rfl rfl (by decide) ((r_eql (k := .i64) (a := ((a.length : Nat) : Int)) (b := ((b.length : Nat) : Int)) rfl rfl).trans (by rw [he24]; try rfl)) ?_
      refine WpL_val rfl rfl (by decide) (r_pick (b := true) (v := (.bool e24)) rfl rfl) ?_
      refine WpL_val rfl rfl (by decide) (r_assign (v := (.bool e24)) rfl) ?_
      refine WpL_nil ?_
      subst he24
      refine Wp_seq ?_
      refine Wp_seq_region ?_
      refine s_build0 (by decide) Try.underlying22 siz3 ?_
      intro bq wq Nq
      have Fq := Nq.ge E
      replace E := E.ext Nq.ext
      have Bq := Nq.blk
      refine WpL_val rfl rfl (by decide) (r_move (v := (.slice aa a.length ac)) rfl) ?_
      have hown0 := own_empty (base := base) (size := 1) Bq (by have := E.size; omega)
      refine s_appendAny (base := base) (n := 0) (m := a.length) (xs := []) (news := (a.map (Value.int .i64))) (size := 1) (bytes := 8) (v := (.slice (some ⟨bq, 0, none⟩) 0 0)) (by decide) Try.underlying22 siz3 byt3 zer3 rfl (by decide) rfl hown0 rfl (by simp) (ints_any (ha.ext E)) (by simp [Value.oneCell']) (by unfold maxLen; omega) (by omega) (by have := E.size; omega) ?_
      intro v8 w8 Ov8 Cv8 Dv8
      replace E := E.step Cv8 (fun x hx h => absurd (hown0.lt x h).1 (by omega))
      obtain ⟨xa, xc, rfl⟩ := own_form Ov8
      refine WpL_val rfl rfl (by decide) (r_move (v := (.slice ba b.length bc)) rfl) ?_
      refine s_appendAny (base := base) (n := 0 + a.length) (m := b.length) (xs := ([] ++ a.map (Value.int .i64))) (news := (b.map (Value.int .i64))) (size := 1) (bytes := 8) (v := (.slice xa (0 + a.length) xc)) (by decide) Try.underlying22 siz3 byt3 zer3 rfl (by decide) rfl Ov8 rfl (by simp) (ints_any (hb.ext E)) (by simp [Value.oneCell']) (by unfold maxLen; omega) (by omega) (by have := E.size; omega) ?_
      intro v9 w9 Ov9 Cv9 Dv9
      replace E := E.step Cv9 (fun x hx h => absurd (Ov8.lt x h).1 (by omega))
      obtain ⟨ya, yc, rfl⟩ := own_form Ov9
      have hO : w9.ownsRow base TInt 1 (.slice ya (0 + a.length + b.length) yc) (0 + a.length + b.length) ((a ++ b).map (Value.int .i64)) := by simpa using Ov9
      have hab : IntsAt w9 (.slice ya (0 + a.length + b.length) yc) (a ++ b) := by have h9 : OwnI w9 base (.slice ya (0 + a.length + b.length) yc) (a ++ b) := ⟨⟨ya, yc, by simp⟩, by rw [show (a ++ b).length = 0 + a.length + b.length by simp]; exact hO⟩; exact h9.at
      have hbl : (a ++ b).length = 0 + a.length + b.length := by simp
      have E5 : Chg none1 w9 w9 := Chg.refl _ _
      refine WpL_val rfl rfl (by decide) (r_lenSlice (ad := ya) (n := (0 + a.length + b.length)) (cap := yc) Try.underlying22 rfl) ?_
      refine WpL_val rfl rfl (by decide) (r_move (v := (.int .i64 0)) rfl) ?_
      refine WpL_nil ?_
      refine Wp_block ?_
      refine Wp_loop (fun nn_ σ W25 => ∃ (i : Nat) (ww : Int) (ii : Bool), (∃ jj_, σ = upds jj_ [(2, (.slice aa a.length ac)), (3, (.slice ba b.length bc)), (10, (.int .i64 se)), (16, (.bool ss)), (122, (.slice ya (0 + a.length + b.length) yc)), (123, (.int .i64 (((0 + a.length + b.length) : Nat) : Int))), (124, (.int .i64 ((i : Nat) : Int))), (17, (.int .i64 ww)), (18, (.bool ii))]) ∧ Chg none1 w0 W25 ∧ Chg none1 w9 W25 ∧ (i ≤ (a ++ b).length) ∧ (ww = stepW 0 ((a ++ b).take i)) ∧ (ii = (decide (ww = 0) && decide (a.length = b.length))) ∧ nn_ = (a ++ b).length - i) (n := (a ++ b).length - 0) ?_ ?_
      · exact ⟨0, 0, decide (((a.length : Nat) : Int) = ((b.length : Nat) : Int)), Fits.out ⟨rfl, rfl, rfl, rfl, rfl, rfl, rfl, rfl, rfl, trivial⟩, E, E5, Nat.zero_le _, (by simp [stepW, badB]), (by simp <;> omega), rfl⟩
      · clear E E5
        rintro _ _ W25 ⟨i, ww, ii, ⟨j25, rfl⟩, E, E5, hi, hww, hii, rfl⟩
        refine Wp_seq_region ?_
        refine WpL_val rfl rfl (by decide) (r_lss (k := .i64) (a := ((i : Nat) : Int)) (b := (((0 + a.length + b.length) : Nat) : Int)) rfl rfl) ?_
        refine WpL_nil ?_
        refine Wp_seq ?_
        refine Wp_cond (b := decide ((((i : Nat) : Int) : Int) < (((0 + a.length + b.length) : Nat) : Int))) rfl (fun hlt => ?_) (fun hlt => ?_)
        · have khlt := hlt
          replace hlt := of_decide_eq_true hlt
          obtain ⟨c, hc⟩ := get_of_lt (l := a ++ b) (i := i) (by omega)
          obtain ⟨bc1, oc1, rfl, hcl⟩ := ints_cells hab (by omega)
          refine Wp_skip ?_
          refine thn_normal ?_
          refine Wp_seq ?_
          refine Wp_block ?_
          refine Wp_seq_region ?_
          refine WpL_val rfl rfl (by decide) (r_indexSlice (b := bc1) (o := oc1) (len := (0 + a.length + b.length)) (cap := yc) (i := i) (o' := oc1 + i) rfl rfl rfl Try.underlying22 siz3 (by omega) (by omega)) ?_
          refine WpL_val rfl rfl (by decide) (r_load (v := (.int .i64 c)) rfl flat3 (E5.cell (fun f => f) (hcl i c hc))) ?_
          refine WpL_val rfl rfl (by decide) (r_assign (v := (.int .i64 c)) rfl) ?_
          refine WpL_nil ?_
          refine Wp_seq_region ?_
          refine WpL_val rfl rfl (by decide) (r_move (v := (.int .i64 ww)) rfl) ?_
          obtain ⟨e27, he27⟩ : ∃ e, (decide ((ww : Int) = 0)) = e := ⟨_, rfl⟩
          refine WpL_val rfl rfl (by decide) ((r_eql (k := .i64) (a := ww) (b := 0) rfl rfl).trans (by rw [he27]; try rfl)) ?_
          refine WpL_val rfl rfl (by decide) (r_move (v := (.bool e27)) rfl) ?_
          refine WpL_guard_any (oj := _) (gv := (.bool e27)) (u := (bif e27 then (.int .i64 c) else undef)) rfl rfl (by decide) (by decide) rfl (by cases e27 <;> first | exact Or.inr ⟨Or.inl rfl, rfl⟩ | exact Or.inr ⟨Or.inr rfl, rfl⟩ | exact Or.inl ⟨rfl, r_move (v := (.int .i64 c)) rfl⟩) ?_
          obtain ⟨e28, he28⟩ : ∃ e, (decide ((c : Int) < 0)) = e := ⟨_, rfl⟩
          refine WpL_guard_any (oj := _) (gv := (.bool e27)) (u := (bif e27 then (.bool e28) else undef)) rfl rfl (by decide) (by decide) rfl (by cases e27 <;> first | exact Or.inr ⟨Or.inl rfl, rfl⟩ | exact Or.inr ⟨Or.inr rfl, rfl⟩ | exact Or.inl ⟨rfl, (r_lss (k := .i64) (a := c) (b := 0) rfl rfl).trans (by rw [he28]; try rfl)⟩) ?_
          refine WpL_guard_any (oj := _) (gv := (.bool e27)) (u := (bif e27 then (.bool e28) else undef)) rfl rfl (by decide) (by decide) rfl (by cases e27 <;> first | exact Or.inr ⟨Or.inl rfl, rfl⟩ | exact Or.inr ⟨Or.inr rfl, rfl⟩ | exact Or.inl ⟨rfl, r_move (v := (.bool e28)) rfl⟩) ?_
          refine WpL_guard_any (oj := _) (gv := (bif e27 then (.bool e28) else undef)) (u := (bif e27 then (bif e28 then undef else (.int .i64 c)) else undef)) rfl rfl (by decide) (by decide) rfl (by cases e27 <;> cases e28 <;> first | exact Or.inr ⟨Or.inl rfl, rfl⟩ | exact Or.inr ⟨Or.inr rfl, rfl⟩ | exact Or.inl ⟨rfl, r_move (v := (.int .i64 c)) rfl⟩) ?_
          obtain ⟨e29, he29⟩ : ∃ e, (decide ((1114111 : Int) < c)) = e := ⟨_, rfl⟩
          refine WpL_guard_any (oj := _) (gv := (bif e27 then (.bool e28) else undef)) (u := (bif e27 then (bif e28 then undef else (.bool e29)) else undef)) rfl rfl (by decide) (by decide) rfl (by cases e27 <;> cases e28 <;> first | exact Or.inr ⟨Or.inl rfl, rfl⟩ | exact Or.inr ⟨Or.inr rfl, rfl⟩ | exact Or.inl ⟨rfl, (r_gtr (k := .i64) (a := c) (b := 1114111) rfl rfl).trans (by rw [he29]; try rfl)⟩) ?_
          obtain ⟨e30, he30⟩ : ∃ e, (e28 || e29) = e := ⟨_, rfl⟩
          refine WpL_guard_any (oj := _) (gv := (.bool e27)) (u := (bif e27 then (.bool e30) else undef)) rfl rfl (by decide) (by decide) rfl (by cases e27 <;> first | exact Or.inr ⟨Or.inl rfl, rfl⟩ | exact Or.inr ⟨Or.inr rfl, rfl⟩ | exact Or.inl ⟨rfl, r_pick (b := e28) (v := .bool e30) rfl (by rw [← he30]; cases e28 <;> rfl)⟩) ?_
          obtain ⟨e31, he31⟩ : ∃ e, (e27 && e30) = e := ⟨_, rfl⟩
          refine WpL_val rfl rfl (by decide) (r_pick (b := e27) (v := .bool e31) rfl (by rw [← he31]; cases e27 <;> rfl)) ?_
          refine WpL_nil ?_
          subst he31
          subst he30
          subst he29
          subst he28
          subst he27
          refine Wp_cond (b := ((decide ((ww : Int) = 0)) && ((decide ((c : Int) < 0)) || (decide ((1114111 : Int) < c))))) rfl (fun hcc => ?_) (fun hcc => ?_)
          · have khcc := hcc
            have hcc2 : ww = 0 ∧ (c < 0 ∨ 1114111 < c) := by simpa using hcc
            refine Wp_region ?_
            refine WpL_val rfl rfl (by decide) (r_assign (v := (.int .i64 1)) rfl) ?_
            refine WpL_val rfl rfl (by decide) (r_assign (v := (.bool false)) rfl) ?_
            refine WpL_nil ?_
            refine inB_normal ?_
            refine thn_normal ?_
            refine Wp_region ?_
            refine WpL_val rfl rfl (by decide) (r_add (k := .i64) (a := ((i : Nat) : Int)) (b := 1) (c := ((i : Nat) : Int) + 1) rfl rfl (wI64 (by omega))) ?_
            refine WpL_val rfl rfl (by decide) (r_move (v := (.int .i64 (((i : Nat) : Int) + 1))) rfl) ?_
            refine WpL_nil ?_
            refine thn_normal ?_
            exact ⟨(a ++ b).length - (i + 1), by omega, i + 1, 1, false, Fits.out ⟨rfl, rfl, rfl, rfl, rfl, rfl, rfl, rfl, rfl, trivial⟩, E, E5, (by omega), (stepW_one hc (by omega) hcc2.2).symm, rfl, rfl⟩
          · have khcc := hcc
            have hcc2 : ¬ (ww = 0 ∧ (c < 0 ∨ 1114111 < c)) := by simpa using hcc
            refine Wp_skip ?_
            refine inB_normal ?_
            refine thn_normal ?_
            refine Wp_region ?_
            refine WpL_val rfl rfl (by decide) (r_add (k := .i64) (a := ((i : Nat) : Int)) (b := 1) (c := ((i : Nat) : Int) + 1) rfl rfl (wI64 (by omega))) ?_
            refine WpL_val rfl rfl (by decide) (r_move (v := (.int .i64 (((i : Nat) : Int) + 1))) rfl) ?_
            refine WpL_nil ?_
            refine thn_normal ?_
            exact ⟨(a ++ b).length - (i + 1), by omega, i + 1, ww, ii, Fits.out ⟨rfl, rfl, rfl, rfl, rfl, rfl, rfl, rfl, rfl, trivial⟩, E, E5, (by omega), (by rw [hww] at hcc2; rw [stepW_same hc hcc2, hww]), hii, rfl⟩
        · have khlt := hlt
          replace hlt := of_decide_eq_false hlt
          have hie : i = (a ++ b).length := by omega
          rw [hie, List.take_length] at hww
          refine Wp_exit ?_
          refine thn_exit ?_
          refine thn_exit ?_
          refine inB_here ?_
          refine thn_normal ?_
          refine Wp_seq ?_
          refine Wp_seq_region ?_
          refine WpL_val rfl rfl (by decide) (r_assign (v := (.int .i64 0)) rfl) ?_
          refine WpL_nil ?_
          refine Wp_block ?_
          refine Wp_loop (fun nn_ σ W33 => ∃ (k : Nat) (js : Bool), (∃ jj_, σ = upds jj_ [(2, (.slice aa a.length ac)), (3, (.slice ba b.length bc)), (10, (.int .i64 se)), (16, (.bool ss)), (17, (.int .i64 ww)), (21, (.int .i64 ((k : Nat) : Int))), (18, (.bool js))]) ∧ Chg none1 w0 W33 ∧ Chg none1 w9 W33 ∧ (k ≤ a.length) ∧ (js = (ii && decide ((a.take k).map hdO = (b.take k).map hdO))) ∧ nn_ = a.length - k) (n := a.length - 0) ?_ ?_
          · exact ⟨0, ii, Fits.out ⟨rfl, rfl, rfl, rfl, rfl, rfl, rfl, trivial⟩, E, E5, Nat.zero_le _, (by simp), rfl⟩
          · clear E E5
            rintro _ _ W33 ⟨k, js, ⟨j33, rfl⟩, E, E5, hk, hjs, rfl⟩
            refine Wp_seq ?_
            refine Wp_seq_region ?_
            refine WpL_val rfl rfl (by decide) (r_move (v := (.int .i64 ((k : Nat) : Int))) rfl) ?_
            refine WpL_val rfl rfl (by decide) (r_move (v := (.slice aa a.length ac)) rfl) ?_
            refine WpL_val rfl rfl (by decide) (r_lenSlice (ad := aa) (n := a.length) (cap := ac) Try.underlying22 rfl) ?_
            obtain ⟨e34, he34⟩ : ∃ e, (decide ((((k : Nat) : Int) : Int) < ((a.length : Nat) : Int))) = e := ⟨_, rfl⟩
            refine WpL_val rfl rfl (by decide) ((r_lss (k := .i64) (a := ((k : Nat) : Int)) (b := ((a.length : Nat) : Int)) rfl rfl).trans (by rw [he34]; try rfl)) ?_
            refine WpL_val rfl rfl (by decide) (r_move (v := (.bool e34)) rfl) ?_
            refine WpL_guard_any (oj := _) (gv := (.bool e34)) (u := (bif e34 then (.bool js) else undef)) rfl rfl (by decide) (by decide) rfl (by cases e34 <;> first | exact Or.inr ⟨Or.inl rfl, rfl⟩ | exact Or.inr ⟨Or.inr rfl, rfl⟩ | exact Or.inl ⟨rfl, r_move (v := (.bool js)) rfl⟩) ?_
            obtain ⟨e35, he35⟩ : ∃ e, (e34 && js) = e := ⟨_, rfl⟩
            refine WpL_val rfl rfl (by decide) (r_pick (b := e34) (v := .bool e35) rfl (by rw [← he35]; cases e34 <;> rfl)) ?_
            refine WpL_nil ?_
            subst he35
            subst he34
            refine Wp_cond (b := ((decide ((((k : Nat) : Int) : Int) < ((a.length : Nat) : Int))) && js)) rfl (fun hlt2 => ?_) (fun hlt2 => ?_)
            · have khlt2 := hlt2
              have hlt3 : k < a.length ∧ js = true := by simpa using hlt2
              have hj2 : ii = true ∧ (a.take k).map hdO = (b.take k).map hdO := by have := hlt3.2; rw [hjs] at this; simpa using this
              have hlab : a.length = b.length := by have := hj2.1; rw [hii] at this; simp at this; exact this.2
              obtain ⟨p, hp⟩ := get_of_lt (l := a) (i := k) (by omega)
              obtain ⟨q, hq⟩ := get_of_lt (l := b) (i := k) (by omega)
              obtain ⟨b1, o1, rfl, hc1⟩ := ints_cells ha (by omega)
              obtain ⟨b2, o2, rfl, hc2⟩ := ints_cells hb (by omega)
              refine Wp_skip ?_
              refine thn_normal ?_
              refine Wp_seq ?_
              refine Wp_block ?_
              obtain ⟨Fs37, hFs37⟩ : ∃ Fs : List Fact, Fs = [.eq (.slice (some ⟨b1, o1, none⟩) a.length ac), .eq (.int .i64 ((k : Nat) : Int)), .eq (.pointer (some ⟨b1, o1 + k, none⟩)), .eq (.int .i64 p), .gen (headF (hdO p)) (headF_ext _), .gen (ptrF (hdO p)) (ptrF_ext _), .eq (.int .i64 (hdO p)), .eq (.slice (some ⟨b2, o2, none⟩) b.length bc), .eq (.int .i64 ((k : Nat) : Int)), .eq (.pointer (some ⟨b2, o2 + k, none⟩)), .eq (.int .i64 q), .gen (headF (hdO q)) (headF_ext _), .gen (ptrF (hdO q)) (ptrF_ext _), .eq (.int .i64 (hdO q)), .eq (.bool (decide (hdO p = hdO q))), .eq (.bool (decide (hdO p = hdO q)))] := ⟨_, rfl⟩
              refine Wp_dag [148, 149, 150, 151, 152, 153, 154, 155, 156, 157, 158, 159, 160, 161, 162, 18] [[], [], [0, 1], [2], [3], [4], [5], [], [], [7, 8], [9], [4, 10], [11], [12], [6, 13], [0, 1, 2, 3, 4, 5, 6, 7, 8, 9, 10, 11, 12, 13, 14]] Fs37 hFs37 mixed (by kernel_rfl) (by kernel_rfl) ?_ ?_
              · intro wd X0
                refine DagSteps.cons (fun s' w' X U H => Or.inl ⟨?_, ?_⟩) ?_
                · exact Guarded_none rfl
                · exact Does_val (r_move (v := (.slice (some ⟨b1, o1, none⟩) a.length ac)) (U 2 rfl)) (Ext.refl _) rfl
                refine DagSteps.cons (fun s' w' X U H => Or.inl ⟨?_, ?_⟩) ?_
                · exact Guarded_none rfl
                · exact Does_val (r_move (v := (.int .i64 ((k : Nat) : Int))) (U 21 rfl)) (Ext.refl _) rfl
                refine DagSteps.cons (fun s' w' X U H => Or.inl ⟨?_, ?_⟩) ?_
                · exact Guarded_none rfl
                · have e148 : s' 148 = (.slice (some ⟨b1, o1, none⟩) a.length ac) := H 0 rfl 148 (.eq (.slice (some ⟨b1, o1, none⟩) a.length ac)) rfl (by rw [hFs37]; rfl)
                  have e149 : s' 149 = (.int .i64 ((k : Nat) : Int)) := H 1 rfl 149 (.eq (.int .i64 ((k : Nat) : Int))) rfl (by rw [hFs37]; rfl)
                  exact Does_val (r_indexSlice (b := b1) (o := o1) (len := a.length) (cap := ac) (i := k) (o' := o1 + k) e148 e149 (by omega) Try.underlying22 siz3 (by omega) (by omega)) (Ext.refl _) rfl
                refine DagSteps.cons (fun s' w' X U H => Or.inl ⟨?_, ?_⟩) ?_
                · exact Guarded_none rfl
                · have e150 : s' 150 = (.pointer (some ⟨b1, o1 + k, none⟩)) := H 2 rfl 150 (.eq (.pointer (some ⟨b1, o1 + k, none⟩))) rfl (by rw [hFs37]; rfl)
                  exact Does_val (r_load (v := (.int .i64 p)) e150 flat3 ((Ext.trans E (X0.trans X)).cell (hc1 k p hp))) (Ext.refl _) rfl
                refine DagSteps.cons (fun s' w' X U H => Or.inl ⟨?_, ?_⟩) ?_
                · exact Guarded_none rfl
                · have e151 : s' 151 = (.int .i64 p) := H 3 rfl 151 (.eq (.int .i64 p)) rfl (by rw [hFs37]; rfl)
                  exact Does_enter (r_callF (vs := [(.int .i64 p)]) Try.func27 nm27 bd27 (lst1 e151)) (rorbit_h _ p)
                refine DagSteps.cons (fun s' w' X U H => Or.inl ⟨?_, ?_⟩) ?_
                · exact Guarded_none rfl
                · obtain ⟨b152, o152, c152, m152, e152, h152⟩ := H 4 rfl 152 (.gen (headF (hdO p)) (headF_ext _)) rfl (by rw [hFs37]; rfl)
                  exact Does_idx0 e152 h152
                refine DagSteps.cons (fun s' w' X U H => Or.inl ⟨?_, ?_⟩) ?_
                · exact Guarded_none rfl
                · obtain ⟨b153, o153, e153, h153⟩ := H 5 rfl 153 (.gen (ptrF (hdO p)) (ptrF_ext _)) rfl (by rw [hFs37]; rfl)
                  exact Does_ld e153 h153
                refine DagSteps.cons (fun s' w' X U H => Or.inl ⟨?_, ?_⟩) ?_
                · exact Guarded_none rfl
                · exact Does_val (r_move (v := (.slice (some ⟨b2, o2, none⟩) b.length bc)) (U 3 rfl)) (Ext.refl _) rfl
                refine DagSteps.cons (fun s' w' X U H => Or.inl ⟨?_, ?_⟩) ?_
                · exact Guarded_none rfl
                · exact Does_val (r_move (v := (.int .i64 ((k : Nat) : Int))) (U 21 rfl)) (Ext.refl _) rfl
                refine DagSteps.cons (fun s' w' X U H => Or.inl ⟨?_, ?_⟩) ?_
                · exact Guarded_none rfl
                · have e155 : s' 155 = (.slice (some ⟨b2, o2, none⟩) b.length bc) := H 7 rfl 155 (.eq (.slice (some ⟨b2, o2, none⟩) b.length bc)) rfl (by rw [hFs37]; rfl)
                  have e156 : s' 156 = (.int .i64 ((k : Nat) : Int)) := H 8 rfl 156 (.eq (.int .i64 ((k : Nat) : Int))) rfl (by rw [hFs37]; rfl)
                  exact Does_val (r_indexSlice (b := b2) (o := o2) (len := b.length) (cap := bc) (i := k) (o' := o2 + k) e155 e156 (by omega) Try.underlying22 siz3 (by omega) (by omega)) (Ext.refl _) rfl
                refine DagSteps.cons (fun s' w' X U H => Or.inl ⟨?_, ?_⟩) ?_
                · exact Guarded_none rfl
                · have e157 : s' 157 = (.pointer (some ⟨b2, o2 + k, none⟩)) := H 9 rfl 157 (.eq (.pointer (some ⟨b2, o2 + k, none⟩))) rfl (by rw [hFs37]; rfl)
                  exact Does_val (r_load (v := (.int .i64 q)) e157 flat3 ((Ext.trans E (X0.trans X)).cell (hc2 k q hq))) (Ext.refl _) rfl
                refine DagSteps.cons (fun s' w' X U H => Or.inl ⟨?_, ?_⟩) ?_
                · exact Guarded_none rfl
                · have e158 : s' 158 = (.int .i64 q) := H 10 rfl 158 (.eq (.int .i64 q)) rfl (by rw [hFs37]; rfl)
                  exact Does_enter (r_callF (vs := [(.int .i64 q)]) Try.func27 nm27 bd27 (lst1 e158)) (rorbit_h _ q)
                refine DagSteps.cons (fun s' w' X U H => Or.inl ⟨?_, ?_⟩) ?_
                · exact Guarded_none rfl
                · obtain ⟨b159, o159, c159, m159, e159, h159⟩ := H 11 rfl 159 (.gen (headF (hdO q)) (headF_ext _)) rfl (by rw [hFs37]; rfl)
                  exact Does_idx0 e159 h159
                refine DagSteps.cons (fun s' w' X U H => Or.inl ⟨?_, ?_⟩) ?_
                · exact Guarded_none rfl
                · obtain ⟨b160, o160, e160, h160⟩ := H 12 rfl 160 (.gen (ptrF (hdO q)) (ptrF_ext _)) rfl (by rw [hFs37]; rfl)
                  exact Does_ld e160 h160
                refine DagSteps.cons (fun s' w' X U H => Or.inl ⟨?_, ?_⟩) ?_
                · exact Guarded_none rfl
                · have e154 : s' 154 = (.int .i64 (hdO p)) := H 6 rfl 154 (.eq (.int .i64 (hdO p))) rfl (by rw [hFs37]; rfl)
                  have e161 : s' 161 = (.int .i64 (hdO q)) := H 13 rfl 161 (.eq (.int .i64 (hdO q))) rfl (by rw [hFs37]; rfl)
                  exact Does_val (r_eql (k := .i64) (a := hdO p) (b := hdO q) e154 e161) (Ext.refl _) rfl
                refine DagSteps.cons (fun s' w' X U H => Or.inl ⟨?_, ?_⟩) ?_
                · exact Guarded_none rfl
                · have e162 : s' 162 = (.bool (decide (hdO p = hdO q))) := H 14 rfl 162 (.eq (.bool (decide (hdO p = hdO q)))) rfl (by rw [hFs37]; rfl)
                  exact Does_val (r_assign (v := (.bool (decide (hdO p = hdO q)))) e162) (Ext.refl _) rfl
                exact DagSteps.nil
              · intro s' w37 X37 U H
                obtain ⟨j37, rfl⟩ := Fits.out (σ := s') (l := [(2, (.slice (some ⟨b1, o1, none⟩) a.length ac)), (3, (.slice (some ⟨b2, o2, none⟩) b.length bc)), (10, (.int .i64 se)), (16, (.bool ss)), (17, (.int .i64 ww)), (21, (.int .i64 ((k : Nat) : Int))), (139, (.int .i64 ((k : Nat) : Int))), (140, (.slice (some ⟨b1, o1, none⟩) a.length ac)), (141, (.int .i64 ((a.length : Nat) : Int))), (142, (.bool (decide ((((k : Nat) : Int) : Int) < ((a.length : Nat) : Int))))), (143, (.bool (decide ((((k : Nat) : Int) : Int) < ((a.length : Nat) : Int))))), (145, (.bool ((decide ((((k : Nat) : Int) : Int) < ((a.length : Nat) : Int))) && js))), (148, (.slice (some ⟨b1, o1, none⟩) a.length ac)), (149, (.int .i64 ((k : Nat) : Int))), (150, (.pointer (some ⟨b1, o1 + k, none⟩))), (151, (.int .i64 p)), (154, (.int .i64 (hdO p))), (155, (.slice (some ⟨b2, o2, none⟩) b.length bc)), (156, (.int .i64 ((k : Nat) : Int))), (157, (.pointer (some ⟨b2, o2 + k, none⟩))), (158, (.int .i64 q)), (161, (.int .i64 (hdO q))), (162, (.bool (decide (hdO p = hdO q)))), (18, (.bool (decide (hdO p = hdO q))))]) ⟨U 2 rfl, U 3 rfl, U 10 rfl, U 16 rfl, U 17 rfl, U 21 rfl, U 139 rfl, U 140 rfl, U 141 rfl, U 142 rfl, U 143 rfl, U 145 rfl, (show s' 148 = (.slice (some ⟨b1, o1, none⟩) a.length ac) from H 0 148 (.eq (.slice (some ⟨b1, o1, none⟩) a.length ac)) rfl (by rw [hFs37]; rfl)), (show s' 149 = (.int .i64 ((k : Nat) : Int)) from H 1 149 (.eq (.int .i64 ((k : Nat) : Int))) rfl (by rw [hFs37]; rfl)), (show s' 150 = (.pointer (some ⟨b1, o1 + k, none⟩)) from H 2 150 (.eq (.pointer (some ⟨b1, o1 + k, none⟩))) rfl (by rw [hFs37]; rfl)), (show s' 151 = (.int .i64 p) from H 3 151 (.eq (.int .i64 p)) rfl (by rw [hFs37]; rfl)), (show s' 154 = (.int .i64 (hdO p)) from H 6 154 (.eq (.int .i64 (hdO p))) rfl (by rw [hFs37]; rfl)), (show s' 155 = (.slice (some ⟨b2, o2, none⟩) b.length bc) from H 7 155 (.eq (.slice (some ⟨b2, o2, none⟩) b.length bc)) rfl (by rw [hFs37]; rfl)), (show s' 156 = (.int .i64 ((k : Nat) : Int)) from H 8 156 (.eq (.int .i64 ((k : Nat) : Int))) rfl (by rw [hFs37]; rfl)), (show s' 157 = (.pointer (some ⟨b2, o2 + k, none⟩)) from H 9 157 (.eq (.pointer (some ⟨b2, o2 + k, none⟩))) rfl (by rw [hFs37]; rfl)), (show s' 158 = (.int .i64 q) from H 10 158 (.eq (.int .i64 q)) rfl (by rw [hFs37]; rfl)), (show s' 161 = (.int .i64 (hdO q)) from H 13 161 (.eq (.int .i64 (hdO q))) rfl (by rw [hFs37]; rfl)), (show s' 162 = (.bool (decide (hdO p = hdO q))) from H 14 162 (.eq (.bool (decide (hdO p = hdO q)))) rfl (by rw [hFs37]; rfl)), (show s' 18 = (.bool (decide (hdO p = hdO q))) from H 15 18 (.eq (.bool (decide (hdO p = hdO q)))) rfl (by rw [hFs37]; rfl)), trivial⟩
                clear U H
                replace E := E.ext X37
                replace E5 := E5.ext X37
                refine inB_normal ?_
                refine thn_normal ?_
                refine Wp_region ?_
                refine WpL_val rfl rfl (by decide) (r_move (v := (.int .i64 ((k : Nat) : Int))) rfl) ?_
                refine WpL_val rfl rfl (by decide) (r_add (k := .i64) (a := ((k : Nat) : Int)) (b := 1) (c := ((k : Nat) : Int) + 1) rfl rfl (wI64 (by omega))) ?_
                refine WpL_val rfl rfl (by decide) (r_assign (v := (.int .i64 (((k : Nat) : Int) + 1))) rfl) ?_
                refine WpL_nil ?_
                refine thn_normal ?_
                exact ⟨a.length - (k + 1), by omega, k + 1, decide (hdO p = hdO q), Fits.out ⟨rfl, rfl, rfl, rfl, rfl, rfl, rfl, trivial⟩, E, E5, (by omega), (by rw [heads_succ hp hq hj2.2, hj2.1]; rfl), rfl⟩
            · have khlt2 := hlt2
              have hfin := same_law hw1 hww hii hjs (fun h => by simpa [h] using hlt2) hk
              refine Wp_exit ?_
              refine thn_exit ?_
              refine thn_exit ?_
              refine inB_here ?_
              refine thn_normal ?_
              refine Wp_seq_region ?_
              refine WpL_val rfl rfl (by decide) (r_move (v := (.int .i64 se)) rfl) ?_
              refine WpL_val rfl rfl (by decide) (r_move (v := (.int .i64 ww)) rfl) ?_
              obtain ⟨e38, he38⟩ : ∃ e, (decide ((se : Int) = ww)) = e := ⟨_, rfl⟩
              refine WpL_val rfl rfl (by decide) ((r_eql (k := .i64) (a := se) (b := ww) rfl rfl).trans (by rw [he38]; try rfl)) ?_
              refine WpL_val rfl rfl (by decide) (r_move (v := (.bool e38)) rfl) ?_
              refine WpL_guard_any (oj := _) (gv := (.bool e38)) (u := (bif e38 then (.bool ss) else undef)) rfl rfl (by decide) (by decide) rfl (by cases e38 <;> first | exact Or.inr ⟨Or.inl rfl, rfl⟩ | exact Or.inr ⟨Or.inr rfl, rfl⟩ | exact Or.inl ⟨rfl, r_move (v := (.bool ss)) rfl⟩) ?_
              refine WpL_guard_any (oj := _) (gv := (.bool e38)) (u := (bif e38 then (.bool js) else undef)) rfl rfl (by decide) (by decide) rfl (by cases e38 <;> first | exact Or.inr ⟨Or.inl rfl, rfl⟩ | exact Or.inr ⟨Or.inr rfl, rfl⟩ | exact Or.inl ⟨rfl, r_move (v := (.bool js)) rfl⟩) ?_
              refine WpL_guard_any (oj := _) (gv := (.bool e38)) (u := (bif e38 then (.bool (ss == js)) else undef)) rfl rfl (by decide) (by decide) rfl (by cases e38 <;> first | exact Or.inr ⟨Or.inl rfl, rfl⟩ | exact Or.inr ⟨Or.inr rfl, rfl⟩ | exact Or.inl ⟨rfl, r_eqlB (p := ss) (q := js) Try.underlying4 rfl rfl⟩) ?_
              obtain ⟨e39, he39⟩ : ∃ e, (e38 && (ss == js)) = e := ⟨_, rfl⟩
              refine WpL_val rfl rfl (by decide) (r_pick (b := e38) (v := .bool e39) rfl (by rw [← he39]; cases e38 <;> rfl)) ?_
              refine WpL_val rfl rfl (by decide) (r_assign (v := (.bool e39)) rfl) ?_
              refine WpL_nil ?_
              subst he39
              subst he38
              refine Wp_ret ?_
              refine fin_tmp Try.results5 (v := (.bool ((decide ((se : Int) = ww)) && (ss == js)))) rfl ?_
              exact ⟨bool_eq (by rw [hss, hse, hfin.1, hfin.2]; simp), E⟩
  · have khz := hz
    have hz2 : 0 ≤ r ∧ r ≤ 1114111 := by simp at khz; omega
    have hz3 : ¬ runeB r = false := by unfold runeB; simp; omega
    obtain ⟨t, ht⟩ := orb_cons r
    refine Wp_seq_region ?_
    refine WpL_val rfl rfl (by decide) (r_assign (v := (.bool false)) rfl) ?_
    refine WpL_nil ?_
    refine Wp_seq_region ?_
    refine WpL_val rfl rfl (by decide) (r_move (v := (.int .i64 r)) rfl) ?_
    refine WpL_enter rfl rfl (by decide) (r_callF (vs := [(.int .i64 r)]) Try.func15 nm15 bd15 rfl) ((Orbit_ok _ r hz2).mono (fun v w h => (by rw [ht] at h; exact h : (∃ a c, v = .tuple #[.slice a (hdO r :: t).length c, .int .i64 0] ∧ IntsAt w (.slice a (hdO r :: t).length c) (hdO r :: t)) ∧ Ext _ w))) ?_
    rintro _ w21 ⟨⟨oa, oc, rfl, ho⟩, X21⟩
    replace E := E.ext X21
    refine WpL_val rfl rfl (by decide) (r_move (v := (.tuple #[(.slice oa ((hdO r :: t).length) oc), (.int .i64 0)])) rfl) ?_
    refine WpL_val rfl rfl (by decide) (r_extract (vs := #[(.slice oa ((hdO r :: t).length) oc), (.int .i64 0)]) (v := (.slice oa ((hdO r :: t).length) oc)) rfl rfl) ?_
    refine WpL_val rfl rfl (by decide) (r_extract (vs := #[(.slice oa ((hdO r :: t).length) oc), (.int .i64 0)]) (v := (.int .i64 0)) rfl rfl) ?_
    refine WpL_val rfl rfl (by decide) (r_assign (v := (.slice oa ((hdO r :: t).length) oc)) rfl) ?_
    refine WpL_val rfl rfl (by decide) (r_assign (v := (.int .i64 0)) rfl) ?_
    refine WpL_nil ?_
    refine Wp_seq_region ?_
    refine WpL_val rfl rfl (by decide) (r_move (v := (.int .i64 r)) rfl) ?_
    refine WpL_enter rfl rfl (by decide) (r_callF (vs := [(.int .i64 r)]) Try.func25 nm25 bd25 rfl) ((key_c _ r).mono (fun v w h => (by have e : keyV r = (hdO r, 0) := (by unfold keyV; rw [if_neg hz3]); rw [e] at h; exact h : v = .tuple #[.int .i64 (hdO r), .int .i64 0] ∧ Ext _ w))) ?_
    rintro _ w22 ⟨rfl, X22⟩
    replace E := E.ext X22
    refine WpL_val rfl rfl (by decide) (r_move (v := (.tuple #[(.int .i64 (hdO r)), (.int .i64 0)])) rfl) ?_
    refine WpL_val rfl rfl (by decide) (r_extract (vs := #[(.int .i64 (hdO r)), (.int .i64 0)]) (v := (.int .i64 (hdO r))) rfl rfl) ?_
    refine WpL_val rfl rfl (by decide) (r_extract (vs := #[(.int .i64 (hdO r)), (.int .i64 0)]) (v := (.int .i64 0)) rfl rfl) ?_
    refine WpL_val rfl rfl (by decide) (r_assign (v := (.int .i64 (hdO r))) rfl) ?_
    refine WpL_val rfl rfl (by decide) (r_assign (v := (.int .i64 0)) rfl) ?_
    refine WpL_nil ?_
    refine Wp_seq ?_
    refine Wp_seq_region ?_
    refine WpL_enter rfl rfl (by decide) (r_callF (vs := []) Try.func26 nm26 bd26 rfl) (fbegun_c _) ?_
    rintro _ w23 ⟨rfl, X23⟩
    replace E := E.ext X23
    refine WpL_val rfl rfl (by decide) (r_not (b := true) rfl) ?_
    refine WpL_nil ?_
    refine Wp_cond_false rfl ?_
    refine Wp_skip ?_
    refine thn_normal ?_
    refine Wp_seq ?_
    refine Wp_seq_region ?_
    refine WpL_val rfl rfl (by decide) (r_move (v := (.int .i64 r)) rfl) ?_
    obtain ⟨e40, he40⟩ : ∃ e, (decide ((r : Int) < 0)) = e := ⟨_, rfl⟩
    refine WpL_val rfl rfl (by decide) ((r_lss (k := .i64) (a := r) (b := 0) rfl rfl).trans (by rw [he40]; try rfl)) ?_
    refine WpL_val rfl rfl (by decide) (r_move (v := (.bool e40)) rfl) ?_
    refine WpL_guard_any (oj := _) (gv := (.bool e40)) (u := (bif e40 then undef else (.int .i64 r))) rfl rfl (by decide) (by decide) rfl (by cases e40 <;> first | exact Or.inr ⟨Or.inl rfl, rfl⟩ | exact Or.inr ⟨Or.inr rfl, rfl⟩ | exact Or.inl ⟨rfl, r_move (v := (.int .i64 r)) rfl⟩) ?_
    obtain ⟨e41, he41⟩ : ∃ e, (decide ((1114111 : Int) < r)) = e := ⟨_, rfl⟩
    refine WpL_guard_any (oj := _) (gv := (.bool e40)) (u := (bif e40 then undef else (.bool e41))) rfl rfl (by decide) (by decide) rfl (by cases e40 <;> first | exact Or.inr ⟨Or.inl rfl, rfl⟩ | exact Or.inr ⟨Or.inr rfl, rfl⟩ | exact Or.inl ⟨rfl, (r_gtr (k := .i64) (a := r) (b := 1114111) rfl rfl).trans (by rw [he41]; try rfl)⟩) ?_
    obtain ⟨e42, he42⟩ : ∃ e, (e40 || e41) = e := ⟨_, rfl⟩
    refine WpL_val rfl rfl (by decide) (r_pick (b := e40) (v := .bool e42) rfl (by rw [← he42]; cases e40 <;> rfl)) ?_
    refine WpL_nil ?_
    subst he42
    subst he41
    subst he40
    have hc43 : (((decide ((r : Int) < 0)) || (decide ((1114111 : Int) < r)))) = false := khz
    refine Wp_cond_false (congrArg Value.bool hc43) ?_
    refine Wp_seq_region ?_
    refine WpL_val rfl rfl (by decide) (r_move (v := (.int .i64 r)) rfl) ?_
    refine WpL_enter rfl rfl (by decide) (r_callF (vs := [(.int .i64 r)]) Try.func27 nm27 bd27 rfl) ((rorbit_c _ r).mono (fun v w h => (by rw [ht] at h; exact ⟨h.1.1, h.1.at, h.2⟩ : (∃ a c, v = .slice a (hdO r :: t).length c) ∧ IntsAt w v (hdO r :: t) ∧ Ext _ w))) ?_
    rintro _ w24 ⟨⟨pa, pc, rfl⟩, hpr, X24⟩
    replace E := E.ext X24
    refine WpL_val rfl rfl (by decide) (r_assign (v := (.slice pa ((hdO r :: t).length) pc)) rfl) ?_
    refine WpL_nil ?_
    refine Wp_seq_region ?_
    refine WpL_val rfl rfl (by decide) (r_move (v := (.int .i64 0)) rfl) ?_
    refine WpL_val rfl rfl (by decide) (r_neq (k := .i64) (a := 0) (b := 0) rfl rfl) ?_
    refine WpL_val rfl rfl (by decide) (r_move (v := (.bool false)) rfl) ?_
    refine WpL_guard_yes (oj := _) rfl rfl (by decide) rfl ?_
    refine WpL_val rfl rfl (by decide) (r_move (v := (.int .i64 0)) rfl) ?_
    refine WpL_guard_yes (oj := _) rfl rfl (by decide) rfl ?_
    refine WpL_val rfl rfl (by decide) (r_neq (k := .i64) (a := 0) (b := 0) rfl rfl) ?_
    refine WpL_val rfl rfl (by decide) (r_pick (b := false) (v := (.bool false)) rfl rfl) ?_
    refine WpL_val rfl rfl (by decide) (r_move (v := (.bool false)) rfl) ?_
    refine WpL_guard_yes (oj := _) rfl rfl (by decide) rfl ?_
    refine WpL_val rfl rfl (by decide) (r_move (v := (.slice oa ((hdO r :: t).length) oc)) rfl) ?_
    refine WpL_guard_yes (oj := _) rfl rfl (by decide) rfl ?_
    refine WpL_val rfl rfl (by decide) (r_move (v := (.slice pa ((hdO r :: t).length) pc)) rfl) ?_
    refine WpL_guard_yes (oj := _) rfl rfl (by decide) rfl ?_
    refine WpL_enter rfl rfl (by decide) (r_callF (vs := [(.slice oa ((hdO r :: t).length) oc), (.slice pa ((hdO r :: t).length) pc)]) Try.func28 nm28 bd28 rfl) (rinteq_ok _ _ _ (hdO r :: t) (((ho.ext X22).ext X23).ext X24) hpr) ?_
    rintro _ w25 ⟨rfl, X25⟩
    replace E := E.ext X25
    obtain ⟨pb, po, hpb, hpcl⟩ := ints_cells hpr (by simp)
    subst hpb
    refine WpL_guard_yes (oj := _) rfl rfl (by decide) rfl ?_
    refine WpL_val rfl rfl (by decide) (r_not (b := true) rfl) ?_
    refine WpL_val rfl rfl (by decide) (r_pick (b := false) (v := (.bool false)) rfl rfl) ?_
    refine WpL_val rfl rfl (by decide) (r_move (v := (.bool false)) rfl) ?_
    refine WpL_guard_yes (oj := _) rfl rfl (by decide) rfl ?_
    refine WpL_val rfl rfl (by decide) (r_move (v := (.int .i64 (hdO r))) rfl) ?_
    refine WpL_guard_yes (oj := _) rfl rfl (by decide) rfl ?_
    refine WpL_val rfl rfl (by decide) (r_move (v := (.slice (some ⟨pb, po, none⟩) ((hdO r :: t).length) pc)) rfl) ?_
    refine WpL_guard_yes (oj := _) rfl rfl (by decide) rfl ?_
    refine WpL_val rfl rfl (by decide) (r_indexSlice (b := pb) (o := po) (len := (hdO r :: t).length) (cap := pc) (i := 0) (o' := po + 0) rfl rfl rfl Try.underlying22 siz3 (by simp) (by omega)) ?_
    refine WpL_guard_yes (oj := _) rfl rfl (by decide) rfl ?_
    refine WpL_val rfl rfl (by decide) (r_load (v := (.int .i64 (hdO r))) rfl flat3 (X25.cell (hpcl 0 _ rfl))) ?_
    have hk1 : decide ((hdO r : Int) ≠ hdO r) = false := by simp
    refine WpL_guard_yes (oj := _) rfl rfl (by decide) rfl ?_
    refine WpL_val rfl rfl (by decide) (r_neq (k := .i64) (a := hdO r) (b := hdO r) rfl rfl) ?_
    refine WpL_val rfl rfl (by decide) (r_pick (b := false) (v := (.bool (decide ((hdO r : Int) ≠ hdO r)))) rfl rfl) ?_
    refine WpL_nil ?_
    refine Wp_cond_false (congrArg Value.bool hk1) ?_
    refine Wp_skip ?_
    refine thn_normal ?_
    refine Wp_seq_region ?_
    refine WpL_val rfl rfl (by decide) (r_move (v := vl) rfl) ?_
    refine WpL_enter rfl rfl (by decide) (r_callF (vs := [vl]) Try.func10 nm10 bd10 rfl) (close_c _ _ l (hl.ext E)) ?_
    rintro _ w31 ⟨⟨o1, e1, p1, xa1, xc1, rfl, hx1⟩, X31⟩
    replace E := E.ext X31
    refine WpL_val rfl rfl (by decide) (r_move (v := (.tuple #[(.slice xa1 o1.length xc1), (.int .i64 e1)])) rfl) ?_
    refine WpL_val rfl rfl (by decide) (r_extract (vs := #[(.slice xa1 o1.length xc1), (.int .i64 e1)]) (v := (.slice xa1 o1.length xc1)) rfl rfl) ?_
    refine WpL_val rfl rfl (by decide) (r_extract (vs := #[(.slice xa1 o1.length xc1), (.int .i64 e1)]) (v := (.int .i64 e1)) rfl rfl) ?_
    refine WpL_val rfl rfl (by decide) (r_assign (v := (.slice xa1 o1.length xc1)) rfl) ?_
    refine WpL_val rfl rfl (by decide) (r_assign (v := (.int .i64 e1)) rfl) ?_
    refine WpL_nil ?_
    refine Wp_seq_region ?_
    refine WpL_val rfl rfl (by decide) (r_move (v := vl) rfl) ?_
    refine WpL_enter rfl rfl (by decide) (r_callF (vs := [vl]) Try.func29 nm29 bd29 rfl) ((rclose_c _ _ l (hl.ext E)).mono (fun v w h => (by obtain ⟨⟨o2, e2, p2, h2⟩, h3⟩ := h; obtain ⟨rfl, rfl⟩ := p1.uniq p2; exact ⟨h2, h3⟩ : SetRes w v o1 e1 ∧ Ext _ w))) ?_
    rintro _ w32 ⟨⟨xa2, xc2, rfl, hx2⟩, X32⟩
    replace E := E.ext X32
    have hk2 : decide ((e1 : Int) ≠ e1) = false := by simp
    refine WpL_val rfl rfl (by decide) (r_move (v := (.tuple #[(.slice xa2 o1.length xc2), (.int .i64 e1)])) rfl) ?_
    refine WpL_val rfl rfl (by decide) (r_extract (vs := #[(.slice xa2 o1.length xc2), (.int .i64 e1)]) (v := (.slice xa2 o1.length xc2)) rfl rfl) ?_
    refine WpL_val rfl rfl (by decide) (r_extract (vs := #[(.slice xa2 o1.length xc2), (.int .i64 e1)]) (v := (.int .i64 e1)) rfl rfl) ?_
    refine WpL_val rfl rfl (by decide) (r_assign (v := (.slice xa2 o1.length xc2)) rfl) ?_
    refine WpL_val rfl rfl (by decide) (r_assign (v := (.int .i64 e1)) rfl) ?_
    refine WpL_nil ?_
    refine Wp_seq ?_
    refine Wp_seq_region ?_
    refine WpL_val rfl rfl (by decide) (r_move (v := (.int .i64 e1)) rfl) ?_
    refine WpL_val rfl rfl (by decide) (r_move (v := (.int .i64 e1)) rfl) ?_
    refine WpL_val rfl rfl (by decide) (r_neq (k := .i64) (a := e1) (b := e1) rfl rfl) ?_
    refine WpL_val rfl rfl (by decide) (r_move (v := (.bool (decide ((e1 : Int) ≠ e1)))) rfl) ?_
    refine WpL_guard_yes (oj := _) rfl rfl (by decide) (congrArg Value.bool hk2) ?_
    refine WpL_val rfl rfl (by decide) (r_move (v := (.slice xa1 o1.length xc1)) rfl) ?_
    refine WpL_guard_yes (oj := _) rfl rfl (by decide) (congrArg Value.bool hk2) ?_
    refine WpL_val rfl rfl (by decide) (r_move (v := (.slice xa2 o1.length xc2)) rfl) ?_
    refine WpL_guard_yes (oj := _) rfl rfl (by decide) (congrArg Value.bool hk2) ?_
    refine WpL_enter rfl rfl (by decide) (r_callF (vs := [(.slice xa1 o1.length xc1), (.slice xa2 o1.length xc2)]) Try.func30 nm30 bd30 rfl) (req_ok _ _ _ o1 (hx1.ext X32) hx2) ?_
    rintro _ w33 ⟨rfl, X33⟩
    replace E := E.ext X33
    refine WpL_guard_yes (oj := _) rfl rfl (by decide) (congrArg Value.bool hk2) ?_
    refine WpL_val rfl rfl (by decide) (r_not (b := true) rfl) ?_
    refine WpL_val rfl rfl (by decide) (r_pick (b := decide ((e1 : Int) ≠ e1)) (v := (.bool false)) rfl (by rw [hk2]; rfl)) ?_
    refine WpL_nil ?_
    refine Wp_cond_false rfl ?_
    refine Wp_skip ?_
    refine thn_normal ?_
    refine Wp_seq_region ?_
    refine WpL_val rfl rfl (by decide) (r_move (v := (.slice aa a.length ac)) rfl) ?_
    refine WpL_val rfl rfl (by decide) (r_move (v := (.slice ba b.length bc)) rfl) ?_
    refine WpL_enter rfl rfl (by decide) (r_callF (vs := [(.slice aa a.length ac), (.slice ba b.length bc)]) Try.func31 nm31 bd31 rfl) ((same_c' _ _ _ a b (ha.ext E) (hb.ext E)).mono (fun v w h => (by rw [← hss, ← hse] at h; exact h : v = .tuple #[.bool ss, .int .i64 se] ∧ Ext _ w))) ?_
    rintro _ w34 ⟨rfl, X34⟩
    replace E := E.ext X34
    refine WpL_val rfl rfl (by decide) (r_move (v := (.tuple #[(.bool ss), (.int .i64 se)])) rfl) ?_
    refine WpL_val rfl rfl (by decide) (r_extract (vs := #[(.bool ss), (.int .i64 se)]) (v := (.bool ss)) rfl rfl) ?_
    refine WpL_val rfl rfl (by decide) (r_extract (vs := #[(.bool ss), (.int .i64 se)]) (v := (.int .i64 se)) rfl rfl) ?_
    refine WpL_val rfl rfl (by decide) (r_assign (v := (.bool ss)) rfl) ?_
    refine WpL_val rfl rfl (by decide) (r_assign (v := (.int .i64 se)) rfl) ?_
    refine WpL_nil ?_
    refine Wp_seq_region ?_
    refine WpL_val rfl rfl (by decide) (r_assign (v := (.int .i64 0)) rfl) ?_
    refine WpL_nil ?_
    refine Wp_seq ?_
    refine Wp_seq_region ?_
    refine WpL_val rfl rfl (by decide) (r_move (v := (.slice aa a.length ac)) rfl) ?_
    refine WpL_val rfl rfl (by decide) (r_lenSlice (ad := aa) (n := a.length) (cap := ac) Try.underlying22 rfl) ?_
    obtain ⟨e44, he44⟩ : ∃ e, (decide ((1000 : Int) < ((a.length : Nat) : Int))) = e := ⟨_, rfl⟩
    refine WpL_val rfl rfl (by decide) ((r_gtr (k := .i64) (a := ((a.length : Nat) : Int)) (b := 1000) rfl rfl).trans (by rw [he44]; try rfl)) ?_
    refine WpL_val rfl rfl (by decide) (r_move (v := (.bool e44)) rfl) ?_
    refine WpL_guard_any (oj := _) (gv := (.bool e44)) (u := (bif e44 then undef else (.slice ba b.length bc))) rfl rfl (by decide) (by decide) rfl (by cases e44 <;> first | exact Or.inr ⟨Or.inl rfl, rfl⟩ | exact Or.inr ⟨Or.inr rfl, rfl⟩ | exact Or.inl ⟨rfl, r_move (v := (.slice ba b.length bc)) rfl⟩) ?_
    refine WpL_guard_any (oj := _) (gv := (.bool e44)) (u := (bif e44 then undef else (.int .i64 ((b.length : Nat) : Int)))) rfl rfl (by decide) (by decide) rfl (by cases e44 <;> first | exact Or.inr ⟨Or.inl rfl, rfl⟩ | exact Or.inr ⟨Or.inr rfl, rfl⟩ | exact Or.inl ⟨rfl, r_lenSlice (ad := ba) (n := b.length) (cap := bc) Try.underlying22 rfl⟩) ?_
    obtain ⟨e45, he45⟩ : ∃ e, (decide ((1000 : Int) < ((b.length : Nat) : Int))) = e := ⟨_, rfl⟩
    refine WpL_guard_any (oj := _) (gv := (.bool e44)) (u := (bif e44 then undef else (.bool e45))) rfl rfl (by decide) (by decide) rfl (by cases e44 <;> first | exact Or.inr ⟨Or.inl rfl, rfl⟩ | exact Or.inr ⟨Or.inr rfl, rfl⟩ | exact Or.inl ⟨rfl, (r_gtr (k := .i64) (a := ((b.length : Nat) : Int)) (b := 1000) rfl rfl).trans (by rw [he45]; try rfl)⟩) ?_
    obtain ⟨e46, he46⟩ : ∃ e, (e44 || e45) = e := ⟨_, rfl⟩
    refine WpL_val rfl rfl (by decide) (r_pick (b := e44) (v := .bool e46) rfl (by rw [← he46]; cases e44 <;> rfl)) ?_
    refine WpL_nil ?_
    subst he46
    subst he45
    subst he44
    refine Wp_cond (b := ((decide ((1000 : Int) < ((a.length : Nat) : Int))) || (decide ((1000 : Int) < ((b.length : Nat) : Int))))) rfl (fun hbig => ?_) (fun hbig => ?_)
    · have khbig := hbig
      have hw1 : (2 : Int) = if 1000 < a.length ∨ 1000 < b.length then 2 else 0 := by rw [if_pos (by simp at hbig; omega)]
      refine Wp_region ?_
      refine WpL_val rfl rfl (by decide) (r_assign (v := (.int .i64 2)) rfl) ?_
      refine WpL_nil ?_
      refine thn_normal ?_
      refine Wp_seq_region ?_
      refine WpL_val rfl rfl (by decide) (r_move (v := (.int .i64 2)) rfl) ?_
      refine WpL_val rfl rfl (by decide) (r_eql (k := .i64) (a := 2) (b := 0) rfl rfl) ?_
      refine WpL_val rfl rfl (by decide) (r_move (v := (.bool false)) rfl) ?_
      refine WpL_guard_no (oj := _) rfl rfl (by decide) (v := .bool false) rfl (Or.inl rfl) ?_
      refine WpL_guard_no (oj := _) rfl rfl (by decide) (v := .bool false) rfl (Or.inl rfl) ?_
      refine WpL_guard_no (oj := _) rfl rfl (by decide) (v := .bool false) rfl (Or.inl rfl) ?_
      refine WpL_guard_no (oj := _) rfl rfl (by decide) (v := .bool false) rfl (Or.inl rfl) ?_
      refine WpL_guard_no (oj := _) rfl rfl (by decide) (v := .bool false) rfl (Or.inl rfl) ?_
      refine WpL_val rfl rfl (by decide) (r_pick (b := false) (v := (.bool false)) rfl rfl) ?_
      refine WpL_val rfl rfl (by decide) (r_assign (v := (.bool false)) rfl) ?_
      refine WpL_nil ?_
      refine Wp_seq ?_
      refine Wp_seq_region ?_
      refine s_build0 (by decide) Try.underlying22 siz3 ?_
      intro bq wq Nq
      have Fq := Nq.ge E
      replace E := E.ext Nq.ext
      have Bq := Nq.blk
      refine WpL_val rfl rfl (by decide) (r_move (v := (.slice aa a.length ac)) rfl) ?_
      have hown0 := own_empty (base := base) (size := 1) Bq (by have := E.size; omega)
      refine s_appendAny (base := base) (n := 0) (m := a.length) (xs := []) (news := (a.map (Value.int .i64))) (size := 1) (bytes := 8) (v := (.slice (some ⟨bq, 0, none⟩) 0 0)) (by decide) Try.underlying22 siz3 byt3 zer3 rfl (by decide) rfl hown0 rfl (by simp) (ints_any (ha.ext E)) (by simp [Value.oneCell']) (by unfold maxLen; omega) (by omega) (by have := E.size; omega) ?_
      intro v8 w8 Ov8 Cv8 Dv8
      replace E := E.step Cv8 (fun x hx h => absurd (hown0.lt x h).1 (by omega))
      obtain ⟨xa, xc, rfl⟩ := own_form Ov8
      refine WpL_val rfl rfl (by decide) (r_move (v := (.slice ba b.length bc)) rfl) ?_
      refine s_appendAny (base := base) (n := 0 + a.length) (m := b.length) (xs := ([] ++ a.map (Value.int .i64))) (news := (b.map (Value.int .i64))) (size := 1) (bytes := 8) (v := (.slice xa (0 + a.length) xc)) (by decide) Try.underlying22 siz3 byt3 zer3 rfl (by decide) rfl Ov8 rfl (by simp) (ints_any (hb.ext E)) (by simp [Value.oneCell']) (by unfold maxLen; omega) (by omega) (by have := E.size; omega) ?_
      intro v9 w9 Ov9 Cv9 Dv9
      replace E := E.step Cv9 (fun x hx h => absurd (Ov8.lt x h).1 (by omega))
      obtain ⟨ya, yc, rfl⟩ := own_form Ov9
      have hO : w9.ownsRow base TInt 1 (.slice ya (0 + a.length + b.length) yc) (0 + a.length + b.length) ((a ++ b).map (Value.int .i64)) := by simpa using Ov9
      have hab : IntsAt w9 (.slice ya (0 + a.length + b.length) yc) (a ++ b) := by have h9 : OwnI w9 base (.slice ya (0 + a.length + b.length) yc) (a ++ b) := ⟨⟨ya, yc, by simp⟩, by rw [show (a ++ b).length = 0 + a.length + b.length by simp]; exact hO⟩; exact h9.at
      have hbl : (a ++ b).length = 0 + a.length + b.length := by simp
      have E5 : Chg none1 w9 w9 := Chg.refl _ _
      refine WpL_val rfl rfl (by decide) (r_lenSlice (ad := ya) (n := (0 + a.length + b.length)) (cap := yc) Try.underlying22 rfl) ?_
      refine WpL_val rfl rfl (by decide) (r_move (v := (.int .i64 0)) rfl) ?_
      refine WpL_nil ?_
      refine Wp_block ?_
      refine Wp_loop (fun nn_ σ W48 => ∃ (i : Nat) (ww : Int) (ii : Bool), (∃ jj_, σ = upds jj_ [(2, (.slice aa a.length ac)), (3, (.slice ba b.length bc)), (10, (.int .i64 se)), (16, (.bool ss)), (122, (.slice ya (0 + a.length + b.length) yc)), (123, (.int .i64 (((0 + a.length + b.length) : Nat) : Int))), (124, (.int .i64 ((i : Nat) : Int))), (17, (.int .i64 ww)), (18, (.bool ii))]) ∧ Chg none1 w0 W48 ∧ Chg none1 w9 W48 ∧ (i ≤ (a ++ b).length) ∧ (ww = stepW 2 ((a ++ b).take i)) ∧ (ii = (decide (ww = 0) && decide (a.length = b.length))) ∧ nn_ = (a ++ b).length - i) (n := (a ++ b).length - 0) ?_ ?_
      · exact ⟨0, 2, false, Fits.out ⟨rfl, rfl, rfl, rfl, rfl, rfl, rfl, rfl, rfl, trivial⟩, E, E5, Nat.zero_le _, (by simp [stepW, badB]), (by simp <;> omega), rfl⟩
      · clear E E5
        rintro _ _ W48 ⟨i, ww, ii, ⟨j48, rfl⟩, E, E5, hi, hww, hii, rfl⟩
        refine Wp_seq_region ?_
        refine WpL_val rfl rfl (by decide) (r_lss (k := .i64) (a := ((i : Nat) : Int)) (b := (((0 + a.length + b.length) : Nat) : Int)) rfl rfl) ?_
        refine WpL_nil ?_
        refine Wp_seq ?_
        refine Wp_cond (b := decide ((((i : Nat) : Int) : Int) < (((0 + a.length + b.length) : Nat) : Int))) rfl (fun hlt => ?_) (fun hlt => ?_)
        · have khlt := hlt
          replace hlt := of_decide_eq_true hlt
          obtain ⟨c, hc⟩ := get_of_lt (l := a ++ b) (i := i) (by omega)
          obtain ⟨bc1, oc1, rfl, hcl⟩ := ints_cells hab (by omega)
          refine Wp_skip ?_
          refine thn_normal ?_
          refine Wp_seq ?_
          refine Wp_block ?_
          refine Wp_seq_region ?_
          refine WpL_val rfl rfl (by decide) (r_indexSlice (b := bc1) (o := oc1) (len := (0 + a.length + b.length)) (cap := yc) (i := i) (o' := oc1 + i) rfl rfl rfl Try.underlying22 siz3 (by omega) (by omega)) ?_
          refine WpL_val rfl rfl (by decide) (r_load (v := (.int .i64 c)) rfl flat3 (E5.cell (fun f => f) (hcl i c hc))) ?_
          refine WpL_val rfl rfl (by decide) (r_assign (v := (.int .i64 c)) rfl) ?_
          refine WpL_nil ?_
          refine Wp_seq_region ?_
          refine WpL_val rfl rfl (by decide) (r_move (v := (.int .i64 ww)) rfl) ?_
          obtain ⟨e50, he50⟩ : ∃ e, (decide ((ww : Int) = 0)) = e := ⟨_, rfl⟩
          refine WpL_val rfl rfl (by decide) ((r_eql (k := .i64) (a := ww) (b := 0) rfl rfl).trans (by rw [he50]; try rfl)) ?_
          refine WpL_val rfl rfl (by decide) (r_move (v := (.bool e50)) rfl) ?_
          refine WpL_guard_any (oj := _) (gv := (.bool e50)) (u := (bif e50 then (.int .i64 c) else undef)) rfl rfl (by decide) (by decide) rfl (by cases e50 <;> first | exact Or.inr ⟨Or.inl rfl, rfl⟩ | exact Or.inr ⟨Or.inr rfl, rfl⟩ | exact Or.inl ⟨rfl, r_move (v := (.int .i64 c)) rfl⟩) ?_
          obtain ⟨e51, he51⟩ : ∃ e, (decide ((c : Int) < 0)) = e := ⟨_, rfl⟩
          refine WpL_guard_any (oj := _) (gv := (.bool e50)) (u := (bif e50 then (.bool e51) else undef)) rfl rfl (by decide) (by decide) rfl (by cases e50 <;> first | exact Or.inr ⟨Or.inl rfl, rfl⟩ | exact Or.inr ⟨Or.inr rfl, rfl⟩ | exact Or.inl ⟨rfl, (r_lss (k := .i64) (a := c) (b := 0) rfl rfl).trans (by rw [he51]; try rfl)⟩) ?_
          refine WpL_guard_any (oj := _) (gv := (.bool e50)) (u := (bif e50 then (.bool e51) else undef)) rfl rfl (by decide) (by decide) rfl (by cases e50 <;> first | exact Or.inr ⟨Or.inl rfl, rfl⟩ | exact Or.inr ⟨Or.inr rfl, rfl⟩ | exact Or.inl ⟨rfl, r_move (v := (.bool e51)) rfl⟩) ?_
          refine WpL_guard_any (oj := _) (gv := (bif e50 then (.bool e51) else undef)) (u := (bif e50 then (bif e51 then undef else (.int .i64 c)) else undef)) rfl rfl (by decide) (by decide) rfl (by cases e50 <;> cases e51 <;> first | exact Or.inr ⟨Or.inl rfl, rfl⟩ | exact Or.inr ⟨Or.inr rfl, rfl⟩ | exact Or.inl ⟨rfl, r_move (v := (.int .i64 c)) rfl⟩) ?_
          obtain ⟨e52, he52⟩ : ∃ e, (decide ((1114111 : Int) < c)) = e := ⟨_, rfl⟩
          refine WpL_guard_any (oj := _) (gv := (bif e50 then (.bool e51) else undef)) (u := (bif e50 then (bif e51 then undef else (.bool e52)) else undef)) rfl rfl (by decide) (by decide) rfl (by cases e50 <;> cases e51 <;> first | exact Or.inr ⟨Or.inl rfl, rfl⟩ | exact Or.inr ⟨Or.inr rfl, rfl⟩ | exact Or.inl ⟨rfl, (r_gtr (k := .i64) (a := c) (b := 1114111) rfl rfl).trans (by rw [he52]; try rfl)⟩) ?_
          obtain ⟨e53, he53⟩ : ∃ e, (e51 || e52) = e := ⟨_, rfl⟩
          refine WpL_guard_any (oj := _) (gv := (.bool e50)) (u := (bif e50 then (.bool e53) else undef)) rfl rfl (by decide) (by decide) rfl (by cases e50 <;> first | exact Or.inr ⟨Or.inl rfl, rfl⟩ | exact Or.inr ⟨Or.inr rfl, rfl⟩ | exact Or.inl ⟨rfl, r_pick (b := e51) (v := .bool e53) rfl (by rw [← he53]; cases e51 <;> rfl)⟩) ?_
          obtain ⟨e54, he54⟩ : ∃ e, (e50 && e53) = e := ⟨_, rfl⟩
          refine WpL_val rfl rfl (by decide) (r_pick (b := e50) (v := .bool e54) rfl (by rw [← he54]; cases e50 <;> rfl)) ?_
          refine WpL_nil ?_
          subst he54
          subst he53
          subst he52
          subst he51
          subst he50
          refine Wp_cond (b := ((decide ((ww : Int) = 0)) && ((decide ((c : Int) < 0)) || (decide ((1114111 : Int) < c))))) rfl (fun hcc => ?_) (fun hcc => ?_)
          · have khcc := hcc
            have hcc2 : ww = 0 ∧ (c < 0 ∨ 1114111 < c) := by simpa using hcc
            refine Wp_region ?_
            refine WpL_val rfl rfl (by decide) (r_assign (v := (.int .i64 1)) rfl) ?_
            refine WpL_val rfl rfl (by decide) (r_assign (v := (.bool false)) rfl) ?_
            refine WpL_nil ?_
            refine inB_normal ?_
            refine thn_normal ?_
            refine Wp_region ?_
            refine WpL_val rfl rfl (by decide) (r_add (k := .i64) (a := ((i : Nat) : Int)) (b := 1) (c := ((i : Nat) : Int) + 1) rfl rfl (wI64 (by omega))) ?_
            refine WpL_val rfl rfl (by decide) (r_move (v := (.int .i64 (((i : Nat) : Int) + 1))) rfl) ?_
            refine WpL_nil ?_
            refine thn_normal ?_
            exact ⟨(a ++ b).length - (i + 1), by omega, i + 1, 1, false, Fits.out ⟨rfl, rfl, rfl, rfl, rfl, rfl, rfl, rfl, rfl, trivial⟩, E, E5, (by omega), (stepW_one hc (by omega) hcc2.2).symm, rfl, rfl⟩
          · have khcc := hcc
            have hcc2 : ¬ (ww = 0 ∧ (c < 0 ∨ 1114111 < c)) := by simpa using hcc
            refine Wp_skip ?_
            refine inB_normal ?_
            refine thn_normal ?_
            refine Wp_region ?_
            refine WpL_val rfl rfl (by decide) (r_add (k := .i64) (a := ((i : Nat) : Int)) (b := 1) (c := ((i : Nat) : Int) + 1) rfl rfl (wI64 (by omega))) ?_
            refine WpL_val rfl rfl (by decide) (r_move (v := (.int .i64 (((i : Nat) : Int) + 1))) rfl) ?_
            refine WpL_nil ?_
            refine thn_normal ?_
            exact ⟨(a ++ b).length - (i + 1), by omega, i + 1, ww, ii, Fits.out ⟨rfl, rfl, rfl, rfl, rfl, rfl, rfl, rfl, rfl, trivial⟩, E, E5, (by omega), (by rw [hww] at hcc2; rw [stepW_same hc hcc2, hww]), hii, rfl⟩
        · have khlt := hlt
          replace hlt := of_decide_eq_false hlt
          have hie : i = (a ++ b).length := by omega
          rw [hie, List.take_length] at hww
          refine Wp_exit ?_
          refine thn_exit ?_
          refine thn_exit ?_
          refine inB_here ?_
          refine thn_normal ?_
          refine Wp_seq ?_
          refine Wp_seq_region ?_
          refine WpL_val rfl rfl (by decide) (r_assign (v := (.int .i64 0)) rfl) ?_
          refine WpL_nil ?_
          refine Wp_block ?_
          refine Wp_loop (fun nn_ σ W56 => ∃ (k : Nat) (js : Bool), (∃ jj_, σ = upds jj_ [(2, (.slice aa a.length ac)), (3, (.slice ba b.length bc)), (10, (.int .i64 se)), (16, (.bool ss)), (17, (.int .i64 ww)), (21, (.int .i64 ((k : Nat) : Int))), (18, (.bool js))]) ∧ Chg none1 w0 W56 ∧ Chg none1 w9 W56 ∧ (k ≤ a.length) ∧ (js = (ii && decide ((a.take k).map hdO = (b.take k).map hdO))) ∧ nn_ = a.length - k) (n := a.length - 0) ?_ ?_
          · exact ⟨0, ii, Fits.out ⟨rfl, rfl, rfl, rfl, rfl, rfl, rfl, trivial⟩, E, E5, Nat.zero_le _, (by simp), rfl⟩
          · clear E E5
            rintro _ _ W56 ⟨k, js, ⟨j56, rfl⟩, E, E5, hk, hjs, rfl⟩
            refine Wp_seq ?_
            refine Wp_seq_region ?_
            refine WpL_val rfl rfl (by decide) (r_move (v := (.int .i64 ((k : Nat) : Int))) rfl) ?_
            refine WpL_val rfl rfl (by decide) (r_move (v := (.slice aa a.length ac)) rfl) ?_
            refine WpL_val rfl rfl (by decide) (r_lenSlice (ad := aa) (n := a.length) (cap := ac) Try.underlying22 rfl) ?_
            obtain ⟨e57, he57⟩ : ∃ e, (decide ((((k : Nat) : Int) : Int) < ((a.length : Nat) : Int))) = e := ⟨_, rfl⟩
            refine WpL_val rfl rfl (by decide) ((r_lss (k := .i64) (a := ((k : Nat) : Int)) (b := ((a.length : Nat) : Int)) rfl rfl).trans (by rw [he57]; try rfl)) ?_
            refine WpL_val rfl rfl (by decide) (r_move (v := (.bool e57)) rfl) ?_
            refine WpL_guard_any (oj := _) (gv := (.bool e57)) (u := (bif e57 then (.bool js) else undef)) rfl rfl (by decide) (by decide) rfl (by cases e57 <;> first | exact Or.inr ⟨Or.inl rfl, rfl⟩ | exact Or.inr ⟨Or.inr rfl, rfl⟩ | exact Or.inl ⟨rfl, r_move (v := (.bool js)) rfl⟩) ?_
            obtain ⟨e58, he58⟩ : ∃ e, (e57 && js) = e := ⟨_, rfl⟩
            refine WpL_val rfl rfl (by decide) (r_pick (b := e57) (v := .bool e58) rfl (by rw [← he58]; cases e57 <;> rfl)) ?_
            refine WpL_nil ?_
            subst he58
            subst he57
            refine Wp_cond (b := ((decide ((((k : Nat) : Int) : Int) < ((a.length : Nat) : Int))) && js)) rfl (fun hlt2 => ?_) (fun hlt2 => ?_)
            · have khlt2 := hlt2
              have hlt3 : k < a.length ∧ js = true := by simpa using hlt2
              have hj2 : ii = true ∧ (a.take k).map hdO = (b.take k).map hdO := by have := hlt3.2; rw [hjs] at this; simpa using this
              have hlab : a.length = b.length := by have := hj2.1; rw [hii] at this; simp at this; exact this.2
              obtain ⟨p, hp⟩ := get_of_lt (l := a) (i := k) (by omega)
              obtain ⟨q, hq⟩ := get_of_lt (l := b) (i := k) (by omega)
              obtain ⟨b1, o1, rfl, hc1⟩ := ints_cells ha (by omega)
              obtain ⟨b2, o2, rfl, hc2⟩ := ints_cells hb (by omega)
              refine Wp_skip ?_
              refine thn_normal ?_
              refine Wp_seq ?_
              refine Wp_block ?_
              obtain ⟨Fs60, hFs60⟩ : ∃ Fs : List Fact, Fs = [.eq (.slice (some ⟨b1, o1, none⟩) a.length ac), .eq (.int .i64 ((k : Nat) : Int)), .eq (.pointer (some ⟨b1, o1 + k, none⟩)), .eq (.int .i64 p), .gen (headF (hdO p)) (headF_ext _), .gen (ptrF (hdO p)) (ptrF_ext _), .eq (.int .i64 (hdO p)), .eq (.slice (some ⟨b2, o2, none⟩) b.length bc), .eq (.int .i64 ((k : Nat) : Int)), .eq (.pointer (some ⟨b2, o2 + k, none⟩)), .eq (.int .i64 q), .gen (headF (hdO q)) (headF_ext _), .gen (ptrF (hdO q)) (ptrF_ext _), .eq (.int .i64 (hdO q)), .eq (.bool (decide (hdO p = hdO q))), .eq (.bool (decide (hdO p = hdO q)))] := ⟨_, rfl⟩
              refine Wp_dag [148, 149, 150, 151, 152, 153, 154, 155, 156, 157, 158, 159, 160, 161, 162, 18] [[], [], [0, 1], [2], [3], [4], [5], [], [], [7, 8], [9], [4, 10], [11], [12], [6, 13], [0, 1, 2, 3, 4, 5, 6, 7, 8, 9, 10, 11, 12, 13, 14]] Fs60 hFs60 mixed (by kernel_rfl) (by kernel_rfl) ?_ ?_
              · intro wd X0
                refine DagSteps.cons (fun s' w' X U H => Or.inl ⟨?_, ?_⟩) ?_
                · exact Guarded_none rfl
                · exact Does_val (r_move (v := (.slice (some ⟨b1, o1, none⟩) a.length ac)) (U 2 rfl)) (Ext.refl _) rfl
                refine DagSteps.cons (fun s' w' X U H => Or.inl ⟨?_, ?_⟩) ?_
                · exact Guarded_none rfl
                · exact Does_val (r_move (v := (.int .i64 ((k : Nat) : Int))) (U 21 rfl)) (Ext.refl _) rfl
                refine DagSteps.cons (fun s' w' X U H => Or.inl ⟨?_, ?_⟩) ?_
                · exact Guarded_none rfl
                · have e148 : s' 148 = (.slice (some ⟨b1, o1, none⟩) a.length ac) := H 0 rfl 148 (.eq (.slice (some ⟨b1, o1, none⟩) a.length ac)) rfl (by rw [hFs60]; rfl)
                  have e149 : s' 149 = (.int .i64 ((k : Nat) : Int)) := H 1 rfl 149 (.eq (.int .i64 ((k : Nat) : Int))) rfl (by rw [hFs60]; rfl)
                  exact Does_val (r_indexSlice (b := b1) (o := o1) (len := a.length) (cap := ac) (i := k) (o' := o1 + k) e148 e149 (by omega) Try.underlying22 siz3 (by omega) (by omega)) (Ext.refl _) rfl
                refine DagSteps.cons (fun s' w' X U H => Or.inl ⟨?_, ?_⟩) ?_
                · exact Guarded_none rfl
                · have e150 : s' 150 = (.pointer (some ⟨b1, o1 + k, none⟩)) := H 2 rfl 150 (.eq (.pointer (some ⟨b1, o1 + k, none⟩))) rfl (by rw [hFs60]; rfl)
                  exact Does_val (r_load (v := (.int .i64 p)) e150 flat3 ((Ext.trans E (X0.trans X)).cell (hc1 k p hp))) (Ext.refl _) rfl
                refine DagSteps.cons (fun s' w' X U H => Or.inl ⟨?_, ?_⟩) ?_
                · exact Guarded_none rfl
                · have e151 : s' 151 = (.int .i64 p) := H 3 rfl 151 (.eq (.int .i64 p)) rfl (by rw [hFs60]; rfl)
                  exact Does_enter (r_callF (vs := [(.int .i64 p)]) Try.func27 nm27 bd27 (lst1 e151)) (rorbit_h _ p)
                refine DagSteps.cons (fun s' w' X U H => Or.inl ⟨?_, ?_⟩) ?_
                · exact Guarded_none rfl
                · obtain ⟨b152, o152, c152, m152, e152, h152⟩ := H 4 rfl 152 (.gen (headF (hdO p)) (headF_ext _)) rfl (by rw [hFs60]; rfl)
                  exact Does_idx0 e152 h152
                refine DagSteps.cons (fun s' w' X U H => Or.inl ⟨?_, ?_⟩) ?_
                · exact Guarded_none rfl
                · obtain ⟨b153, o153, e153, h153⟩ := H 5 rfl 153 (.gen (ptrF (hdO p)) (ptrF_ext _)) rfl (by rw [hFs60]; rfl)
                  exact Does_ld e153 h153
                refine DagSteps.cons (fun s' w' X U H => Or.inl ⟨?_, ?_⟩) ?_
                · exact Guarded_none rfl
                · exact Does_val (r_move (v := (.slice (some ⟨b2, o2, none⟩) b.length bc)) (U 3 rfl)) (Ext.refl _) rfl
                refine DagSteps.cons (fun s' w' X U H => Or.inl ⟨?_, ?_⟩) ?_
                · exact Guarded_none rfl
                · exact Does_val (r_move (v := (.int .i64 ((k : Nat) : Int))) (U 21 rfl)) (Ext.refl _) rfl
                refine DagSteps.cons (fun s' w' X U H => Or.inl ⟨?_, ?_⟩) ?_
                · exact Guarded_none rfl
                · have e155 : s' 155 = (.slice (some ⟨b2, o2, none⟩) b.length bc) := H 7 rfl 155 (.eq (.slice (some ⟨b2, o2, none⟩) b.length bc)) rfl (by rw [hFs60]; rfl)
                  have e156 : s' 156 = (.int .i64 ((k : Nat) : Int)) := H 8 rfl 156 (.eq (.int .i64 ((k : Nat) : Int))) rfl (by rw [hFs60]; rfl)
                  exact Does_val (r_indexSlice (b := b2) (o := o2) (len := b.length) (cap := bc) (i := k) (o' := o2 + k) e155 e156 (by omega) Try.underlying22 siz3 (by omega) (by omega)) (Ext.refl _) rfl
                refine DagSteps.cons (fun s' w' X U H => Or.inl ⟨?_, ?_⟩) ?_
                · exact Guarded_none rfl
                · have e157 : s' 157 = (.pointer (some ⟨b2, o2 + k, none⟩)) := H 9 rfl 157 (.eq (.pointer (some ⟨b2, o2 + k, none⟩))) rfl (by rw [hFs60]; rfl)
                  exact Does_val (r_load (v := (.int .i64 q)) e157 flat3 ((Ext.trans E (X0.trans X)).cell (hc2 k q hq))) (Ext.refl _) rfl
                refine DagSteps.cons (fun s' w' X U H => Or.inl ⟨?_, ?_⟩) ?_
                · exact Guarded_none rfl
                · have e158 : s' 158 = (.int .i64 q) := H 10 rfl 158 (.eq (.int .i64 q)) rfl (by rw [hFs60]; rfl)
                  exact Does_enter (r_callF (vs := [(.int .i64 q)]) Try.func27 nm27 bd27 (lst1 e158)) (rorbit_h _ q)
                refine DagSteps.cons (fun s' w' X U H => Or.inl ⟨?_, ?_⟩) ?_
                · exact Guarded_none rfl
                · obtain ⟨b159, o159, c159, m159, e159, h159⟩ := H 11 rfl 159 (.gen (headF (hdO q)) (headF_ext _)) rfl (by rw [hFs60]; rfl)
                  exact Does_idx0 e159 h159
                refine DagSteps.cons (fun s' w' X U H => Or.inl ⟨?_, ?_⟩) ?_
                · exact Guarded_none rfl
                · obtain ⟨b160, o160, e160, h160⟩ := H 12 rfl 160 (.gen (ptrF (hdO q)) (ptrF_ext _)) rfl (by rw [hFs60]; rfl)
                  exact Does_ld e160 h160
                refine DagSteps.cons (fun s' w' X U H => Or.inl ⟨?_, ?_⟩) ?_
                · exact Guarded_none rfl
                · have e154 : s' 154 = (.int .i64 (hdO p)) := H 6 rfl 154 (.eq (.int .i64 (hdO p))) rfl (by rw [hFs60]; rfl)
                  have e161 : s' 161 = (.int .i64 (hdO q)) := H 13 rfl 161 (.eq (.int .i64 (hdO q))) rfl (by rw [hFs60]; rfl)
                  exact Does_val (r_eql (k := .i64) (a := hdO p) (b := hdO q) e154 e161) (Ext.refl _) rfl
                refine DagSteps.cons (fun s' w' X U H => Or.inl ⟨?_, ?_⟩) ?_
                · exact Guarded_none rfl
                · have e162 : s' 162 = (.bool (decide (hdO p = hdO q))) := H 14 rfl 162 (.eq (.bool (decide (hdO p = hdO q)))) rfl (by rw [hFs60]; rfl)
                  exact Does_val (r_assign (v := (.bool (decide (hdO p = hdO q)))) e162) (Ext.refl _) rfl
                exact DagSteps.nil
              · intro s' w60 X60 U H
                obtain ⟨j60, rfl⟩ := Fits.out (σ := s') (l := [(2, (.slice (some ⟨b1, o1, none⟩) a.length ac)), (3, (.slice (some ⟨b2, o2, none⟩) b.length bc)), (10, (.int .i64 se)), (16, (.bool ss)), (17, (.int .i64 ww)), (21, (.int .i64 ((k : Nat) : Int))), (139, (.int .i64 ((k : Nat) : Int))), (140, (.slice (some ⟨b1, o1, none⟩) a.length ac)), (141, (.int .i64 ((a.length : Nat) : Int))), (142, (.bool (decide ((((k : Nat) : Int) : Int) < ((a.length : Nat) : Int))))), (143, (.bool (decide ((((k : Nat) : Int) : Int) < ((a.length : Nat) : Int))))), (145, (.bool ((decide ((((k : Nat) : Int) : Int) < ((a.length : Nat) : Int))) && js))), (148, (.slice (some ⟨b1, o1, none⟩) a.length ac)), (149, (.int .i64 ((k : Nat) : Int))), (150, (.pointer (some ⟨b1, o1 + k, none⟩))), (151, (.int .i64 p)), (154, (.int .i64 (hdO p))), (155, (.slice (some ⟨b2, o2, none⟩) b.length bc)), (156, (.int .i64 ((k : Nat) : Int))), (157, (.pointer (some ⟨b2, o2 + k, none⟩))), (158, (.int .i64 q)), (161, (.int .i64 (hdO q))), (162, (.bool (decide (hdO p = hdO q)))), (18, (.bool (decide (hdO p = hdO q))))]) ⟨U 2 rfl, U 3 rfl, U 10 rfl, U 16 rfl, U 17 rfl, U 21 rfl, U 139 rfl, U 140 rfl, U 141 rfl, U 142 rfl, U 143 rfl, U 145 rfl, (show s' 148 = (.slice (some ⟨b1, o1, none⟩) a.length ac) from H 0 148 (.eq (.slice (some ⟨b1, o1, none⟩) a.length ac)) rfl (by rw [hFs60]; rfl)), (show s' 149 = (.int .i64 ((k : Nat) : Int)) from H 1 149 (.eq (.int .i64 ((k : Nat) : Int))) rfl (by rw [hFs60]; rfl)), (show s' 150 = (.pointer (some ⟨b1, o1 + k, none⟩)) from H 2 150 (.eq (.pointer (some ⟨b1, o1 + k, none⟩))) rfl (by rw [hFs60]; rfl)), (show s' 151 = (.int .i64 p) from H 3 151 (.eq (.int .i64 p)) rfl (by rw [hFs60]; rfl)), (show s' 154 = (.int .i64 (hdO p)) from H 6 154 (.eq (.int .i64 (hdO p))) rfl (by rw [hFs60]; rfl)), (show s' 155 = (.slice (some ⟨b2, o2, none⟩) b.length bc) from H 7 155 (.eq (.slice (some ⟨b2, o2, none⟩) b.length bc)) rfl (by rw [hFs60]; rfl)), (show s' 156 = (.int .i64 ((k : Nat) : Int)) from H 8 156 (.eq (.int .i64 ((k : Nat) : Int))) rfl (by rw [hFs60]; rfl)), (show s' 157 = (.pointer (some ⟨b2, o2 + k, none⟩)) from H 9 157 (.eq (.pointer (some ⟨b2, o2 + k, none⟩))) rfl (by rw [hFs60]; rfl)), (show s' 158 = (.int .i64 q) from H 10 158 (.eq (.int .i64 q)) rfl (by rw [hFs60]; rfl)), (show s' 161 = (.int .i64 (hdO q)) from H 13 161 (.eq (.int .i64 (hdO q))) rfl (by rw [hFs60]; rfl)), (show s' 162 = (.bool (decide (hdO p = hdO q))) from H 14 162 (.eq (.bool (decide (hdO p = hdO q)))) rfl (by rw [hFs60]; rfl)), (show s' 18 = (.bool (decide (hdO p = hdO q))) from H 15 18 (.eq (.bool (decide (hdO p = hdO q)))) rfl (by rw [hFs60]; rfl)), trivial⟩
                clear U H
                replace E := E.ext X60
                replace E5 := E5.ext X60
                refine inB_normal ?_
                refine thn_normal ?_
                refine Wp_region ?_
                refine WpL_val rfl rfl (by decide) (r_move (v := (.int .i64 ((k : Nat) : Int))) rfl) ?_
                refine WpL_val rfl rfl (by decide) (r_add (k := .i64) (a := ((k : Nat) : Int)) (b := 1) (c := ((k : Nat) : Int) + 1) rfl rfl (wI64 (by omega))) ?_
                refine WpL_val rfl rfl (by decide) (r_assign (v := (.int .i64 (((k : Nat) : Int) + 1))) rfl) ?_
                refine WpL_nil ?_
                refine thn_normal ?_
                exact ⟨a.length - (k + 1), by omega, k + 1, decide (hdO p = hdO q), Fits.out ⟨rfl, rfl, rfl, rfl, rfl, rfl, rfl, trivial⟩, E, E5, (by omega), (by rw [heads_succ hp hq hj2.2, hj2.1]; rfl), rfl⟩
            · have khlt2 := hlt2
              have hfin := same_law hw1 hww hii hjs (fun h => by simpa [h] using hlt2) hk
              refine Wp_exit ?_
              refine thn_exit ?_
              refine thn_exit ?_
              refine inB_here ?_
              refine thn_normal ?_
              refine Wp_seq_region ?_
              refine WpL_val rfl rfl (by decide) (r_move (v := (.int .i64 se)) rfl) ?_
              refine WpL_val rfl rfl (by decide) (r_move (v := (.int .i64 ww)) rfl) ?_
              obtain ⟨e61, he61⟩ : ∃ e, (decide ((se : Int) = ww)) = e := ⟨_, rfl⟩
              refine WpL_val rfl rfl (by decide) ((r_eql (k := .i64) (a := se) (b := ww) rfl rfl).trans (by rw [he61]; try rfl)) ?_
              refine WpL_val rfl rfl (by decide) (r_move (v := (.bool e61)) rfl) ?_
              refine WpL_guard_any (oj := _) (gv := (.bool e61)) (u := (bif e61 then (.bool ss) else undef)) rfl rfl (by decide) (by decide) rfl (by cases e61 <;> first | exact Or.inr ⟨Or.inl rfl, rfl⟩ | exact Or.inr ⟨Or.inr rfl, rfl⟩ | exact Or.inl ⟨rfl, r_move (v := (.bool ss)) rfl⟩) ?_
              refine WpL_guard_any (oj := _) (gv := (.bool e61)) (u := (bif e61 then (.bool js) else undef)) rfl rfl (by decide) (by decide) rfl (by cases e61 <;> first | exact Or.inr ⟨Or.inl rfl, rfl⟩ | exact Or.inr ⟨Or.inr rfl, rfl⟩ | exact Or.inl ⟨rfl, r_move (v := (.bool js)) rfl⟩) ?_
              refine WpL_guard_any (oj := _) (gv := (.bool e61)) (u := (bif e61 then (.bool (ss == js)) else undef)) rfl rfl (by decide) (by decide) rfl (by cases e61 <;> first | exact Or.inr ⟨Or.inl rfl, rfl⟩ | exact Or.inr ⟨Or.inr rfl, rfl⟩ | exact Or.inl ⟨rfl, r_eqlB (p := ss) (q := js) Try.underlying4 rfl rfl⟩) ?_
              obtain ⟨e62, he62⟩ : ∃ e, (e61 && (ss == js)) = e := ⟨_, rfl⟩
              refine WpL_val rfl rfl (by decide) (r_pick (b := e61) (v := .bool e62) rfl (by rw [← he62]; cases e61 <;> rfl)) ?_
              refine WpL_val rfl rfl (by decide) (r_assign (v := (.bool e62)) rfl) ?_
              refine WpL_nil ?_
              subst he62
              subst he61
              refine Wp_ret ?_
              refine fin_tmp Try.results5 (v := (.bool ((decide ((se : Int) = ww)) && (ss == js)))) rfl ?_
              exact ⟨bool_eq (by rw [hss, hse, hfin.1, hfin.2]; simp), E⟩
    · have khbig := hbig
      have hw1 : (0 : Int) = if 1000 < a.length ∨ 1000 < b.length then 2 else 0 := by rw [if_neg (by simp at hbig; omega)]
      refine Wp_skip ?_
      refine thn_normal ?_
      refine Wp_seq_region ?_
      refine WpL_val rfl rfl (by decide) (r_move (v := (.int .i64 0)) rfl) ?_
      refine WpL_val rfl rfl (by decide) (r_eql (k := .i64) (a := 0) (b := 0) rfl rfl) ?_
      refine WpL_val rfl rfl (by decide) (r_move (v := (.bool true)) rfl) ?_
      refine WpL_guard_yes (oj := _) rfl rfl (by decide) rfl ?_
      refine WpL_val rfl rfl (by decide) (r_move (v := (.slice aa a.length ac)) rfl) ?_
      refine WpL_guard_yes (oj := _) rfl rfl (by decide) rfl ?_
      refine WpL_val rfl rfl (by decide) (r_lenSlice (ad := aa) (n := a.length) (cap := ac) Try.underlying22 rfl) ?_
      refine WpL_guard_yes (oj := _) rfl rfl (by decide) rfl ?_
      refine WpL_val rfl rfl (by decide) (r_move (v := (.slice ba b.length bc)) rfl) ?_
      refine WpL_guard_yes (oj := _) rfl rfl (by decide) rfl ?_
      refine WpL_val rfl rfl (by decide) (r_lenSlice (ad := ba) (n := b.length) (cap := bc) Try.underlying22 rfl) ?_
      refine WpL_guard_yes (oj := _) rfl rfl (by decide) rfl ?_
      obtain ⟨e63, he63⟩ : ∃ e, (decide ((((a.length : Nat) : Int) : Int) = ((b.length : Nat) : Int))) = e := ⟨_, rfl⟩
      refine WpL_val rfl rfl (by decide) ((r_eql (k := .i64) (a := ((a.length : Nat) : Int)) (b := ((b.length : Nat) : Int)) rfl rfl).trans (by rw [he63]; try rfl)) ?_
      refine WpL_val rfl rfl (by decide) (r_pick (b := true) (v := (.bool e63)) rfl rfl) ?_
      refine WpL_val rfl rfl (by decide) (r_assign (v := (.bool e63)) rfl) ?_
      refine WpL_nil ?_
      subst he63
      refine Wp_seq ?_
      refine Wp_seq_region ?_
      refine s_build0 (by decide) Try.underlying22 siz3 ?_
      intro bq wq Nq
      have Fq := Nq.ge E
      replace E := E.ext Nq.ext
      have Bq := Nq.blk
      refine WpL_val rfl rfl (by decide) (r_move (v := (.slice aa a.length ac)) rfl) ?_
      have hown0 := own_empty (base := base) (size := 1) Bq (by have := E.size; omega)
      refine s_appendAny (base := base) (n := 0) (m := a.length) (xs := []) (news := (a.map (Value.int .i64))) (size := 1) (bytes := 8) (v := (.slice (some ⟨bq, 0, none⟩) 0 0)) (by decide) Try.underlying22 siz3 byt3 zer3 rfl (by decide) rfl hown0 rfl (by simp) (ints_any (ha.ext E)) (by simp [Value.oneCell']) (by unfold maxLen; omega) (by omega) (by have := E.size; omega) ?_
      intro v8 w8 Ov8 Cv8 Dv8
      replace E := E.step Cv8 (fun x hx h => absurd (hown0.lt x h).1 (by omega))
      obtain ⟨xa, xc, rfl⟩ := own_form Ov8
      refine WpL_val rfl rfl (by decide) (r_move (v := (.slice ba b.length bc)) rfl) ?_
      refine s_appendAny (base := base) (n := 0 + a.length) (m := b.length) (xs := ([] ++ a.map (Value.int .i64))) (news := (b.map (Value.int .i64))) (size := 1) (bytes := 8) (v := (.slice xa (0 + a.length) xc)) (by decide) Try.underlying22 siz3 byt3 zer3 rfl (by decide) rfl Ov8 rfl (by simp) (ints_any (hb.ext E)) (by simp [Value.oneCell']) (by unfold maxLen; omega) (by omega) (by have := E.size; omega) ?_
      intro v9 w9 Ov9 Cv9 Dv9
      replace E := E.step Cv9 (fun x hx h => absurd (Ov8.lt x h).1 (by omega))
      obtain ⟨ya, yc, rfl⟩ := own_form Ov9
      have hO : w9.ownsRow base TInt 1 (.slice ya (0 + a.length + b.length) yc) (0 + a.length + b.length) ((a ++ b).map (Value.int .i64)) := by simpa using Ov9
      have hab : IntsAt w9 (.slice ya (0 + a.length + b.length) yc) (a ++ b) := by have h9 : OwnI w9 base (.slice ya (0 + a.length + b.length) yc) (a ++ b) := ⟨⟨ya, yc, by simp⟩, by rw [show (a ++ b).length = 0 + a.length + b.length by simp]; exact hO⟩; exact h9.at
      have hbl : (a ++ b).length = 0 + a.length + b.length := by simp
      have E5 : Chg none1 w9 w9 := Chg.refl _ _
      refine WpL_val rfl rfl (by decide) (r_lenSlice (ad := ya) (n := (0 + a.length + b.length)) (cap := yc) Try.underlying22 rfl) ?_
      refine WpL_val rfl rfl (by decide) (r_move (v := (.int .i64 0)) rfl) ?_
      refine WpL_nil ?_
      refine Wp_block ?_
      refine Wp_loop (fun nn_ σ W64 => ∃ (i : Nat) (ww : Int) (ii : Bool), (∃ jj_, σ = upds jj_ [(2, (.slice aa a.length ac)), (3, (.slice ba b.length bc)), (10, (.int .i64 se)), (16, (.bool ss)), (122, (.slice ya (0 + a.length + b.length) yc)), (123, (.int .i64 (((0 + a.length + b.length) : Nat) : Int))), (124, (.int .i64 ((i : Nat) : Int))), (17, (.int .i64 ww)), (18, (.bool ii))]) ∧ Chg none1 w0 W64 ∧ Chg none1 w9 W64 ∧ (i ≤ (a ++ b).length) ∧ (ww = stepW 0 ((a ++ b).take i)) ∧ (ii = (decide (ww = 0) && decide (a.length = b.length))) ∧ nn_ = (a ++ b).length - i) (n := (a ++ b).length - 0) ?_ ?_
      · exact ⟨0, 0, decide (((a.length : Nat) : Int) = ((b.length : Nat) : Int)), Fits.out ⟨rfl, rfl, rfl, rfl, rfl, rfl, rfl, rfl, rfl, trivial⟩, E, E5, Nat.zero_le _, (by simp [stepW, badB]), (by simp <;> omega), rfl⟩
      · clear E E5
        rintro _ _ W64 ⟨i, ww, ii, ⟨j64, rfl⟩, E, E5, hi, hww, hii, rfl⟩
        refine Wp_seq_region ?_
        refine WpL_val rfl rfl (by decide) (r_lss (k := .i64) (a := ((i : Nat) : Int)) (b := (((0 + a.length + b.length) : Nat) : Int)) rfl rfl) ?_
        refine WpL_nil ?_
        refine Wp_seq ?_
        refine Wp_cond (b := decide ((((i : Nat) : Int) : Int) < (((0 + a.length + b.length) : Nat) : Int))) rfl (fun hlt => ?_) (fun hlt => ?_)
        · have khlt := hlt
          replace hlt := of_decide_eq_true hlt
          obtain ⟨c, hc⟩ := get_of_lt (l := a ++ b) (i := i) (by omega)
          obtain ⟨bc1, oc1, rfl, hcl⟩ := ints_cells hab (by omega)
          refine Wp_skip ?_
          refine thn_normal ?_
          refine Wp_seq ?_
          refine Wp_block ?_
          refine Wp_seq_region ?_
          refine WpL_val rfl rfl (by decide) (r_indexSlice (b := bc1) (o := oc1) (len := (0 + a.length + b.length)) (cap := yc) (i := i) (o' := oc1 + i) rfl rfl rfl Try.underlying22 siz3 (by omega) (by omega)) ?_
          refine WpL_val rfl rfl (by decide) (r_load (v := (.int .i64 c)) rfl flat3 (E5.cell (fun f => f) (hcl i c hc))) ?_
          refine WpL_val rfl rfl (by decide) (r_assign (v := (.int .i64 c)) rfl) ?_
          refine WpL_nil ?_
          refine Wp_seq_region ?_
          refine WpL_val rfl rfl (by decide) (r_move (v := (.int .i64 ww)) rfl) ?_
          obtain ⟨e66, he66⟩ : ∃ e, (decide ((ww : Int) = 0)) = e := ⟨_, rfl⟩
          refine WpL_val rfl rfl (by decide) ((r_eql (k := .i64) (a := ww) (b := 0) rfl rfl).trans (by rw [he66]; try rfl)) ?_
          refine WpL_val rfl rfl (by decide) (r_move (v := (.bool e66)) rfl) ?_
          refine WpL_guard_any (oj := _) (gv := (.bool e66)) (u := (bif e66 then (.int .i64 c) else undef)) rfl rfl (by decide) (by decide) rfl (by cases e66 <;> first | exact Or.inr ⟨Or.inl rfl, rfl⟩ | exact Or.inr ⟨Or.inr rfl, rfl⟩ | exact Or.inl ⟨rfl, r_move (v := (.int .i64 c)) rfl⟩) ?_
          obtain ⟨e67, he67⟩ : ∃ e, (decide ((c : Int) < 0)) = e := ⟨_, rfl⟩
          refine WpL_guard_any (oj := _) (gv := (.bool e66)) (u := (bif e66 then (.bool e67) else undef)) rfl rfl (by decide) (by decide) rfl (by cases e66 <;> first | exact Or.inr ⟨Or.inl rfl, rfl⟩ | exact Or.inr ⟨Or.inr rfl, rfl⟩ | exact Or.inl ⟨rfl, (r_lss (k := .i64) (a := c) (b := 0) rfl rfl).trans (by rw [he67]; try rfl)⟩) ?_
          refine WpL_guard_any (oj := _) (gv := (.bool e66)) (u := (bif e66 then (.bool e67) else undef)) rfl rfl (by decide) (by decide) rfl (by cases e66 <;> first | exact Or.inr ⟨Or.inl rfl, rfl⟩ | exact Or.inr ⟨Or.inr rfl, rfl⟩ | exact Or.inl ⟨rfl, r_move (v := (.bool e67)) rfl⟩) ?_
          refine WpL_guard_any (oj := _) (gv := (bif e66 then (.bool e67) else undef)) (u := (bif e66 then (bif e67 then undef else (.int .i64 c)) else undef)) rfl rfl (by decide) (by decide) rfl (by cases e66 <;> cases e67 <;> first | exact Or.inr ⟨Or.inl rfl, rfl⟩ | exact Or.inr ⟨Or.inr rfl, rfl⟩ | exact Or.inl ⟨rfl, r_move (v := (.int .i64 c)) rfl⟩) ?_
          obtain ⟨e68, he68⟩ : ∃ e, (decide ((1114111 : Int) < c)) = e := ⟨_, rfl⟩
          refine WpL_guard_any (oj := _) (gv := (bif e66 then (.bool e67) else undef)) (u := (bif e66 then (bif e67 then undef else (.bool e68)) else undef)) rfl rfl (by decide) (by decide) rfl (by cases e66 <;> cases e67 <;> first | exact Or.inr ⟨Or.inl rfl, rfl⟩ | exact Or.inr ⟨Or.inr rfl, rfl⟩ | exact Or.inl ⟨rfl, (r_gtr (k := .i64) (a := c) (b := 1114111) rfl rfl).trans (by rw [he68]; try rfl)⟩) ?_
          obtain ⟨e69, he69⟩ : ∃ e, (e67 || e68) = e := ⟨_, rfl⟩
          refine WpL_guard_any (oj := _) (gv := (.bool e66)) (u := (bif e66 then (.bool e69) else undef)) rfl rfl (by decide) (by decide) rfl (by cases e66 <;> first | exact Or.inr ⟨Or.inl rfl, rfl⟩ | exact Or.inr ⟨Or.inr rfl, rfl⟩ | exact Or.inl ⟨rfl, r_pick (b := e67) (v := .bool e69) rfl (by rw [← he69]; cases e67 <;> rfl)⟩) ?_
          obtain ⟨e70, he70⟩ : ∃ e, (e66 && e69) = e := ⟨_, rfl⟩
          refine WpL_val rfl rfl (by decide) (r_pick (b := e66) (v := .bool e70) rfl (by rw [← he70]; cases e66 <;> rfl)) ?_
          refine WpL_nil ?_
          subst he70
          subst he69
          subst he68
          subst he67
          subst he66
          refine Wp_cond (b := ((decide ((ww : Int) = 0)) && ((decide ((c : Int) < 0)) || (decide ((1114111 : Int) < c))))) rfl (fun hcc => ?_) (fun hcc => ?_)
          · have khcc := hcc
            have hcc2 : ww = 0 ∧ (c < 0 ∨ 1114111 < c) := by simpa using hcc
            refine Wp_region ?_
            refine WpL_val rfl rfl (by decide) (r_assign (v := (.int .i64 1)) rfl) ?_
            refine WpL_val rfl rfl (by decide) (r_assign (v := (.bool false)) rfl) ?_
            refine WpL_nil ?_
            refine inB_normal ?_
            refine thn_normal ?_
            refine Wp_region ?_
            refine WpL_val rfl rfl (by decide) (r_add (k := .i64) (a := ((i : Nat) : Int)) (b := 1) (c := ((i : Nat) : Int) + 1) rfl rfl (wI64 (by omega))) ?_
            refine WpL_val rfl rfl (by decide) (r_move (v := (.int .i64 (((i : Nat) : Int) + 1))) rfl) ?_
            refine WpL_nil ?_
            refine thn_normal ?_
            exact ⟨(a ++ b).length - (i + 1), by omega, i + 1, 1, false, Fits.out ⟨rfl, rfl, rfl, rfl, rfl, rfl, rfl, rfl, rfl, trivial⟩, E, E5, (by omega), (stepW_one hc (by omega) hcc2.2).symm, rfl, rfl⟩
          · have khcc := hcc
            have hcc2 : ¬ (ww = 0 ∧ (c < 0 ∨ 1114111 < c)) := by simpa using hcc
            refine Wp_skip ?_
            refine inB_normal ?_
            refine thn_normal ?_
            refine Wp_region ?_
            refine WpL_val rfl rfl (by decide) (r_add (k := .i64) (a := ((i : Nat) : Int)) (b := 1) (c := ((i : Nat) : Int) + 1) rfl rfl (wI64 (by omega))) ?_
            refine WpL_val rfl rfl (by decide) (r_move (v := (.int .i64 (((i : Nat) : Int) + 1))) rfl) ?_
            refine WpL_nil ?_
            refine thn_normal ?_
            exact ⟨(a ++ b).length - (i + 1), by omega, i + 1, ww, ii, Fits.out ⟨rfl, rfl, rfl, rfl, rfl, rfl, rfl, rfl, rfl, trivial⟩, E, E5, (by omega), (by rw [hww] at hcc2; rw [stepW_same hc hcc2, hww]), hii, rfl⟩
        · have khlt := hlt
          replace hlt := of_decide_eq_false hlt
          have hie : i = (a ++ b).length := by omega
          rw [hie, List.take_length] at hww
          refine Wp_exit ?_
          refine thn_exit ?_
          refine thn_exit ?_
          refine inB_here ?_
          refine thn_normal ?_
          refine Wp_seq ?_
          refine Wp_seq_region ?_
          refine WpL_val rfl rfl (by decide) (r_assign (v := (.int .i64 0)) rfl) ?_
          refine WpL_nil ?_
          refine Wp_block ?_
          refine Wp_loop (fun nn_ σ W72 => ∃ (k : Nat) (js : Bool), (∃ jj_, σ = upds jj_ [(2, (.slice aa a.length ac)), (3, (.slice ba b.length bc)), (10, (.int .i64 se)), (16, (.bool ss)), (17, (.int .i64 ww)), (21, (.int .i64 ((k : Nat) : Int))), (18, (.bool js))]) ∧ Chg none1 w0 W72 ∧ Chg none1 w9 W72 ∧ (k ≤ a.length) ∧ (js = (ii && decide ((a.take k).map hdO = (b.take k).map hdO))) ∧ nn_ = a.length - k) (n := a.length - 0) ?_ ?_
          · exact ⟨0, ii, Fits.out ⟨rfl, rfl, rfl, rfl, rfl, rfl, rfl, trivial⟩, E, E5, Nat.zero_le _, (by simp), rfl⟩
          · clear E E5
            rintro _ _ W72 ⟨k, js, ⟨j72, rfl⟩, E, E5, hk, hjs, rfl⟩
            refine Wp_seq ?_
            refine Wp_seq_region ?_
            refine WpL_val rfl rfl (by decide) (r_move (v := (.int .i64 ((k : Nat) : Int))) rfl) ?_
            refine WpL_val rfl rfl (by decide) (r_move (v := (.slice aa a.length ac)) rfl) ?_
            refine WpL_val rfl rfl (by decide) (r_lenSlice (ad := aa) (n := a.length) (cap := ac) Try.underlying22 rfl) ?_
            obtain ⟨e73, he73⟩ : ∃ e, (decide ((((k : Nat) : Int) : Int) < ((a.length : Nat) : Int))) = e := ⟨_, rfl⟩
            refine WpL_val rfl rfl (by decide) ((r_lss (k := .i64) (a := ((k : Nat) : Int)) (b := ((a.length : Nat) : Int)) rfl rfl).trans (by rw [he73]; try rfl)) ?_
            refine WpL_val rfl rfl (by decide) (r_move (v := (.bool e73)) rfl) ?_
            refine WpL_guard_any (oj := _) (gv := (.bool e73)) (u := (bif e73 then (.bool js) else undef)) rfl rfl (by decide) (by decide) rfl (by cases e73 <;> first | exact Or.inr ⟨Or.inl rfl, rfl⟩ | exact Or.inr ⟨Or.inr rfl, rfl⟩ | exact Or.inl ⟨rfl, r_move (v := (.bool js)) rfl⟩) ?_
            obtain ⟨e74, he74⟩ : ∃ e, (e73 && js) = e := ⟨_, rfl⟩
            refine WpL_val rfl rfl (by decide) (r_pick (b := e73) (v := .bool e74) rfl (by rw [← he74]; cases e73 <;> rfl)) ?_
            refine WpL_nil ?_
            subst he74
            subst he73
            refine Wp_cond (b := ((decide ((((k : Nat) : Int) : Int) < ((a.length : Nat) : Int))) && js)) rfl (fun hlt2 => ?_) (fun hlt2 => ?_)
            · have khlt2 := hlt2
              have hlt3 : k < a.length ∧ js = true := by simpa using hlt2
              have hj2 : ii = true ∧ (a.take k).map hdO = (b.take k).map hdO := by have := hlt3.2; rw [hjs] at this; simpa using this
              have hlab : a.length = b.length := by have := hj2.1; rw [hii] at this; simp at this; exact this.2
              obtain ⟨p, hp⟩ := get_of_lt (l := a) (i := k) (by omega)
              obtain ⟨q, hq⟩ := get_of_lt (l := b) (i := k) (by omega)
              obtain ⟨b1, o1, rfl, hc1⟩ := ints_cells ha (by omega)
              obtain ⟨b2, o2, rfl, hc2⟩ := ints_cells hb (by omega)
              refine Wp_skip ?_
              refine thn_normal ?_
              refine Wp_seq ?_
              refine Wp_block ?_
              obtain ⟨Fs76, hFs76⟩ : ∃ Fs : List Fact, Fs = [.eq (.slice (some ⟨b1, o1, none⟩) a.length ac), .eq (.int .i64 ((k : Nat) : Int)), .eq (.pointer (some ⟨b1, o1 + k, none⟩)), .eq (.int .i64 p), .gen (headF (hdO p)) (headF_ext _), .gen (ptrF (hdO p)) (ptrF_ext _), .eq (.int .i64 (hdO p)), .eq (.slice (some ⟨b2, o2, none⟩) b.length bc), .eq (.int .i64 ((k : Nat) : Int)), .eq (.pointer (some ⟨b2, o2 + k, none⟩)), .eq (.int .i64 q), .gen (headF (hdO q)) (headF_ext _), .gen (ptrF (hdO q)) (ptrF_ext _), .eq (.int .i64 (hdO q)), .eq (.bool (decide (hdO p = hdO q))), .eq (.bool (decide (hdO p = hdO q)))] := ⟨_, rfl⟩
              refine Wp_dag [148, 149, 150, 151, 152, 153, 154, 155, 156, 157, 158, 159, 160, 161, 162, 18] [[], [], [0, 1], [2], [3], [4], [5], [], [], [7, 8], [9], [4, 10], [11], [12], [6, 13], [0, 1, 2, 3, 4, 5, 6, 7, 8, 9, 10, 11, 12, 13, 14]] Fs76 hFs76 mixed (by kernel_rfl) (by kernel_rfl) ?_ ?_
              · intro wd X0
                refine DagSteps.cons (fun s' w' X U H => Or.inl ⟨?_, ?_⟩) ?_
                · exact Guarded_none rfl
                · exact Does_val (r_move (v := (.slice (some ⟨b1, o1, none⟩) a.length ac)) (U 2 rfl)) (Ext.refl _) rfl
                refine DagSteps.cons (fun s' w' X U H => Or.inl ⟨?_, ?_⟩) ?_
                · exact Guarded_none rfl
                · exact Does_val (r_move (v := (.int .i64 ((k : Nat) : Int))) (U 21 rfl)) (Ext.refl _) rfl
                refine DagSteps.cons (fun s' w' X U H => Or.inl ⟨?_, ?_⟩) ?_
                · exact Guarded_none rfl
                · have e148 : s' 148 = (.slice (some ⟨b1, o1, none⟩) a.length ac) := H 0 rfl 148 (.eq (.slice (some ⟨b1, o1, none⟩) a.length ac)) rfl (by rw [hFs76]; rfl)
                  have e149 : s' 149 = (.int .i64 ((k : Nat) : Int)) := H 1 rfl 149 (.eq (.int .i64 ((k : Nat) : Int))) rfl (by rw [hFs76]; rfl)
                  exact Does_val (r_indexSlice (b := b1) (o := o1) (len := a.length) (cap := ac) (i := k) (o' := o1 + k) e148 e149 (by omega) Try.underlying22 siz3 (by omega) (by omega)) (Ext.refl _) rfl
                refine DagSteps.cons (fun s' w' X U H => Or.inl ⟨?_, ?_⟩) ?_
                · exact Guarded_none rfl
                · have e150 : s' 150 = (.pointer (some ⟨b1, o1 + k, none⟩)) := H 2 rfl 150 (.eq (.pointer (some ⟨b1, o1 + k, none⟩))) rfl (by rw [hFs76]; rfl)
                  exact Does_val (r_load (v := (.int .i64 p)) e150 flat3 ((Ext.trans E (X0.trans X)).cell (hc1 k p hp))) (Ext.refl _) rfl
                refine DagSteps.cons (fun s' w' X U H => Or.inl ⟨?_, ?_⟩) ?_
                · exact Guarded_none rfl
                · have e151 : s' 151 = (.int .i64 p) := H 3 rfl 151 (.eq (.int .i64 p)) rfl (by rw [hFs76]; rfl)
                  exact Does_enter (r_callF (vs := [(.int .i64 p)]) Try.func27 nm27 bd27 (lst1 e151)) (rorbit_h _ p)
                refine DagSteps.cons (fun s' w' X U H => Or.inl ⟨?_, ?_⟩) ?_
                · exact Guarded_none rfl
                · obtain ⟨b152, o152, c152, m152, e152, h152⟩ := H 4 rfl 152 (.gen (headF (hdO p)) (headF_ext _)) rfl (by rw [hFs76]; rfl)
                  exact Does_idx0 e152 h152
                refine DagSteps.cons (fun s' w' X U H => Or.inl ⟨?_, ?_⟩) ?_
                · exact Guarded_none rfl
                · obtain ⟨b153, o153, e153, h153⟩ := H 5 rfl 153 (.gen (ptrF (hdO p)) (ptrF_ext _)) rfl (by rw [hFs76]; rfl)
                  exact Does_ld e153 h153
                refine DagSteps.cons (fun s' w' X U H => Or.inl ⟨?_, ?_⟩) ?_
                · exact Guarded_none rfl
                · exact Does_val (r_move (v := (.slice (some ⟨b2, o2, none⟩) b.length bc)) (U 3 rfl)) (Ext.refl _) rfl
                refine DagSteps.cons (fun s' w' X U H => Or.inl ⟨?_, ?_⟩) ?_
                · exact Guarded_none rfl
                · exact Does_val (r_move (v := (.int .i64 ((k : Nat) : Int))) (U 21 rfl)) (Ext.refl _) rfl
                refine DagSteps.cons (fun s' w' X U H => Or.inl ⟨?_, ?_⟩) ?_
                · exact Guarded_none rfl
                · have e155 : s' 155 = (.slice (some ⟨b2, o2, none⟩) b.length bc) := H 7 rfl 155 (.eq (.slice (some ⟨b2, o2, none⟩) b.length bc)) rfl (by rw [hFs76]; rfl)
                  have e156 : s' 156 = (.int .i64 ((k : Nat) : Int)) := H 8 rfl 156 (.eq (.int .i64 ((k : Nat) : Int))) rfl (by rw [hFs76]; rfl)
                  exact Does_val (r_indexSlice (b := b2) (o := o2) (len := b.length) (cap := bc) (i := k) (o' := o2 + k) e155 e156 (by omega) Try.underlying22 siz3 (by omega) (by omega)) (Ext.refl _) rfl
                refine DagSteps.cons (fun s' w' X U H => Or.inl ⟨?_, ?_⟩) ?_
                · exact Guarded_none rfl
                · have e157 : s' 157 = (.pointer (some ⟨b2, o2 + k, none⟩)) := H 9 rfl 157 (.eq (.pointer (some ⟨b2, o2 + k, none⟩))) rfl (by rw [hFs76]; rfl)
                  exact Does_val (r_load (v := (.int .i64 q)) e157 flat3 ((Ext.trans E (X0.trans X)).cell (hc2 k q hq))) (Ext.refl _) rfl
                refine DagSteps.cons (fun s' w' X U H => Or.inl ⟨?_, ?_⟩) ?_
                · exact Guarded_none rfl
                · have e158 : s' 158 = (.int .i64 q) := H 10 rfl 158 (.eq (.int .i64 q)) rfl (by rw [hFs76]; rfl)
                  exact Does_enter (r_callF (vs := [(.int .i64 q)]) Try.func27 nm27 bd27 (lst1 e158)) (rorbit_h _ q)
                refine DagSteps.cons (fun s' w' X U H => Or.inl ⟨?_, ?_⟩) ?_
                · exact Guarded_none rfl
                · obtain ⟨b159, o159, c159, m159, e159, h159⟩ := H 11 rfl 159 (.gen (headF (hdO q)) (headF_ext _)) rfl (by rw [hFs76]; rfl)
                  exact Does_idx0 e159 h159
                refine DagSteps.cons (fun s' w' X U H => Or.inl ⟨?_, ?_⟩) ?_
                · exact Guarded_none rfl
                · obtain ⟨b160, o160, e160, h160⟩ := H 12 rfl 160 (.gen (ptrF (hdO q)) (ptrF_ext _)) rfl (by rw [hFs76]; rfl)
                  exact Does_ld e160 h160
                refine DagSteps.cons (fun s' w' X U H => Or.inl ⟨?_, ?_⟩) ?_
                · exact Guarded_none rfl
                · have e154 : s' 154 = (.int .i64 (hdO p)) := H 6 rfl 154 (.eq (.int .i64 (hdO p))) rfl (by rw [hFs76]; rfl)
                  have e161 : s' 161 = (.int .i64 (hdO q)) := H 13 rfl 161 (.eq (.int .i64 (hdO q))) rfl (by rw [hFs76]; rfl)
                  exact Does_val (r_eql (k := .i64) (a := hdO p) (b := hdO q) e154 e161) (Ext.refl _) rfl
                refine DagSteps.cons (fun s' w' X U H => Or.inl ⟨?_, ?_⟩) ?_
                · exact Guarded_none rfl
                · have e162 : s' 162 = (.bool (decide (hdO p = hdO q))) := H 14 rfl 162 (.eq (.bool (decide (hdO p = hdO q)))) rfl (by rw [hFs76]; rfl)
                  exact Does_val (r_assign (v := (.bool (decide (hdO p = hdO q)))) e162) (Ext.refl _) rfl
                exact DagSteps.nil
              · intro s' w76 X76 U H
                obtain ⟨j76, rfl⟩ := Fits.out (σ := s') (l := [(2, (.slice (some ⟨b1, o1, none⟩) a.length ac)), (3, (.slice (some ⟨b2, o2, none⟩) b.length bc)), (10, (.int .i64 se)), (16, (.bool ss)), (17, (.int .i64 ww)), (21, (.int .i64 ((k : Nat) : Int))), (139, (.int .i64 ((k : Nat) : Int))), (140, (.slice (some ⟨b1, o1, none⟩) a.length ac)), (141, (.int .i64 ((a.length : Nat) : Int))), (142, (.bool (decide ((((k : Nat) : Int) : Int) < ((a.length : Nat) : Int))))), (143, (.bool (decide ((((k : Nat) : Int) : Int) < ((a.length : Nat) : Int))))), (145, (.bool ((decide ((((k : Nat) : Int) : Int) < ((a.length : Nat) : Int))) && js))), (148, (.slice (some ⟨b1, o1, none⟩) a.length ac)), (149, (.int .i64 ((k : Nat) : Int))), (150, (.pointer (some ⟨b1, o1 + k, none⟩))), (151, (.int .i64 p)), (154, (.int .i64 (hdO p))), (155, (.slice (some ⟨b2, o2, none⟩) b.length bc)), (156, (.int .i64 ((k : Nat) : Int))), (157, (.pointer (some ⟨b2, o2 + k, none⟩))), (158, (.int .i64 q)), (161, (.int .i64 (hdO q))), (162, (.bool (decide (hdO p = hdO q)))), (18, (.bool (decide (hdO p = hdO q))))]) ⟨U 2 rfl, U 3 rfl, U 10 rfl, U 16 rfl, U 17 rfl, U 21 rfl, U 139 rfl, U 140 rfl, U 141 rfl, U 142 rfl, U 143 rfl, U 145 rfl, (show s' 148 = (.slice (some ⟨b1, o1, none⟩) a.length ac) from H 0 148 (.eq (.slice (some ⟨b1, o1, none⟩) a.length ac)) rfl (by rw [hFs76]; rfl)), (show s' 149 = (.int .i64 ((k : Nat) : Int)) from H 1 149 (.eq (.int .i64 ((k : Nat) : Int))) rfl (by rw [hFs76]; rfl)), (show s' 150 = (.pointer (some ⟨b1, o1 + k, none⟩)) from H 2 150 (.eq (.pointer (some ⟨b1, o1 + k, none⟩))) rfl (by rw [hFs76]; rfl)), (show s' 151 = (.int .i64 p) from H 3 151 (.eq (.int .i64 p)) rfl (by rw [hFs76]; rfl)), (show s' 154 = (.int .i64 (hdO p)) from H 6 154 (.eq (.int .i64 (hdO p))) rfl (by rw [hFs76]; rfl)), (show s' 155 = (.slice (some ⟨b2, o2, none⟩) b.length bc) from H 7 155 (.eq (.slice (some ⟨b2, o2, none⟩) b.length bc)) rfl (by rw [hFs76]; rfl)), (show s' 156 = (.int .i64 ((k : Nat) : Int)) from H 8 156 (.eq (.int .i64 ((k : Nat) : Int))) rfl (by rw [hFs76]; rfl)), (show s' 157 = (.pointer (some ⟨b2, o2 + k, none⟩)) from H 9 157 (.eq (.pointer (some ⟨b2, o2 + k, none⟩))) rfl (by rw [hFs76]; rfl)), (show s' 158 = (.int .i64 q) from H 10 158 (.eq (.int .i64 q)) rfl (by rw [hFs76]; rfl)), (show s' 161 = (.int .i64 (hdO q)) from H 13 161 (.eq (.int .i64 (hdO q))) rfl (by rw [hFs76]; rfl)), (show s' 162 = (.bool (decide (hdO p = hdO q))) from H 14 162 (.eq (.bool (decide (hdO p = hdO q)))) rfl (by rw [hFs76]; rfl)), (show s' 18 = (.bool (decide (hdO p = hdO q))) from H 15 18 (.eq (.bool (decide (hdO p = hdO q)))) rfl (by rw [hFs76]; rfl)), trivial⟩
                clear U H
                replace E := E.ext X76
                replace E5 := E5.ext X76
                refine inB_normal ?_
                refine thn_normal ?_
                refine Wp_region ?_
                refine WpL_val rfl rfl (by decide) (r_move (v := (.int .i64 ((k : Nat) : Int))) rfl) ?_
                refine WpL_val rfl rfl (by decide) (r_add (k := .i64) (a := ((k : Nat) : Int)) (b := 1) (c := ((k : Nat) : Int) + 1) rfl rfl (wI64 (by omega))) ?_
                refine WpL_val rfl rfl (by decide) (r_assign (v := (.int .i64 (((k : Nat) : Int) + 1))) rfl) ?_
                refine WpL_nil ?_
                refine thn_normal ?_
                exact ⟨a.length - (k + 1), by omega, k + 1, decide (hdO p = hdO q), Fits.out ⟨rfl, rfl, rfl, rfl, rfl, rfl, rfl, trivial⟩, E, E5, (by omega), (by rw [heads_succ hp hq hj2.2, hj2.1]; rfl), rfl⟩
            · have khlt2 := hlt2
              have hfin := same_law hw1 hww hii hjs (fun h => by simpa [h] using hlt2) hk
              refine Wp_exit ?_
              refine thn_exit ?_
              refine thn_exit ?_
              refine inB_here ?_
              refine thn_normal ?_
              refine Wp_seq_region ?_
              refine WpL_val rfl rfl (by decide) (r_move (v := (.int .i64 se)) rfl) ?_
              refine WpL_val rfl rfl (by decide) (r_move (v := (.int .i64 ww)) rfl) ?_
              obtain ⟨e77, he77⟩ : ∃ e, (decide ((se : Int) = ww)) = e := ⟨_, rfl⟩
              refine WpL_val rfl rfl (by decide) ((r_eql (k := .i64) (a := se) (b := ww) rfl rfl).trans (by rw [he77]; try rfl)) ?_
              refine WpL_val rfl rfl (by decide) (r_move (v := (.bool e77)) rfl) ?_
              refine WpL_guard_any (oj := _) (gv := (.bool e77)) (u := (bif e77 then (.bool ss) else undef)) rfl rfl (by decide) (by decide) rfl (by cases e77 <;> first | exact Or.inr ⟨Or.inl rfl, rfl⟩ | exact Or.inr ⟨Or.inr rfl, rfl⟩ | exact Or.inl ⟨rfl, r_move (v := (.bool ss)) rfl⟩) ?_
              refine WpL_guard_any (oj := _) (gv := (.bool e77)) (u := (bif e77 then (.bool js) else undef)) rfl rfl (by decide) (by decide) rfl (by cases e77 <;> first | exact Or.inr ⟨Or.inl rfl, rfl⟩ | exact Or.inr ⟨Or.inr rfl, rfl⟩ | exact Or.inl ⟨rfl, r_move (v := (.bool js)) rfl⟩) ?_
              refine WpL_guard_any (oj := _) (gv := (.bool e77)) (u := (bif e77 then (.bool (ss == js)) else undef)) rfl rfl (by decide) (by decide) rfl (by cases e77 <;> first | exact Or.inr ⟨Or.inl rfl, rfl⟩ | exact Or.inr ⟨Or.inr rfl, rfl⟩ | exact Or.inl ⟨rfl, r_eqlB (p := ss) (q := js) Try.underlying4 rfl rfl⟩) ?_
              obtain ⟨e78, he78⟩ : ∃ e, (e77 && (ss == js)) = e := ⟨_, rfl⟩
              refine WpL_val rfl rfl (by decide) (r_pick (b := e77) (v := .bool e78) rfl (by rw [← he78]; cases e77 <;> rfl)) ?_
              refine WpL_val rfl rfl (by decide) (r_assign (v := (.bool e78)) rfl) ?_
              refine WpL_nil ?_
              subst he78
              subst he77
              refine Wp_ret ?_
              refine fin_tmp Try.results5 (v := (.bool ((decide ((se : Int) = ww)) && (ss == js)))) rfl ?_
              exact ⟨bool_eq (by rw [hss, hse, hfin.1, hfin.2]; simp), E⟩
end Go.Proofs
