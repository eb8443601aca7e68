/- Contracts: Light, PairsOf, Match, First. -/
import Derived.Test.YtiepeobnpmoghaaDoorW20
namespace Go.Proofs
open Go Go.Eng
set_option maxRecDepth 100000

set_option maxHeartbeats 1000000 in
theorem light_c (w0 : World) (t : Re) (vs : List Value) (vt : Value) (text : List Int) (most : Int) (ht : ReAt w0 t vs) (htx : IntsAt w0 vt text) (hs : t.size ≤ 2097152) (hok : okRe t) :
    Ret Tryd.prog 21 #[.agg vs.toArray, vt, .int .i64 most] w0 fun v w => (∃ b, v = .bool b) ∧ Ext w0 w := by
  have ht0 := ht
  obtain ⟨sa, sc, aa, ac, rfl, hset, hlen, hargs⟩ := ht.form
  obtain ⟨ta, tc, rfl⟩ := SlAt.form htx
  simp only [List.length_map] at htx ⊢
  refine Ret_of Tryd.func21 rfl Tryd.ntmps21 (Nat.le_of_ble_eq_true rfl) ?_
  have E : Chg none1 w0 w0 := Chg.refl _ _
  refine Wp_seq_region ?_
  refine s_box (v := (.agg #[(.int .i64 t.kind), (.slice sa t.set.length sc), (.slice aa t.args.length ac), (.int .i64 t.mn), (.int .i64 t.mx), (.bool t.neg)])) (c := #[(.int .i64 t.kind), (.slice sa t.set.length sc), (.slice aa t.args.length ac), (.int .i64 t.mn), (.int .i64 t.mx), (.bool t.neg)]) (by decide) rfl rfl ?_
  intro b1 w1 N1
  have F1 := N1.ge E
  replace E := E.ext N1.ext
  have B1 := N1.blk
  refine WpL_val rfl rfl (by decide) (r_assign (v := (.bool false)) rfl) ?_
  refine WpL_nil ?_
  refine Wp_seq_region ?_
  refine WpL_val rfl rfl (by decide) (r_loadAgg (vs := [(.int .i64 t.kind), (.slice sa t.set.length sc), (.slice aa t.args.length ac), (.int .i64 t.mn), (.int .i64 t.mx), (.bool t.neg)]) rfl agg27 siz27 rfl (B1.cells rfl)) ?_
  refine WpL_enter rfl rfl (by decide) (r_callF (vs := [(.agg #[(.int .i64 t.kind), (.slice sa t.set.length sc), (.slice aa t.args.length ac), (.int .i64 t.mn), (.int .i64 t.mx), (.bool t.neg)]), (.int .i64 41)]) Tryd.func47 nm47 bd47 rfl) (pre_c _ t _ _ (ReAt.ext E t ht0) hs) ?_
  rintro _ w9 ⟨la, lc, rows, rfl, hsl, hrows, X9⟩
  replace B1 := X9.keep B1
  replace E := E.ext X9
  refine WpL_val rfl rfl (by decide) (r_lenSlice (ad := la) (n := ((preL t).take (41 : Int).toNat).length) (cap := lc) Tryd.underlying25 rfl) ?_
  refine WpL_val rfl rfl (by decide) (r_leq (k := .i64) (a := ((((preL t).take (41 : Int).toNat).length : Nat) : Int)) (b := 40) rfl rfl) ?_
  refine WpL_val rfl rfl (by decide) (r_move (v := (.bool (decide ((((((preL t).take (41 : Int).toNat).length : Nat) : Int) : Int) ≤ 40)))) rfl) ?_
  rcases Bool.eq_false_or_eq_true (decide ((((((preL t).take (41 : Int).toNat).length : Nat) : Int) : Int) ≤ 40)) with g1 | g1
  · have kg1 := g1
    replace kg1 := of_decide_eq_true kg1
    refine WpL_guard_yes (oj := _) rfl rfl (by decide) (congrArg Value.bool g1) ?_
    refine WpL_val rfl rfl (by decide) (r_loadAgg (vs := [(.int .i64 t.kind), (.slice sa t.set.length sc), (.slice aa t.args.length ac), (.int .i64 t.mn), (.int .i64 t.mx), (.bool t.neg)]) rfl agg27 siz27 rfl (B1.cells rfl)) ?_
    refine WpL_guard_yes (oj := _) rfl rfl (by decide) (congrArg Value.bool g1) ?_
    refine WpL_enter rfl rfl (by decide) (r_callF (vs := [(.agg #[(.int .i64 t.kind), (.slice sa t.set.length sc), (.slice aa t.args.length ac), (.int .i64 t.mn), (.int .i64 t.mx), (.bool t.neg)])]) Tryd.func48 nm48 bd48 rfl) (deep_c _ t (Nat.le_refl _) hs _ _ (ReAt.ext E t ht0)) ?_
    rintro _ w19 ⟨⟨d, rfl, hd⟩, X19⟩
    replace B1 := X19.keep B1
    replace E := E.ext X19
    refine WpL_guard_yes (oj := _) rfl rfl (by decide) (congrArg Value.bool g1) ?_
    refine WpL_val rfl rfl (by decide) (r_leq (k := .i64) (a := d) (b := 5) rfl rfl) ?_
    refine WpL_val rfl rfl (by decide) (r_pick (b := decide ((((((preL t).take (41 : Int).toNat).length : Nat) : Int) : Int) ≤ 40)) (v := (.bool (decide ((d : Int) ≤ 5)))) rfl (by rw [g1]; rfl)) ?_
    refine WpL_val rfl rfl (by decide) (r_move (v := (.bool (decide ((d : Int) ≤ 5)))) rfl) ?_
    rcases Bool.eq_false_or_eq_true (decide ((d : Int) ≤ 5)) with g2 | g2
    · have kg2 := g2
      replace kg2 := of_decide_eq_true kg2
      refine WpL_guard_yes (oj := _) rfl rfl (by decide) (congrArg Value.bool g2) ?_
      refine WpL_val rfl rfl (by decide) (r_loadAgg (vs := [(.int .i64 t.kind), (.slice sa t.set.length sc), (.slice aa t.args.length ac), (.int .i64 t.mn), (.int .i64 t.mx), (.bool t.neg)]) rfl agg27 siz27 rfl (B1.cells rfl)) ?_
      refine WpL_guard_yes (oj := _) rfl rfl (by decide) (congrArg Value.bool g2) ?_
      refine WpL_enter rfl rfl (by decide) (r_callF (vs := [(.agg #[(.int .i64 t.kind), (.slice sa t.set.length sc), (.slice aa t.args.length ac), (.int .i64 t.mn), (.int .i64 t.mx), (.bool t.neg)])]) Tryd.func49 nm49 bd49 rfl) (weight_c _ t (Nat.le_refl _) hs hok _ _ (ReAt.ext E t ht0)) ?_
      rintro _ w29 ⟨⟨u, rfl, hu⟩, X29⟩
      replace B1 := X29.keep B1
      replace E := E.ext X29
      refine WpL_guard_yes (oj := _) rfl rfl (by decide) (congrArg Value.bool g2) ?_
      refine WpL_val rfl rfl (by decide) (r_leq (k := .i64) (a := u) (b := 60) rfl rfl) ?_
      refine WpL_val rfl rfl (by decide) (r_pick (b := decide ((d : Int) ≤ 5)) (v := (.bool (decide ((u : Int) ≤ 60)))) rfl (by rw [g2]; rfl)) ?_
      refine WpL_val rfl rfl (by decide) (r_move (v := (.bool (decide ((u : Int) ≤ 60)))) rfl) ?_
      rcases Bool.eq_false_or_eq_true (decide ((u : Int) ≤ 60)) with g3 | g3
      · have kg3 := g3
        replace kg3 := of_decide_eq_true kg3
        refine WpL_guard_yes (oj := _) rfl rfl (by decide) (congrArg Value.bool g3) ?_
        refine WpL_val rfl rfl (by decide) (r_move (v := (.slice ta text.length tc)) rfl) ?_
        refine WpL_guard_yes (oj := _) rfl rfl (by decide) (congrArg Value.bool g3) ?_
        refine WpL_val rfl rfl (by decide) (r_lenSlice (ad := ta) (n := text.length) (cap := tc) Tryd.underlying22 rfl) ?_
        refine WpL_guard_yes (oj := _) rfl rfl (by decide) (congrArg Value.bool g3) ?_
        refine WpL_val rfl rfl (by decide) (r_move (v := (.int .i64 most)) rfl) ?_
        refine WpL_guard_yes (oj := _) rfl rfl (by decide) (congrArg Value.bool g3) ?_
        refine WpL_val rfl rfl (by decide) (r_leq (k := .i64) (a := ((text.length : Nat) : Int)) (b := most) rfl rfl) ?_
        refine WpL_val rfl rfl (by decide) (r_pick (b := decide ((u : Int) ≤ 60)) (v := (.bool (decide ((((text.length : Nat) : Int) : Int) ≤ most)))) rfl (by rw [g3]; rfl)) ?_
        refine WpL_val rfl rfl (by decide) (r_assign (v := (.bool (decide ((((text.length : Nat) : Int) : Int) ≤ most)))) rfl) ?_
        refine WpL_nil ?_
        refine Wp_ret ?_
        refine fin_tmp Tryd.results21 (v := (.bool (decide ((((text.length : Nat) : Int) : Int) ≤ most)))) rfl ?_
        exact ⟨⟨_, rfl⟩, E⟩
      · have kg3 := g3
        replace kg3 := of_decide_eq_false kg3
        refine WpL_guard_no (oj := _) rfl rfl (by decide) (v := .bool false) (congrArg Value.bool g3) (Or.inl rfl) ?_
        refine WpL_guard_no (oj := _) rfl rfl (by decide) (v := .bool false) (congrArg Value.bool g3) (Or.inl rfl) ?_
        refine WpL_guard_no (oj := _) rfl rfl (by decide) (v := .bool false) (congrArg Value.bool g3) (Or.inl rfl) ?_
        refine WpL_guard_no (oj := _) rfl rfl (by decide) (v := .bool false) (congrArg Value.bool g3) (Or.inl rfl) ?_
        refine WpL_val rfl rfl (by decide) (r_pick (b := decide ((u : Int) ≤ 60)) (v := (.bool false)) rfl (by rw [g3]; rfl)) ?_
        refine WpL_val rfl rfl (by decide) (r_assign (v := (.bool false)) rfl) ?_
        refine WpL_nil ?_
        refine Wp_ret ?_
        refine fin_tmp Tryd.results21 (v := (.bool false)) rfl ?_
        exact ⟨⟨_, rfl⟩, E⟩
    · have kg2 := g2
      replace kg2 := of_decide_eq_false kg2
      refine WpL_guard_no (oj := _) rfl rfl (by decide) (v := .bool false) (congrArg Value.bool g2) (Or.inl rfl) ?_
      refine WpL_guard_no (oj := _) rfl rfl (by decide) (v := .bool false) (congrArg Value.bool g2) (Or.inl rfl) ?_
      refine WpL_guard_no (oj := _) rfl rfl (by decide) (v := .bool false) (congrArg Value.bool g2) (Or.inl rfl) ?_
      refine WpL_val rfl rfl (by decide) (r_pick (b := decide ((d : Int) ≤ 5)) (v := (.bool false)) rfl (by rw [g2]; rfl)) ?_
      refine WpL_val rfl rfl (by decide) (r_move (v := (.bool false)) rfl) ?_
      refine WpL_guard_no (oj := _) rfl rfl (by decide) (v := .bool false) rfl (Or.inl rfl) ?_
      refine WpL_guard_no (oj := _) rfl rfl (by decide) (v := .bool false) rfl (Or.inl rfl) ?_
      refine WpL_guard_no (oj := _) rfl rfl (by decide) (v := .bool false) rfl (Or.inl rfl) ?_
      refine WpL_guard_no (oj := _) rfl rfl (by decide) (v := .bool false) rfl (Or.inl rfl) ?_
      refine WpL_val rfl rfl (by decide) (r_pick (b := false) (v := (.bool false)) rfl rfl) ?_
      refine WpL_val rfl rfl (by decide) (r_assign (v := (.bool false)) rfl) ?_
      refine WpL_nil ?_
      refine Wp_ret ?_
      refine fin_tmp Tryd.results21 (v := (.bool false)) rfl ?_
      exact ⟨⟨_, rfl⟩, E⟩
  · have kg1 := g1
    replace kg1 := of_decide_eq_false kg1
    refine WpL_guard_no (oj := _) rfl rfl (by decide) (v := .bool false) (congrArg Value.bool g1) (Or.inl rfl) ?_
    refine WpL_guard_no (oj := _) rfl rfl (by decide) (v := .bool false) (congrArg Value.bool g1) (Or.inl rfl) ?_
    refine WpL_guard_no (oj := _) rfl rfl (by decide) (v := .bool false) (congrArg Value.bool g1) (Or.inl rfl) ?_
    refine WpL_val rfl rfl (by decide) (r_pick (b := decide ((((((preL t).take (41 : Int).toNat).length : Nat) : Int) : Int) ≤ 40)) (v := (.bool false)) rfl (by rw [g1]; rfl)) ?_
    refine WpL_val rfl rfl (by decide) (r_move (v := (.bool false)) rfl) ?_
    refine WpL_guard_no (oj := _) rfl rfl (by decide) (v := .bool false) rfl (Or.inl rfl) ?_
    refine WpL_guard_no (oj := _) rfl rfl (by decide) (v := .bool false) rfl (Or.inl rfl) ?_
    refine WpL_guard_no (oj := _) rfl rfl (by decide) (v := .bool false) rfl (Or.inl rfl) ?_
    refine WpL_val rfl rfl (by decide) (r_pick (b := false) (v := (.bool false)) rfl rfl) ?_
    refine WpL_val rfl rfl (by decide) (r_move (v := (.bool false)) rfl) ?_
    refine WpL_guard_no (oj := _) rfl rfl (by decide) (v := .bool false) rfl (Or.inl rfl) ?_
    refine WpL_guard_no (oj := _) rfl rfl (by decide) (v := .bool false) rfl (Or.inl rfl) ?_
    refine WpL_guard_no (oj := _) rfl rfl (by decide) (v := .bool false) rfl (Or.inl rfl) ?_
    refine WpL_guard_no (oj := _) rfl rfl (by decide) (v := .bool false) rfl (Or.inl rfl) ?_
    refine WpL_val rfl rfl (by decide) (r_pick (b := false) (v := (.bool false)) rfl rfl) ?_
    refine WpL_val rfl rfl (by decide) (r_assign (v := (.bool false)) rfl) ?_
    refine WpL_nil ?_
    refine Wp_ret ?_
    refine fin_tmp Tryd.results21 (v := (.bool false)) rfl ?_
    exact ⟨⟨_, rfl⟩, E⟩

theorem acc_skip {R : Rl} {i p q : Nat} (h : ∀ j, p ≤ j → j < q → R i j = false) (hpq : p ≤ q) : accL R i q = accL R i p := by
  unfold accL; rw [rowL_skip h hpq]
theorem acc_full {R : Rl} {n i : Nat} (hn : n ≤ 24) (w : Wf n R) : accL R i (n + 1) = accL R (i + 1) 0 := by
  have h1 : rowL R i 25 = rowL R i (n + 1) := rowL_skip (fun j h1 _ => by cases h : R i j with | false => rfl | true => have := w i j h; omega) (by omega)
  unfold accL
  rw [pairsL_succ, h1]
  simp [rowL]
set_option maxHeartbeats 2000000 in
theorem pairsOf_c (w0 : World) (t : Re) (vs : List Value) (vt : Value) (text : List Int) (hn : text.length ≤ 24) (ht : ReAt w0 t vs) (htx : IntsAt w0 vt text) (hok : okRe t) :
    Ret Tryd.prog 22 #[.agg vs.toArray, vt] w0 fun v w => ∃ a c, v = .slice a (pairsL (relOf text t) (text.length + 1)).length c ∧ PairsAt w v (pairsL (relOf text t) (text.length + 1)) ∧ Ext w0 w := by
  have ht0 := ht
  have hwf := wf_rel text t
  obtain ⟨sa, sc, aa, ac, rfl, hset, hlen, hargs⟩ := ht.form
  obtain ⟨ta, tc, rfl⟩ := SlAt.form htx
  simp only [List.length_map] at htx ⊢
  refine Ret_of Tryd.func22 rfl Tryd.ntmps22 (Nat.le_of_ble_eq_true rfl) ?_
  have E : Chg none1 w0 w0 := Chg.refl _ _
  refine Wp_seq_region ?_
  refine s_box (v := (.agg #[(.int .i64 t.kind), (.slice sa t.set.length sc), (.slice aa t.args.length ac), (.int .i64 t.mn), (.int .i64 t.mx), (.bool t.neg)])) (c := #[(.int .i64 t.kind), (.slice sa t.set.length sc), (.slice aa t.args.length ac), (.int .i64 t.mn), (.int .i64 t.mx), (.bool t.neg)]) (by decide) rfl rfl ?_
  intro bp wp Np
  have Fp := Np.ge E
  replace E := E.ext Np.ext
  have Bp := Np.blk
  refine WpL_val rfl rfl (by decide) (r_assign (v := (.slice none 0 0)) rfl) ?_
  refine WpL_nil ?_
  refine Wp_seq_region ?_
  refine WpL_val rfl rfl (by decide) (r_assign (v := (.slice none 0 0)) rfl) ?_
  refine WpL_nil ?_
  refine Wp_seq ?_
  refine Wp_seq_region ?_
  refine WpL_val rfl rfl (by decide) (r_assign (v := (.int .i64 0)) rfl) ?_
  refine WpL_nil ?_
  refine Wp_block ?_
  obtain ⟨base, hbase⟩ : ∃ base, base = wp.heap.size := ⟨_, rfl⟩
  have hb1 : bp < base := by have := Bp.lt; omega
  have hb0 : w0.heap.size ≤ base := by have := E.size; omega
  refine Wp_loop (fun nn_ σ W1 => ∃ (i : Nat) (la : Option Addr) (lc : Nat), (∃ jj_, σ = upds jj_ [(1, (.slice ta text.length tc)), (2, (.pointer (some ⟨bp, 0, none⟩))), (6, (.int .i64 ((i : Nat) : Int))), (5, (.slice la ((accL (relOf text t) i 0).length) lc))]) ∧ Chg none1 w0 W1 ∧ Blk W1 bp #[(.int .i64 t.kind), (.slice sa t.set.length sc), (.slice aa t.args.length ac), (.int .i64 t.mn), (.int .i64 t.mx), (.bool t.neg)] 27 ∧ (i ≤ text.length + 1) ∧ (W1.ownsRow base 43 2 (.slice la (accL (relOf text t) i 0).length lc) (accL (relOf text t) i 0).length ((accL (relOf text t) i 0).map pairV).flatten) ∧ (base ≤ W1.heap.size) ∧ nn_ = text.length + 1 - i) (n := text.length + 1 - 0) ?_ ?_
  · exact ⟨0, none, 0, Fits.out ⟨rfl, rfl, rfl, rfl, trivial⟩, E, Bp, Nat.zero_le _, World.ownsRow_nil _ _ _ _, (by omega), rfl⟩
  · clear E Bp
    rintro _ _ W1 ⟨i, la, lc, ⟨j1, rfl⟩, E, Bp, hi, hown, hbs, rfl⟩
    refine Wp_seq ?_
    refine Wp_seq_region ?_
    refine WpL_val rfl rfl (by decide) (r_move (v := (.int .i64 ((i : Nat) : Int))) rfl) ?_
    refine WpL_val rfl rfl (by decide) (r_move (v := (.slice ta text.length tc)) rfl) ?_
    refine WpL_val rfl rfl (by decide) (r_lenSlice (ad := ta) (n := text.length) (cap := tc) Tryd.underlying22 rfl) ?_
    refine WpL_val rfl rfl (by decide) (r_leq (k := .i64) (a := ((i : Nat) : Int)) (b := ((text.length : Nat) : Int)) rfl rfl) ?_
    refine WpL_nil ?_
    refine Wp_cond (b := decide ((((i : Nat) : Int) : Int) ≤ ((text.length : Nat) : Int))) rfl (fun hlt => ?_) (fun hlt => ?_)
    · have khlt := hlt
      replace hlt := of_decide_eq_true hlt
      have hst0 : accL (relOf text t) i i = accL (relOf text t) i 0 := acc_skip (fun j _ h2 => by cases h : relOf text t i j with | false => rfl | true => have := hwf i j h; omega) (by omega)
      rw [← hst0] at hown ⊢
      refine Wp_skip ?_
      refine thn_normal ?_
      refine Wp_seq ?_
      refine Wp_block ?_
      refine Wp_seq_region ?_
      refine WpL_val rfl rfl (by decide) (r_move (v := (.int .i64 ((i : Nat) : Int))) rfl) ?_
      refine WpL_val rfl rfl (by decide) (r_assign (v := (.int .i64 ((i : Nat) : Int))) rfl) ?_
      refine WpL_nil ?_
      refine Wp_block ?_
      refine Wp_loop (fun nn_ σ W3 => ∃ (p : Nat) (la : Option Addr) (lc : Nat), (∃ jj_, σ = upds jj_ [(1, (.slice ta text.length tc)), (2, (.pointer (some ⟨bp, 0, none⟩))), (6, (.int .i64 ((i : Nat) : Int))), (7, (.int .i64 ((p : Nat) : Int))), (5, (.slice la ((accL (relOf text t) i p).length) lc))]) ∧ Chg none1 w0 W3 ∧ Blk W3 bp #[(.int .i64 t.kind), (.slice sa t.set.length sc), (.slice aa t.args.length ac), (.int .i64 t.mn), (.int .i64 t.mx), (.bool t.neg)] 27 ∧ (i ≤ p ∧ p ≤ text.length + 1) ∧ (W3.ownsRow base 43 2 (.slice la (accL (relOf text t) i p).length lc) (accL (relOf text t) i p).length ((accL (relOf text t) i p).map pairV).flatten) ∧ (base ≤ W3.heap.size) ∧ nn_ = text.length + 1 - p) (n := text.length + 1 - i) ?_ ?_
      · exact ⟨i, la, lc, Fits.out ⟨rfl, rfl, rfl, rfl, rfl, trivial⟩, E, Bp, (by omega), hown, hbs, rfl⟩
      · clear E Bp
        rintro _ _ W3 ⟨p, la, lc, ⟨j3, rfl⟩, E, Bp, hp, hown, hbs, rfl⟩
        refine Wp_seq ?_
        refine Wp_seq_region ?_
        refine WpL_val rfl rfl (by decide) (r_move (v := (.int .i64 ((p : Nat) : Int))) rfl) ?_
        refine WpL_val rfl rfl (by decide) (r_move (v := (.slice ta text.length tc)) rfl) ?_
        refine WpL_val rfl rfl (by decide) (r_lenSlice (ad := ta) (n := text.length) (cap := tc) Tryd.underlying22 rfl) ?_
        refine WpL_val rfl rfl (by decide) (r_leq (k := .i64) (a := ((p : Nat) : Int)) (b := ((text.length : Nat) : Int)) rfl rfl) ?_
        refine WpL_nil ?_
        refine Wp_cond (b := decide ((((p : Nat) : Int) : Int) ≤ ((text.length : Nat) : Int))) rfl (fun hlt2 => ?_) (fun hlt2 => ?_)
        · have khlt2 := hlt2
          replace hlt2 := of_decide_eq_true hlt2
          have hal := acc_len (relOf text t) i p
          refine Wp_skip ?_
          refine thn_normal ?_
          refine Wp_seq ?_
          refine Wp_block ?_
          refine Wp_seq_region ?_
          refine WpL_val rfl rfl (by decide) (r_loadAgg (vs := [(.int .i64 t.kind), (.slice sa t.set.length sc), (.slice aa t.args.length ac), (.int .i64 t.mn), (.int .i64 t.mx), (.bool t.neg)]) rfl agg27 siz27 rfl (Bp.cells rfl)) ?_
          refine WpL_val rfl rfl (by decide) (r_move (v := (.slice ta text.length tc)) rfl) ?_
          refine WpL_val rfl rfl (by decide) (r_move (v := (.int .i64 ((i : Nat) : Int))) rfl) ?_
          refine WpL_val rfl rfl (by decide) (r_move (v := (.int .i64 ((p : Nat) : Int))) rfl) ?_
          refine WpL_enter rfl rfl (by decide) (r_callF (vs := [(.agg #[(.int .i64 t.kind), (.slice sa t.set.length sc), (.slice aa t.args.length ac), (.int .i64 t.mn), (.int .i64 t.mx), (.bool t.neg)]), (.slice ta text.length tc), (.int .i64 ((i : Nat) : Int)), (.int .i64 ((p : Nat) : Int))]) Tryd.func23 nm23 bd23 rfl) (match_c text hn _ t i p (by omega) (by omega) (Nat.lt_succ_self _) (okM_of hok) _ _ _ (ReAt.ext E t ht0) (htx.ext E)) ?_
          rintro _ w9 ⟨rfl, X9⟩
          replace Bp := X9.keep Bp
          replace hown := own_ext hown X9
          replace hbs := Nat.le_trans hbs X9.size
          replace E := E.ext X9
          refine WpL_nil ?_
          refine Wp_cond (b := relOf text t i p) rfl (fun hB => ?_) (fun hB => ?_)
          · have khB := hB
            refine Wp_region ?_
            refine WpL_val rfl rfl (by decide) (r_move (v := (.slice la ((accL (relOf text t) i p).length) lc)) rfl) ?_
            refine WpL_val rfl rfl (by decide) (r_move (v := (.int .i64 ((i : Nat) : Int))) rfl) ?_
            refine WpL_val rfl rfl (by decide) (r_move (v := (.int .i64 ((p : Nat) : Int))) rfl) ?_
            refine WpL_val rfl rfl (by decide) (r_build (ps := [(0, (.int .i64 ((i : Nat) : Int))), (1, (.int .i64 ((p : Nat) : Int)))]) (v := (.agg #[(.int .i64 ((i : Nat) : Int)), (.int .i64 ((p : Nat) : Int))])) rfl (by kernel_rfl)) ?_
            refine s_buildSlice (ps := [(0, (.agg #[(.int .i64 ((i : Nat) : Int)), (.int .i64 ((p : Nat) : Int))]))]) (c := #[(.int .i64 ((i : Nat) : Int)), (.int .i64 ((p : Nat) : Int))]) (by decide) rfl Tryd.underlying37 siz43 zer43 (by decide) (by decide) (by kernel_rfl) ?_
            intro b6 w6 N6
            have F6 := N6.ge E
            have O6_bp := N6.lt Bp
            replace Bp := N6.keep Bp
            replace hown := own_ext hown N6.ext
            replace hbs := Nat.le_trans hbs N6.ext.size
            replace E := E.ext N6.ext
            have B6 := N6.blk
            refine s_append (base := base) (n := (accL (relOf text t) i p).length) (m := 1) (xs := ((accL (relOf text t) i p).map pairV).flatten) (news := [(.int .i64 ((i : Nat) : Int)), (.int .i64 ((p : Nat) : Int))]) (size := 2) (bytes := 16) (v := (.slice la ((accL (relOf text t) i p).length) lc)) (by decide) Tryd.underlying37 siz43 byt43 zer43 rfl (by decide) rfl hown rfl (rfl) (B6.cells rfl) (by simp [Value.oneCell']) (by unfold maxLen; omega) (by omega) (hbs) ?_
            intro v9 w29 Ov9 Cv9 Dv9
            replace Bp := Cv9.keep (fun h => by have := (hown.lt _ h).1; omega) Bp
            replace E := E.step Cv9 (fun x hx h => absurd (hown.lt x h).1 (by omega))
            obtain ⟨la2, lc2, rfl⟩ := own_form Ov9
            have hst := acc_step (R := relOf text t) (i := i) (p := p) (k := p) (fun j h1 h2 => by omega) (Nat.le_refl _) hB
            have hlen2 : (accL (relOf text t) i p).length + 1 = (accL (relOf text t) i (p + 1)).length := by rw [hst]; simp
            rw [hlen2] at Ov9 ⊢
            refine WpL_val rfl rfl (by decide) (r_assign (v := (.slice la2 ((accL (relOf text t) i (p + 1)).length) lc2)) rfl) ?_
            refine WpL_nil ?_
            refine inB_normal ?_
            refine thn_normal ?_
            refine Wp_region ?_
            refine WpL_val rfl rfl (by decide) (r_move (v := (.int .i64 ((p : Nat) : Int))) rfl) ?_
            refine WpL_val rfl rfl (by decide) (r_add (k := .i64) (a := ((p : Nat) : Int)) (b := 1) (c := ((p : Nat) : Int) + 1) rfl rfl (wI64 (by omega))) ?_
            refine WpL_val rfl rfl (by decide) (r_assign (v := (.int .i64 (((p : Nat) : Int) + 1))) rfl) ?_
            refine WpL_nil ?_
            refine thn_normal ?_
            exact ⟨text.length + 1 - (p + 1), by omega, p + 1, la2, lc2, Fits.out ⟨rfl, rfl, rfl, rfl, rfl, trivial⟩, E, Bp, (by omega), (by rw [hst] at Ov9 ⊢; simpa [pairV] using Ov9), Nat.le_trans hbs Cv9.size, rfl⟩
          · have khB := hB
            have hst : accL (relOf text t) i (p + 1) = accL (relOf text t) i p := acc_skip (fun j h1 h2 => by obtain rfl : j = p := (by omega); exact hB) (by omega)
            rw [← hst] at hown ⊢
            refine Wp_skip ?_
            refine inB_normal ?_
            refine thn_normal ?_
            refine Wp_region ?_
            refine WpL_val rfl rfl (by decide) (r_move (v := (.int .i64 ((p : Nat) : Int))) rfl) ?_
            refine WpL_val rfl rfl (by decide) (r_add (k := .i64) (a := ((p : Nat) : Int)) (b := 1) (c := ((p : Nat) : Int) + 1) rfl rfl (wI64 (by omega))) ?_
            refine WpL_val rfl rfl (by decide) (r_assign (v := (.int .i64 (((p : Nat) : Int) + 1))) rfl) ?_
            refine WpL_nil ?_
            refine thn_normal ?_
            exact ⟨text.length + 1 - (p + 1), by omega, p + 1, la, lc, Fits.out ⟨rfl, rfl, rfl, rfl, rfl, trivial⟩, E, Bp, (by omega), hown, hbs, rfl⟩
        · have khlt2 := hlt2
          replace hlt2 := of_decide_eq_false hlt2
          obtain rfl : p = text.length + 1 := by omega
          rw [acc_full hn hwf] at hown ⊢
          refine Wp_exit ?_
          refine thn_exit ?_
          refine thn_exit ?_
          refine inB_here ?_
          refine inB_normal ?_
          refine thn_normal ?_
          refine Wp_region ?_
          refine WpL_val rfl rfl (by decide) (r_move (v := (.int .i64 ((i : Nat) : Int))) rfl) ?_
          refine WpL_val rfl rfl (by decide) (r_add (k := .i64) (a := ((i : Nat) : Int)) (b := 1) (c := ((i : Nat) : Int) + 1) rfl rfl (wI64 (by omega))) ?_
          refine WpL_val rfl rfl (by decide) (r_assign (v := (.int .i64 (((i : Nat) : Int) + 1))) rfl) ?_
          refine WpL_nil ?_
          refine thn_normal ?_
          exact ⟨text.length + 1 - (i + 1), by omega, i + 1, la, lc, Fits.out ⟨rfl, rfl, rfl, rfl, trivial⟩, E, Bp, (by omega), hown, hbs, rfl⟩
    · have khlt := hlt
      replace hlt := of_decide_eq_false hlt
      obtain rfl : i = text.length + 1 := by omega
      have hfin : accL (relOf text t) (text.length + 1) 0 = pairsL (relOf text t) (text.length + 1) := by simp [accL, rowL]
      rw [hfin] at hown ⊢
      refine Wp_exit ?_
      refine thn_exit ?_
      refine thn_exit ?_
      refine inB_here ?_
      refine thn_normal ?_
      refine Wp_seq_region ?_
      refine WpL_val rfl rfl (by decide) (r_move (v := (.slice la ((pairsL (relOf text t) (text.length + 1)).length) lc)) rfl) ?_
      refine WpL_val rfl rfl (by decide) (r_assign (v := (.slice la ((pairsL (relOf text t) (text.length + 1)).length) lc)) rfl) ?_
      refine WpL_nil ?_
      refine Wp_ret ?_
      refine fin_tmp Tryd.results22 (v := (.slice la ((pairsL (relOf text t) (text.length + 1)).length) lc)) rfl ?_
      exact ⟨la, lc, rfl, own_slat hown (by intro r hr; simp only [List.mem_map] at hr; obtain ⟨p, _, rfl⟩ := hr; rfl) (by simp) (by decide), E⟩

theorem checkP_ok {t : Re} {text : List Int} (h0 : checkP t text = 0) : okRe t ∧ (t.size : Int) ≤ 40 ∧ text.length ≤ 24 := by
  unfold checkP at h0
  by_cases h1 : fitsE t 40 = 0
  · rw [if_neg (by omega)] at h0
    obtain ⟨a, b⟩ := (fitsE_zero (by decide) (by decide)).1 h1
    refine ⟨a, b, ?_⟩
    split at h0 <;> omega
  · rw [if_pos h1] at h0; omega
theorem shr_bit {x n : Nat} (f : Nat → Bool) (hx : x = maskN 25 f) (hn : n ≤ 24) : decide ((((x / 2 ^ n) &&& 1 : Nat) : Int) = 1) = f n := by
  have h1 : (x / 2 ^ n) &&& 1 = x / 2 ^ n % 2 := Nat.and_one_is_mod _
  have h2 : x.testBit n = decide (x / 2 ^ n % 2 = 1) := Nat.testBit_eq_decide_div_mod_eq
  have h3 : x.testBit n = f n := by rw [hx, maskN_bit]; simp; omega
  rw [← h3, h2, h1]
  congr 1
  rw [eq_iff_iff]; omega
set_option maxHeartbeats 1000000 in
theorem rmatch_c (w0 : World) (t : Re) (vs : List Value) (vt : Value) (text : List Int) (ht : ReAt w0 t vs) (htx : IntsAt w0 vt text) (hT : TabOk w0) :
    Ret Tryd.prog 17 #[.agg vs.toArray, vt] w0 fun v w => v = .tuple #[.bool (if checkP t text = 0 then relOf text t 0 text.length else false), .int .i64 (checkP t text)] ∧ Ext w0 w := by
  have ht0 := ht
  obtain ⟨sa, sc, aa, ac, rfl, hset, hlen, hargs⟩ := ht.form
  obtain ⟨ta, tc, rfl⟩ := SlAt.form htx
  simp only [List.length_map] at htx ⊢
  refine Ret_of Tryd.func17 rfl Tryd.ntmps17 (Nat.le_of_ble_eq_true rfl) ?_
  have E : Chg none1 w0 w0 := Chg.refl _ _
  refine Wp_seq_region ?_
  refine s_box (v := (.agg #[(.int .i64 t.kind), (.slice sa t.set.length sc), (.slice aa t.args.length ac), (.int .i64 t.mn), (.int .i64 t.mx), (.bool t.neg)])) (c := #[(.int .i64 t.kind), (.slice sa t.set.length sc), (.slice aa t.args.length ac), (.int .i64 t.mn), (.int .i64 t.mx), (.bool t.neg)]) (by decide) rfl rfl ?_
  intro b1 w1 N1
  have F1 := N1.ge E
  replace E := E.ext N1.ext
  have B1 := N1.blk
  refine WpL_val rfl rfl (by decide) (r_assign (v := (.bool false)) rfl) ?_
  refine WpL_val rfl rfl (by decide) (r_assign (v := (.int .i64 0)) rfl) ?_
  refine WpL_nil ?_
  refine Wp_seq ?_
  refine Wp_seq_region ?_
  refine WpL_val rfl rfl (by decide) (r_loadAgg (vs := [(.int .i64 t.kind), (.slice sa t.set.length sc), (.slice aa t.args.length ac), (.int .i64 t.mn), (.int .i64 t.mx), (.bool t.neg)]) rfl agg27 siz27 rfl (B1.cells rfl)) ?_
  refine WpL_val rfl rfl (by decide) (r_move (v := (.slice ta text.length tc)) rfl) ?_
  refine WpL_enter rfl rfl (by decide) (r_callF (vs := [(.agg #[(.int .i64 t.kind), (.slice sa t.set.length sc), (.slice aa t.args.length ac), (.int .i64 t.mn), (.int .i64 t.mx), (.bool t.neg)]), (.slice ta text.length tc)]) Tryd.func39 nm39 bd39 rfl) (pcheck_c _ t _ _ text (ReAt.ext E t ht0) (htx.ext E)) ?_
  rintro _ w9 ⟨rfl, X9⟩
  replace B1 := X9.keep B1
  replace E := E.ext X9
  refine WpL_val rfl rfl (by decide) (r_assign (v := (.int .i64 (checkP t text))) rfl) ?_
  refine WpL_nil ?_
  refine Wp_seq_region ?_
  refine WpL_val rfl rfl (by decide) (r_move (v := (.int .i64 (checkP t text))) rfl) ?_
  refine WpL_val rfl rfl (by decide) (r_neq (k := .i64) (a := checkP t text) (b := 0) rfl rfl) ?_
  refine WpL_nil ?_
  refine Wp_cond (b := decide ((checkP t text : Int) ≠ 0)) rfl (fun h0 => ?_) (fun h0 => ?_)
  · have kh0 := h0
    replace h0 := of_decide_eq_true h0
    refine Wp_seq_region ?_
    refine WpL_val rfl rfl (by decide) (r_move (v := (.int .i64 (checkP t text))) rfl) ?_
    refine WpL_val rfl rfl (by decide) (r_assign (v := (.bool false)) rfl) ?_
    refine WpL_val rfl rfl (by decide) (r_assign (v := (.int .i64 (checkP t text))) rfl) ?_
    refine WpL_nil ?_
    refine Wp_ret ?_
    refine thn_ret ?_
    refine fin_tmp2 Tryd.results17 (v := (.bool false)) (v' := (.int .i64 (checkP t text))) rfl rfl ?_
    exact ⟨by rw [if_neg h0], E⟩
  · have kh0 := h0
    replace h0 := of_decide_eq_false h0
    have h0' : checkP t text = 0 := by omega
    obtain ⟨hok, hsz, hn⟩ := checkP_ok h0'
    refine Wp_skip ?_
    refine thn_normal ?_
    refine Wp_seq_region ?_
    refine WpL_val rfl rfl (by decide) (r_loadAgg (vs := [(.int .i64 t.kind), (.slice sa t.set.length sc), (.slice aa t.args.length ac), (.int .i64 t.mn), (.int .i64 t.mx), (.bool t.neg)]) rfl agg27 siz27 rfl (B1.cells rfl)) ?_
    refine WpL_val rfl rfl (by decide) (r_move (v := (.slice ta text.length tc)) rfl) ?_
    refine WpL_enter rfl rfl (by decide) (r_callF (vs := [(.agg #[(.int .i64 t.kind), (.slice sa t.set.length sc), (.slice aa t.args.length ac), (.int .i64 t.mn), (.int .i64 t.mx), (.bool t.neg)]), (.slice ta text.length tc)]) Tryd.func40 nm40 bd40 rfl) (of_c text hn 40 (by decide) t (by omega) hok _ _ _ (ReAt.ext E t ht0) (htx.ext E) (hT.ext E)) ?_
    rintro _ w19 ⟨bm, rfl, hbm, Bm, X19⟩
    replace B1 := X19.keep B1
    replace E := E.ext X19
    obtain ⟨x, hx⟩ : ∃ x, x = maskN 25 (relOf text t 0) := ⟨_, rfl⟩
    have hxl : x < 4294967296 := hx ▸ mask_lt32 _
    refine WpL_val rfl rfl (by decide) (r_nilCheck (a := ⟨bm, 0, none⟩) rfl) ?_
    refine WpL_val rfl rfl (by decide) (r_indexArr (b := bm) (o := 0) (i := 0) (o' := 0) rfl rfl rfl Tryd.underlying91 siz70 (by omega) (by omega)) ?_
    refine WpL_val rfl rfl (by decide) (r_load (v := (.int .u32 ((x : Nat) : Int))) rfl flat70 ((Bm.cell (rowArr_get _ (by omega))).trans (by rw [hx]))) ?_
    refine WpL_val rfl rfl (by decide) (r_move (v := (.slice ta text.length tc)) rfl) ?_
    refine WpL_val rfl rfl (by decide) (r_lenSlice (ad := ta) (n := text.length) (cap := tc) Tryd.underlying22 rfl) ?_
    refine WpL_val rfl rfl (by decide) (r_shr (k := .u32) (a := ((x : Nat) : Int)) (b := ((text.length : Nat) : Int)) (c := ((x / 2 ^ text.length : Nat) : Int)) (k' := .i64) rfl rfl (by omega) (by rw [Int.fdiv_eq_ediv_of_nonneg _ (Int.le_of_lt (Int.pow_pos (by decide))), show min ((text.length : Nat) : Int).toNat IntKind.u32.bits = text.length from by simp only [IntKind.bits]; omega]; push_cast; rfl)) ?_
    refine WpL_val rfl rfl (by decide) (r_bits (k := .u32) (a := ((x / 2 ^ text.length : Nat) : Int)) (b := 1) (v := .int .u32 (((x / 2 ^ text.length) &&& 1 : Nat) : Int)) rfl rfl (by simp) (bits_and _ 1 (Nat.lt_of_le_of_lt (Nat.div_le_self _ _) hxl) (by decide))) ?_
    refine WpL_val rfl rfl (by decide) (r_eql (k := .u32) (a := (((x / 2 ^ text.length) &&& 1 : Nat) : Int)) (b := 1) rfl rfl) ?_
    refine WpL_val rfl rfl (by decide) (r_assign (v := (.bool (decide (((((x / 2 ^ text.length) &&& 1 : Nat) : Int) : Int) = 1)))) rfl) ?_
    refine WpL_val rfl rfl (by decide) (r_assign (v := (.int .i64 0)) rfl) ?_
    refine WpL_nil ?_
    refine Wp_ret ?_
    refine fin_tmp2 Tryd.results17 (v := (.bool (decide (((((x / 2 ^ text.length) &&& 1 : Nat) : Int) : Int) = 1)))) (v' := (.int .i64 0)) rfl rfl ?_
    exact ⟨by rw [if_pos h0', shr_bit _ hx hn, h0'], E⟩

theorem r_indexStr {P : Program} {σ : Env} {w : World} {dst : Option Tmp} {ty : TypeId} {pos : String} {af : Array Edge} {g : Option (Nat × Bool)} {t : TypeId} {x y : Operand} {s : ByteArray} {k : IntKind} {i : Nat} {b : UInt8} {c : Int} (hu : P.underlying t = some .string) (hx : ev σ x = .string s) (hy : ev σ y = .int k (i : Int)) (hb : s[i]? = some b) (hc : (b.toNat : Int) = c) :
    (execOp (ev σ) ⟨dst, .index t x y, ty, pos, af, g⟩).run P w = .ok (.value (.int .u8 c)) w := by
  subst hc
  simp [execOp, hx, hy, Instr.index, asIntOf, run_underlying hu, hb]
def bl (m : Nat) : Nat := if m = 0 then 0 else Nat.log2 m + 1
theorem forall256 {p : Nat → Prop} [DecidablePred p] (h : (List.range 256).all (fun i => decide (p i)) = true) (i : Nat) (hi : i < 256) : p i := by
  rw [List.all_eq_true] at h
  simpa using h i (by simpa using hi)
theorem bl_le : ∀ m, m < 256 → bl m ≤ 8 := forall256 (by decide +kernel)
theorem bl_spec {m : Nat} (h : 0 < m) : ∃ k, bl m = k + 1 ∧ 2 ^ k ≤ m ∧ m < 2 ^ (k + 1) :=
  ⟨Nat.log2 m, by unfold bl; rw [if_neg (by omega)], Nat.log2_self_le (by omega), Nat.lt_log2_self⟩
theorem u8_bl {m : Nat} (h : m < 256) : (((UInt8.ofNat (bl m)).toNat : Nat) : Int) = ((bl m : Nat) : Int) := by
  have := bl_le m h
  simp; omega
set_option maxHeartbeats 1000000 in
theorem len32_c (w0 : World) (x : Nat) (h0 : 0 < x) (hl : x < 4294967296) :
    Ret Tryd.prog 69 #[.int .u32 (x : Int)] w0 fun v w => (∃ k : Nat, v = .int .i64 ((k + 1 : Nat) : Int) ∧ 2 ^ k ≤ x ∧ x < 2 ^ (k + 1)) ∧ Ext w0 w := by
  refine Ret_of Tryd.func69 rfl Tryd.ntmps69 (Nat.le_of_ble_eq_true rfl) ?_
  have E : Chg none1 w0 w0 := Chg.refl _ _
  refine Wp_seq_region ?_
  refine WpL_val rfl rfl (by decide) (r_assign (v := (.int .i64 0)) rfl) ?_
  refine WpL_nil ?_
  refine Wp_cut (fun σ W1 => ∃ (y s : Nat), (∃ jj_, σ = upds jj_ [(0, (.int .u32 ((y : Nat) : Int))), (2, (.int .i64 ((s : Nat) : Int)))]) ∧ Chg none1 w0 W1 ∧ (y = x / 2 ^ s ∧ 0 < y ∧ y < 65536 ∧ s ≤ 16)) ?_ ?_
  · skip
    refine Wp_seq_region ?_
    refine WpL_val rfl rfl (by decide) (r_move (v := (.int .u32 (x : Int))) rfl) ?_
    refine WpL_val rfl rfl (by decide) (r_geq (k := .u32) (a := (x : Int)) (b := 65536) rfl rfl) ?_
    refine WpL_nil ?_
    refine Wp_cond (b := decide ((65536 : Int) ≤ (x : Int))) rfl (fun h16 => ?_) (fun h16 => ?_)
    · have kh16 := h16
      replace h16 := of_decide_eq_true h16
      refine Wp_seq_region ?_
      refine WpL_val rfl rfl (by decide) (r_move (v := (.int .u32 (x : Int))) rfl) ?_
      refine WpL_val rfl rfl (by decide) (r_shr (k := .u32) (a := (x : Int)) (b := 16) (c := ((x / 65536 : Nat) : Int)) (k' := .u64) rfl rfl (by omega) (by rw [Int.fdiv_eq_ediv_of_nonneg _ (by decide), show (2 : Int) ^ min (Int.toNat 16) IntKind.u32.bits = 65536 from by decide]; omega)) ?_
      refine WpL_val rfl rfl (by decide) (r_assign (v := (.int .u32 ((x / 65536 : Nat) : Int))) rfl) ?_
      refine WpL_nil ?_
      refine Wp_region ?_
      refine WpL_val rfl rfl (by decide) (r_assign (v := (.int .i64 16)) rfl) ?_
      refine WpL_nil ?_
      refine thn_normal ?_
      exact ⟨x / 65536, 16, Fits.out ⟨rfl, rfl, trivial⟩, E, (by refine ⟨rfl, ?_, ?_, by decide⟩ <;> omega)⟩
    · have kh16 := h16
      replace h16 := of_decide_eq_false h16
      refine Wp_skip ?_
      refine thn_normal ?_
      exact ⟨x, 0, Fits.out ⟨rfl, rfl, trivial⟩, E, (by refine ⟨?_, ?_, ?_, by decide⟩ <;> simp at * <;> omega)⟩
  · clear E
    rintro _ W1 ⟨y, s, ⟨j1, rfl⟩, E, hy⟩
    refine Wp_cut (fun σ W3 => ∃ (z r : Nat), (∃ jj_, σ = upds jj_ [(0, (.int .u32 ((z : Nat) : Int))), (2, (.int .i64 ((r : Nat) : Int)))]) ∧ Chg none1 w0 W3 ∧ (z = x / 2 ^ r ∧ 0 < z ∧ z < 256 ∧ r ≤ 24)) ?_ ?_
    · skip
      refine Wp_seq_region ?_
      refine WpL_val rfl rfl (by decide) (r_move (v := (.int .u32 ((y : Nat) : Int))) rfl) ?_
      refine WpL_val rfl rfl (by decide) (r_geq (k := .u32) (a := ((y : Nat) : Int)) (b := 256) rfl rfl) ?_
      refine WpL_nil ?_
      refine Wp_cond (b := decide ((256 : Int) ≤ ((y : Nat) : Int))) rfl (fun h8 => ?_) (fun h8 => ?_)
      · have kh8 := h8
        replace h8 := of_decide_eq_true h8
        refine Wp_seq_region ?_
        refine WpL_val rfl rfl (by decide) (r_move (v := (.int .u32 ((y : Nat) : Int))) rfl) ?_
        refine WpL_val rfl rfl (by decide) (r_shr (k := .u32) (a := ((y : Nat) : Int)) (b := 8) (c := ((y / 256 : Nat) : Int)) (k' := .u64) rfl rfl (by omega) (by rw [Int.fdiv_eq_ediv_of_nonneg _ (by decide), show (2 : Int) ^ min (Int.toNat 8) IntKind.u32.bits = 256 from by decide]; omega)) ?_
        refine WpL_val rfl rfl (by decide) (r_assign (v := (.int .u32 ((y / 256 : Nat) : Int))) rfl) ?_
        refine WpL_nil ?_
        refine Wp_region ?_
        refine WpL_val rfl rfl (by decide) (r_move (v := (.int .i64 ((s : Nat) : Int))) rfl) ?_
        refine WpL_val rfl rfl (by decide) (r_add (k := .i64) (a := ((s : Nat) : Int)) (b := 8) (c := ((s + 8 : Nat) : Int)) rfl rfl (by rw [wI64 (by omega)]; omega)) ?_
        refine WpL_val rfl rfl (by decide) (r_assign (v := (.int .i64 ((s + 8 : Nat) : Int))) rfl) ?_
        refine WpL_nil ?_
        refine thn_normal ?_
        exact ⟨y / 256, s + 8, Fits.out ⟨rfl, rfl, trivial⟩, E, (by refine ⟨?_, ?_, ?_, ?_⟩; rw [hy.1, Nat.div_div_eq_div_mul, Nat.pow_add]; all_goals omega)⟩
      · have kh8 := h8
        replace h8 := of_decide_eq_false h8
        refine Wp_skip ?_
        refine thn_normal ?_
        exact ⟨y, s, Fits.out ⟨rfl, rfl, trivial⟩, E, (by refine ⟨hy.1, hy.2.1, ?_, ?_⟩ <;> simp at * <;> omega)⟩
    · clear E
      rintro _ W3 ⟨z, r, ⟨j3, rfl⟩, E, hz⟩
      refine Wp_seq_region ?_
      refine WpL_val rfl rfl (by decide) (r_move (v := (.int .i64 ((r : Nat) : Int))) rfl) ?_
      refine WpL_val rfl rfl (by decide) (r_move (v := (.int .u32 ((z : Nat) : Int))) rfl) ?_
      refine WpL_val rfl rfl (by decide) (r_convInt (k := .u32) (k' := .u8) (n := ((z : Nat) : Int)) (c := ((z : Nat) : Int)) ⟨_, Tryd.underlying70⟩ Tryd.underlying5 rfl (wU8 (by omega))) ?_
      refine WpL_val rfl rfl (by decide) (r_indexStr (b := UInt8.ofNat (bl z)) Tryd.underlying9 rfl rfl (forall256 (p := fun m => _ = some (UInt8.ofNat (bl m))) (by decide +kernel) z hz.2.2.1) (u8_bl hz.2.2.1)) ?_
      have hbl := bl_le z hz.2.2.1
      refine WpL_val rfl rfl (by decide) (r_convInt (k := .u8) (k' := .i64) (n := ((bl z : Nat) : Int)) (c := ((bl z : Nat) : Int)) ⟨_, Tryd.underlying5⟩ Tryd.underlying3 rfl (wI64 (by omega))) ?_
      refine WpL_val rfl rfl (by decide) (r_add (k := .i64) (a := ((r : Nat) : Int)) (b := ((bl z : Nat) : Int)) (c := ((r : Nat) : Int) + ((bl z : Nat) : Int)) rfl rfl (wI64 (by omega))) ?_
      refine WpL_val rfl rfl (by decide) (r_assign (v := (.int .i64 (((r : Nat) : Int) + ((bl z : Nat) : Int)))) rfl) ?_
      refine WpL_nil ?_
      refine Wp_ret ?_
      refine fin_tmp Tryd.results69 (v := (.int .i64 (((r : Nat) : Int) + ((bl z : Nat) : Int)))) rfl ?_
      obtain ⟨k, hk, hk1, hk2⟩ := bl_spec hz.2.1
      exact ⟨⟨r + k, int_eq (by omega), by rw [Nat.pow_add, Nat.mul_comm]; exact (Nat.le_div_iff_mul_le (Nat.two_pow_pos r)).1 (hz.1 ▸ hk1), by rw [Nat.add_assoc, Nat.pow_add, Nat.mul_comm]; exact (Nat.div_lt_iff_lt_mul (Nat.two_pow_pos r)).1 (hz.1 ▸ hk2)⟩, E⟩
theorem lz32_c (w0 : World) (x : Nat) (h0 : 0 < x) (hl : x < 4294967296) :
    Ret Tryd.prog 42 #[.int .u32 (x : Int)] w0 fun v w => (∃ k : Nat, v = .int .i64 (31 - (k : Int)) ∧ 2 ^ k ≤ x ∧ x < 2 ^ (k + 1)) ∧ Ext w0 w := by
  refine Ret_of Tryd.func42 rfl Tryd.ntmps42 (Nat.le_of_ble_eq_true rfl) ?_
  have E : Chg none1 w0 w0 := Chg.refl _ _
  refine Wp_seq_region ?_
  refine WpL_val rfl rfl (by decide) (r_assign (v := (.int .i64 0)) rfl) ?_
  refine WpL_nil ?_
  refine Wp_seq_region ?_
  refine WpL_val rfl rfl (by decide) (r_move (v := (.int .u32 (x : Int))) rfl) ?_
  refine WpL_enter rfl rfl (by decide) (r_callF (vs := [(.int .u32 (x : Int))]) Tryd.func69 nm69 bd69 rfl) (len32_c _ x h0 hl) ?_
  rintro _ w9 ⟨⟨k, rfl, hk1, hk2⟩, X9⟩
  replace E := E.ext X9
  have hk : k < 32 := (Nat.pow_lt_pow_iff_right (a := 2) (by decide)).1 (Nat.lt_of_le_of_lt hk1 hl)
  refine WpL_val rfl rfl (by decide) (r_sub (k := .i64) (a := 32) (b := ((k + 1 : Nat) : Int)) (c := 31 - (k : Int)) rfl rfl (by rw [wI64 (by omega)]; omega)) ?_
  refine WpL_val rfl rfl (by decide) (r_assign (v := (.int .i64 (31 - (k : Int)))) rfl) ?_
  refine WpL_nil ?_
  refine Wp_ret ?_
  refine fin_tmp Tryd.results42 (v := (.int .i64 (31 - (k : Int)))) rfl ?_
  exact ⟨⟨k, rfl, hk1, hk2⟩, E⟩
end Go.Proofs
