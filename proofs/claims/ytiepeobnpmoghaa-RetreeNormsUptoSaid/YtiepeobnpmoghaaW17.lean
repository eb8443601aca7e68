/- Contracts: the reference's checks of spans, nodes and texts. -/
import Derived.Test.YtiepeobnpmoghaaW10
namespace Go.Proofs
open Go Go.Eng
set_option maxRecDepth 100000

theorem gspan_c (s : Int × Int) (w0 : World) :
    Ret Try.prog 46 #[.agg #[.int .i64 s.1, .int .i64 s.2]] w0 fun v w => v = .bool (validB s) ∧ Ext w0 w := by
  refine Ret_of Try.func46 rfl Try.ntmps46 (Nat.le_of_ble_eq_true rfl) ?_
  have E : Chg none1 w0 w0 := Chg.refl _ _
  refine Wp_seq_region ?_
  refine s_box (v := (.agg #[(.int .i64 s.1), (.int .i64 s.2)])) (c := #[(.int .i64 s.1), (.int .i64 s.2)]) (by decide) rfl rfl ?_
  intro b1 w1 N1
  have F1 := N1.ge E
  replace E := E.ext N1.ext
  have B1 := N1.blk
  refine WpL_val rfl rfl (by decide) (r_assign (v := (.bool false)) rfl) ?_
  refine WpL_nil ?_
  refine Wp_seq_region ?_
  refine WpL_val rfl rfl (by decide) (r_fieldAddr (b := b1) (o := 0) (o' := 0) rfl Try.underlying36 rfl siz3 rfl) ?_
  refine WpL_val rfl rfl (by decide) (r_load (v := (.int .i64 s.1)) rfl flat3 (B1.cell rfl)) ?_
  obtain ⟨e2, he2⟩ : ∃ e, (decide ((0 : Int) ≤ s.1)) = e := ⟨_, rfl⟩
  refine WpL_val rfl rfl (by decide) ((r_leq (k := .i64) (a := 0) (b := s.1) rfl rfl).trans (by rw [he2]; try rfl)) ?_
  refine WpL_val rfl rfl (by decide) (r_move (v := (.bool e2)) rfl) ?_
  refine WpL_guard_any (oj := _) (gv := (.bool e2)) (u := (bif e2 then (.pointer (some ⟨b1, 0, none⟩)) else undef)) rfl rfl (by decide) (by decide) rfl (by cases e2 <;> first | exact Or.inr ⟨Or.inl rfl, rfl⟩ | exact Or.inr ⟨Or.inr rfl, rfl⟩ | exact Or.inl ⟨rfl, r_fieldAddr (b := b1) (o := 0) (o' := 0) rfl Try.underlying36 rfl siz3 rfl⟩) ?_
  refine WpL_guard_any (oj := _) (gv := (.bool e2)) (u := (bif e2 then (.int .i64 s.1) else undef)) rfl rfl (by decide) (by decide) rfl (by cases e2 <;> first | exact Or.inr ⟨Or.inl rfl, rfl⟩ | exact Or.inr ⟨Or.inr rfl, rfl⟩ | exact Or.inl ⟨rfl, r_load (v := (.int .i64 s.1)) rfl flat3 (B1.cell rfl)⟩) ?_
  refine WpL_guard_any (oj := _) (gv := (.bool e2)) (u := (bif e2 then (.pointer (some ⟨b1, 1, none⟩)) else undef)) rfl rfl (by decide) (by decide) rfl (by cases e2 <;> first | exact Or.inr ⟨Or.inl rfl, rfl⟩ | exact Or.inr ⟨Or.inr rfl, rfl⟩ | exact Or.inl ⟨rfl, r_fieldAddr (b := b1) (o := 0) (o' := 1) rfl Try.underlying36 rfl siz3 rfl⟩) ?_
  refine WpL_guard_any (oj := _) (gv := (.bool e2)) (u := (bif e2 then (.int .i64 s.2) else undef)) rfl rfl (by decide) (by decide) rfl (by cases e2 <;> first | exact Or.inr ⟨Or.inl rfl, rfl⟩ | exact Or.inr ⟨Or.inr rfl, rfl⟩ | exact Or.inl ⟨rfl, r_load (v := (.int .i64 s.2)) rfl flat3 (B1.cell rfl)⟩) ?_
  obtain ⟨e3, he3⟩ : ∃ e, (decide ((s.1 : Int) ≤ s.2)) = e := ⟨_, rfl⟩
  refine WpL_guard_any (oj := _) (gv := (.bool e2)) (u := (bif e2 then (.bool e3) else undef)) rfl rfl (by decide) (by decide) rfl (by cases e2 <;> first | exact Or.inr ⟨Or.inl rfl, rfl⟩ | exact Or.inr ⟨Or.inr rfl, rfl⟩ | exact Or.inl ⟨rfl, (r_leq (k := .i64) (a := s.1) (b := s.2) rfl rfl).trans (by rw [he3]; try rfl)⟩) ?_
  obtain ⟨e4, he4⟩ : ∃ e, (e2 && e3) = e := ⟨_, rfl⟩
  refine WpL_val rfl rfl (by decide) (r_pick (b := e2) (v := .bool e4) rfl (by rw [← he4]; cases e2 <;> rfl)) ?_
  refine WpL_val rfl rfl (by decide) (r_move (v := (.bool e4)) rfl) ?_
  refine WpL_guard_any (oj := _) (gv := (.bool e4)) (u := (bif e4 then (.pointer (some ⟨b1, 1, none⟩)) else undef)) rfl rfl (by decide) (by decide) rfl (by cases e4 <;> first | exact Or.inr ⟨Or.inl rfl, rfl⟩ | exact Or.inr ⟨Or.inr rfl, rfl⟩ | exact Or.inl ⟨rfl, r_fieldAddr (b := b1) (o := 0) (o' := 1) rfl Try.underlying36 rfl siz3 rfl⟩) ?_
  refine WpL_guard_any (oj := _) (gv := (.bool e4)) (u := (bif e4 then (.int .i64 s.2) else undef)) rfl rfl (by decide) (by decide) rfl (by cases e4 <;> first | exact Or.inr ⟨Or.inl rfl, rfl⟩ | exact Or.inr ⟨Or.inr rfl, rfl⟩ | exact Or.inl ⟨rfl, r_load (v := (.int .i64 s.2)) rfl flat3 (B1.cell rfl)⟩) ?_
  obtain ⟨e5, he5⟩ : ∃ e, (decide ((s.2 : Int) ≤ 1114111)) = e := ⟨_, rfl⟩
  refine WpL_guard_any (oj := _) (gv := (.bool e4)) (u := (bif e4 then (.bool e5) else undef)) rfl rfl (by decide) (by decide) rfl (by cases e4 <;> first | exact Or.inr ⟨Or.inl rfl, rfl⟩ | exact Or.inr ⟨Or.inr rfl, rfl⟩ | exact Or.inl ⟨rfl, (r_leq (k := .i64) (a := s.2) (b := 1114111) rfl rfl).trans (by rw [he5]; try rfl)⟩) ?_
  obtain ⟨e6, he6⟩ : ∃ e, (e4 && e5) = e := ⟨_, rfl⟩
  refine WpL_val rfl rfl (by decide) (r_pick (b := e4) (v := .bool e6) rfl (by rw [← he6]; cases e4 <;> rfl)) ?_
  refine WpL_val rfl rfl (by decide) (r_assign (v := (.bool e6)) rfl) ?_
  refine WpL_nil ?_
  subst he6
  subst he5
  subst he4
  subst he3
  subst he2
  refine Wp_ret ?_
  refine fin_tmp Try.results46 (v := (.bool (((decide ((0 : Int) ≤ s.1)) && (decide ((s.1 : Int) ≤ s.2))) && (decide ((s.2 : Int) ≤ 1114111))))) rfl ?_
  exact ⟨bool_eq (by unfold validB; rfl), E⟩
theorem first_c : ∀ (l : List (Int × Int)), checkL none l = checkL (some (-2)) (l.drop 0)
  | [] => rfl
  | s :: r => by
    simp only [List.drop]
    rw [checkL_cons, checkL_cons]
    by_cases hv : validB s = false
    · rw [if_pos hv, if_pos hv]
    · rw [if_neg hv, if_neg hv]
      have : ¬ s.1 < 0 := by simp [validB] at hv; omega
      simp [this]
theorem cset_c (w0 : World) (v : Value) (l : List (Int × Int)) (hs : SpansAt w0 v l) :
    Ret Try.prog 30 #[v] w0 fun v w => v = .int .i64 (checkE l) ∧ Ext w0 w := by
  obtain ⟨a, c, rfl⟩ := SlAt.form hs
  simp only [List.length_map] at hs ⊢
  refine Ret_of Try.func30 rfl Try.ntmps30 (Nat.le_of_ble_eq_true rfl) ?_
  have E : Chg none1 w0 w0 := Chg.refl _ _
  refine Wp_seq_region ?_
  refine WpL_val rfl rfl (by decide) (r_assign (v := (.int .i64 0)) rfl) ?_
  refine WpL_nil ?_
  refine Wp_seq ?_
  refine Wp_seq_region ?_
  refine WpL_val rfl rfl (by decide) (r_move (v := (.slice a l.length c)) rfl) ?_
  refine WpL_val rfl rfl (by decide) (r_lenSlice (ad := a) (n := l.length) (cap := c) Try.underlying22 rfl) ?_
  refine WpL_val rfl rfl (by decide) (r_gtr (k := .i64) (a := ((l.length : Nat) : Int)) (b := 16) rfl rfl) ?_
  refine WpL_nil ?_
  refine Wp_cond (b := decide ((16 : Int) < ((l.length : Nat) : Int))) rfl (fun h16 => ?_) (fun h16 => ?_)
  · have kh16 := h16
    replace h16 := of_decide_eq_true h16
    refine Wp_seq_region ?_
    refine WpL_val rfl rfl (by decide) (r_assign (v := (.int .i64 2)) rfl) ?_
    refine WpL_nil ?_
    refine Wp_ret ?_
    refine thn_ret ?_
    refine fin_tmp Try.results30 (v := (.int .i64 2)) rfl ?_
    exact ⟨int_eq (by unfold checkE; rw [if_pos (by omega)]), E⟩
  · have kh16 := h16
    replace h16 := of_decide_eq_false h16
    have hE16 : checkE l = checkL none l := by unfold checkE; rw [if_neg (by omega)]
    rw [hE16]
    refine Wp_skip ?_
    refine thn_normal ?_
    refine Wp_seq_region ?_
    refine WpL_val rfl rfl (by decide) (r_assign (v := (.int .i64 (-2))) rfl) ?_
    refine WpL_nil ?_
    refine Wp_seq ?_
    refine Wp_seq_region ?_
    refine WpL_val rfl rfl (by decide) (r_move (v := (.slice a l.length c)) rfl) ?_
    refine WpL_val rfl rfl (by decide) (r_lenSlice (ad := a) (n := l.length) (cap := c) Try.underlying22 rfl) ?_
    refine WpL_val rfl rfl (by decide) (r_move (v := (.int .i64 0)) rfl) ?_
    refine WpL_nil ?_
    refine Wp_block ?_
    refine Wp_loop (fun nn_ σ W2 => ∃ (k : Nat) (p : Int), (∃ jj_, σ = upds jj_ [(9, (.slice a l.length c)), (10, (.int .i64 ((l.length : Nat) : Int))), (11, (.int .i64 ((k : Nat) : Int))), (3, (.int .i64 p))]) ∧ Chg none1 w0 W2 ∧ (k ≤ l.length) ∧ (-2 ≤ p ∧ p ≤ 1114111 ∧ (checkL none l = checkL (some p) (l.drop k))) ∧ nn_ = l.length - k) (n := l.length - 0) ?_ ?_
    · exact ⟨0, -2, Fits.out ⟨rfl, rfl, rfl, rfl, trivial⟩, E, Nat.zero_le _, ⟨by omega, by omega, first_c l⟩, rfl⟩
    · clear E
      rintro _ _ W2 ⟨k, p, ⟨j2, rfl⟩, E, hk, hp, rfl⟩
      refine Wp_seq_region ?_
      refine WpL_val rfl rfl (by decide) (r_lss (k := .i64) (a := ((k : Nat) : Int)) (b := ((l.length : Nat) : Int)) rfl rfl) ?_
      refine WpL_nil ?_
      refine Wp_seq ?_
      refine Wp_cond (b := decide ((((k : Nat) : Int) : Int) < ((l.length : Nat) : Int))) rfl (fun hlt => ?_) (fun hlt => ?_)
      · have khlt := hlt
        replace hlt := of_decide_eq_true hlt
        obtain ⟨s, hx⟩ := get_of_lt (l := l) (i := k) (by omega)
        obtain ⟨b, o, rfl, hcl⟩ := spans_cells hs (by omega)
        have hd := drop_cons hx
        refine Wp_skip ?_
        refine thn_normal ?_
        refine Wp_seq ?_
        refine Wp_block ?_
        refine Wp_seq_region ?_
        refine WpL_val rfl rfl (by decide) (r_indexSlice (b := b) (o := o) (len := l.length) (cap := c) (i := k) (o' := o + k * 2) rfl rfl rfl Try.underlying22 siz36 (by omega) (by omega)) ?_
        refine WpL_val rfl rfl (by decide) (r_loadAgg (vs := [(.int .i64 s.1), (.int .i64 s.2)]) rfl agg36 siz36 rfl ((hcl k s hx).ext E)) ?_
        refine s_allocStore (v := (.agg #[(.int .i64 s.1), (.int .i64 s.2)])) (c := #[(.int .i64 s.1), (.int .i64 s.2)]) (n := 2) (by decide) zer36 rfl siz36 rfl rfl rfl (by simp [Value.oneCell']) ?_
        intro b4 w4 N4
        have F4 := N4.ge E
        replace E := E.ext N4.ext
        have B4 := N4.blk
        refine WpL_nil ?_
        refine Wp_seq ?_
        refine Wp_seq_region ?_
        refine WpL_val rfl rfl (by decide) (r_loadAgg (vs := [(.int .i64 s.1), (.int .i64 s.2)]) rfl agg36 siz36 rfl (B4.cells rfl)) ?_
        refine WpL_enter rfl rfl (by decide) (r_callF (vs := [(.agg #[(.int .i64 s.1), (.int .i64 s.2)])]) Try.func46 nm46 bd46 rfl) (gspan_c s _) ?_
        rintro _ w9 ⟨rfl, X9⟩
        replace B4 := X9.keep B4
        replace E := E.ext X9
        refine WpL_val rfl rfl (by decide) (r_not (b := validB s) rfl) ?_
        refine WpL_nil ?_
        refine Wp_cond (b := !(validB s)) rfl (fun hv => ?_) (fun hv => ?_)
        · have khv := hv
          replace hv := by simpa using hv
          refine Wp_seq_region ?_
          refine WpL_val rfl rfl (by decide) (r_assign (v := (.int .i64 1)) rfl) ?_
          refine WpL_nil ?_
          refine Wp_ret ?_
          refine thn_ret ?_
          refine inB_ret ?_
          refine thn_ret ?_
          refine thn_ret ?_
          refine inB_ret ?_
          refine thn_ret ?_
          refine fin_tmp Try.results30 (v := (.int .i64 1)) rfl ?_
          exact ⟨int_eq (by rw [hp.2.2, hd, checkL_cons, if_pos hv]), E⟩
        · have khv := hv
          replace hv := by simpa using hv
          have hv2 : 0 ≤ s.1 ∧ s.1 ≤ s.2 ∧ s.2 ≤ 1114111 := by simp [validB] at hv; omega
          refine Wp_skip ?_
          refine thn_normal ?_
          refine Wp_seq ?_
          refine Wp_seq_region ?_
          refine WpL_val rfl rfl (by decide) (r_fieldAddr (b := b4) (o := 0) (o' := 0) rfl Try.underlying36 rfl siz3 rfl) ?_
          refine WpL_val rfl rfl (by decide) (r_load (v := (.int .i64 s.1)) rfl flat3 (B4.cell rfl)) ?_
          refine WpL_val rfl rfl (by decide) (r_move (v := (.int .i64 p)) rfl) ?_
          refine WpL_val rfl rfl (by decide) (r_add (k := .i64) (a := p) (b := 2) (c := p + 2) rfl rfl (wI64 (by omega))) ?_
          refine WpL_val rfl rfl (by decide) (r_lss (k := .i64) (a := s.1) (b := p + 2) rfl rfl) ?_
          refine WpL_nil ?_
          refine Wp_cond (b := decide ((s.1 : Int) < p + 2)) rfl (fun ho => ?_) (fun ho => ?_)
          · have kho := ho
            replace ho := of_decide_eq_true ho
            refine Wp_seq_region ?_
            refine WpL_val rfl rfl (by decide) (r_assign (v := (.int .i64 3)) rfl) ?_
            refine WpL_nil ?_
            refine Wp_ret ?_
            refine thn_ret ?_
            refine inB_ret ?_
            refine thn_ret ?_
            refine thn_ret ?_
            refine inB_ret ?_
            refine thn_ret ?_
            refine fin_tmp Try.results30 (v := (.int .i64 3)) rfl ?_
            exact ⟨int_eq (by rw [hp.2.2, hd, checkL_cons, if_neg (by simp [hv]), if_pos (by simpa using ho)]), E⟩
          · have kho := ho
            replace ho := of_decide_eq_false ho
            refine Wp_skip ?_
            refine thn_normal ?_
            refine Wp_region ?_
            refine WpL_val rfl rfl (by decide) (r_fieldAddr (b := b4) (o := 0) (o' := 1) rfl Try.underlying36 rfl siz3 rfl) ?_
            refine WpL_val rfl rfl (by decide) (r_load (v := (.int .i64 s.2)) rfl flat3 (B4.cell rfl)) ?_
            refine WpL_val rfl rfl (by decide) (r_assign (v := (.int .i64 s.2)) rfl) ?_
            refine WpL_nil ?_
            refine inB_normal ?_
            refine thn_normal ?_
            refine Wp_region ?_
            refine WpL_val rfl rfl (by decide) (r_add (k := .i64) (a := ((k : Nat) : Int)) (b := 1) (c := ((k : Nat) : Int) + 1) rfl rfl (wI64 (by omega))) ?_
            refine WpL_val rfl rfl (by decide) (r_move (v := (.int .i64 (((k : Nat) : Int) + 1))) rfl) ?_
            refine WpL_nil ?_
            refine thn_normal ?_
            exact ⟨l.length - (k + 1), by omega, k + 1, s.2, Fits.out ⟨rfl, rfl, rfl, rfl, trivial⟩, E, (by omega), ⟨by omega, by omega, by rw [hp.2.2, hd, checkL_cons, if_neg (by simp [hv]), if_neg (by simpa using ho)]⟩, rfl⟩
      · have khlt := hlt
        replace hlt := of_decide_eq_false hlt
        have hkl : l.drop k = [] := List.drop_eq_nil_of_le (by omega)
        refine Wp_exit ?_
        refine thn_exit ?_
        refine thn_exit ?_
        refine inB_here ?_
        refine thn_normal ?_
        refine Wp_seq_region ?_
        refine WpL_val rfl rfl (by decide) (r_assign (v := (.int .i64 0)) rfl) ?_
        refine WpL_nil ?_
        refine Wp_ret ?_
        refine fin_tmp Try.results30 (v := (.int .i64 0)) rfl ?_
        exact ⟨int_eq (by rw [hp.2.2, hkl]; rfl), E⟩
def needF (k : Int) : Int := if k = 3 ∨ k = 4 ∨ k = 7 then 2 else if k = 5 ∨ k = 6 ∨ k = 8 ∨ k = 9 ∨ k = 10 then 1 else 0
def needA : Array Value := #[.int .i64 0, .int .i64 0, .int .i64 0, .int .i64 2, .int .i64 2, .int .i64 1, .int .i64 1, .int .i64 2, .int .i64 1, .int .i64 1, .int .i64 1]
theorem need_tab : ∀ i, i < 11 → needA[i]? = some (.int .i64 (needF ((i : Nat) : Int))) := by
  intro i h
  match i, h with
  | 0, _ => rfl
  | 1, _ => rfl
  | 2, _ => rfl
  | 3, _ => rfl
  | 4, _ => rfl
  | 5, _ => rfl
  | 6, _ => rfl
  | 7, _ => rfl
  | 8, _ => rfl
  | 9, _ => rfl
  | 10, _ => rfl
theorem need_c (k : Int) (h0 : 0 ≤ k) (h1 : k ≤ 10) (w0 : World) : Ret Try.prog 29 #[.int .i64 k] w0 fun v w => v = .int .i64 (needF k) ∧ Ext w0 w := by
  refine Ret_of Try.func29 rfl Try.ntmps29 (Nat.le_of_ble_eq_true rfl) ?_
  have E : Chg none1 w0 w0 := Chg.refl _ _
  refine Wp_seq_region ?_
  refine WpL_val rfl rfl (by decide) (r_assign (v := (.int .i64 0)) rfl) ?_
  refine WpL_nil ?_
  refine Wp_seq_region ?_
  refine s_buildSlice (ps := [(0, (.int .i64 0)), (1, (.int .i64 0)), (2, (.int .i64 0)), (3, (.int .i64 2)), (4, (.int .i64 2)), (5, (.int .i64 1)), (6, (.int .i64 1)), (7, (.int .i64 2)), (8, (.int .i64 1)), (9, (.int .i64 1)), (10, (.int .i64 1))]) (c := #[(.int .i64 0), (.int .i64 0), (.int .i64 0), (.int .i64 2), (.int .i64 2), (.int .i64 1), (.int .i64 1), (.int .i64 2), (.int .i64 1), (.int .i64 1), (.int .i64 1)]) (by decide) rfl Try.underlying50 siz3 zer3 (by decide) (by decide) (by kernel_rfl) ?_
  intro bq wq Nq
  have Fq := Nq.ge E
  replace E := E.ext Nq.ext
  have Bq := Nq.blk
  refine WpL_val rfl rfl (by decide) (r_move (v := (.int .i64 k)) rfl) ?_
  refine WpL_val rfl rfl (by decide) (r_indexSlice (b := bq) (o := 0) (len := 11) (cap := 11) (i := k.toNat) (o' := 0 + k.toNat) rfl rfl (by omega) Try.underlying50 siz3 (by omega) (by omega)) ?_
  refine WpL_val rfl rfl (by decide) (r_load (v := (.int .i64 (needF k))) rfl flat3 (Bq.cell (by have := need_tab k.toNat (by omega); rw [Int.toNat_of_nonneg h0] at this; rw [Nat.zero_add]; exact this))) ?_
  refine WpL_val rfl rfl (by decide) (r_assign (v := (.int .i64 (needF k))) rfl) ?_
  refine WpL_nil ?_
  refine Wp_ret ?_
  refine fin_tmp Try.results29 (v := (.int .i64 (needF k))) rfl ?_
  exact ⟨rfl, E⟩
def runesE (text : List Int) (most : Int) : Int := if most < text.length then 2 else if (text.any fun r => !runeB r) = true then 1 else 0
theorem form_need {t : Re} (h0 : 0 ≤ t.kind) (h1 : t.kind ≤ 10) : okB t.kind t.args.length = !(decide ((t.args.length : Int) < needF t.kind) || (decide (needF t.kind < 2) && decide (needF t.kind < t.args.length))) := by
  unfold okB needF
  by_cases h3 : t.kind = 3 ∨ t.kind = 4 ∨ t.kind = 7
  · simp only [if_pos h3]; rw [Bool.eq_iff_iff]; simp
  · by_cases h5 : t.kind = 5 ∨ t.kind = 6 ∨ t.kind = 8 ∨ t.kind = 9 ∨ t.kind = 10
    · simp only [if_neg h3, if_pos h5]; rw [Bool.eq_iff_iff]; simp; omega
    · simp only [if_neg h3, if_neg h5]; rw [Bool.eq_iff_iff]; simp
set_option maxHeartbeats 2000000 in
theorem cnode_c (wb w0 : World) (t : Re) (vs : List Value) (ht : ReAt wb t vs) (hE : Ext wb w0) :
    Ret Try.prog 17 #[.agg vs.toArray] w0 fun v w => v = .int .i64 (nodeE t) ∧ Ext w0 w := by
  have ht0 := ht
  obtain ⟨sa, sc, aa, ac, rfl, hset, hlen, hargs⟩ := ht.form
  have hslen : t.set.length ≤ 9223372036854775807 := by simpa using SlAt.le hset
  refine Ret_of Try.func17 rfl Try.ntmps17 (Nat.le_of_ble_eq_true rfl) ?_
  have E : Chg none1 w0 w0 := Chg.refl _ _
  refine Wp_seq_region ?_
  refine s_box (v := (.agg #[(.int .i64 t.kind), (.slice sa t.set.length sc), (.slice aa t.args.length ac), (.int .i64 t.mn), (.int .i64 t.mx), (.bool t.neg)])) (c := #[(.int .i64 t.kind), (.slice sa t.set.length sc), (.slice aa t.args.length ac), (.int .i64 t.mn), (.int .i64 t.mx), (.bool t.neg)]) (by decide) rfl rfl ?_
  intro b1 w1 N1
  have F1 := N1.ge E
  replace E := E.ext N1.ext
  have B1 := N1.blk
  refine WpL_val rfl rfl (by decide) (r_assign (v := (.int .i64 0)) rfl) ?_
  refine WpL_nil ?_
  refine Wp_seq ?_
  refine Wp_seq_region ?_
  refine WpL_val rfl rfl (by decide) (r_fieldAddr (b := b1) (o := 0) (o' := 0) rfl Try.underlying25 rfl siz3 rfl) ?_
  refine WpL_val rfl rfl (by decide) (r_load (v := (.int .i64 t.kind)) rfl flat3 (B1.cell rfl)) ?_
  obtain ⟨e2, he2⟩ : ∃ e, (decide ((t.kind : Int) < 0)) = e := ⟨_, rfl⟩
  refine WpL_val rfl rfl (by decide) ((r_lss (k := .i64) (a := t.kind) (b := 0) rfl rfl).trans (by rw [he2]; try rfl)) ?_
  refine WpL_val rfl rfl (by decide) (r_move (v := (.bool e2)) rfl) ?_
  refine WpL_guard_any (oj := _) (gv := (.bool e2)) (u := (bif e2 then undef else (.pointer (some ⟨b1, 0, none⟩)))) rfl rfl (by decide) (by decide) rfl (by cases e2 <;> first | exact Or.inr ⟨Or.inl rfl, rfl⟩ | exact Or.inr ⟨Or.inr rfl, rfl⟩ | exact Or.inl ⟨rfl, r_fieldAddr (b := b1) (o := 0) (o' := 0) rfl Try.underlying25 rfl siz3 rfl⟩) ?_
  refine WpL_guard_any (oj := _) (gv := (.bool e2)) (u := (bif e2 then undef else (.int .i64 t.kind))) rfl rfl (by decide) (by decide) rfl (by cases e2 <;> first | exact Or.inr ⟨Or.inl rfl, rfl⟩ | exact Or.inr ⟨Or.inr rfl, rfl⟩ | exact Or.inl ⟨rfl, r_load (v := (.int .i64 t.kind)) rfl flat3 (B1.cell rfl)⟩) ?_
  obtain ⟨e3, he3⟩ : ∃ e, (decide ((10 : Int) < t.kind)) = e := ⟨_, rfl⟩
  refine WpL_guard_any (oj := _) (gv := (.bool e2)) (u := (bif e2 then undef else (.bool e3))) rfl rfl (by decide) (by decide) rfl (by cases e2 <;> first | exact Or.inr ⟨Or.inl rfl, rfl⟩ | exact Or.inr ⟨Or.inr rfl, rfl⟩ | exact Or.inl ⟨rfl, (r_gtr (k := .i64) (a := t.kind) (b := 10) rfl rfl).trans (by rw [he3]; try rfl)⟩) ?_
  obtain ⟨e4, he4⟩ : ∃ e, (e2 || e3) = e := ⟨_, rfl⟩
  refine WpL_val rfl rfl (by decide) (r_pick (b := e2) (v := .bool e4) rfl (by rw [← he4]; cases e2 <;> rfl)) ?_
  refine WpL_nil ?_
  subst he4
  subst he3
  subst he2
  refine Wp_cond (b := ((decide ((t.kind : Int) < 0)) || (decide ((10 : Int) < t.kind)))) rfl (fun hk => ?_) (fun hk => ?_)
  · have khk := hk
    simp at hk
    refine Wp_seq_region ?_
    refine WpL_val rfl rfl (by decide) (r_assign (v := (.int .i64 1)) rfl) ?_
    refine WpL_nil ?_
    refine Wp_ret ?_
    refine thn_ret ?_
    refine fin_tmp Try.results17 (v := (.int .i64 1)) rfl ?_
    exact ⟨int_eq (by unfold nodeE; rw [if_pos (by omega)]), E⟩
  · have khk := hk
    simp at hk
    refine Wp_skip ?_
    refine thn_normal ?_
    refine Wp_seq_region ?_
    refine WpL_val rfl rfl (by decide) (r_fieldAddr (b := b1) (o := 0) (o' := 2) rfl Try.underlying25 rfl siz23 rfl) ?_
    refine WpL_val rfl rfl (by decide) (r_load (v := (.slice aa t.args.length ac)) rfl flat23 (B1.cell rfl)) ?_
    refine WpL_val rfl rfl (by decide) (r_lenSlice (ad := aa) (n := t.args.length) (cap := ac) Try.underlying23 rfl) ?_
    refine WpL_val rfl rfl (by decide) (r_assign (v := (.int .i64 ((t.args.length : Nat) : Int))) rfl) ?_
    refine WpL_nil ?_
    refine Wp_seq ?_
    refine Wp_seq_region ?_
    refine WpL_val rfl rfl (by decide) (r_move (v := (.int .i64 ((t.args.length : Nat) : Int))) rfl) ?_
    refine WpL_val rfl rfl (by decide) (r_fieldAddr (b := b1) (o := 0) (o' := 0) rfl Try.underlying25 rfl siz3 rfl) ?_
    refine WpL_val rfl rfl (by decide) (r_load (v := (.int .i64 t.kind)) rfl flat3 (B1.cell rfl)) ?_
    refine WpL_enter rfl rfl (by decide) (r_callF (vs := [(.int .i64 t.kind)]) Try.func29 nm29 bd29 rfl) (need_c t.kind (by omega) (by omega) _) ?_
    rintro _ w1 ⟨rfl, X1⟩
    replace B1 := X1.keep B1
    replace E := E.ext X1
    refine WpL_val rfl rfl (by decide) (r_lss (k := .i64) (a := ((t.args.length : Nat) : Int)) (b := needF t.kind) rfl rfl) ?_
    refine WpL_val rfl rfl (by decide) (r_move (v := (.bool (decide ((((t.args.length : Nat) : Int) : Int) < needF t.kind)))) rfl) ?_
    rcases Bool.eq_false_or_eq_true (decide ((((t.args.length : Nat) : Int) : Int) < needF t.kind)) with hg6 | hg6
    · have khg6 := hg6
      replace khg6 := of_decide_eq_true khg6
      refine WpL_guard_no (oj := _) rfl rfl (by decide) (v := .bool true) (congrArg Value.bool hg6) (Or.inl rfl) ?_
      refine WpL_guard_no (oj := _) rfl rfl (by decide) (v := .bool true) (congrArg Value.bool hg6) (Or.inl rfl) ?_
      refine WpL_guard_no (oj := _) rfl rfl (by decide) (v := .bool true) (congrArg Value.bool hg6) (Or.inl rfl) ?_
      refine WpL_guard_no (oj := _) rfl rfl (by decide) (v := .bool true) (congrArg Value.bool hg6) (Or.inl rfl) ?_
      refine WpL_guard_no (oj := _) rfl rfl (by decide) (v := .bool true) (congrArg Value.bool hg6) (Or.inl rfl) ?_
      refine WpL_guard_no (oj := _) rfl rfl (by decide) (v := undef) rfl (Or.inr rfl) ?_
      refine WpL_guard_no (oj := _) rfl rfl (by decide) (v := undef) rfl (Or.inr rfl) ?_
      refine WpL_guard_no (oj := _) rfl rfl (by decide) (v := undef) rfl (Or.inr rfl) ?_
      refine WpL_guard_no (oj := _) rfl rfl (by decide) (v := undef) rfl (Or.inr rfl) ?_
      refine WpL_guard_no (oj := _) rfl rfl (by decide) (v := undef) rfl (Or.inr rfl) ?_
      refine WpL_guard_no (oj := _) rfl rfl (by decide) (v := .bool true) (congrArg Value.bool hg6) (Or.inl rfl) ?_
      refine WpL_val rfl rfl (by decide) (r_pick (b := decide ((((t.args.length : Nat) : Int) : Int) < needF t.kind)) (v := (.bool true)) rfl (by rw [hg6]; rfl)) ?_
      refine WpL_nil ?_
      refine Wp_cond_true rfl ?_
      refine Wp_seq_region ?_
      refine WpL_val rfl rfl (by decide) (r_assign (v := (.int .i64 3)) rfl) ?_
      refine WpL_nil ?_
      refine Wp_ret ?_
      refine thn_ret ?_
      refine fin_tmp Try.results17 (v := (.int .i64 3)) rfl ?_
      have hff : okB t.kind t.args.length = false := by rw [form_need (by omega) (by omega)]; simp; omega
      exact ⟨int_eq (by unfold nodeE; rw [if_neg (by omega), if_pos (by simp [formB, hff])]), E⟩
    · have khg6 := hg6
      replace khg6 := of_decide_eq_false khg6
      refine WpL_guard_yes (oj := _) rfl rfl (by decide) (congrArg Value.bool hg6) ?_
      refine WpL_val rfl rfl (by decide) (r_fieldAddr (b := b1) (o := 0) (o' := 0) rfl Try.underlying25 rfl siz3 rfl) ?_
      refine WpL_guard_yes (oj := _) rfl rfl (by decide) (congrArg Value.bool hg6) ?_
      refine WpL_val rfl rfl (by decide) (r_load (v := (.int .i64 t.kind)) rfl flat3 (B1.cell rfl)) ?_
      refine WpL_guard_yes (oj := _) rfl rfl (by decide) (congrArg Value.bool hg6) ?_
      refine WpL_enter rfl rfl (by decide) (r_callF (vs := [(.int .i64 t.kind)]) Try.func29 nm29 bd29 rfl) (need_c t.kind (by omega) (by omega) _) ?_
      rintro _ w2 ⟨rfl, X2⟩
      replace B1 := X2.keep B1
      replace E := E.ext X2
      refine WpL_guard_yes (oj := _) rfl rfl (by decide) (congrArg Value.bool hg6) ?_
      refine WpL_val rfl rfl (by decide) (r_lss (k := .i64) (a := needF t.kind) (b := 2) rfl rfl) ?_
      refine WpL_guard_yes (oj := _) rfl rfl (by decide) (congrArg Value.bool hg6) ?_
      refine WpL_val rfl rfl (by decide) (r_move (v := (.bool (decide ((needF t.kind : Int) < 2)))) rfl) ?_
      rcases Bool.eq_false_or_eq_true (decide ((needF t.kind : Int) < 2)) with hg7 | hg7
      · have khg7 := hg7
        replace khg7 := of_decide_eq_true khg7
        refine WpL_guard_yes (oj := _) rfl rfl (by decide) (congrArg Value.bool hg7) ?_
        refine WpL_val rfl rfl (by decide) (r_move (v := (.int .i64 ((t.args.length : Nat) : Int))) rfl) ?_
        refine WpL_guard_yes (oj := _) rfl rfl (by decide) (congrArg Value.bool hg7) ?_
        refine WpL_val rfl rfl (by decide) (r_fieldAddr (b := b1) (o := 0) (o' := 0) rfl Try.underlying25 rfl siz3 rfl) ?_
        refine WpL_guard_yes (oj := _) rfl rfl (by decide) (congrArg Value.bool hg7) ?_
        refine WpL_val rfl rfl (by decide) (r_load (v := (.int .i64 t.kind)) rfl flat3 (B1.cell rfl)) ?_
        refine WpL_guard_yes (oj := _) rfl rfl (by decide) (congrArg Value.bool hg7) ?_
        refine WpL_enter rfl rfl (by decide) (r_callF (vs := [(.int .i64 t.kind)]) Try.func29 nm29 bd29 rfl) (need_c t.kind (by omega) (by omega) _) ?_
        rintro _ w3 ⟨rfl, X3⟩
        replace B1 := X3.keep B1
        replace E := E.ext X3
        refine WpL_guard_yes (oj := _) rfl rfl (by decide) (congrArg Value.bool hg7) ?_
        refine WpL_val rfl rfl (by decide) (r_gtr (k := .i64) (a := ((t.args.length : Nat) : Int)) (b := needF t.kind) rfl rfl) ?_
        refine WpL_guard_yes (oj := _) rfl rfl (by decide) (congrArg Value.bool hg6) ?_
        refine WpL_val rfl rfl (by decide) (r_pick (b := decide ((needF t.kind : Int) < 2)) (v := (.bool (decide ((needF t.kind : Int) < ((t.args.length : Nat) : Int))))) rfl (by rw [hg7]; rfl)) ?_
        refine WpL_val rfl rfl (by decide) (r_pick (b := decide ((((t.args.length : Nat) : Int) : Int) < needF t.kind)) (v := (.bool (decide ((needF t.kind : Int) < ((t.args.length : Nat) : Int))))) rfl (by rw [hg6]; rfl)) ?_
        refine WpL_nil ?_
        refine Wp_cond (b := decide ((needF t.kind : Int) < ((t.args.length : Nat) : Int))) rfl (fun hn => ?_) (fun hn => ?_)
        · have khn := hn
          replace hn := of_decide_eq_true hn
          refine Wp_seq_region ?_
          refine WpL_val rfl rfl (by decide) (r_assign (v := (.int .i64 3)) rfl) ?_
          refine WpL_nil ?_
          refine Wp_ret ?_
          refine thn_ret ?_
          refine fin_tmp Try.results17 (v := (.int .i64 3)) rfl ?_
          have hff : okB t.kind t.args.length = false := by rw [form_need (by omega) (by omega)]; simp; omega
          exact ⟨int_eq (by unfold nodeE; rw [if_neg (by omega), if_pos (by simp [formB, hff])]), E⟩
        · have khn := hn
          replace hn := of_decide_eq_false hn
          have hoB : okB t.kind t.args.length = true := by rw [form_need (by omega) (by omega)]; simp; omega
          refine Wp_skip ?_
          refine thn_normal ?_
          refine Wp_seq ?_
          refine Wp_seq_region ?_
          refine WpL_val rfl rfl (by decide) (r_fieldAddr (b := b1) (o := 0) (o' := 0) rfl Try.underlying25 rfl siz3 rfl) ?_
          refine WpL_val rfl rfl (by decide) (r_load (v := (.int .i64 t.kind)) rfl flat3 (B1.cell rfl)) ?_
          obtain ⟨e9, he9⟩ : ∃ e, (decide ((t.kind : Int) ≠ 2)) = e := ⟨_, rfl⟩
          refine WpL_val rfl rfl (by decide) ((r_neq (k := .i64) (a := t.kind) (b := 2) rfl rfl).trans (by rw [he9]; try rfl)) ?_
          refine WpL_val rfl rfl (by decide) (r_move (v := (.bool e9)) rfl) ?_
          refine WpL_guard_any (oj := _) (gv := (.bool e9)) (u := (bif e9 then (.pointer (some ⟨b1, 1, none⟩)) else undef)) rfl rfl (by decide) (by decide) rfl (by cases e9 <;> first | exact Or.inr ⟨Or.inl rfl, rfl⟩ | exact Or.inr ⟨Or.inr rfl, rfl⟩ | exact Or.inl ⟨rfl, r_fieldAddr (b := b1) (o := 0) (o' := 1) rfl Try.underlying25 rfl siz22 rfl⟩) ?_
          refine WpL_guard_any (oj := _) (gv := (.bool e9)) (u := (bif e9 then (.slice sa t.set.length sc) else undef)) rfl rfl (by decide) (by decide) rfl (by cases e9 <;> first | exact Or.inr ⟨Or.inl rfl, rfl⟩ | exact Or.inr ⟨Or.inr rfl, rfl⟩ | exact Or.inl ⟨rfl, r_load (v := (.slice sa t.set.length sc)) rfl flat22 (B1.cell rfl)⟩) ?_
          refine WpL_guard_any (oj := _) (gv := (.bool e9)) (u := (bif e9 then (.int .i64 ((t.set.length : Nat) : Int)) else undef)) rfl rfl (by decide) (by decide) rfl (by cases e9 <;> first | exact Or.inr ⟨Or.inl rfl, rfl⟩ | exact Or.inr ⟨Or.inr rfl, rfl⟩ | exact Or.inl ⟨rfl, r_lenSlice (ad := sa) (n := t.set.length) (cap := sc) Try.underlying22 rfl⟩) ?_
          obtain ⟨e10, he10⟩ : ∃ e, (decide ((0 : Int) < ((t.set.length : Nat) : Int))) = e := ⟨_, rfl⟩
          refine WpL_guard_any (oj := _) (gv := (.bool e9)) (u := (bif e9 then (.bool e10) else undef)) rfl rfl (by decide) (by decide) rfl (by cases e9 <;> first | exact Or.inr ⟨Or.inl rfl, rfl⟩ | exact Or.inr ⟨Or.inr rfl, rfl⟩ | exact Or.inl ⟨rfl, (r_gtr (k := .i64) (a := ((t.set.length : Nat) : Int)) (b := 0) rfl rfl).trans (by rw [he10]; try rfl)⟩) ?_
          obtain ⟨e11, he11⟩ : ∃ e, (e9 && e10) = e := ⟨_, rfl⟩
          refine WpL_val rfl rfl (by decide) (r_pick (b := e9) (v := .bool e11) rfl (by rw [← he11]; cases e9 <;> rfl)) ?_
          refine WpL_val rfl rfl (by decide) (r_move (v := (.bool e11)) rfl) ?_
          refine WpL_guard_any (oj := _) (gv := (.bool e11)) (u := (bif e11 then undef else (.pointer (some ⟨b1, 0, none⟩)))) rfl rfl (by decide) (by decide) rfl (by cases e11 <;> first | exact Or.inr ⟨Or.inl rfl, rfl⟩ | exact Or.inr ⟨Or.inr rfl, rfl⟩ | exact Or.inl ⟨rfl, r_fieldAddr (b := b1) (o := 0) (o' := 0) rfl Try.underlying25 rfl siz3 rfl⟩) ?_
          refine WpL_guard_any (oj := _) (gv := (.bool e11)) (u := (bif e11 then undef else (.int .i64 t.kind))) rfl rfl (by decide) (by decide) rfl (by cases e11 <;> first | exact Or.inr ⟨Or.inl rfl, rfl⟩ | exact Or.inr ⟨Or.inr rfl, rfl⟩ | exact Or.inl ⟨rfl, r_load (v := (.int .i64 t.kind)) rfl flat3 (B1.cell rfl)⟩) ?_
          obtain ⟨e12, he12⟩ : ∃ e, (decide ((t.kind : Int) ≠ 6)) = e := ⟨_, rfl⟩
          refine WpL_guard_any (oj := _) (gv := (.bool e11)) (u := (bif e11 then undef else (.bool e12))) rfl rfl (by decide) (by decide) rfl (by cases e11 <;> first | exact Or.inr ⟨Or.inl rfl, rfl⟩ | exact Or.inr ⟨Or.inr rfl, rfl⟩ | exact Or.inl ⟨rfl, (r_neq (k := .i64) (a := t.kind) (b := 6) rfl rfl).trans (by rw [he12]; try rfl)⟩) ?_
          refine WpL_guard_any (oj := _) (gv := (.bool e11)) (u := (bif e11 then undef else (.bool e12))) rfl rfl (by decide) (by decide) rfl (by cases e11 <;> first | exact Or.inr ⟨Or.inl rfl, rfl⟩ | exact Or.inr ⟨Or.inr rfl, rfl⟩ | exact Or.inl ⟨rfl, r_move (v := (.bool e12)) rfl⟩) ?_
          refine WpL_guard_any (oj := _) (gv := (bif e11 then undef else (.bool e12))) (u := (bif e11 then undef else (bif e12 then (.pointer (some ⟨b1, 4, none⟩)) else undef))) rfl rfl (by decide) (by decide) rfl (by cases e11 <;> cases e12 <;> first | exact Or.inr ⟨Or.inl rfl, rfl⟩ | exact Or.inr ⟨Or.inr rfl, rfl⟩ | exact Or.inl ⟨rfl, r_fieldAddr (b := b1) (o := 0) (o' := 4) rfl Try.underlying25 rfl siz3 rfl⟩) ?_
          refine WpL_guard_any (oj := _) (gv := (bif e11 then undef else (.bool e12))) (u := (bif e11 then undef else (bif e12 then (.int .i64 t.mx) else undef))) rfl rfl (by decide) (by decide) rfl (by cases e11 <;> cases e12 <;> first | exact Or.inr ⟨Or.inl rfl, rfl⟩ | exact Or.inr ⟨Or.inr rfl, rfl⟩ | exact Or.inl ⟨rfl, r_load (v := (.int .i64 t.mx)) rfl flat3 (B1.cell rfl)⟩) ?_
          obtain ⟨e13, he13⟩ : ∃ e, (decide ((t.mx : Int) ≠ 0)) = e := ⟨_, rfl⟩
          refine WpL_guard_any (oj := _) (gv := (bif e11 then undef else (.bool e12))) (u := (bif e11 then undef else (bif e12 then (.bool e13) else undef))) rfl rfl (by decide) (by decide) rfl (by cases e11 <;> cases e12 <;> first | exact Or.inr ⟨Or.inl rfl, rfl⟩ | exact Or.inr ⟨Or.inr rfl, rfl⟩ | exact Or.inl ⟨rfl, (r_neq (k := .i64) (a := t.mx) (b := 0) rfl rfl).trans (by rw [he13]; try rfl)⟩) ?_
          obtain ⟨e14, he14⟩ : ∃ e, (e12 && e13) = e := ⟨_, rfl⟩
          refine WpL_guard_any (oj := _) (gv := (.bool e11)) (u := (bif e11 then undef else (.bool e14))) rfl rfl (by decide) (by decide) rfl (by cases e11 <;> first | exact Or.inr ⟨Or.inl rfl, rfl⟩ | exact Or.inr ⟨Or.inr rfl, rfl⟩ | exact Or.inl ⟨rfl, r_pick (b := e12) (v := .bool e14) rfl (by rw [← he14]; cases e12 <;> rfl)⟩) ?_
          obtain ⟨e15, he15⟩ : ∃ e, (e11 || e14) = e := ⟨_, rfl⟩
          refine WpL_val rfl rfl (by decide) (r_pick (b := e11) (v := .bool e15) rfl (by rw [← he15]; cases e11 <;> rfl)) ?_
          refine WpL_val rfl rfl (by decide) (r_move (v := (.bool e15)) rfl) ?_
          refine WpL_guard_any (oj := _) (gv := (.bool e15)) (u := (bif e15 then undef else (.pointer (some ⟨b1, 0, none⟩)))) rfl rfl (by decide) (by decide) rfl (by cases e15 <;> first | exact Or.inr ⟨Or.inl rfl, rfl⟩ | exact Or.inr ⟨Or.inr rfl, rfl⟩ | exact Or.inl ⟨rfl, r_fieldAddr (b := b1) (o := 0) (o' := 0) rfl Try.underlying25 rfl siz3 rfl⟩) ?_
          refine WpL_guard_any (oj := _) (gv := (.bool e15)) (u := (bif e15 then undef else (.int .i64 t.kind))) rfl rfl (by decide) (by decide) rfl (by cases e15 <;> first | exact Or.inr ⟨Or.inl rfl, rfl⟩ | exact Or.inr ⟨Or.inr rfl, rfl⟩ | exact Or.inl ⟨rfl, r_load (v := (.int .i64 t.kind)) rfl flat3 (B1.cell rfl)⟩) ?_
          obtain ⟨e16, he16⟩ : ∃ e, (decide ((t.kind : Int) ≠ 6)) = e := ⟨_, rfl⟩
          refine WpL_guard_any (oj := _) (gv := (.bool e15)) (u := (bif e15 then undef else (.bool e16))) rfl rfl (by decide) (by decide) rfl (by cases e15 <;> first | exact Or.inr ⟨Or.inl rfl, rfl⟩ | exact Or.inr ⟨Or.inr rfl, rfl⟩ | exact Or.inl ⟨rfl, (r_neq (k := .i64) (a := t.kind) (b := 6) rfl rfl).trans (by rw [he16]; try rfl)⟩) ?_
          refine WpL_guard_any (oj := _) (gv := (.bool e15)) (u := (bif e15 then undef else (.bool e16))) rfl rfl (by decide) (by decide) rfl (by cases e15 <;> first | exact Or.inr ⟨Or.inl rfl, rfl⟩ | exact Or.inr ⟨Or.inr rfl, rfl⟩ | exact Or.inl ⟨rfl, r_move (v := (.bool e16)) rfl⟩) ?_
          refine WpL_guard_any (oj := _) (gv := (bif e15 then undef else (.bool e16))) (u := (bif e15 then undef else (bif e16 then (.pointer (some ⟨b1, 0, none⟩)) else undef))) rfl rfl (by decide) (by decide) rfl (by cases e15 <;> cases e16 <;> first | exact Or.inr ⟨Or.inl rfl, rfl⟩ | exact Or.inr ⟨Or.inr rfl, rfl⟩ | exact Or.inl ⟨rfl, r_fieldAddr (b := b1) (o := 0) (o' := 0) rfl Try.underlying25 rfl siz3 rfl⟩) ?_
          refine WpL_guard_any (oj := _) (gv := (bif e15 then undef else (.bool e16))) (u := (bif e15 then undef else (bif e16 then (.int .i64 t.kind) else undef))) rfl rfl (by decide) (by decide) rfl (by cases e15 <;> cases e16 <;> first | exact Or.inr ⟨Or.inl rfl, rfl⟩ | exact Or.inr ⟨Or.inr rfl, rfl⟩ | exact Or.inl ⟨rfl, r_load (v := (.int .i64 t.kind)) rfl flat3 (B1.cell rfl)⟩) ?_
          obtain ⟨e17, he17⟩ : ∃ e, (decide ((t.kind : Int) ≠ 9)) = e := ⟨_, rfl⟩
          refine WpL_guard_any (oj := _) (gv := (bif e15 then undef else (.bool e16))) (u := (bif e15 then undef else (bif e16 then (.bool e17) else undef))) rfl rfl (by decide) (by decide) rfl (by cases e15 <;> cases e16 <;> first | exact Or.inr ⟨Or.inl rfl, rfl⟩ | exact Or.inr ⟨Or.inr rfl, rfl⟩ | exact Or.inl ⟨rfl, (r_neq (k := .i64) (a := t.kind) (b := 9) rfl rfl).trans (by rw [he17]; try rfl)⟩) ?_
          obtain ⟨e18, he18⟩ : ∃ e, (e16 && e17) = e := ⟨_, rfl⟩
          refine WpL_guard_any (oj := _) (gv := (.bool e15)) (u := (bif e15 then undef else (.bool e18))) rfl rfl (by decide) (by decide) rfl (by cases e15 <;> first | exact Or.inr ⟨Or.inl rfl, rfl⟩ | exact Or.inr ⟨Or.inr rfl, rfl⟩ | exact Or.inl ⟨rfl, r_pick (b := e16) (v := .bool e18) rfl (by rw [← he18]; cases e16 <;> rfl)⟩) ?_
          refine WpL_guard_any (oj := _) (gv := (.bool e15)) (u := (bif e15 then undef else (.bool e18))) rfl rfl (by decide) (by decide) rfl (by cases e15 <;> first | exact Or.inr ⟨Or.inl rfl, rfl⟩ | exact Or.inr ⟨Or.inr rfl, rfl⟩ | exact Or.inl ⟨rfl, r_move (v := (.bool e18)) rfl⟩) ?_
          refine WpL_guard_any (oj := _) (gv := (bif e15 then undef else (.bool e18))) (u := (bif e15 then undef else (bif e18 then (.pointer (some ⟨b1, 3, none⟩)) else undef))) rfl rfl (by decide) (by decide) rfl (by cases e15 <;> cases e18 <;> first | exact Or.inr ⟨Or.inl rfl, rfl⟩ | exact Or.inr ⟨Or.inr rfl, rfl⟩ | exact Or.inl ⟨rfl, r_fieldAddr (b := b1) (o := 0) (o' := 3) rfl Try.underlying25 rfl siz3 rfl⟩) ?_
          refine WpL_guard_any (oj := _) (gv := (bif e15 then undef else (.bool e18))) (u := (bif e15 then undef else (bif e18 then (.int .i64 t.mn) else undef))) rfl rfl (by decide) (by decide) rfl (by cases e15 <;> cases e18 <;> first | exact Or.inr ⟨Or.inl rfl, rfl⟩ | exact Or.inr ⟨Or.inr rfl, rfl⟩ | exact Or.inl ⟨rfl, r_load (v := (.int .i64 t.mn)) rfl flat3 (B1.cell rfl)⟩) ?_
          obtain ⟨e19, he19⟩ : ∃ e, (decide ((t.mn : Int) ≠ 0)) = e := ⟨_, rfl⟩
          refine WpL_guard_any (oj := _) (gv := (bif e15 then undef else (.bool e18))) (u := (bif e15 then undef else (bif e18 then (.bool e19) else undef))) rfl rfl (by decide) (by decide) rfl (by cases e15 <;> cases e18 <;> first | exact Or.inr ⟨Or.inl rfl, rfl⟩ | exact Or.inr ⟨Or.inr rfl, rfl⟩ | exact Or.inl ⟨rfl, (r_neq (k := .i64) (a := t.mn) (b := 0) rfl rfl).trans (by rw [he19]; try rfl)⟩) ?_
          obtain ⟨e20, he20⟩ : ∃ e, (e18 && e19) = e := ⟨_, rfl⟩
          refine WpL_guard_any (oj := _) (gv := (.bool e15)) (u := (bif e15 then undef else (.bool e20))) rfl rfl (by decide) (by decide) rfl (by cases e15 <;> first | exact Or.inr ⟨Or.inl rfl, rfl⟩ | exact Or.inr ⟨Or.inr rfl, rfl⟩ | exact Or.inl ⟨rfl, r_pick (b := e18) (v := .bool e20) rfl (by rw [← he20]; cases e18 <;> rfl)⟩) ?_
          obtain ⟨e21, he21⟩ : ∃ e, (e15 || e20) = e := ⟨_, rfl⟩
          refine WpL_val rfl rfl (by decide) (r_pick (b := e15) (v := .bool e21) rfl (by rw [← he21]; cases e15 <;> rfl)) ?_
          refine WpL_val rfl rfl (by decide) (r_move (v := (.bool e21)) rfl) ?_
          refine WpL_guard_any (oj := _) (gv := (.bool e21)) (u := (bif e21 then undef else (.pointer (some ⟨b1, 0, none⟩)))) rfl rfl (by decide) (by decide) rfl (by cases e21 <;> first | exact Or.inr ⟨Or.inl rfl, rfl⟩ | exact Or.inr ⟨Or.inr rfl, rfl⟩ | exact Or.inl ⟨rfl, r_fieldAddr (b := b1) (o := 0) (o' := 0) rfl Try.underlying25 rfl siz3 rfl⟩) ?_
          refine WpL_guard_any (oj := _) (gv := (.bool e21)) (u := (bif e21 then undef else (.int .i64 t.kind))) rfl rfl (by decide) (by decide) rfl (by cases e21 <;> first | exact Or.inr ⟨Or.inl rfl, rfl⟩ | exact Or.inr ⟨Or.inr rfl, rfl⟩ | exact Or.inl ⟨rfl, r_load (v := (.int .i64 t.kind)) rfl flat3 (B1.cell rfl)⟩) ?_
          obtain ⟨e22, he22⟩ : ∃ e, (decide ((t.kind : Int) ≠ 10)) = e := ⟨_, rfl⟩
          refine WpL_guard_any (oj := _) (gv := (.bool e21)) (u := (bif e21 then undef else (.bool e22))) rfl rfl (by decide) (by decide) rfl (by cases e21 <;> first | exact Or.inr ⟨Or.inl rfl, rfl⟩ | exact Or.inr ⟨Or.inr rfl, rfl⟩ | exact Or.inl ⟨rfl, (r_neq (k := .i64) (a := t.kind) (b := 10) rfl rfl).trans (by rw [he22]; try rfl)⟩) ?_
          refine WpL_guard_any (oj := _) (gv := (.bool e21)) (u := (bif e21 then undef else (.bool e22))) rfl rfl (by decide) (by decide) rfl (by cases e21 <;> first | exact Or.inr ⟨Or.inl rfl, rfl⟩ | exact Or.inr ⟨Or.inr rfl, rfl⟩ | exact Or.inl ⟨rfl, r_move (v := (.bool e22)) rfl⟩) ?_
          refine WpL_guard_any (oj := _) (gv := (bif e21 then undef else (.bool e22))) (u := (bif e21 then undef else (bif e22 then (.pointer (some ⟨b1, 5, none⟩)) else undef))) rfl rfl (by decide) (by decide) rfl (by cases e21 <;> cases e22 <;> first | exact Or.inr ⟨Or.inl rfl, rfl⟩ | exact Or.inr ⟨Or.inr rfl, rfl⟩ | exact Or.inl ⟨rfl, r_fieldAddr (b := b1) (o := 0) (o' := 5) rfl Try.underlying25 rfl siz4 rfl⟩) ?_
          refine WpL_guard_any (oj := _) (gv := (bif e21 then undef else (.bool e22))) (u := (bif e21 then undef else (bif e22 then (.bool t.neg) else undef))) rfl rfl (by decide) (by decide) rfl (by cases e21 <;> cases e22 <;> first | exact Or.inr ⟨Or.inl rfl, rfl⟩ | exact Or.inr ⟨Or.inr rfl, rfl⟩ | exact Or.inl ⟨rfl, r_load (v := (.bool t.neg)) rfl flat4 (B1.cell rfl)⟩) ?_
          obtain ⟨e23, he23⟩ : ∃ e, (e22 && t.neg) = e := ⟨_, rfl⟩
          refine WpL_guard_any (oj := _) (gv := (.bool e21)) (u := (bif e21 then undef else (.bool e23))) rfl rfl (by decide) (by decide) rfl (by cases e21 <;> first | exact Or.inr ⟨Or.inl rfl, rfl⟩ | exact Or.inr ⟨Or.inr rfl, rfl⟩ | exact Or.inl ⟨rfl, r_pick (b := e22) (v := .bool e23) rfl (by rw [← he23]; cases e22 <;> rfl)⟩) ?_
          obtain ⟨e24, he24⟩ : ∃ e, (e21 || e23) = e := ⟨_, rfl⟩
          refine WpL_val rfl rfl (by decide) (r_pick (b := e21) (v := .bool e24) rfl (by rw [← he24]; cases e21 <;> rfl)) ?_
          refine WpL_nil ?_
          subst he24
          subst he23
          subst he22
          subst he21
          subst he20
          subst he19
          subst he18
          subst he17
          subst he16
          subst he15
          subst he14
          subst he13
          subst he12
          subst he11
          subst he10
          subst he9
          refine Wp_cond (b := (((((decide ((t.kind : Int) ≠ 2)) && (decide ((0 : Int) < ((t.set.length : Nat) : Int)))) || ((decide ((t.kind : Int) ≠ 6)) && (decide ((t.mx : Int) ≠ 0)))) || (((decide ((t.kind : Int) ≠ 6)) && (decide ((t.kind : Int) ≠ 9))) && (decide ((t.mn : Int) ≠ 0)))) || ((decide ((t.kind : Int) ≠ 10)) && t.neg))) rfl (fun hf => ?_) (fun hf => ?_)
          · have khf := hf
            have hfB : formB t = false := by rw [← Bool.not_eq_true]; intro h; unfold formB at h; generalize t.set.length = sl at h hf; cases hng : t.neg <;> simp [hng] at h hf <;> omega
            refine Wp_seq_region ?_
            refine WpL_val rfl rfl (by decide) (r_assign (v := (.int .i64 3)) rfl) ?_
            refine WpL_nil ?_
            refine Wp_ret ?_
            refine thn_ret ?_
            refine fin_tmp Try.results17 (v := (.int .i64 3)) rfl ?_
            exact ⟨int_eq (by unfold nodeE; rw [if_neg (by omega), if_pos hfB]), E⟩
          · have khf := hf
            have hfB : formB t = true := by unfold formB; rw [hoB]; generalize t.set.length = sl at hf; cases hng : t.neg <;> simp [hng] at hf ⊢ <;> omega
            have hN : nodeE t = if t.kind = 2 then (if checkE t.set ≠ 0 then checkE t.set else if (t.set.length : Int) = 0 then 3 else 0) else if t.kind = 6 then (if t.mn < 0 ∨ t.mx < t.mn ∨ 8 < t.mx then 1 else 0) else if t.kind = 9 then (if t.mn < 0 ∨ 9 < t.mn then 1 else 0) else 0 := by unfold nodeE; rw [if_neg (by omega), if_neg (by simp [hfB])]
            rw [hN]
            refine Wp_skip ?_
            refine thn_normal ?_
            refine Wp_seq ?_
            refine Wp_seq_region ?_
            refine WpL_val rfl rfl (by decide) (r_fieldAddr (b := b1) (o := 0) (o' := 0) rfl Try.underlying25 rfl siz3 rfl) ?_
            refine WpL_val rfl rfl (by decide) (r_load (v := (.int .i64 t.kind)) rfl flat3 (B1.cell rfl)) ?_
            refine WpL_val rfl rfl (by decide) (r_eql (k := .i64) (a := t.kind) (b := 2) rfl rfl) ?_
            refine WpL_nil ?_
            refine Wp_cond (b := decide ((t.kind : Int) = 2)) rfl (fun h2 => ?_) (fun h2 => ?_)
            · have kh2 := h2
              replace h2 := of_decide_eq_true h2
              rw [if_pos h2]
              refine Wp_seq ?_
              refine Wp_seq_region ?_
              refine WpL_val rfl rfl (by decide) (r_fieldAddr (b := b1) (o := 0) (o' := 1) rfl Try.underlying25 rfl siz22 rfl) ?_
              refine WpL_val rfl rfl (by decide) (r_load (v := (.slice sa t.set.length sc)) rfl flat22 (B1.cell rfl)) ?_
              refine WpL_enter rfl rfl (by decide) (r_callF (vs := [(.slice sa t.set.length sc)]) Try.func30 nm30 bd30 rfl) (cset_c _ _ t.set ((hset.ext hE).ext E)) ?_
              rintro _ w10 ⟨rfl, X10⟩
              replace B1 := X10.keep B1
              replace E := E.ext X10
              refine WpL_val rfl rfl (by decide) (r_assign (v := (.int .i64 (checkE t.set))) rfl) ?_
              refine WpL_nil ?_
              refine Wp_seq_region ?_
              refine WpL_val rfl rfl (by decide) (r_move (v := (.int .i64 (checkE t.set))) rfl) ?_
              refine WpL_val rfl rfl (by decide) (r_neq (k := .i64) (a := checkE t.set) (b := 0) rfl rfl) ?_
              refine WpL_nil ?_
              refine Wp_cond (b := decide ((checkE t.set : Int) ≠ 0)) rfl (fun h3 => ?_) (fun h3 => ?_)
              · have kh3 := h3
                replace h3 := of_decide_eq_true h3
                refine Wp_seq_region ?_
                refine WpL_val rfl rfl (by decide) (r_move (v := (.int .i64 (checkE t.set))) rfl) ?_
                refine WpL_val rfl rfl (by decide) (r_assign (v := (.int .i64 (checkE t.set))) rfl) ?_
                refine WpL_nil ?_
                refine Wp_ret ?_
                refine thn_ret ?_
                refine thn_ret ?_
                refine fin_tmp Try.results17 (v := (.int .i64 (checkE t.set))) rfl ?_
                exact ⟨int_eq (by rw [if_pos h3]), E⟩
              · have kh3 := h3
                replace h3 := of_decide_eq_false h3
                rw [if_neg h3]
                refine Wp_skip ?_
                refine thn_normal ?_
                refine Wp_seq_region ?_
                refine WpL_val rfl rfl (by decide) (r_fieldAddr (b := b1) (o := 0) (o' := 1) rfl Try.underlying25 rfl siz22 rfl) ?_
                refine WpL_val rfl rfl (by decide) (r_load (v := (.slice sa t.set.length sc)) rfl flat22 (B1.cell rfl)) ?_
                refine WpL_val rfl rfl (by decide) (r_lenSlice (ad := sa) (n := t.set.length) (cap := sc) Try.underlying22 rfl) ?_
                refine WpL_val rfl rfl (by decide) (r_eql (k := .i64) (a := ((t.set.length : Nat) : Int)) (b := 0) rfl rfl) ?_
                refine WpL_nil ?_
                refine Wp_cond (b := decide ((((t.set.length : Nat) : Int) : Int) = 0)) rfl (fun h4 => ?_) (fun h4 => ?_)
                · have kh4 := h4
                  replace h4 := of_decide_eq_true h4
                  refine Wp_seq_region ?_
                  refine WpL_val rfl rfl (by decide) (r_assign (v := (.int .i64 3)) rfl) ?_
                  refine WpL_nil ?_
                  refine Wp_ret ?_
                  refine thn_ret ?_
                  refine fin_tmp Try.results17 (v := (.int .i64 3)) rfl ?_
                  exact ⟨int_eq (by rw [if_pos h4]), E⟩
                · have kh4 := h4
                  replace h4 := of_decide_eq_false h4
                  rw [if_neg h4]
                  refine Wp_skip ?_
                  refine thn_normal ?_
                  refine Wp_seq ?_
                  refine Wp_seq_region ?_
                  refine WpL_val rfl rfl (by decide) (r_fieldAddr (b := b1) (o := 0) (o' := 0) rfl Try.underlying25 rfl siz3 rfl) ?_
                  refine WpL_val rfl rfl (by decide) (r_load (v := (.int .i64 t.kind)) rfl flat3 (B1.cell rfl)) ?_
                  obtain ⟨e29, he29⟩ : ∃ e, (decide ((t.kind : Int) = 6)) = e := ⟨_, rfl⟩
                  refine WpL_val rfl rfl (by decide) ((r_eql (k := .i64) (a := t.kind) (b := 6) rfl rfl).trans (by rw [he29]; try rfl)) ?_
                  refine WpL_val rfl rfl (by decide) (r_move (v := (.bool e29)) rfl) ?_
                  refine WpL_guard_any (oj := _) (gv := (.bool e29)) (u := (bif e29 then (.pointer (some ⟨b1, 3, none⟩)) else undef)) rfl rfl (by decide) (by decide) rfl (by cases e29 <;> first | exact Or.inr ⟨Or.inl rfl, rfl⟩ | exact Or.inr ⟨Or.inr rfl, rfl⟩ | exact Or.inl ⟨rfl, r_fieldAddr (b := b1) (o := 0) (o' := 3) rfl Try.underlying25 rfl siz3 rfl⟩) ?_
                  refine WpL_guard_any (oj := _) (gv := (.bool e29)) (u := (bif e29 then (.int .i64 t.mn) else undef)) rfl rfl (by decide) (by decide) rfl (by cases e29 <;> first | exact Or.inr ⟨Or.inl rfl, rfl⟩ | exact Or.inr ⟨Or.inr rfl, rfl⟩ | exact Or.inl ⟨rfl, r_load (v := (.int .i64 t.mn)) rfl flat3 (B1.cell rfl)⟩) ?_
                  obtain ⟨e30, he30⟩ : ∃ e, (decide ((t.mn : Int) < 0)) = e := ⟨_, rfl⟩
                  refine WpL_guard_any (oj := _) (gv := (.bool e29)) (u := (bif e29 then (.bool e30) else undef)) rfl rfl (by decide) (by decide) rfl (by cases e29 <;> first | exact Or.inr ⟨Or.inl rfl, rfl⟩ | exact Or.inr ⟨Or.inr rfl, rfl⟩ | exact Or.inl ⟨rfl, (r_lss (k := .i64) (a := t.mn) (b := 0) rfl rfl).trans (by rw [he30]; try rfl)⟩) ?_
                  refine WpL_guard_any (oj := _) (gv := (.bool e29)) (u := (bif e29 then (.bool e30) else undef)) rfl rfl (by decide) (by decide) rfl (by cases e29 <;> first | exact Or.inr ⟨Or.inl rfl, rfl⟩ | exact Or.inr ⟨Or.inr rfl, rfl⟩ | exact Or.inl ⟨rfl, r_move (v := (.bool e30)) rfl⟩) ?_
                  refine WpL_guard_any (oj := _) (gv := (bif e29 then (.bool e30) else undef)) (u := (bif e29 then (bif e30 then undef else (.pointer (some ⟨b1, 4, none⟩))) else undef)) rfl rfl (by decide) (by decide) rfl (by cases e29 <;> cases e30 <;> first | exact Or.inr ⟨Or.inl rfl, rfl⟩ | exact Or.inr ⟨Or.inr rfl, rfl⟩ | exact Or.inl ⟨rfl, r_fieldAddr (b := b1) (o := 0) (o' := 4) rfl Try.underlying25 rfl siz3 rfl⟩) ?_
                  refine WpL_guard_any (oj := _) (gv := (bif e29 then (.bool e30) else undef)) (u := (bif e29 then (bif e30 then undef else (.int .i64 t.mx)) else undef)) rfl rfl (by decide) (by decide) rfl (by cases e29 <;> cases e30 <;> first | exact Or.inr ⟨Or.inl rfl, rfl⟩ | exact Or.inr ⟨Or.inr rfl, rfl⟩ | exact Or.inl ⟨rfl, r_load (v := (.int .i64 t.mx)) rfl flat3 (B1.cell rfl)⟩) ?_
                  obtain ⟨e31, he31⟩ : ∃ e, (decide ((8 : Int) < t.mx)) = e := ⟨_, rfl⟩
                  refine WpL_guard_any (oj := _) (gv := (bif e29 then (.bool e30) else undef)) (u := (bif e29 then (bif e30 then undef else (.bool e31)) else undef)) rfl rfl (by decide) (by decide) rfl (by cases e29 <;> cases e30 <;> first | exact Or.inr ⟨Or.inl rfl, rfl⟩ | exact Or.inr ⟨Or.inr rfl, rfl⟩ | exact Or.inl ⟨rfl, (r_gtr (k := .i64) (a := t.mx) (b := 8) rfl rfl).trans (by rw [he31]; try rfl)⟩) ?_
                  obtain ⟨e32, he32⟩ : ∃ e, (e30 || e31) = e := ⟨_, rfl⟩
                  refine WpL_guard_any (oj := _) (gv := (.bool e29)) (u := (bif e29 then (.bool e32) else undef)) rfl rfl (by decide) (by decide) rfl (by cases e29 <;> first | exact Or.inr ⟨Or.inl rfl, rfl⟩ | exact Or.inr ⟨Or.inr rfl, rfl⟩ | exact Or.inl ⟨rfl, r_pick (b := e30) (v := .bool e32) rfl (by rw [← he32]; cases e30 <;> rfl)⟩) ?_
                  refine WpL_guard_any (oj := _) (gv := (.bool e29)) (u := (bif e29 then (.bool e32) else undef)) rfl rfl (by decide) (by decide) rfl (by cases e29 <;> first | exact Or.inr ⟨Or.inl rfl, rfl⟩ | exact Or.inr ⟨Or.inr rfl, rfl⟩ | exact Or.inl ⟨rfl, r_move (v := (.bool e32)) rfl⟩) ?_
                  refine WpL_guard_any (oj := _) (gv := (bif e29 then (.bool e32) else undef)) (u := (bif e29 then (bif e32 then undef else (.pointer (some ⟨b1, 3, none⟩))) else undef)) rfl rfl (by decide) (by decide) rfl (by cases e29 <;> cases e32 <;> first | exact Or.inr ⟨Or.inl rfl, rfl⟩ | exact Or.inr ⟨Or.inr rfl, rfl⟩ | exact Or.inl ⟨rfl, r_fieldAddr (b := b1) (o := 0) (o' := 3) rfl Try.underlying25 rfl siz3 rfl⟩) ?_
                  refine WpL_guard_any (oj := _) (gv := (bif e29 then (.bool e32) else undef)) (u := (bif e29 then (bif e32 then undef else (.int .i64 t.mn)) else undef)) rfl rfl (by decide) (by decide) rfl (by cases e29 <;> cases e32 <;> first | exact Or.inr ⟨Or.inl rfl, rfl⟩ | exact Or.inr ⟨Or.inr rfl, rfl⟩ | exact Or.inl ⟨rfl, r_load (v := (.int .i64 t.mn)) rfl flat3 (B1.cell rfl)⟩) ?_
                  refine WpL_guard_any (oj := _) (gv := (bif e29 then (.bool e32) else undef)) (u := (bif e29 then (bif e32 then undef else (.pointer (some ⟨b1, 4, none⟩))) else undef)) rfl rfl (by decide) (by decide) rfl (by cases e29 <;> cases e32 <;> first | exact Or.inr ⟨Or.inl rfl, rfl⟩ | exact Or.inr ⟨Or.inr rfl, rfl⟩ | exact Or.inl ⟨rfl, r_fieldAddr (b := b1) (o := 0) (o' := 4) rfl Try.underlying25 rfl siz3 rfl⟩) ?_
                  refine WpL_guard_any (oj := _) (gv := (bif e29 then (.bool e32) else undef)) (u := (bif e29 then (bif e32 then undef else (.int .i64 t.mx)) else undef)) rfl rfl (by decide) (by decide) rfl (by cases e29 <;> cases e32 <;> first | exact Or.inr ⟨Or.inl rfl, rfl⟩ | exact Or.inr ⟨Or.inr rfl, rfl⟩ | exact Or.inl ⟨rfl, r_load (v := (.int .i64 t.mx)) rfl flat3 (B1.cell rfl)⟩) ?_
                  obtain ⟨e33, he33⟩ : ∃ e, (decide ((t.mx : Int) < t.mn)) = e := ⟨_, rfl⟩
                  refine WpL_guard_any (oj := _) (gv := (bif e29 then (.bool e32) else undef)) (u := (bif e29 then (bif e32 then undef else (.bool e33)) else undef)) rfl rfl (by decide) (by decide) rfl (by cases e29 <;> cases e32 <;> first | exact Or.inr ⟨Or.inl rfl, rfl⟩ | exact Or.inr ⟨Or.inr rfl, rfl⟩ | exact Or.inl ⟨rfl, (r_gtr (k := .i64) (a := t.mn) (b := t.mx) rfl rfl).trans (by rw [he33]; try rfl)⟩) ?_
                  obtain ⟨e34, he34⟩ : ∃ e, (e32 || e33) = e := ⟨_, rfl⟩
                  refine WpL_guard_any (oj := _) (gv := (.bool e29)) (u := (bif e29 then (.bool e34) else undef)) rfl rfl (by decide) (by decide) rfl (by cases e29 <;> first | exact Or.inr ⟨Or.inl rfl, rfl⟩ | exact Or.inr ⟨Or.inr rfl, rfl⟩ | exact Or.inl ⟨rfl, r_pick (b := e32) (v := .bool e34) rfl (by rw [← he34]; cases e32 <;> rfl)⟩) ?_
                  obtain ⟨e35, he35⟩ : ∃ e, (e29 && e34) = e := ⟨_, rfl⟩
                  refine WpL_val rfl rfl (by decide) (r_pick (b := e29) (v := .bool e35) rfl (by rw [← he35]; cases e29 <;> rfl)) ?_
                  refine WpL_val rfl rfl (by decide) (r_move (v := (.bool e35)) rfl) ?_
                  refine WpL_guard_any (oj := _) (gv := (.bool e35)) (u := (bif e35 then undef else (.pointer (some ⟨b1, 0, none⟩)))) rfl rfl (by decide) (by decide) rfl (by cases e35 <;> first | exact Or.inr ⟨Or.inl rfl, rfl⟩ | exact Or.inr ⟨Or.inr rfl, rfl⟩ | exact Or.inl ⟨rfl, r_fieldAddr (b := b1) (o := 0) (o' := 0) rfl Try.underlying25 rfl siz3 rfl⟩) ?_
                  refine WpL_guard_any (oj := _) (gv := (.bool e35)) (u := (bif e35 then undef else (.int .i64 t.kind))) rfl rfl (by decide) (by decide) rfl (by cases e35 <;> first | exact Or.inr ⟨Or.inl rfl, rfl⟩ | exact Or.inr ⟨Or.inr rfl, rfl⟩ | exact Or.inl ⟨rfl, r_load (v := (.int .i64 t.kind)) rfl flat3 (B1.cell rfl)⟩) ?_
                  obtain ⟨e36, he36⟩ : ∃ e, (decide ((t.kind : Int) = 9)) = e := ⟨_, rfl⟩
                  refine WpL_guard_any (oj := _) (gv := (.bool e35)) (u := (bif e35 then undef else (.bool e36))) rfl rfl (by decide) (by decide) rfl (by cases e35 <;> first | exact Or.inr ⟨Or.inl rfl, rfl⟩ | exact Or.inr ⟨Or.inr rfl, rfl⟩ | exact Or.inl ⟨rfl, (r_eql (k := .i64) (a := t.kind) (b := 9) rfl rfl).trans (by rw [he36]; try rfl)⟩) ?_
                  refine WpL_guard_any (oj := _) (gv := (.bool e35)) (u := (bif e35 then undef else (.bool e36))) rfl rfl (by decide) (by decide) rfl (by cases e35 <;> first | exact Or.inr ⟨Or.inl rfl, rfl⟩ | exact Or.inr ⟨Or.inr rfl, rfl⟩ | exact Or.inl ⟨rfl, r_move (v := (.bool e36)) rfl⟩) ?_
                  refine WpL_guard_any (oj := _) (gv := (bif e35 then undef else (.bool e36))) (u := (bif e35 then undef else (bif e36 then (.pointer (some ⟨b1, 3, none⟩)) else undef))) rfl rfl (by decide) (by decide) rfl (by cases e35 <;> cases e36 <;> first | exact Or.inr ⟨Or.inl rfl, rfl⟩ | exact Or.inr ⟨Or.inr rfl, rfl⟩ | exact Or.inl ⟨rfl, r_fieldAddr (b := b1) (o := 0) (o' := 3) rfl Try.underlying25 rfl siz3 rfl⟩) ?_
                  refine WpL_guard_any (oj := _) (gv := (bif e35 then undef else (.bool e36))) (u := (bif e35 then undef else (bif e36 then (.int .i64 t.mn) else undef))) rfl rfl (by decide) (by decide) rfl (by cases e35 <;> cases e36 <;> first | exact Or.inr ⟨Or.inl rfl, rfl⟩ | exact Or.inr ⟨Or.inr rfl, rfl⟩ | exact Or.inl ⟨rfl, r_load (v := (.int .i64 t.mn)) rfl flat3 (B1.cell rfl)⟩) ?_
                  obtain ⟨e37, he37⟩ : ∃ e, (decide ((t.mn : Int) < 0)) = e := ⟨_, rfl⟩
                  refine WpL_guard_any (oj := _) (gv := (bif e35 then undef else (.bool e36))) (u := (bif e35 then undef else (bif e36 then (.bool e37) else undef))) rfl rfl (by decide) (by decide) rfl (by cases e35 <;> cases e36 <;> first | exact Or.inr ⟨Or.inl rfl, rfl⟩ | exact Or.inr ⟨Or.inr rfl, rfl⟩ | exact Or.inl ⟨rfl, (r_lss (k := .i64) (a := t.mn) (b := 0) rfl rfl).trans (by rw [he37]; try rfl)⟩) ?_
                  refine WpL_guard_any (oj := _) (gv := (bif e35 then undef else (.bool e36))) (u := (bif e35 then undef else (bif e36 then (.bool e37) else undef))) rfl rfl (by decide) (by decide) rfl (by cases e35 <;> cases e36 <;> first | exact Or.inr ⟨Or.inl rfl, rfl⟩ | exact Or.inr ⟨Or.inr rfl, rfl⟩ | exact Or.inl ⟨rfl, r_move (v := (.bool e37)) rfl⟩) ?_
                  refine WpL_guard_any (oj := _) (gv := (bif e35 then undef else (bif e36 then (.bool e37) else undef))) (u := (bif e35 then undef else (bif e36 then (bif e37 then undef else (.pointer (some ⟨b1, 3, none⟩))) else undef))) rfl rfl (by decide) (by decide) rfl (by cases e35 <;> cases e36 <;> cases e37 <;> first | exact Or.inr ⟨Or.inl rfl, rfl⟩ | exact Or.inr ⟨Or.inr rfl, rfl⟩ | exact Or.inl ⟨rfl, r_fieldAddr (b := b1) (o := 0) (o' := 3) rfl Try.underlying25 rfl siz3 rfl⟩) ?_
                  refine WpL_guard_any (oj := _) (gv := (bif e35 then undef else (bif e36 then (.bool e37) else undef))) (u := (bif e35 then undef else (bif e36 then (bif e37 then undef else (.int .i64 t.mn)) else undef))) rfl rfl (by decide) (by decide) rfl (by cases e35 <;> cases e36 <;> cases e37 <;> first | exact Or.inr ⟨Or.inl rfl, rfl⟩ | exact Or.inr ⟨Or.inr rfl, rfl⟩ | exact Or.inl ⟨rfl, r_load (v := (.int .i64 t.mn)) rfl flat3 (B1.cell rfl)⟩) ?_
                  obtain ⟨e38, he38⟩ : ∃ e, (decide ((9 : Int) < t.mn)) = e := ⟨_, rfl⟩
                  refine WpL_guard_any (oj := _) (gv := (bif e35 then undef else (bif e36 then (.bool e37) else undef))) (u := (bif e35 then undef else (bif e36 then (bif e37 then undef else (.bool e38)) else undef))) rfl rfl (by decide) (by decide) rfl (by cases e35 <;> cases e36 <;> cases e37 <;> first | exact Or.inr ⟨Or.inl rfl, rfl⟩ | exact Or.inr ⟨Or.inr rfl, rfl⟩ | exact Or.inl ⟨rfl, (r_gtr (k := .i64) (a := t.mn) (b := 9) rfl rfl).trans (by rw [he38]; try rfl)⟩) ?_
                  obtain ⟨e39, he39⟩ : ∃ e, (e37 || e38) = e := ⟨_, rfl⟩
                  refine WpL_guard_any (oj := _) (gv := (bif e35 then undef else (.bool e36))) (u := (bif e35 then undef else (bif e36 then (.bool e39) else undef))) rfl rfl (by decide) (by decide) rfl (by cases e35 <;> cases e36 <;> first | exact Or.inr ⟨Or.inl rfl, rfl⟩ | exact Or.inr ⟨Or.inr rfl, rfl⟩ | exact Or.inl ⟨rfl, r_pick (b := e37) (v := .bool e39) rfl (by rw [← he39]; cases e37 <;> rfl)⟩) ?_
                  obtain ⟨e40, he40⟩ : ∃ e, (e36 && e39) = e := ⟨_, rfl⟩
                  refine WpL_guard_any (oj := _) (gv := (.bool e35)) (u := (bif e35 then undef else (.bool e40))) rfl rfl (by decide) (by decide) rfl (by cases e35 <;> first | exact Or.inr ⟨Or.inl rfl, rfl⟩ | exact Or.inr ⟨Or.inr rfl, rfl⟩ | exact Or.inl ⟨rfl, r_pick (b := e36) (v := .bool e40) rfl (by rw [← he40]; cases e36 <;> rfl)⟩) ?_
                  obtain ⟨e41, he41⟩ : ∃ e, (e35 || e40) = e := ⟨_, rfl⟩
                  refine WpL_val rfl rfl (by decide) (r_pick (b := e35) (v := .bool e41) rfl (by rw [← he41]; cases e35 <;> rfl)) ?_
                  refine WpL_nil ?_
                  subst he41
                  subst he40
                  subst he39
                  subst he38
                  subst he37
                  subst he36
                  subst he35
                  subst he34
                  subst he33
                  subst he32
                  subst he31
                  subst he30
                  subst he29
                  have hc42 : ((((decide ((t.kind : Int) = 6)) && (((decide ((t.mn : Int) < 0)) || (decide ((8 : Int) < t.mx))) || (decide ((t.mx : Int) < t.mn)))) || ((decide ((t.kind : Int) = 9)) && ((decide ((t.mn : Int) < 0)) || (decide ((9 : Int) < t.mn)))))) = false := by simp [h2]
                  refine Wp_cond_false (congrArg Value.bool hc42) ?_
                  refine Wp_skip ?_
                  refine thn_normal ?_
                  refine Wp_seq_region ?_
                  refine WpL_val rfl rfl (by decide) (r_assign (v := (.int .i64 0)) rfl) ?_
                  refine WpL_nil ?_
                  refine Wp_ret ?_
                  refine fin_tmp Try.results17 (v := (.int .i64 0)) rfl ?_
                  exact ⟨rfl, E⟩
            · have kh2 := h2
              replace h2 := of_decide_eq_false h2
              rw [if_neg h2]
              refine Wp_skip ?_
              refine thn_normal ?_
              refine Wp_seq ?_
              refine Wp_seq_region ?_
              refine WpL_val rfl rfl (by decide) (r_fieldAddr (b := b1) (o := 0) (o' := 0) rfl Try.underlying25 rfl siz3 rfl) ?_
              refine WpL_val rfl rfl (by decide) (r_load (v := (.int .i64 t.kind)) rfl flat3 (B1.cell rfl)) ?_
              obtain ⟨e43, he43⟩ : ∃ e, (decide ((t.kind : Int) = 6)) = e := ⟨_, rfl⟩
              refine WpL_val rfl rfl (by decide) ((r_eql (k := .i64) (a := t.kind) (b := 6) rfl rfl).trans (by rw [he43]; try rfl)) ?_
              refine WpL_val rfl rfl (by decide) (r_move (v := (.bool e43)) rfl) ?_
              refine WpL_guard_any (oj := _) (gv := (.bool e43)) (u := (bif e43 then (.pointer (some ⟨b1, 3, none⟩)) else undef)) rfl rfl (by decide) (by decide) rfl (by cases e43 <;> first | exact Or.inr ⟨Or.inl rfl, rfl⟩ | exact Or.inr ⟨Or.inr rfl, rfl⟩ | exact Or.inl ⟨rfl, r_fieldAddr (b := b1) (o := 0) (o' := 3) rfl Try.underlying25 rfl siz3 rfl⟩) ?_
              refine WpL_guard_any (oj := _) (gv := (.bool e43)) (u := (bif e43 then (.int .i64 t.mn) else undef)) rfl rfl (by decide) (by decide) rfl (by cases e43 <;> first | exact Or.inr ⟨Or.inl rfl, rfl⟩ | exact Or.inr ⟨Or.inr rfl, rfl⟩ | exact Or.inl ⟨rfl, r_load (v := (.int .i64 t.mn)) rfl flat3 (B1.cell rfl)⟩) ?_
              obtain ⟨e44, he44⟩ : ∃ e, (decide ((t.mn : Int) < 0)) = e := ⟨_, rfl⟩
              refine WpL_guard_any (oj := _) (gv := (.bool e43)) (u := (bif e43 then (.bool e44) else undef)) rfl rfl (by decide) (by decide) rfl (by cases e43 <;> first | exact Or.inr ⟨Or.inl rfl, rfl⟩ | exact Or.inr ⟨Or.inr rfl, rfl⟩ | exact Or.inl ⟨rfl, (r_lss (k := .i64) (a := t.mn) (b := 0) rfl rfl).trans (by rw [he44]; try rfl)⟩) ?_
              refine WpL_guard_any (oj := _) (gv := (.bool e43)) (u := (bif e43 then (.bool e44) else undef)) rfl rfl (by decide) (by decide) rfl (by cases e43 <;> first | exact Or.inr ⟨Or.inl rfl, rfl⟩ | exact Or.inr ⟨Or.inr rfl, rfl⟩ | exact Or.inl ⟨rfl, r_move (v := (.bool e44)) rfl⟩) ?_
              refine WpL_guard_any (oj := _) (gv := (bif e43 then (.bool e44) else undef)) (u := (bif e43 then (bif e44 then undef else (.pointer (some ⟨b1, 4, none⟩))) else undef)) rfl rfl (by decide) (by decide) rfl (by cases e43 <;> cases e44 <;> first | exact Or.inr ⟨Or.inl rfl, rfl⟩ | exact Or.inr ⟨Or.inr rfl, rfl⟩ | exact Or.inl ⟨rfl, r_fieldAddr (b := b1) (o := 0) (o' := 4) rfl Try.underlying25 rfl siz3 rfl⟩) ?_
              refine WpL_guard_any (oj := _) (gv := (bif e43 then (.bool e44) else undef)) (u := (bif e43 then (bif e44 then undef else (.int .i64 t.mx)) else undef)) rfl rfl (by decide) (by decide) rfl (by cases e43 <;> cases e44 <;> first | exact Or.inr ⟨Or.inl rfl, rfl⟩ | exact Or.inr ⟨Or.inr rfl, rfl⟩ | exact Or.inl ⟨rfl, r_load (v := (.int .i64 t.mx)) rfl flat3 (B1.cell rfl)⟩) ?_
              obtain ⟨e45, he45⟩ : ∃ e, (decide ((8 : Int) < t.mx)) = e := ⟨_, rfl⟩
              refine WpL_guard_any (oj := _) (gv := (bif e43 then (.bool e44) else undef)) (u := (bif e43 then (bif e44 then undef else (.bool e45)) else undef)) rfl rfl (by decide) (by decide) rfl (by cases e43 <;> cases e44 <;> first | exact Or.inr ⟨Or.inl rfl, rfl⟩ | exact Or.inr ⟨Or.inr rfl, rfl⟩ | exact Or.inl ⟨rfl, (r_gtr (k := .i64) (a := t.mx) (b := 8) rfl rfl).trans (by rw [he45]; try rfl)⟩) ?_
              obtain ⟨e46, he46⟩ : ∃ e, (e44 || e45) = e := ⟨_, rfl⟩
              refine WpL_guard_any (oj := _) (gv := (.bool e43)) (u := (bif e43 then (.bool e46) else undef)) rfl rfl (by decide) (by decide) rfl (by cases e43 <;> first | exact Or.inr ⟨Or.inl rfl, rfl⟩ | exact Or.inr ⟨Or.inr rfl, rfl⟩ | exact Or.inl ⟨rfl, r_pick (b := e44) (v := .bool e46) rfl (by rw [← he46]; cases e44 <;> rfl)⟩) ?_
              refine WpL_guard_any (oj := _) (gv := (.bool e43)) (u := (bif e43 then (.bool e46) else undef)) rfl rfl (by decide) (by decide) rfl (by cases e43 <;> first | exact Or.inr ⟨Or.inl rfl, rfl⟩ | exact Or.inr ⟨Or.inr rfl, rfl⟩ | exact Or.inl ⟨rfl, r_move (v := (.bool e46)) rfl⟩) ?_
              refine WpL_guard_any (oj := _) (gv := (bif e43 then (.bool e46) else undef)) (u := (bif e43 then (bif e46 then undef else (.pointer (some ⟨b1, 3, none⟩))) else undef)) rfl rfl (by decide) (by decide) rfl (by cases e43 <;> cases e46 <;> first | exact Or.inr ⟨Or.inl rfl, rfl⟩ | exact Or.inr ⟨Or.inr rfl, rfl⟩ | exact Or.inl ⟨rfl, r_fieldAddr (b := b1) (o := 0) (o' := 3) rfl Try.underlying25 rfl siz3 rfl⟩) ?_
              refine WpL_guard_any (oj := _) (gv := (bif e43 then (.bool e46) else undef)) (u := (bif e43 then (bif e46 then undef else (.int .i64 t.mn)) else undef)) rfl rfl (by decide) (by decide) rfl (by cases e43 <;> cases e46 <;> first | exact Or.inr ⟨Or.inl rfl, rfl⟩ | exact Or.inr ⟨Or.inr rfl, rfl⟩ | exact Or.inl ⟨rfl, r_load (v := (.int .i64 t.mn)) rfl flat3 (B1.cell rfl)⟩) ?_
              refine WpL_guard_any (oj := _) (gv := (bif e43 then (.bool e46) else undef)) (u := (bif e43 then (bif e46 then undef else (.pointer (some ⟨b1, 4, none⟩))) else undef)) rfl rfl (by decide) (by decide) rfl (by cases e43 <;> cases e46 <;> first | exact Or.inr ⟨Or.inl rfl, rfl⟩ | exact Or.inr ⟨Or.inr rfl, rfl⟩ | exact Or.inl ⟨rfl, r_fieldAddr (b := b1) (o := 0) (o' := 4) rfl Try.underlying25 rfl siz3 rfl⟩) ?_
              refine WpL_guard_any (oj := _) (gv := (bif e43 then (.bool e46) else undef)) (u := (bif e43 then (bif e46 then undef else (.int .i64 t.mx)) else undef)) rfl rfl (by decide) (by decide) rfl (by cases e43 <;> cases e46 <;> first | exact Or.inr ⟨Or.inl rfl, rfl⟩ | exact Or.inr ⟨Or.inr rfl, rfl⟩ | exact Or.inl ⟨rfl, r_load (v := (.int .i64 t.mx)) rfl flat3 (B1.cell rfl)⟩) ?_
              obtain ⟨e47, he47⟩ : ∃ e, (decide ((t.mx : Int) < t.mn)) = e := ⟨_, rfl⟩
              refine WpL_guard_any (oj := _) (gv := (bif e43 then (.bool e46) else undef)) (u := (bif e43 then (bif e46 then undef else (.bool e47)) else undef)) rfl rfl (by decide) (by decide) rfl (by cases e43 <;> cases e46 <;> first | exact Or.inr ⟨Or.inl rfl, rfl⟩ | exact Or.inr ⟨Or.inr rfl, rfl⟩ | exact Or.inl ⟨rfl, (r_gtr (k := .i64) (a := t.mn) (b := t.mx) rfl rfl).trans (by rw [he47]; try rfl)⟩) ?_
              obtain ⟨e48, he48⟩ : ∃ e, (e46 || e47) = e := ⟨_, rfl⟩
              refine WpL_guard_any (oj := _) (gv := (.bool e43)) (u := (bif e43 then (.bool e48) else undef)) rfl rfl (by decide) (by decide) rfl (by cases e43 <;> first | exact Or.inr ⟨Or.inl rfl, rfl⟩ | exact Or.inr ⟨Or.inr rfl, rfl⟩ | exact Or.inl ⟨rfl, r_pick (b := e46) (v := .bool e48) rfl (by rw [← he48]; cases e46 <;> rfl)⟩) ?_
              obtain ⟨e49, he49⟩ : ∃ e, (e43 && e48) = e := ⟨_, rfl⟩
              refine WpL_val rfl rfl (by decide) (r_pick (b := e43) (v := .bool e49) rfl (by rw [← he49]; cases e43 <;> rfl)) ?_
              refine WpL_val rfl rfl (by decide) (r_move (v := (.bool e49)) rfl) ?_
              refine WpL_guard_any (oj := _) (gv := (.bool e49)) (u := (bif e49 then undef else (.pointer (some ⟨b1, 0, none⟩)))) rfl rfl (by decide) (by decide) rfl (by cases e49 <;> first | exact Or.inr ⟨Or.inl rfl, rfl⟩ | exact Or.inr ⟨Or.inr rfl, rfl⟩ | exact Or.inl ⟨rfl, r_fieldAddr (b := b1) (o := 0) (o' := 0) rfl Try.underlying25 rfl siz3 rfl⟩) ?_
              refine WpL_guard_any (oj := _) (gv := (.bool e49)) (u := (bif e49 then undef else (.int .i64 t.kind))) rfl rfl (by decide) (by decide) rfl (by cases e49 <;> first | exact Or.inr ⟨Or.inl rfl, rfl⟩ | exact Or.inr ⟨Or.inr rfl, rfl⟩ | exact Or.inl ⟨rfl, r_load (v := (.int .i64 t.kind)) rfl flat3 (B1.cell rfl)⟩) ?_
              obtain ⟨e50, he50⟩ : ∃ e, (decide ((t.kind : Int) = 9)) = e := ⟨_, rfl⟩
              refine WpL_guard_any (oj := _) (gv := (.bool e49)) (u := (bif e49 then undef else (.bool e50))) rfl rfl (by decide) (by decide) rfl (by cases e49 <;> first | exact Or.inr ⟨Or.inl rfl, rfl⟩ | exact Or.inr ⟨Or.inr rfl, rfl⟩ | exact Or.inl ⟨rfl, (r_eql (k := .i64) (a := t.kind) (b := 9) rfl rfl).trans (by rw [he50]; try rfl)⟩) ?_
              refine WpL_guard_any (oj := _) (gv := (.bool e49)) (u := (bif e49 then undef else (.bool e50))) rfl rfl (by decide) (by decide) rfl (by cases e49 <;> first | exact Or.inr ⟨Or.inl rfl, rfl⟩ | exact Or.inr ⟨Or.inr rfl, rfl⟩ | exact Or.inl ⟨rfl, r_move (v := (.bool e50)) rfl⟩) ?_
              refine WpL_guard_any (oj := _) (gv := (bif e49 then undef else (.bool e50))) (u := (bif e49 then undef else (bif e50 then (.pointer (some ⟨b1, 3, none⟩)) else undef))) rfl rfl (by decide) (by decide) rfl (by cases e49 <;> cases e50 <;> first | exact Or.inr ⟨Or.inl rfl, rfl⟩ | exact Or.inr ⟨Or.inr rfl, rfl⟩ | exact Or.inl ⟨rfl, r_fieldAddr (b := b1) (o := 0) (o' := 3) rfl Try.underlying25 rfl siz3 rfl⟩) ?_
              refine WpL_guard_any (oj := _) (gv := (bif e49 then undef else (.bool e50))) (u := (bif e49 then undef else (bif e50 then (.int .i64 t.mn) else undef))) rfl rfl (by decide) (by decide) rfl (by cases e49 <;> cases e50 <;> first | exact Or.inr ⟨Or.inl rfl, rfl⟩ | exact Or.inr ⟨Or.inr rfl, rfl⟩ | exact Or.inl ⟨rfl, r_load (v := (.int .i64 t.mn)) rfl flat3 (B1.cell rfl)⟩) ?_
              obtain ⟨e51, he51⟩ : ∃ e, (decide ((t.mn : Int) < 0)) = e := ⟨_, rfl⟩
              refine WpL_guard_any (oj := _) (gv := (bif e49 then undef else (.bool e50))) (u := (bif e49 then undef else (bif e50 then (.bool e51) else undef))) rfl rfl (by decide) (by decide) rfl (by cases e49 <;> cases e50 <;> first | exact Or.inr ⟨Or.inl rfl, rfl⟩ | exact Or.inr ⟨Or.inr rfl, rfl⟩ | exact Or.inl ⟨rfl, (r_lss (k := .i64) (a := t.mn) (b := 0) rfl rfl).trans (by rw [he51]; try rfl)⟩) ?_
              refine WpL_guard_any (oj := _) (gv := (bif e49 then undef else (.bool e50))) (u := (bif e49 then undef else (bif e50 then (.bool e51) else undef))) rfl rfl (by decide) (by decide) rfl (by cases e49 <;> cases e50 <;> first | exact Or.inr ⟨Or.inl rfl, rfl⟩ | exact Or.inr ⟨Or.inr rfl, rfl⟩ | exact Or.inl ⟨rfl, r_move (v := (.bool e51)) rfl⟩) ?_
              refine WpL_guard_any (oj := _) (gv := (bif e49 then undef else (bif e50 then (.bool e51) else undef))) (u := (bif e49 then undef else (bif e50 then (bif e51 then undef else (.pointer (some ⟨b1, 3, none⟩))) else undef))) rfl rfl (by decide) (by decide) rfl (by cases e49 <;> cases e50 <;> cases e51 <;> first | exact Or.inr ⟨Or.inl rfl, rfl⟩ | exact Or.inr ⟨Or.inr rfl, rfl⟩ | exact Or.inl ⟨rfl, r_fieldAddr (b := b1) (o := 0) (o' := 3) rfl Try.underlying25 rfl siz3 rfl⟩) ?_
              refine WpL_guard_any (oj := _) (gv := (bif e49 then undef else (bif e50 then (.bool e51) else undef))) (u := (bif e49 then undef else (bif e50 then (bif e51 then undef else (.int .i64 t.mn)) else undef))) rfl rfl (by decide) (by decide) rfl (by cases e49 <;> cases e50 <;> cases e51 <;> first | exact Or.inr ⟨Or.inl rfl, rfl⟩ | exact Or.inr ⟨Or.inr rfl, rfl⟩ | exact Or.inl ⟨rfl, r_load (v := (.int .i64 t.mn)) rfl flat3 (B1.cell rfl)⟩) ?_
              obtain ⟨e52, he52⟩ : ∃ e, (decide ((9 : Int) < t.mn)) = e := ⟨_, rfl⟩
              refine WpL_guard_any (oj := _) (gv := (bif e49 then undef else (bif e50 then (.bool e51) else undef))) (u := (bif e49 then undef else (bif e50 then (bif e51 then undef else (.bool e52)) else undef))) rfl rfl (by decide) (by decide) rfl (by cases e49 <;> cases e50 <;> cases e51 <;> first | exact Or.inr ⟨Or.inl rfl, rfl⟩ | exact Or.inr ⟨Or.inr rfl, rfl⟩ | exact Or.inl ⟨rfl, (r_gtr (k := .i64) (a := t.mn) (b := 9) rfl rfl).trans (by rw [he52]; try rfl)⟩) ?_
              obtain ⟨e53, he53⟩ : ∃ e, (e51 || e52) = e := ⟨_, rfl⟩
              refine WpL_guard_any (oj := _) (gv := (bif e49 then undef else (.bool e50))) (u := (bif e49 then undef else (bif e50 then (.bool e53) else undef))) rfl rfl (by decide) (by decide) rfl (by cases e49 <;> cases e50 <;> first | exact Or.inr ⟨Or.inl rfl, rfl⟩ | exact Or.inr ⟨Or.inr rfl, rfl⟩ | exact Or.inl ⟨rfl, r_pick (b := e51) (v := .bool e53) rfl (by rw [← he53]; cases e51 <;> rfl)⟩) ?_
              obtain ⟨e54, he54⟩ : ∃ e, (e50 && e53) = e := ⟨_, rfl⟩
              refine WpL_guard_any (oj := _) (gv := (.bool e49)) (u := (bif e49 then undef else (.bool e54))) rfl rfl (by decide) (by decide) rfl (by cases e49 <;> first | exact Or.inr ⟨Or.inl rfl, rfl⟩ | exact Or.inr ⟨Or.inr rfl, rfl⟩ | exact Or.inl ⟨rfl, r_pick (b := e50) (v := .bool e54) rfl (by rw [← he54]; cases e50 <;> rfl)⟩) ?_
              obtain ⟨e55, he55⟩ : ∃ e, (e49 || e54) = e := ⟨_, rfl⟩
              refine WpL_val rfl rfl (by decide) (r_pick (b := e49) (v := .bool e55) rfl (by rw [← he55]; cases e49 <;> rfl)) ?_
              refine WpL_nil ?_
              subst he55
              subst he54
              subst he53
              subst he52
              subst he51
              subst he50
              subst he49
              subst he48
              subst he47
              subst he46
              subst he45
              subst he44
              subst he43
              refine Wp_cond (b := (((decide ((t.kind : Int) = 6)) && (((decide ((t.mn : Int) < 0)) || (decide ((8 : Int) < t.mx))) || (decide ((t.mx : Int) < t.mn)))) || ((decide ((t.kind : Int) = 9)) && ((decide ((t.mn : Int) < 0)) || (decide ((9 : Int) < t.mn)))))) rfl (fun h6 => ?_) (fun h6 => ?_)
              · have kh6 := h6
                simp at h6
                refine Wp_seq_region ?_
                refine WpL_val rfl rfl (by decide) (r_assign (v := (.int .i64 1)) rfl) ?_
                refine WpL_nil ?_
                refine Wp_ret ?_
                refine thn_ret ?_
                refine fin_tmp Try.results17 (v := (.int .i64 1)) rfl ?_
                exact ⟨int_eq (by by_cases h66 : t.kind = 6; rw [if_pos h66, if_pos (by omega)]; rw [if_neg h66, if_pos (by omega), if_pos (by omega)]), E⟩
              · have kh6 := h6
                simp at h6
                refine Wp_skip ?_
                refine thn_normal ?_
                refine Wp_seq_region ?_
                refine WpL_val rfl rfl (by decide) (r_assign (v := (.int .i64 0)) rfl) ?_
                refine WpL_nil ?_
                refine Wp_ret ?_
                refine fin_tmp Try.results17 (v := (.int .i64 0)) rfl ?_
                exact ⟨int_eq (by by_cases h66 : t.kind = 6; rw [if_pos h66, if_neg (by omega)]; rw [if_neg h66]; by_cases h9 : t.kind = 9; rw [if_pos h9, if_neg (by omega)]; rw [if_neg h9]), E⟩
      · have khg7 := hg7
        replace khg7 := of_decide_eq_false khg7
        have hoB : okB t.kind t.args.length = true := by rw [form_need (by omega) (by omega)]; simp; omega
        refine WpL_guard_no (oj := _) rfl rfl (by decide) (v := .bool false) (congrArg Value.bool hg7) (Or.inl rfl) ?_
        refine WpL_guard_no (oj := _) rfl rfl (by decide) (v := .bool false) (congrArg Value.bool hg7) (Or.inl rfl) ?_
        refine WpL_guard_no (oj := _) rfl rfl (by decide) (v := .bool false) (congrArg Value.bool hg7) (Or.inl rfl) ?_
        refine WpL_guard_no (oj := _) rfl rfl (by decide) (v := .bool false) (congrArg Value.bool hg7) (Or.inl rfl) ?_
        refine WpL_guard_no (oj := _) rfl rfl (by decide) (v := .bool false) (congrArg Value.bool hg7) (Or.inl rfl) ?_
        refine WpL_guard_yes (oj := _) rfl rfl (by decide) (congrArg Value.bool hg6) ?_
        refine WpL_val rfl rfl (by decide) (r_pick (b := decide ((needF t.kind : Int) < 2)) (v := (.bool false)) rfl (by rw [hg7]; rfl)) ?_
        refine WpL_val rfl rfl (by decide) (r_pick (b := decide ((((t.args.length : Nat) : Int) : Int) < needF t.kind)) (v := (.bool false)) rfl (by rw [hg6]; rfl)) ?_
        refine WpL_nil ?_
        refine Wp_cond_false rfl ?_
        refine Wp_skip ?_
        refine thn_normal ?_
        refine Wp_seq ?_
        refine Wp_seq_region ?_
        refine WpL_val rfl rfl (by decide) (r_fieldAddr (b := b1) (o := 0) (o' := 0) rfl Try.underlying25 rfl siz3 rfl) ?_
        refine WpL_val rfl rfl (by decide) (r_load (v := (.int .i64 t.kind)) rfl flat3 (B1.cell rfl)) ?_
        obtain ⟨e57, he57⟩ : ∃ e, (decide ((t.kind : Int) ≠ 2)) = e := ⟨_, rfl⟩
        refine WpL_val rfl rfl (by decide) ((r_neq (k := .i64) (a := t.kind) (b := 2) rfl rfl).trans (by rw [he57]; try rfl)) ?_
        refine WpL_val rfl rfl (by decide) (r_move (v := (.bool e57)) rfl) ?_
        refine WpL_guard_any (oj := _) (gv := (.bool e57)) (u := (bif e57 then (.pointer (some ⟨b1, 1, none⟩)) else undef)) rfl rfl (by decide) (by decide) rfl (by cases e57 <;> first | exact Or.inr ⟨Or.inl rfl, rfl⟩ | exact Or.inr ⟨Or.inr rfl, rfl⟩ | exact Or.inl ⟨rfl, r_fieldAddr (b := b1) (o := 0) (o' := 1) rfl Try.underlying25 rfl siz22 rfl⟩) ?_
        refine WpL_guard_any (oj := _) (gv := (.bool e57)) (u := (bif e57 then (.slice sa t.set.length sc) else undef)) rfl rfl (by decide) (by decide) rfl (by cases e57 <;> first | exact Or.inr ⟨Or.inl rfl, rfl⟩ | exact Or.inr ⟨Or.inr rfl, rfl⟩ | exact Or.inl ⟨rfl, r_load (v := (.slice sa t.set.length sc)) rfl flat22 (B1.cell rfl)⟩) ?_
        refine WpL_guard_any (oj := _) (gv := (.bool e57)) (u := (bif e57 then (.int .i64 ((t.set.length : Nat) : Int)) else undef)) rfl rfl (by decide) (by decide) rfl (by cases e57 <;> first | exact Or.inr ⟨Or.inl rfl, rfl⟩ | exact Or.inr ⟨Or.inr rfl, rfl⟩ | exact Or.inl ⟨rfl, r_lenSlice (ad := sa) (n := t.set.length) (cap := sc) Try.underlying22 rfl⟩) ?_
        obtain ⟨e58, he58⟩ : ∃ e, (decide ((0 : Int) < ((t.set.length : Nat) : Int))) = e := ⟨_, rfl⟩
        refine WpL_guard_any (oj := _) (gv := (.bool e57)) (u := (bif e57 then (.bool e58) else undef)) rfl rfl (by decide) (by decide) rfl (by cases e57 <;> first | exact Or.inr ⟨Or.inl rfl, rfl⟩ | exact Or.inr ⟨Or.inr rfl, rfl⟩ | exact Or.inl ⟨rfl, (r_gtr (k := .i64) (a := ((t.set.length : Nat) : Int)) (b := 0) rfl rfl).trans (by rw [he58]; try rfl)⟩) ?_
        obtain ⟨e59, he59⟩ : ∃ e, (e57 && e58) = e := ⟨_, rfl⟩
        refine WpL_val rfl rfl (by decide) (r_pick (b := e57) (v := .bool e59) rfl (by rw [← he59]; cases e57 <;> rfl)) ?_
        refine WpL_val rfl rfl (by decide) (r_move (v := (.bool e59)) rfl) ?_
        refine WpL_guard_any (oj := _) (gv := (.bool e59)) (u := (bif e59 then undef else (.pointer (some ⟨b1, 0, none⟩)))) rfl rfl (by decide) (by decide) rfl (by cases e59 <;> first | exact Or.inr ⟨Or.inl rfl, rfl⟩ | exact Or.inr ⟨Or.inr rfl, rfl⟩ | exact Or.inl ⟨rfl, r_fieldAddr (b := b1) (o := 0) (o' := 0) rfl Try.underlying25 rfl siz3 rfl⟩) ?_
        refine WpL_guard_any (oj := _) (gv := (.bool e59)) (u := (bif e59 then undef else (.int .i64 t.kind))) rfl rfl (by decide) (by decide) rfl (by cases e59 <;> first | exact Or.inr ⟨Or.inl rfl, rfl⟩ | exact Or.inr ⟨Or.inr rfl, rfl⟩ | exact Or.inl ⟨rfl, r_load (v := (.int .i64 t.kind)) rfl flat3 (B1.cell rfl)⟩) ?_
        obtain ⟨e60, he60⟩ : ∃ e, (decide ((t.kind : Int) ≠ 6)) = e := ⟨_, rfl⟩
        refine WpL_guard_any (oj := _) (gv := (.bool e59)) (u := (bif e59 then undef else (.bool e60))) rfl rfl (by decide) (by decide) rfl (by cases e59 <;> first | exact Or.inr ⟨Or.inl rfl, rfl⟩ | exact Or.inr ⟨Or.inr rfl, rfl⟩ | exact Or.inl ⟨rfl, (r_neq (k := .i64) (a := t.kind) (b := 6) rfl rfl).trans (by rw [he60]; try rfl)⟩) ?_
        refine WpL_guard_any (oj := _) (gv := (.bool e59)) (u := (bif e59 then undef else (.bool e60))) rfl rfl (by decide) (by decide) rfl (by cases e59 <;> first | exact Or.inr ⟨Or.inl rfl, rfl⟩ | exact Or.inr ⟨Or.inr rfl, rfl⟩ | exact Or.inl ⟨rfl, r_move (v := (.bool e60)) rfl⟩) ?_
        refine WpL_guard_any (oj := _) (gv := (bif e59 then undef else (.bool e60))) (u := (bif e59 then undef else (bif e60 then (.pointer (some ⟨b1, 4, none⟩)) else undef))) rfl rfl (by decide) (by decide) rfl (by cases e59 <;> cases e60 <;> first | exact Or.inr ⟨Or.inl rfl, rfl⟩ | exact Or.inr ⟨Or.inr rfl, rfl⟩ | exact Or.inl ⟨rfl, r_fieldAddr (b := b1) (o := 0) (o' := 4) rfl Try.underlying25 rfl siz3 rfl⟩) ?_
        refine WpL_guard_any (oj := _) (gv := (bif e59 then undef else (.bool e60))) (u := (bif e59 then undef else (bif e60 then (.int .i64 t.mx) else undef))) rfl rfl (by decide) (by decide) rfl (by cases e59 <;> cases e60 <;> first | exact Or.inr ⟨Or.inl rfl, rfl⟩ | exact Or.inr ⟨Or.inr rfl, rfl⟩ | exact Or.inl ⟨rfl, r_load (v := (.int .i64 t.mx)) rfl flat3 (B1.cell rfl)⟩) ?_
        obtain ⟨e61, he61⟩ : ∃ e, (decide ((t.mx : Int) ≠ 0)) = e := ⟨_, rfl⟩
        refine WpL_guard_any (oj := _) (gv := (bif e59 then undef else (.bool e60))) (u := (bif e59 then undef else (bif e60 then (.bool e61) else undef))) rfl rfl (by decide) (by decide) rfl (by cases e59 <;> cases e60 <;> first | exact Or.inr ⟨Or.inl rfl, rfl⟩ | exact Or.inr ⟨Or.inr rfl, rfl⟩ | exact Or.inl ⟨rfl, (r_neq (k := .i64) (a := t.mx) (b := 0) rfl rfl).trans (by rw [he61]; try rfl)⟩) ?_
        obtain ⟨e62, he62⟩ : ∃ e, (e60 && e61) = e := ⟨_, rfl⟩
        refine WpL_guard_any (oj := _) (gv := (.bool e59)) (u := (bif e59 then undef else (.bool e62))) rfl rfl (by decide) (by decide) rfl (by cases e59 <;> first | exact Or.inr ⟨Or.inl rfl, rfl⟩ | exact Or.inr ⟨Or.inr rfl, rfl⟩ | exact Or.inl ⟨rfl, r_pick (b := e60) (v := .bool e62) rfl (by rw [← he62]; cases e60 <;> rfl)⟩) ?_
        obtain ⟨e63, he63⟩ : ∃ e, (e59 || e62) = e := ⟨_, rfl⟩
        refine WpL_val rfl rfl (by decide) (r_pick (b := e59) (v := .bool e63) rfl (by rw [← he63]; cases e59 <;> rfl)) ?_
        refine WpL_val rfl rfl (by decide) (r_move (v := (.bool e63)) rfl) ?_
        refine WpL_guard_any (oj := _) (gv := (.bool e63)) (u := (bif e63 then undef else (.pointer (some ⟨b1, 0, none⟩)))) rfl rfl (by decide) (by decide) rfl (by cases e63 <;> first | exact Or.inr ⟨Or.inl rfl, rfl⟩ | exact Or.inr ⟨Or.inr rfl, rfl⟩ | exact Or.inl ⟨rfl, r_fieldAddr (b := b1) (o := 0) (o' := 0) rfl Try.underlying25 rfl siz3 rfl⟩) ?_
        refine WpL_guard_any (oj := _) (gv := (.bool e63)) (u := (bif e63 then undef else (.int .i64 t.kind))) rfl rfl (by decide) (by decide) rfl (by cases e63 <;> first | exact Or.inr ⟨Or.inl rfl, rfl⟩ | exact Or.inr ⟨Or.inr rfl, rfl⟩ | exact Or.inl ⟨rfl, r_load (v := (.int .i64 t.kind)) rfl flat3 (B1.cell rfl)⟩) ?_
        obtain ⟨e64, he64⟩ : ∃ e, (decide ((t.kind : Int) ≠ 6)) = e := ⟨_, rfl⟩
        refine WpL_guard_any (oj := _) (gv := (.bool e63)) (u := (bif e63 then undef else (.bool e64))) rfl rfl (by decide) (by decide) rfl (by cases e63 <;> first | exact Or.inr ⟨Or.inl rfl, rfl⟩ | exact Or.inr ⟨Or.inr rfl, rfl⟩ | exact Or.inl ⟨rfl, (r_neq (k := .i64) (a := t.kind) (b := 6) rfl rfl).trans (by rw [he64]; try rfl)⟩) ?_
        refine WpL_guard_any (oj := _) (gv := (.bool e63)) (u := (bif e63 then undef else (.bool e64))) rfl rfl (by decide) (by decide) rfl (by cases e63 <;> first | exact Or.inr ⟨Or.inl rfl, rfl⟩ | exact Or.inr ⟨Or.inr rfl, rfl⟩ | exact Or.inl ⟨rfl, r_move (v := (.bool e64)) rfl⟩) ?_
        refine WpL_guard_any (oj := _) (gv := (bif e63 then undef else (.bool e64))) (u := (bif e63 then undef else (bif e64 then (.pointer (some ⟨b1, 0, none⟩)) else undef))) rfl rfl (by decide) (by decide) rfl (by cases e63 <;> cases e64 <;> first | exact Or.inr ⟨Or.inl rfl, rfl⟩ | exact Or.inr ⟨Or.inr rfl, rfl⟩ | exact Or.inl ⟨rfl, r_fieldAddr (b := b1) (o := 0) (o' := 0) rfl Try.underlying25 rfl siz3 rfl⟩) ?_
        refine WpL_guard_any (oj := _) (gv := (bif e63 then undef else (.bool e64))) (u := (bif e63 then undef else (bif e64 then (.int .i64 t.kind) else undef))) rfl rfl (by decide) (by decide) rfl (by cases e63 <;> cases e64 <;> first | exact Or.inr ⟨Or.inl rfl, rfl⟩ | exact Or.inr ⟨Or.inr rfl, rfl⟩ | exact Or.inl ⟨rfl, r_load (v := (.int .i64 t.kind)) rfl flat3 (B1.cell rfl)⟩) ?_
        obtain ⟨e65, he65⟩ : ∃ e, (decide ((t.kind : Int) ≠ 9)) = e := ⟨_, rfl⟩
        refine WpL_guard_any (oj := _) (gv := (bif e63 then undef else (.bool e64))) (u := (bif e63 then undef else (bif e64 then (.bool e65) else undef))) rfl rfl (by decide) (by decide) rfl (by cases e63 <;> cases e64 <;> first | exact Or.inr ⟨Or.inl rfl, rfl⟩ | exact Or.inr ⟨Or.inr rfl, rfl⟩ | exact Or.inl ⟨rfl, (r_neq (k := .i64) (a := t.kind) (b := 9) rfl rfl).trans (by rw [he65]; try rfl)⟩) ?_
        obtain ⟨e66, he66⟩ : ∃ e, (e64 && e65) = e := ⟨_, rfl⟩
        refine WpL_guard_any (oj := _) (gv := (.bool e63)) (u := (bif e63 then undef else (.bool e66))) rfl rfl (by decide) (by decide) rfl (by cases e63 <;> first | exact Or.inr ⟨Or.inl rfl, rfl⟩ | exact Or.inr ⟨Or.inr rfl, rfl⟩ | exact Or.inl ⟨rfl, r_pick (b := e64) (v := .bool e66) rfl (by rw [← he66]; cases e64 <;> rfl)⟩) ?_
        refine WpL_guard_any (oj := _) (gv := (.bool e63)) (u := (bif e63 then undef else (.bool e66))) rfl rfl (by decide) (by decide) rfl (by cases e63 <;> first | exact Or.inr ⟨Or.inl rfl, rfl⟩ | exact Or.inr ⟨Or.inr rfl, rfl⟩ | exact Or.inl ⟨rfl, r_move (v := (.bool e66)) rfl⟩) ?_
        refine WpL_guard_any (oj := _) (gv := (bif e63 then undef else (.bool e66))) (u := (bif e63 then undef else (bif e66 then (.pointer (some ⟨b1, 3, none⟩)) else undef))) rfl rfl (by decide) (by decide) rfl (by cases e63 <;> cases e66 <;> first | exact Or.inr ⟨Or.inl rfl, rfl⟩ | exact Or.inr ⟨Or.inr rfl, rfl⟩ | exact Or.inl ⟨rfl, r_fieldAddr (b := b1) (o := 0) (o' := 3) rfl Try.underlying25 rfl siz3 rfl⟩) ?_
        refine WpL_guard_any (oj := _) (gv := (bif e63 then undef else (.bool e66))) (u := (bif e63 then undef else (bif e66 then (.int .i64 t.mn) else undef))) rfl rfl (by decide) (by decide) rfl (by cases e63 <;> cases e66 <;> first | exact Or.inr ⟨Or.inl rfl, rfl⟩ | exact Or.inr ⟨Or.inr rfl, rfl⟩ | exact Or.inl ⟨rfl, r_load (v := (.int .i64 t.mn)) rfl flat3 (B1.cell rfl)⟩) ?_
        obtain ⟨e67, he67⟩ : ∃ e, (decide ((t.mn : Int) ≠ 0)) = e := ⟨_, rfl⟩
        refine WpL_guard_any (oj := _) (gv := (bif e63 then undef else (.bool e66))) (u := (bif e63 then undef else (bif e66 then (.bool e67) else undef))) rfl rfl (by decide) (by decide) rfl (by cases e63 <;> cases e66 <;> first | exact Or.inr ⟨Or.inl rfl, rfl⟩ | exact Or.inr ⟨Or.inr rfl, rfl⟩ | exact Or.inl ⟨rfl, (r_neq (k := .i64) (a := t.mn) (b := 0) rfl rfl).trans (by rw [he67]; try rfl)⟩) ?_
        obtain ⟨e68, he68⟩ : ∃ e, (e66 && e67) = e := ⟨_, rfl⟩
        refine WpL_guard_any (oj := _) (gv := (.bool e63)) (u := (bif e63 then undef else (.bool e68))) rfl rfl (by decide) (by decide) rfl (by cases e63 <;> first | exact Or.inr ⟨Or.inl rfl, rfl⟩ | exact Or.inr ⟨Or.inr rfl, rfl⟩ | exact Or.inl ⟨rfl, r_pick (b := e66) (v := .bool e68) rfl (by rw [← he68]; cases e66 <;> rfl)⟩) ?_
        obtain ⟨e69, he69⟩ : ∃ e, (e63 || e68) = e := ⟨_, rfl⟩
        refine WpL_val rfl rfl (by decide) (r_pick (b := e63) (v := .bool e69) rfl (by rw [← he69]; cases e63 <;> rfl)) ?_
        refine WpL_val rfl rfl (by decide) (r_move (v := (.bool e69)) rfl) ?_
        refine WpL_guard_any (oj := _) (gv := (.bool e69)) (u := (bif e69 then undef else (.pointer (some ⟨b1, 0, none⟩)))) rfl rfl (by decide) (by decide) rfl (by cases e69 <;> first | exact Or.inr ⟨Or.inl rfl, rfl⟩ | exact Or.inr ⟨Or.inr rfl, rfl⟩ | exact Or.inl ⟨rfl, r_fieldAddr (b := b1) (o := 0) (o' := 0) rfl Try.underlying25 rfl siz3 rfl⟩) ?_
        refine WpL_guard_any (oj := _) (gv := (.bool e69)) (u := (bif e69 then undef else (.int .i64 t.kind))) rfl rfl (by decide) (by decide) rfl (by cases e69 <;> first | exact Or.inr ⟨Or.inl rfl, rfl⟩ | exact Or.inr ⟨Or.inr rfl, rfl⟩ | exact Or.inl ⟨rfl, r_load (v := (.int .i64 t.kind)) rfl flat3 (B1.cell rfl)⟩) ?_
        obtain ⟨e70, he70⟩ : ∃ e, (decide ((t.kind : Int) ≠ 10)) = e := ⟨_, rfl⟩
        refine WpL_guard_any (oj := _) (gv := (.bool e69)) (u := (bif e69 then undef else (.bool e70))) rfl rfl (by decide) (by decide) rfl (by cases e69 <;> first | exact Or.inr ⟨Or.inl rfl, rfl⟩ | exact Or.inr ⟨Or.inr rfl, rfl⟩ | exact Or.inl ⟨rfl, (r_neq (k := .i64) (a := t.kind) (b := 10) rfl rfl).trans (by rw [he70]; try rfl)⟩) ?_
        refine WpL_guard_any (oj := _) (gv := (.bool e69)) (u := (bif e69 then undef else (.bool e70))) rfl rfl (by decide) (by decide) rfl (by cases e69 <;> first | exact Or.inr ⟨Or.inl rfl, rfl⟩ | exact Or.inr ⟨Or.inr rfl, rfl⟩ | exact Or.inl ⟨rfl, r_move (v := (.bool e70)) rfl⟩) ?_
        refine WpL_guard_any (oj := _) (gv := (bif e69 then undef else (.bool e70))) (u := (bif e69 then undef else (bif e70 then (.pointer (some ⟨b1, 5, none⟩)) else undef))) rfl rfl (by decide) (by decide) rfl (by cases e69 <;> cases e70 <;> first | exact Or.inr ⟨Or.inl rfl, rfl⟩ | exact Or.inr ⟨Or.inr rfl, rfl⟩ | exact Or.inl ⟨rfl, r_fieldAddr (b := b1) (o := 0) (o' := 5) rfl Try.underlying25 rfl siz4 rfl⟩) ?_
        refine WpL_guard_any (oj := _) (gv := (bif e69 then undef else (.bool e70))) (u := (bif e69 then undef else (bif e70 then (.bool t.neg) else undef))) rfl rfl (by decide) (by decide) rfl (by cases e69 <;> cases e70 <;> first | exact Or.inr ⟨Or.inl rfl, rfl⟩ | exact Or.inr ⟨Or.inr rfl, rfl⟩ | exact Or.inl ⟨rfl, r_load (v := (.bool t.neg)) rfl flat4 (B1.cell rfl)⟩) ?_
        obtain ⟨e71, he71⟩ : ∃ e, (e70 && t.neg) = e := ⟨_, rfl⟩
        refine WpL_guard_any (oj := _) (gv := (.bool e69)) (u := (bif e69 then undef else (.bool e71))) rfl rfl (by decide) (by decide) rfl (by cases e69 <;> first | exact Or.inr ⟨Or.inl rfl, rfl⟩ | exact Or.inr ⟨Or.inr rfl, rfl⟩ | exact Or.inl ⟨rfl, r_pick (b := e70) (v := .bool e71) rfl (by rw [← he71]; cases e70 <;> rfl)⟩) ?_
        obtain ⟨e72, he72⟩ : ∃ e, (e69 || e71) = e := ⟨_, rfl⟩
        refine WpL_val rfl rfl (by decide) (r_pick (b := e69) (v := .bool e72) rfl (by rw [← he72]; cases e69 <;> rfl)) ?_
        refine WpL_nil ?_
        subst he72
        subst he71
        subst he70
        subst he69
        subst he68
        subst he67
        subst he66
        subst he65
        subst he64
        subst he63
        subst he62
        subst he61
        subst he60
        subst he59
        subst he58
        subst he57
        refine Wp_cond (b := (((((decide ((t.kind : Int) ≠ 2)) && (decide ((0 : Int) < ((t.set.length : Nat) : Int)))) || ((decide ((t.kind : Int) ≠ 6)) && (decide ((t.mx : Int) ≠ 0)))) || (((decide ((t.kind : Int) ≠ 6)) && (decide ((t.kind : Int) ≠ 9))) && (decide ((t.mn : Int) ≠ 0)))) || ((decide ((t.kind : Int) ≠ 10)) && t.neg))) rfl (fun hf => ?_) (fun hf => ?_)
        · have khf := hf
          have hfB : formB t = false := by rw [← Bool.not_eq_true]; intro h; unfold formB at h; generalize t.set.length = sl at h hf; cases hng : t.neg <;> simp [hng] at h hf <;> omega
          refine Wp_seq_region ?_
          refine WpL_val rfl rfl (by decide) (r_assign (v := (.int .i64 3)) rfl) ?_
          refine WpL_nil ?_
          refine Wp_ret ?_
          refine thn_ret ?_
          refine fin_tmp Try.results17 (v := (.int .i64 3)) rfl ?_
          exact ⟨int_eq (by unfold nodeE; rw [if_neg (by omega), if_pos hfB]), E⟩
        · have khf := hf
          have hfB : formB t = true := by unfold formB; rw [hoB]; generalize t.set.length = sl at hf; cases hng : t.neg <;> simp [hng] at hf ⊢ <;> omega
          have hN : nodeE t = if t.kind = 2 then (if checkE t.set ≠ 0 then checkE t.set else if (t.set.length : Int) = 0 then 3 else 0) else if t.kind = 6 then (if t.mn < 0 ∨ t.mx < t.mn ∨ 8 < t.mx then 1 else 0) else if t.kind = 9 then (if t.mn < 0 ∨ 9 < t.mn then 1 else 0) else 0 := by unfold nodeE; rw [if_neg (by omega), if_neg (by simp [hfB])]
          rw [hN]
          refine Wp_skip ?_
          refine thn_normal ?_
          refine Wp_seq ?_
          refine Wp_seq_region ?_
          refine WpL_val rfl rfl (by decide) (r_fieldAddr (b := b1) (o := 0) (o' := 0) rfl Try.underlying25 rfl siz3 rfl) ?_
          refine WpL_val rfl rfl (by decide) (r_load (v := (.int .i64 t.kind)) rfl flat3 (B1.cell rfl)) ?_
          refine WpL_val rfl rfl (by decide) (r_eql (k := .i64) (a := t.kind) (b := 2) rfl rfl) ?_
          refine WpL_nil ?_
          refine Wp_cond (b := decide ((t.kind : Int) = 2)) rfl (fun h2 => ?_) (fun h2 => ?_)
          · have kh2 := h2
            replace h2 := of_decide_eq_true h2
            rw [if_pos h2]
            refine Wp_seq ?_
            refine Wp_seq_region ?_
            refine WpL_val rfl rfl (by decide) (r_fieldAddr (b := b1) (o := 0) (o' := 1) rfl Try.underlying25 rfl siz22 rfl) ?_
            refine WpL_val rfl rfl (by decide) (r_load (v := (.slice sa t.set.length sc)) rfl flat22 (B1.cell rfl)) ?_
            refine WpL_enter rfl rfl (by decide) (r_callF (vs := [(.slice sa t.set.length sc)]) Try.func30 nm30 bd30 rfl) (cset_c _ _ t.set ((hset.ext hE).ext E)) ?_
            rintro _ w10 ⟨rfl, X10⟩
            replace B1 := X10.keep B1
            replace E := E.ext X10
            refine WpL_val rfl rfl (by decide) (r_assign (v := (.int .i64 (checkE t.set))) rfl) ?_
            refine WpL_nil ?_
            refine Wp_seq_region ?_
            refine WpL_val rfl rfl (by decide) (r_move (v := (.int .i64 (checkE t.set))) rfl) ?_
            refine WpL_val rfl rfl (by decide) (r_neq (k := .i64) (a := checkE t.set) (b := 0) rfl rfl) ?_
            refine WpL_nil ?_
            refine Wp_cond (b := decide ((checkE t.set : Int) ≠ 0)) rfl (fun h3 => ?_) (fun h3 => ?_)
            · have kh3 := h3
              replace h3 := of_decide_eq_true h3
              refine Wp_seq_region ?_
              refine WpL_val rfl rfl (by decide) (r_move (v := (.int .i64 (checkE t.set))) rfl) ?_
              refine WpL_val rfl rfl (by decide) (r_assign (v := (.int .i64 (checkE t.set))) rfl) ?_
              refine WpL_nil ?_
              refine Wp_ret ?_
              refine thn_ret ?_
              refine thn_ret ?_
              refine fin_tmp Try.results17 (v := (.int .i64 (checkE t.set))) rfl ?_
              exact ⟨int_eq (by rw [if_pos h3]), E⟩
            · have kh3 := h3
              replace h3 := of_decide_eq_false h3
              rw [if_neg h3]
              refine Wp_skip ?_
              refine thn_normal ?_
              refine Wp_seq_region ?_
              refine WpL_val rfl rfl (by decide) (r_fieldAddr (b := b1) (o := 0) (o' := 1) rfl Try.underlying25 rfl siz22 rfl) ?_
              refine WpL_val rfl rfl (by decide) (r_load (v := (.slice sa t.set.length sc)) rfl flat22 (B1.cell rfl)) ?_
              refine WpL_val rfl rfl (by decide) (r_lenSlice (ad := sa) (n := t.set.length) (cap := sc) Try.underlying22 rfl) ?_
              refine WpL_val rfl rfl (by decide) (r_eql (k := .i64) (a := ((t.set.length : Nat) : Int)) (b := 0) rfl rfl) ?_
              refine WpL_nil ?_
              refine Wp_cond (b := decide ((((t.set.length : Nat) : Int) : Int) = 0)) rfl (fun h4 => ?_) (fun h4 => ?_)
              · have kh4 := h4
                replace h4 := of_decide_eq_true h4
                refine Wp_seq_region ?_
                refine WpL_val rfl rfl (by decide) (r_assign (v := (.int .i64 3)) rfl) ?_
                refine WpL_nil ?_
                refine Wp_ret ?_
                refine thn_ret ?_
                refine fin_tmp Try.results17 (v := (.int .i64 3)) rfl ?_
                exact ⟨int_eq (by rw [if_pos h4]), E⟩
              · have kh4 := h4
                replace h4 := of_decide_eq_false h4
                rw [if_neg h4]
                refine Wp_skip ?_
                refine thn_normal ?_
                refine Wp_seq ?_
                refine Wp_seq_region ?_
                refine WpL_val rfl rfl (by decide) (r_fieldAddr (b := b1) (o := 0) (o' := 0) rfl Try.underlying25 rfl siz3 rfl) ?_
                refine WpL_val rfl rfl (by decide) (r_load (v := (.int .i64 t.kind)) rfl flat3 (B1.cell rfl)) ?_
                obtain ⟨e77, he77⟩ : ∃ e, (decide ((t.kind : Int) = 6)) = e := ⟨_, rfl⟩
                refine WpL_val rfl rfl (by decide) ((r_eql (k := .i64) (a := t.kind) (b := 6) rfl rfl).trans (by rw [he77]; try rfl)) ?_
                refine WpL_val rfl rfl (by decide) (r_move (v := (.bool e77)) rfl) ?_
                refine WpL_guard_any (oj := _) (gv := (.bool e77)) (u := (bif e77 then (.pointer (some ⟨b1, 3, none⟩)) else undef)) rfl rfl (by decide) (by decide) rfl (by cases e77 <;> first | exact Or.inr ⟨Or.inl rfl, rfl⟩ | exact Or.inr ⟨Or.inr rfl, rfl⟩ | exact Or.inl ⟨rfl, r_fieldAddr (b := b1) (o := 0) (o' := 3) rfl Try.underlying25 rfl siz3 rfl⟩) ?_
                refine WpL_guard_any (oj := _) (gv := (.bool e77)) (u := (bif e77 then (.int .i64 t.mn) else undef)) rfl rfl (by decide) (by decide) rfl (by cases e77 <;> first | exact Or.inr ⟨Or.inl rfl, rfl⟩ | exact Or.inr ⟨Or.inr rfl, rfl⟩ | exact Or.inl ⟨rfl, r_load (v := (.int .i64 t.mn)) rfl flat3 (B1.cell rfl)⟩) ?_
                obtain ⟨e78, he78⟩ : ∃ e, (decide ((t.mn : Int) < 0)) = e := ⟨_, rfl⟩
                refine WpL_guard_any (oj := _) (gv := (.bool e77)) (u := (bif e77 then (.bool e78) else undef)) rfl rfl (by decide) (by decide) rfl (by cases e77 <;> first | exact Or.inr ⟨Or.inl rfl, rfl⟩ | exact Or.inr ⟨Or.inr rfl, rfl⟩ | exact Or.inl ⟨rfl, (r_lss (k := .i64) (a := t.mn) (b := 0) rfl rfl).trans (by rw [he78]; try rfl)⟩) ?_
                refine WpL_guard_any (oj := _) (gv := (.bool e77)) (u := (bif e77 then (.bool e78) else undef)) rfl rfl (by decide) (by decide) rfl (by cases e77 <;> first | exact Or.inr ⟨Or.inl rfl, rfl⟩ | exact Or.inr ⟨Or.inr rfl, rfl⟩ | exact Or.inl ⟨rfl, r_move (v := (.bool e78)) rfl⟩) ?_
                refine WpL_guard_any (oj := _) (gv := (bif e77 then (.bool e78) else undef)) (u := (bif e77 then (bif e78 then undef else (.pointer (some ⟨b1, 4, none⟩))) else undef)) rfl rfl (by decide) (by decide) rfl (by cases e77 <;> cases e78 <;> first | exact Or.inr ⟨Or.inl rfl, rfl⟩ | exact Or.inr ⟨Or.inr rfl, rfl⟩ | exact Or.inl ⟨rfl, r_fieldAddr (b := b1) (o := 0) (o' := 4) rfl Try.underlying25 rfl siz3 rfl⟩) ?_
                refine WpL_guard_any (oj := _) (gv := (bif e77 then (.bool e78) else undef)) (u := (bif e77 then (bif e78 then undef else (.int .i64 t.mx)) else undef)) rfl rfl (by decide) (by decide) rfl (by cases e77 <;> cases e78 <;> first | exact Or.inr ⟨Or.inl rfl, rfl⟩ | exact Or.inr ⟨Or.inr rfl, rfl⟩ | exact Or.inl ⟨rfl, r_load (v := (.int .i64 t.mx)) rfl flat3 (B1.cell rfl)⟩) ?_
                obtain ⟨e79, he79⟩ : ∃ e, (decide ((8 : Int) < t.mx)) = e := ⟨_, rfl⟩
                refine WpL_guard_any (oj := _) (gv := (bif e77 then (.bool e78) else undef)) (u := (bif e77 then (bif e78 then undef else (.bool e79)) else undef)) rfl rfl (by decide) (by decide) rfl (by cases e77 <;> cases e78 <;> first | exact Or.inr ⟨Or.inl rfl, rfl⟩ | exact Or.inr ⟨Or.inr rfl, rfl⟩ | exact Or.inl ⟨rfl, (r_gtr (k := .i64) (a := t.mx) (b := 8) rfl rfl).trans (by rw [he79]; try rfl)⟩) ?_
                obtain ⟨e80, he80⟩ : ∃ e, (e78 || e79) = e := ⟨_, rfl⟩
                refine WpL_guard_any (oj := _) (gv := (.bool e77)) (u := (bif e77 then (.bool e80) else undef)) rfl rfl (by decide) (by decide) rfl (by cases e77 <;> first | exact Or.inr ⟨Or.inl rfl, rfl⟩ | exact Or.inr ⟨Or.inr rfl, rfl⟩ | exact Or.inl ⟨rfl, r_pick (b := e78) (v := .bool e80) rfl (by rw [← he80]; cases e78 <;> rfl)⟩) ?_
                refine WpL_guard_any (oj := _) (gv := (.bool e77)) (u := (bif e77 then (.bool e80) else undef)) rfl rfl (by decide) (by decide) rfl (by cases e77 <;> first | exact Or.inr ⟨Or.inl rfl, rfl⟩ | exact Or.inr ⟨Or.inr rfl, rfl⟩ | exact Or.inl ⟨rfl, r_move (v := (.bool e80)) rfl⟩) ?_
                refine WpL_guard_any (oj := _) (gv := (bif e77 then (.bool e80) else undef)) (u := (bif e77 then (bif e80 then undef else (.pointer (some ⟨b1, 3, none⟩))) else undef)) rfl rfl (by decide) (by decide) rfl (by cases e77 <;> cases e80 <;> first | exact Or.inr ⟨Or.inl rfl, rfl⟩ | exact Or.inr ⟨Or.inr rfl, rfl⟩ | exact Or.inl ⟨rfl, r_fieldAddr (b := b1) (o := 0) (o' := 3) rfl Try.underlying25 rfl siz3 rfl⟩) ?_
                refine WpL_guard_any (oj := _) (gv := (bif e77 then (.bool e80) else undef)) (u := (bif e77 then (bif e80 then undef else (.int .i64 t.mn)) else undef)) rfl rfl (by decide) (by decide) rfl (by cases e77 <;> cases e80 <;> first | exact Or.inr ⟨Or.inl rfl, rfl⟩ | exact Or.inr ⟨Or.inr rfl, rfl⟩ | exact Or.inl ⟨rfl, r_load (v := (.int .i64 t.mn)) rfl flat3 (B1.cell rfl)⟩) ?_
                refine WpL_guard_any (oj := _) (gv := (bif e77 then (.bool e80) else undef)) (u := (bif e77 then (bif e80 then undef else (.pointer (some ⟨b1, 4, none⟩))) else undef)) rfl rfl (by decide) (by decide) rfl (by cases e77 <;> cases e80 <;> first | exact Or.inr ⟨Or.inl rfl, rfl⟩ | exact Or.inr ⟨Or.inr rfl, rfl⟩ | exact Or.inl ⟨rfl, r_fieldAddr (b := b1) (o := 0) (o' := 4) rfl Try.underlying25 rfl siz3 rfl⟩) ?_
                refine WpL_guard_any (oj := _) (gv := (bif e77 then (.bool e80) else undef)) (u := (bif e77 then (bif e80 then undef else (.int .i64 t.mx)) else undef)) rfl rfl (by decide) (by decide) rfl (by cases e77 <;> cases e80 <;> first | exact Or.inr ⟨Or.inl rfl, rfl⟩ | exact Or.inr ⟨Or.inr rfl, rfl⟩ | exact Or.inl ⟨rfl, r_load (v := (.int .i64 t.mx)) rfl flat3 (B1.cell rfl)⟩) ?_
                obtain ⟨e81, he81⟩ : ∃ e, (decide ((t.mx : Int) < t.mn)) = e := ⟨_, rfl⟩
                refine WpL_guard_any (oj := _) (gv := (bif e77 then (.bool e80) else undef)) (u := (bif e77 then (bif e80 then undef else (.bool e81)) else undef)) rfl rfl (by decide) (by decide) rfl (by cases e77 <;> cases e80 <;> first | exact Or.inr ⟨Or.inl rfl, rfl⟩ | exact Or.inr ⟨Or.inr rfl, rfl⟩ | exact Or.inl ⟨rfl, (r_gtr (k := .i64) (a := t.mn) (b := t.mx) rfl rfl).trans (by rw [he81]; try rfl)⟩) ?_
                obtain ⟨e82, he82⟩ : ∃ e, (e80 || e81) = e := ⟨_, rfl⟩
                refine WpL_guard_any (oj := _) (gv := (.bool e77)) (u := (bif e77 then (.bool e82) else undef)) rfl rfl (by decide) (by decide) rfl (by cases e77 <;> first | exact Or.inr ⟨Or.inl rfl, rfl⟩ | exact Or.inr ⟨Or.inr rfl, rfl⟩ | exact Or.inl ⟨rfl, r_pick (b := e80) (v := .bool e82) rfl (by rw [← he82]; cases e80 <;> rfl)⟩) ?_
                obtain ⟨e83, he83⟩ : ∃ e, (e77 && e82) = e := ⟨_, rfl⟩
                refine WpL_val rfl rfl (by decide) (r_pick (b := e77) (v := .bool e83) rfl (by rw [← he83]; cases e77 <;> rfl)) ?_
                refine WpL_val rfl rfl (by decide) (r_move (v := (.bool e83)) rfl) ?_
                refine WpL_guard_any (oj := _) (gv := (.bool e83)) (u := (bif e83 then undef else (.pointer (some ⟨b1, 0, none⟩)))) rfl rfl (by decide) (by decide) rfl (by cases e83 <;> first | exact Or.inr ⟨Or.inl rfl, rfl⟩ | exact Or.inr ⟨Or.inr rfl, rfl⟩ | exact Or.inl ⟨rfl, r_fieldAddr (b := b1) (o := 0) (o' := 0) rfl Try.underlying25 rfl siz3 rfl⟩) ?_
                refine WpL_guard_any (oj := _) (gv := (.bool e83)) (u := (bif e83 then undef else (.int .i64 t.kind))) rfl rfl (by decide) (by decide) rfl (by cases e83 <;> first | exact Or.inr ⟨Or.inl rfl, rfl⟩ | exact Or.inr ⟨Or.inr rfl, rfl⟩ | exact Or.inl ⟨rfl, r_load (v := (.int .i64 t.kind)) rfl flat3 (B1.cell rfl)⟩) ?_
                obtain ⟨e84, he84⟩ : ∃ e, (decide ((t.kind : Int) = 9)) = e := ⟨_, rfl⟩
                refine WpL_guard_any (oj := _) (gv := (.bool e83)) (u := (bif e83 then undef else (.bool e84))) rfl rfl (by decide) (by decide) rfl (by cases e83 <;> first | exact Or.inr ⟨Or.inl rfl, rfl⟩ | exact Or.inr ⟨Or.inr rfl, rfl⟩ | exact Or.inl ⟨rfl, (r_eql (k := .i64) (a := t.kind) (b := 9) rfl rfl).trans (by rw [he84]; try rfl)⟩) ?_
                refine WpL_guard_any (oj := _) (gv := (.bool e83)) (u := (bif e83 then undef else (.bool e84))) rfl rfl (by decide) (by decide) rfl (by cases e83 <;> first | exact Or.inr ⟨Or.inl rfl, rfl⟩ | exact Or.inr ⟨Or.inr rfl, rfl⟩ | exact Or.inl ⟨rfl, r_move (v := (.bool e84)) rfl⟩) ?_
                refine WpL_guard_any (oj := _) (gv := (bif e83 then undef else (.bool e84))) (u := (bif e83 then undef else (bif e84 then (.pointer (some ⟨b1, 3, none⟩)) else undef))) rfl rfl (by decide) (by decide) rfl (by cases e83 <;> cases e84 <;> first | exact Or.inr ⟨Or.inl rfl, rfl⟩ | exact Or.inr ⟨Or.inr rfl, rfl⟩ | exact Or.inl ⟨rfl, r_fieldAddr (b := b1) (o := 0) (o' := 3) rfl Try.underlying25 rfl siz3 rfl⟩) ?_
                refine WpL_guard_any (oj := _) (gv := (bif e83 then undef else (.bool e84))) (u := (bif e83 then undef else (bif e84 then (.int .i64 t.mn) else undef))) rfl rfl (by decide) (by decide) rfl (by cases e83 <;> cases e84 <;> first | exact Or.inr ⟨Or.inl rfl, rfl⟩ | exact Or.inr ⟨Or.inr rfl, rfl⟩ | exact Or.inl ⟨rfl, r_load (v := (.int .i64 t.mn)) rfl flat3 (B1.cell rfl)⟩) ?_
                obtain ⟨e85, he85⟩ : ∃ e, (decide ((t.mn : Int) < 0)) = e := ⟨_, rfl⟩
                refine WpL_guard_any (oj := _) (gv := (bif e83 then undef else (.bool e84))) (u := (bif e83 then undef else (bif e84 then (.bool e85) else undef))) rfl rfl (by decide) (by decide) rfl (by cases e83 <;> cases e84 <;> first | exact Or.inr ⟨Or.inl rfl, rfl⟩ | exact Or.inr ⟨Or.inr rfl, rfl⟩ | exact Or.inl ⟨rfl, (r_lss (k := .i64) (a := t.mn) (b := 0) rfl rfl).trans (by rw [he85]; try rfl)⟩) ?_
                refine WpL_guard_any (oj := _) (gv := (bif e83 then undef else (.bool e84))) (u := (bif e83 then undef else (bif e84 then (.bool e85) else undef))) rfl rfl (by decide) (by decide) rfl (by cases e83 <;> cases e84 <;> first | exact Or.inr ⟨Or.inl rfl, rfl⟩ | exact Or.inr ⟨Or.inr rfl, rfl⟩ | exact Or.inl ⟨rfl, r_move (v := (.bool e85)) rfl⟩) ?_
                refine WpL_guard_any (oj := _) (gv := (bif e83 then undef else (bif e84 then (.bool e85) else undef))) (u := (bif e83 then undef else (bif e84 then (bif e85 then undef else (.pointer (some ⟨b1, 3, none⟩))) else undef))) rfl rfl (by decide) (by decide) rfl (by cases e83 <;> cases e84 <;> cases e85 <;> first | exact Or.inr ⟨Or.inl rfl, rfl⟩ | exact Or.inr ⟨Or.inr rfl, rfl⟩ | exact Or.inl ⟨rfl, r_fieldAddr (b := b1) (o := 0) (o' := 3) rfl Try.underlying25 rfl siz3 rfl⟩) ?_
                refine WpL_guard_any (oj := _) (gv := (bif e83 then undef else (bif e84 then (.bool e85) else undef))) (u := (bif e83 then undef else (bif e84 then (bif e85 then undef else (.int .i64 t.mn)) else undef))) rfl rfl (by decide) (by decide) rfl (by cases e83 <;> cases e84 <;> cases e85 <;> first | exact Or.inr ⟨Or.inl rfl, rfl⟩ | exact Or.inr ⟨Or.inr rfl, rfl⟩ | exact Or.inl ⟨rfl, r_load (v := (.int .i64 t.mn)) rfl flat3 (B1.cell rfl)⟩) ?_
                obtain ⟨e86, he86⟩ : ∃ e, (decide ((9 : Int) < t.mn)) = e := ⟨_, rfl⟩
                refine WpL_guard_any (oj := _) (gv := (bif e83 then undef else (bif e84 then (.bool e85) else undef))) (u := (bif e83 then undef else (bif e84 then (bif e85 then undef else (.bool e86)) else undef))) rfl rfl (by decide) (by decide) rfl (by cases e83 <;> cases e84 <;> cases e85 <;> first | exact Or.inr ⟨Or.inl rfl, rfl⟩ | exact Or.inr ⟨Or.inr rfl, rfl⟩ | exact Or.inl ⟨rfl, (r_gtr (k := .i64) (a := t.mn) (b := 9) rfl rfl).trans (by rw [he86]; try rfl)⟩) ?_
                obtain ⟨e87, he87⟩ : ∃ e, (e85 || e86) = e := ⟨_, rfl⟩
                refine WpL_guard_any (oj := _) (gv := (bif e83 then undef else (.bool e84))) (u := (bif e83 then undef else (bif e84 then (.bool e87) else undef))) rfl rfl (by decide) (by decide) rfl (by cases e83 <;> cases e84 <;> first | exact Or.inr ⟨Or.inl rfl, rfl⟩ | exact Or.inr ⟨Or.inr rfl, rfl⟩ | exact Or.inl ⟨rfl, r_pick (b := e85) (v := .bool e87) rfl (by rw [← he87]; cases e85 <;> rfl)⟩) ?_
                obtain ⟨e88, he88⟩ : ∃ e, (e84 && e87) = e := ⟨_, rfl⟩
                refine WpL_guard_any (oj := _) (gv := (.bool e83)) (u := (bif e83 then undef else (.bool e88))) rfl rfl (by decide) (by decide) rfl (by cases e83 <;> first | exact Or.inr ⟨Or.inl rfl, rfl⟩ | exact Or.inr ⟨Or.inr rfl, rfl⟩ | exact Or.inl ⟨rfl, r_pick (b := e84) (v := .bool e88) rfl (by rw [← he88]; cases e84 <;> rfl)⟩) ?_
                obtain ⟨e89, he89⟩ : ∃ e, (e83 || e88) = e := ⟨_, rfl⟩
                refine WpL_val rfl rfl (by decide) (r_pick (b := e83) (v := .bool e89) rfl (by rw [← he89]; cases e83 <;> rfl)) ?_
                refine WpL_nil ?_
                subst he89
                subst he88
                subst he87
                subst he86
                subst he85
                subst he84
                subst he83
                subst he82
                subst he81
                subst he80
                subst he79
                subst he78
                subst he77
                have hc90 : ((((decide ((t.kind : Int) = 6)) && (((decide ((t.mn : Int) < 0)) || (decide ((8 : Int) < t.mx))) || (decide ((t.mx : Int) < t.mn)))) || ((decide ((t.kind : Int) = 9)) && ((decide ((t.mn : Int) < 0)) || (decide ((9 : Int) < t.mn)))))) = false := by simp [h2]
                refine Wp_cond_false (congrArg Value.bool hc90) ?_
                refine Wp_skip ?_
                refine thn_normal ?_
                refine Wp_seq_region ?_
                refine WpL_val rfl rfl (by decide) (r_assign (v := (.int .i64 0)) rfl) ?_
                refine WpL_nil ?_
                refine Wp_ret ?_
                refine fin_tmp Try.results17 (v := (.int .i64 0)) rfl ?_
                exact ⟨rfl, E⟩
          · have kh2 := h2
            replace h2 := of_decide_eq_false h2
            rw [if_neg h2]
            refine Wp_skip ?_
            refine thn_normal ?_
            refine Wp_seq ?_
            refine Wp_seq_region ?_
            refine WpL_val rfl rfl (by decide) (r_fieldAddr (b := b1) (o := 0) (o' := 0) rfl Try.underlying25 rfl siz3 rfl) ?_
            refine WpL_val rfl rfl (by decide) (r_load (v := (.int .i64 t.kind)) rfl flat3 (B1.cell rfl)) ?_
            obtain ⟨e91, he91⟩ : ∃ e, (decide ((t.kind : Int) = 6)) = e := ⟨_, rfl⟩
            refine WpL_val rfl rfl (by decide) ((r_eql (k := .i64) (a := t.kind) (b := 6) rfl rfl).trans (by rw [he91]; try rfl)) ?_
            refine WpL_val rfl rfl (by decide) (r_move (v := (.bool e91)) rfl) ?_
            refine WpL_guard_any (oj := _) (gv := (.bool e91)) (u := (bif e91 then (.pointer (some ⟨b1, 3, none⟩)) else undef)) rfl rfl (by decide) (by decide) rfl (by cases e91 <;> first | exact Or.inr ⟨Or.inl rfl, rfl⟩ | exact Or.inr ⟨Or.inr rfl, rfl⟩ | exact Or.inl ⟨rfl, r_fieldAddr (b := b1) (o := 0) (o' := 3) rfl Try.underlying25 rfl siz3 rfl⟩) ?_
            refine WpL_guard_any (oj := _) (gv := (.bool e91)) (u := (bif e91 then (.int .i64 t.mn) else undef)) rfl rfl (by decide) (by decide) rfl (by cases e91 <;> first | exact Or.inr ⟨Or.inl rfl, rfl⟩ | exact Or.inr ⟨Or.inr rfl, rfl⟩ | exact Or.inl ⟨rfl, r_load (v := (.int .i64 t.mn)) rfl flat3 (B1.cell rfl)⟩) ?_
            obtain ⟨e92, he92⟩ : ∃ e, (decide ((t.mn : Int) < 0)) = e := ⟨_, rfl⟩
            refine WpL_guard_any (oj := _) (gv := (.bool e91)) (u := (bif e91 then (.bool e92) else undef)) rfl rfl (by decide) (by decide) rfl (by cases e91 <;> first | exact Or.inr ⟨Or.inl rfl, rfl⟩ | exact Or.inr ⟨Or.inr rfl, rfl⟩ | exact Or.inl ⟨rfl, (r_lss (k := .i64) (a := t.mn) (b := 0) rfl rfl).trans (by rw [he92]; try rfl)⟩) ?_
            refine WpL_guard_any (oj := _) (gv := (.bool e91)) (u := (bif e91 then (.bool e92) else undef)) rfl rfl (by decide) (by decide) rfl (by cases e91 <;> first | exact Or.inr ⟨Or.inl rfl, rfl⟩ | exact Or.inr ⟨Or.inr rfl, rfl⟩ | exact Or.inl ⟨rfl, r_move (v := (.bool e92)) rfl⟩) ?_
            refine WpL_guard_any (oj := _) (gv := (bif e91 then (.bool e92) else undef)) (u := (bif e91 then (bif e92 then undef else (.pointer (some ⟨b1, 4, none⟩))) else undef)) rfl rfl (by decide) (by decide) rfl (by cases e91 <;> cases e92 <;> first | exact Or.inr ⟨Or.inl rfl, rfl⟩ | exact Or.inr ⟨Or.inr rfl, rfl⟩ | exact Or.inl ⟨rfl, r_fieldAddr (b := b1) (o := 0) (o' := 4) rfl Try.underlying25 rfl siz3 rfl⟩) ?_
            refine WpL_guard_any (oj := _) (gv := (bif e91 then (.bool e92) else undef)) (u := (bif e91 then (bif e92 then undef else (.int .i64 t.mx)) else undef)) rfl rfl (by decide) (by decide) rfl (by cases e91 <;> cases e92 <;> first | exact Or.inr ⟨Or.inl rfl, rfl⟩ | exact Or.inr ⟨Or.inr rfl, rfl⟩ | exact Or.inl ⟨rfl, r_load (v := (.int .i64 t.mx)) rfl flat3 (B1.cell rfl)⟩) ?_
            obtain ⟨e93, he93⟩ : ∃ e, (decide ((8 : Int) < t.mx)) = e := ⟨_, rfl⟩
            refine WpL_guard_any (oj := _) (gv := (bif e91 then (.bool e92) else undef)) (u := (bif e91 then (bif e92 then undef else (.bool e93)) else undef)) rfl rfl (by decide) (by decide) rfl (by cases e91 <;> cases e92 <;> first | exact Or.inr ⟨Or.inl rfl, rfl⟩ | exact Or.inr ⟨Or.inr rfl, rfl⟩ | exact Or.inl ⟨rfl, (r_gtr (k := .i64) (a := t.mx) (b := 8) rfl rfl).trans (by rw [he93]; try rfl)⟩) ?_
            obtain ⟨e94, he94⟩ : ∃ e, (e92 || e93) = e := ⟨_, rfl⟩
            refine WpL_guard_any (oj := _) (gv := (.bool e91)) (u := (bif e91 then (.bool e94) else undef)) rfl rfl (by decide) (by decide) rfl (by cases e91 <;> first | exact Or.inr ⟨Or.inl rfl, rfl⟩ | exact Or.inr ⟨Or.inr rfl, rfl⟩ | exact Or.inl ⟨rfl, r_pick (b := e92) (v := .bool e94) rfl (by rw [← he94]; cases e92 <;> rfl)⟩) ?_
            refine WpL_guard_any (oj := _) (gv := (.bool e91)) (u := (bif e91 then (.bool e94) else undef)) rfl rfl (by decide) (by decide) rfl (by cases e91 <;> first | exact Or.inr ⟨Or.inl rfl, rfl⟩ | exact Or.inr ⟨Or.inr rfl, rfl⟩ | exact Or.inl ⟨rfl, r_move (v := (.bool e94)) rfl⟩) ?_
            refine WpL_guard_any (oj := _) (gv := (bif e91 then (.bool e94) else undef)) (u := (bif e91 then (bif e94 then undef else (.pointer (some ⟨b1, 3, none⟩))) else undef)) rfl rfl (by decide) (by decide) rfl (by cases e91 <;> cases e94 <;> first | exact Or.inr ⟨Or.inl rfl, rfl⟩ | exact Or.inr ⟨Or.inr rfl, rfl⟩ | exact Or.inl ⟨rfl, r_fieldAddr (b := b1) (o := 0) (o' := 3) rfl Try.underlying25 rfl siz3 rfl⟩) ?_
            refine WpL_guard_any (oj := _) (gv := (bif e91 then (.bool e94) else undef)) (u := (bif e91 then (bif e94 then undef else (.int .i64 t.mn)) else undef)) rfl rfl (by decide) (by decide) rfl (by cases e91 <;> cases e94 <;> first | exact Or.inr ⟨Or.inl rfl, rfl⟩ | exact Or.inr ⟨Or.inr rfl, rfl⟩ | exact Or.inl ⟨rfl, r_load (v := (.int .i64 t.mn)) rfl flat3 (B1.cell rfl)⟩) ?_
            refine WpL_guard_any (oj := _) (gv := (bif e91 then (.bool e94) else undef)) (u := (bif e91 then (bif e94 then undef else (.pointer (some ⟨b1, 4, none⟩))) else undef)) rfl rfl (by decide) (by decide) rfl (by cases e91 <;> cases e94 <;> first | exact Or.inr ⟨Or.inl rfl, rfl⟩ | exact Or.inr ⟨Or.inr rfl, rfl⟩ | exact Or.inl ⟨rfl, r_fieldAddr (b := b1) (o := 0) (o' := 4) rfl Try.underlying25 rfl siz3 rfl⟩) ?_
            refine WpL_guard_any (oj := _) (gv := (bif e91 then (.bool e94) else undef)) (u := (bif e91 then (bif e94 then undef else (.int .i64 t.mx)) else undef)) rfl rfl (by decide) (by decide) rfl (by cases e91 <;> cases e94 <;> first | exact Or.inr ⟨Or.inl rfl, rfl⟩ | exact Or.inr ⟨Or.inr rfl, rfl⟩ | exact Or.inl ⟨rfl, r_load (v := (.int .i64 t.mx)) rfl flat3 (B1.cell rfl)⟩) ?_
            obtain ⟨e95, he95⟩ : ∃ e, (decide ((t.mx : Int) < t.mn)) = e := ⟨_, rfl⟩
            refine WpL_guard_any (oj := _) (gv := (bif e91 then (.bool e94) else undef)) (u := (bif e91 then (bif e94 then undef else (.bool e95)) else undef)) rfl rfl (by decide) (by decide) rfl (by cases e91 <;> cases e94 <;> first | exact Or.inr ⟨Or.inl rfl, rfl⟩ | exact Or.inr ⟨Or.inr rfl, rfl⟩ | exact Or.inl ⟨rfl, (r_gtr (k := .i64) (a := t.mn) (b := t.mx) rfl rfl).trans (by rw [he95]; try rfl)⟩) ?_
            obtain ⟨e96, he96⟩ : ∃ e, (e94 || e95) = e := ⟨_, rfl⟩
            refine WpL_guard_any (oj := _) (gv := (.bool e91)) (u := (bif e91 then (.bool e96) else undef)) rfl rfl (by decide) (by decide) rfl (by cases e91 <;> first | exact Or.inr ⟨Or.inl rfl, rfl⟩ | exact Or.inr ⟨Or.inr rfl, rfl⟩ | exact Or.inl ⟨rfl, r_pick (b := e94) (v := .bool e96) rfl (by rw [← he96]; cases e94 <;> rfl)⟩) ?_
            obtain ⟨e97, he97⟩ : ∃ e, (e91 && e96) = e := ⟨_, rfl⟩
            refine WpL_val rfl rfl (by decide) (r_pick (b := e91) (v := .bool e97) rfl (by rw [← he97]; cases e91 <;> rfl)) ?_
            refine WpL_val rfl rfl (by decide) (r_move (v := (.bool e97)) rfl) ?_
            refine WpL_guard_any (oj := _) (gv := (.bool e97)) (u := (bif e97 then undef else (.pointer (some ⟨b1, 0, none⟩)))) rfl rfl (by decide) (by decide) rfl (by cases e97 <;> first | exact Or.inr ⟨Or.inl rfl, rfl⟩ | exact Or.inr ⟨Or.inr rfl, rfl⟩ | exact Or.inl ⟨rfl, r_fieldAddr (b := b1) (o := 0) (o' := 0) rfl Try.underlying25 rfl siz3 rfl⟩) ?_
            refine WpL_guard_any (oj := _) (gv := (.bool e97)) (u := (bif e97 then undef else (.int .i64 t.kind))) rfl rfl (by decide) (by decide) rfl (by cases e97 <;> first | exact Or.inr ⟨Or.inl rfl, rfl⟩ | exact Or.inr ⟨Or.inr rfl, rfl⟩ | exact Or.inl ⟨rfl, r_load (v := (.int .i64 t.kind)) rfl flat3 (B1.cell rfl)⟩) ?_
            obtain ⟨e98, he98⟩ : ∃ e, (decide ((t.kind : Int) = 9)) = e := ⟨_, rfl⟩
            refine WpL_guard_any (oj := _) (gv := (.bool e97)) (u := (bif e97 then undef else (.bool e98))) rfl rfl (by decide) (by decide) rfl (by cases e97 <;> first | exact Or.inr ⟨Or.inl rfl, rfl⟩ | exact Or.inr ⟨Or.inr rfl, rfl⟩ | exact Or.inl ⟨rfl, (r_eql (k := .i64) (a := t.kind) (b := 9) rfl rfl).trans (by rw [he98]; try rfl)⟩) ?_
            refine WpL_guard_any (oj := _) (gv := (.bool e97)) (u := (bif e97 then undef else (.bool e98))) rfl rfl (by decide) (by decide) rfl (by cases e97 <;> first | exact Or.inr ⟨Or.inl rfl, rfl⟩ | exact Or.inr ⟨Or.inr rfl, rfl⟩ | exact Or.inl ⟨rfl, r_move (v := (.bool e98)) rfl⟩) ?_
            refine WpL_guard_any (oj := _) (gv := (bif e97 then undef else (.bool e98))) (u := (bif e97 then undef else (bif e98 then (.pointer (some ⟨b1, 3, none⟩)) else undef))) rfl rfl (by decide) (by decide) rfl (by cases e97 <;> cases e98 <;> first | exact Or.inr ⟨Or.inl rfl, rfl⟩ | exact Or.inr ⟨Or.inr rfl, rfl⟩ | exact Or.inl ⟨rfl, r_fieldAddr (b := b1) (o := 0) (o' := 3) rfl Try.underlying25 rfl siz3 rfl⟩) ?_
            refine WpL_guard_any (oj := _) (gv := (bif e97 then undef else (.bool e98))) (u := (bif e97 then undef else (bif e98 then (.int .i64 t.mn) else undef))) rfl rfl (by decide) (by decide) rfl (by cases e97 <;> cases e98 <;> first | exact Or.inr ⟨Or.inl rfl, rfl⟩ | exact Or.inr ⟨Or.inr rfl, rfl⟩ | exact Or.inl ⟨rfl, r_load (v := (.int .i64 t.mn)) rfl flat3 (B1.cell rfl)⟩) ?_
            obtain ⟨e99, he99⟩ : ∃ e, (decide ((t.mn : Int) < 0)) = e := ⟨_, rfl⟩
            refine WpL_guard_any (oj := _) (gv := (bif e97 then undef else (.bool e98))) (u := (bif e97 then undef else (bif e98 then (.bool e99) else undef))) rfl rfl (by decide) (by decide) rfl (by cases e97 <;> cases e98 <;> first | exact Or.inr ⟨Or.inl rfl, rfl⟩ | exact Or.inr ⟨Or.inr rfl, rfl⟩ | exact Or.inl ⟨rfl, (r_lss (k := .i64) (a := t.mn) (b := 0) rfl rfl).trans (by rw [he99]; try rfl)⟩) ?_
            refine WpL_guard_any (oj := _) (gv := (bif e97 then undef else (.bool e98))) (u := (bif e97 then undef else (bif e98 then (.bool e99) else undef))) rfl rfl (by decide) (by decide) rfl (by cases e97 <;> cases e98 <;> first | exact Or.inr ⟨Or.inl rfl, rfl⟩ | exact Or.inr ⟨Or.inr rfl, rfl⟩ | exact Or.inl ⟨rfl, r_move (v := (.bool e99)) rfl⟩) ?_
            refine WpL_guard_any (oj := _) (gv := (bif e97 then undef else (bif e98 then (.bool e99) else undef))) (u := (bif e97 then undef else (bif e98 then (bif e99 then undef else (.pointer (some ⟨b1, 3, none⟩))) else undef))) rfl rfl (by decide) (by decide) rfl (by cases e97 <;> cases e98 <;> cases e99 <;> first | exact Or.inr ⟨Or.inl rfl, rfl⟩ | exact Or.inr ⟨Or.inr rfl, rfl⟩ | exact Or.inl ⟨rfl, r_fieldAddr (b := b1) (o := 0) (o' := 3) rfl Try.underlying25 rfl siz3 rfl⟩) ?_
            refine WpL_guard_any (oj := _) (gv := (bif e97 then undef else (bif e98 then (.bool e99) else undef))) (u := (bif e97 then undef else (bif e98 then (bif e99 then undef else (.int .i64 t.mn)) else undef))) rfl rfl (by decide) (by decide) rfl (by cases e97 <;> cases e98 <;> cases e99 <;> first | exact Or.inr ⟨Or.inl rfl, rfl⟩ | exact Or.inr ⟨Or.inr rfl, rfl⟩ | exact Or.inl ⟨rfl, r_load (v := (.int .i64 t.mn)) rfl flat3 (B1.cell rfl)⟩) ?_
            obtain ⟨e100, he100⟩ : ∃ e, (decide ((9 : Int) < t.mn)) = e := ⟨_, rfl⟩
            refine WpL_guard_any (oj := _) (gv := (bif e97 then undef else (bif e98 then (.bool e99) else undef))) (u := (bif e97 then undef else (bif e98 then (bif e99 then undef else (.bool e100)) else undef))) rfl rfl (by decide) (by decide) rfl (by cases e97 <;> cases e98 <;> cases e99 <;> first | exact Or.inr ⟨Or.inl rfl, rfl⟩ | exact Or.inr ⟨Or.inr rfl, rfl⟩ | exact Or.inl ⟨rfl, (r_gtr (k := .i64) (a := t.mn) (b := 9) rfl rfl).trans (by rw [he100]; try rfl)⟩) ?_
            obtain ⟨e101, he101⟩ : ∃ e, (e99 || e100) = e := ⟨_, rfl⟩
            refine WpL_guard_any (oj := _) (gv := (bif e97 then undef else (.bool e98))) (u := (bif e97 then undef else (bif e98 then (.bool e101) else undef))) rfl rfl (by decide) (by decide) rfl (by cases e97 <;> cases e98 <;> first | exact Or.inr ⟨Or.inl rfl, rfl⟩ | exact Or.inr ⟨Or.inr rfl, rfl⟩ | exact Or.inl ⟨rfl, r_pick (b := e99) (v := .bool e101) rfl (by rw [← he101]; cases e99 <;> rfl)⟩) ?_
            obtain ⟨e102, he102⟩ : ∃ e, (e98 && e101) = e := ⟨_, rfl⟩
            refine WpL_guard_any (oj := _) (gv := (.bool e97)) (u := (bif e97 then undef else (.bool e102))) rfl rfl (by decide) (by decide) rfl (by cases e97 <;> first | exact Or.inr ⟨Or.inl rfl, rfl⟩ | exact Or.inr ⟨Or.inr rfl, rfl⟩ | exact Or.inl ⟨rfl, r_pick (b := e98) (v := .bool e102) rfl (by rw [← he102]; cases e98 <;> rfl)⟩) ?_
            obtain ⟨e103, he103⟩ : ∃ e, (e97 || e102) = e := ⟨_, rfl⟩
            refine WpL_val rfl rfl (by decide) (r_pick (b := e97) (v := .bool e103) rfl (by rw [← he103]; cases e97 <;> rfl)) ?_
            refine WpL_nil ?_
            subst he103
            subst he102
            subst he101
            subst he100
            subst he99
            subst he98
            subst he97
            subst he96
            subst he95
            subst he94
            subst he93
            subst he92
            subst he91
            refine Wp_cond (b := (((decide ((t.kind : Int) = 6)) && (((decide ((t.mn : Int) < 0)) || (decide ((8 : Int) < t.mx))) || (decide ((t.mx : Int) < t.mn)))) || ((decide ((t.kind : Int) = 9)) && ((decide ((t.mn : Int) < 0)) || (decide ((9 : Int) < t.mn)))))) rfl (fun h6 => ?_) (fun h6 => ?_)
            · have kh6 := h6
              simp at h6
              refine Wp_seq_region ?_
              refine WpL_val rfl rfl (by decide) (r_assign (v := (.int .i64 1)) rfl) ?_
              refine WpL_nil ?_
              refine Wp_ret ?_
              refine thn_ret ?_
              refine fin_tmp Try.results17 (v := (.int .i64 1)) rfl ?_
              exact ⟨int_eq (by by_cases h66 : t.kind = 6; rw [if_pos h66, if_pos (by omega)]; rw [if_neg h66, if_pos (by omega), if_pos (by omega)]), E⟩
            · have kh6 := h6
              simp at h6
              refine Wp_skip ?_
              refine thn_normal ?_
              refine Wp_seq_region ?_
              refine WpL_val rfl rfl (by decide) (r_assign (v := (.int .i64 0)) rfl) ?_
              refine WpL_nil ?_
              refine Wp_ret ?_
              refine fin_tmp Try.results17 (v := (.int .i64 0)) rfl ?_
              exact ⟨int_eq (by by_cases h66 : t.kind = 6; rw [if_pos h66, if_neg (by omega)]; rw [if_neg h66]; by_cases h9 : t.kind = 9; rw [if_pos h9, if_neg (by omega)]; rw [if_neg h9]), E⟩
end Go.Proofs
