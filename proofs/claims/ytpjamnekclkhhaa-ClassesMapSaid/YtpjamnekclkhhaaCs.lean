/- Contracts: the reference's check of a set, membership, and equality of lists of spans. -/
import Derived.Test.YtpjamnekclkhhaaW3
import Derived.Test.YtpjamnekclkhhaaSb
namespace Go.Proofs
open Go Go.Eng
set_option maxRecDepth 100000

theorem gspan_c (s : Int × Int) (w0 : World) :
    Ret Try.prog 74 #[.agg #[.int .i64 s.1, .int .i64 s.2]] w0 fun v w => v = .bool (validB s) ∧ Ext w0 w := by
  refine Ret_of Try.func74 rfl Try.ntmps74 (Nat.le_of_ble_eq_true rfl) ?_
  have E : Chg none1 w0 w0 := Chg.refl _ _
  refine Wp_seq_region ?_
  refine s_box (v := (.agg #[(.int .i64 s.1), (.int .i64 s.2)])) (c := #[(.int .i64 s.1), (.int .i64 s.2)]) (by decide) rfl rfl ?_
  intro b1 w1 N1
  have F1 := N1.ge E
  replace E := E.ext N1.ext
  have B1 := N1.blk
  refine WpL_val rfl rfl (by decide) (r_assign (v := (.bool false)) rfl) ?_
  refine WpL_nil ?_
  refine Wp_seq_region ?_
  refine WpL_val rfl rfl (by decide) (r_fieldAddr (b := b1) (o := 0) (o' := 0) rfl Try.underlying37 rfl siz3 rfl) ?_
  refine WpL_val rfl rfl (by decide) (r_load (v := (.int .i64 s.1)) rfl flat3 (B1.cell rfl)) ?_
  obtain ⟨e2, he2⟩ : ∃ e, (decide ((0 : Int) ≤ s.1)) = e := ⟨_, rfl⟩
  refine WpL_val rfl rfl (by decide) ((r_leq (k := .i64) (a := 0) (b := s.1) rfl rfl).trans (by rw [he2]; try rfl)) ?_
  refine WpL_val rfl rfl (by decide) (r_move (v := (.bool e2)) rfl) ?_
  refine WpL_guard_any (oj := _) (gv := (.bool e2)) (u := (bif e2 then (.pointer (some ⟨b1, 0, none⟩)) else undef)) rfl rfl (by decide) (by decide) rfl (by cases e2 <;> first | exact Or.inr ⟨Or.inl rfl, rfl⟩ | exact Or.inr ⟨Or.inr rfl, rfl⟩ | exact Or.inl ⟨rfl, r_fieldAddr (b := b1) (o := 0) (o' := 0) rfl Try.underlying37 rfl siz3 rfl⟩) ?_
  refine WpL_guard_any (oj := _) (gv := (.bool e2)) (u := (bif e2 then (.int .i64 s.1) else undef)) rfl rfl (by decide) (by decide) rfl (by cases e2 <;> first | exact Or.inr ⟨Or.inl rfl, rfl⟩ | exact Or.inr ⟨Or.inr rfl, rfl⟩ | exact Or.inl ⟨rfl, r_load (v := (.int .i64 s.1)) rfl flat3 (B1.cell rfl)⟩) ?_
  refine WpL_guard_any (oj := _) (gv := (.bool e2)) (u := (bif e2 then (.pointer (some ⟨b1, 1, none⟩)) else undef)) rfl rfl (by decide) (by decide) rfl (by cases e2 <;> first | exact Or.inr ⟨Or.inl rfl, rfl⟩ | exact Or.inr ⟨Or.inr rfl, rfl⟩ | exact Or.inl ⟨rfl, r_fieldAddr (b := b1) (o := 0) (o' := 1) rfl Try.underlying37 rfl siz3 rfl⟩) ?_
  refine WpL_guard_any (oj := _) (gv := (.bool e2)) (u := (bif e2 then (.int .i64 s.2) else undef)) rfl rfl (by decide) (by decide) rfl (by cases e2 <;> first | exact Or.inr ⟨Or.inl rfl, rfl⟩ | exact Or.inr ⟨Or.inr rfl, rfl⟩ | exact Or.inl ⟨rfl, r_load (v := (.int .i64 s.2)) rfl flat3 (B1.cell rfl)⟩) ?_
  obtain ⟨e3, he3⟩ : ∃ e, (decide ((s.1 : Int) ≤ s.2)) = e := ⟨_, rfl⟩
  refine WpL_guard_any (oj := _) (gv := (.bool e2)) (u := (bif e2 then (.bool e3) else undef)) rfl rfl (by decide) (by decide) rfl (by cases e2 <;> first | exact Or.inr ⟨Or.inl rfl, rfl⟩ | exact Or.inr ⟨Or.inr rfl, rfl⟩ | exact Or.inl ⟨rfl, (r_leq (k := .i64) (a := s.1) (b := s.2) rfl rfl).trans (by rw [he3]; try rfl)⟩) ?_
  obtain ⟨e4, he4⟩ : ∃ e, (e2 && e3) = e := ⟨_, rfl⟩
  refine WpL_val rfl rfl (by decide) (r_pick (b := e2) (v := .bool e4) rfl (by rw [← he4]; cases e2 <;> rfl)) ?_
  refine WpL_val rfl rfl (by decide) (r_move (v := (.bool e4)) rfl) ?_
  refine WpL_guard_any (oj := _) (gv := (.bool e4)) (u := (bif e4 then (.pointer (some ⟨b1, 1, none⟩)) else undef)) rfl rfl (by decide) (by decide) rfl (by cases e4 <;> first | exact Or.inr ⟨Or.inl rfl, rfl⟩ | exact Or.inr ⟨Or.inr rfl, rfl⟩ | exact Or.inl ⟨rfl, r_fieldAddr (b := b1) (o := 0) (o' := 1) rfl Try.underlying37 rfl siz3 rfl⟩) ?_
  refine WpL_guard_any (oj := _) (gv := (.bool e4)) (u := (bif e4 then (.int .i64 s.2) else undef)) rfl rfl (by decide) (by decide) rfl (by cases e4 <;> first | exact Or.inr ⟨Or.inl rfl, rfl⟩ | exact Or.inr ⟨Or.inr rfl, rfl⟩ | exact Or.inl ⟨rfl, r_load (v := (.int .i64 s.2)) rfl flat3 (B1.cell rfl)⟩) ?_
  obtain ⟨e5, he5⟩ : ∃ e, (decide ((s.2 : Int) ≤ 1114111)) = e := ⟨_, rfl⟩
  refine WpL_guard_any (oj := _) (gv := (.bool e4)) (u := (bif e4 then (.bool e5) else undef)) rfl rfl (by decide) (by decide) rfl (by cases e4 <;> first | exact Or.inr ⟨Or.inl rfl, rfl⟩ | exact Or.inr ⟨Or.inr rfl, rfl⟩ | exact Or.inl ⟨rfl, (r_leq (k := .i64) (a := s.2) (b := 1114111) rfl rfl).trans (by rw [he5]; try rfl)⟩) ?_
  obtain ⟨e6, he6⟩ : ∃ e, (e4 && e5) = e := ⟨_, rfl⟩
  refine WpL_val rfl rfl (by decide) (r_pick (b := e4) (v := .bool e6) rfl (by rw [← he6]; cases e4 <;> rfl)) ?_
  refine WpL_val rfl rfl (by decide) (r_assign (v := (.bool e6)) rfl) ?_
  refine WpL_nil ?_
  subst he6
  subst he5
  subst he4
  subst he3
  subst he2
  refine Wp_ret ?_
  refine fin_tmp Try.results74 (v := (.bool (((decide ((0 : Int) ≤ s.1)) && (decide ((s.1 : Int) ≤ s.2))) && (decide ((s.2 : Int) ≤ 1114111))))) rfl ?_
  exact ⟨bool_eq (by unfold validB; rfl), E⟩
theorem first_c : ∀ (l : List (Int × Int)), checkL none l = checkL (some (-2)) (l.drop 0)
  | [] => rfl
  | s :: r => by
    simp only [List.drop]
    rw [checkL_cons, checkL_cons]
    by_cases hv : validB s = false
    · rw [if_pos hv, if_pos hv]
    · rw [if_neg hv, if_neg hv]
      have : ¬ s.1 < 0 := by simp [validB] at hv; omega
      simp [this]
theorem cset_c (w0 : World) (v : Value) (l : List (Int × Int)) (hs : SpansAt w0 v l) :
    Ret Try.prog 34 #[v] w0 fun v w => v = .int .i64 (checkE l) ∧ Ext w0 w := by
  obtain ⟨a, c, rfl⟩ := SlAt.form hs
  simp only [List.length_map] at hs ⊢
  refine Ret_of Try.func34 rfl Try.ntmps34 (Nat.le_of_ble_eq_true rfl) ?_
  have E : Chg none1 w0 w0 := Chg.refl _ _
  refine Wp_seq_region ?_
  refine WpL_val rfl rfl (by decide) (r_assign (v := (.int .i64 0)) rfl) ?_
  refine WpL_nil ?_
  refine Wp_seq ?_
  refine Wp_seq_region ?_
  refine WpL_val rfl rfl (by decide) (r_move (v := (.slice a l.length c)) rfl) ?_
  refine WpL_val rfl rfl (by decide) (r_lenSlice (ad := a) (n := l.length) (cap := c) Try.underlying23 rfl) ?_
  refine WpL_val rfl rfl (by decide) (r_gtr (k := .i64) (a := ((l.length : Nat) : Int)) (b := 16) rfl rfl) ?_
  refine WpL_nil ?_
  refine Wp_cond (b := decide ((16 : Int) < ((l.length : Nat) : Int))) rfl (fun h16 => ?_) (fun h16 => ?_)
  · have kh16 := h16
    replace h16 := of_decide_eq_true h16
    refine Wp_seq_region ?_
    refine WpL_val rfl rfl (by decide) (r_assign (v := (.int .i64 2)) rfl) ?_
    refine WpL_nil ?_
    refine Wp_ret ?_
    refine thn_ret ?_
    refine fin_tmp Try.results34 (v := (.int .i64 2)) rfl ?_
    exact ⟨int_eq (by unfold checkE; rw [if_pos (by omega)]), E⟩
  · have kh16 := h16
    replace h16 := of_decide_eq_false h16
    have hE16 : checkE l = checkL none l := by unfold checkE; rw [if_neg (by omega)]
    rw [hE16]
    refine Wp_skip ?_
    refine thn_normal ?_
    refine Wp_seq_region ?_
    refine WpL_val rfl rfl (by decide) (r_assign (v := (.int .i64 (-2))) rfl) ?_
    refine WpL_nil ?_
    refine Wp_seq ?_
    refine Wp_seq_region ?_
    refine WpL_val rfl rfl (by decide) (r_move (v := (.slice a l.length c)) rfl) ?_
    refine WpL_val rfl rfl (by decide) (r_lenSlice (ad := a) (n := l.length) (cap := c) Try.underlying23 rfl) ?_
    refine WpL_val rfl rfl (by decide) (r_move (v := (.int .i64 0)) rfl) ?_
    refine WpL_nil ?_
    refine Wp_block ?_
    refine Wp_loop (fun nn_ σ W2 => ∃ (k : Nat) (p : Int), (∃ jj_, σ = upds jj_ [(9, (.slice a l.length c)), (10, (.int .i64 ((l.length : Nat) : Int))), (11, (.int .i64 ((k : Nat) : Int))), (3, (.int .i64 p))]) ∧ Chg none1 w0 W2 ∧ (k ≤ l.length) ∧ (-2 ≤ p ∧ p ≤ 1114111 ∧ (checkL none l = checkL (some p) (l.drop k))) ∧ nn_ = l.length - k) (n := l.length - 0) ?_ ?_
    · exact ⟨0, -2, Fits.out ⟨rfl, rfl, rfl, rfl, trivial⟩, E, Nat.zero_le _, ⟨by omega, by omega, first_c l⟩, rfl⟩
    · clear E
      rintro _ _ W2 ⟨k, p, ⟨j2, rfl⟩, E, hk, hp, rfl⟩
      refine Wp_seq_region ?_
      refine WpL_val rfl rfl (by decide) (r_lss (k := .i64) (a := ((k : Nat) : Int)) (b := ((l.length : Nat) : Int)) rfl rfl) ?_
      refine WpL_nil ?_
      refine Wp_seq ?_
      refine Wp_cond (b := decide ((((k : Nat) : Int) : Int) < ((l.length : Nat) : Int))) rfl (fun hlt => ?_) (fun hlt => ?_)
      · have khlt := hlt
        replace hlt := of_decide_eq_true hlt
        obtain ⟨s, hx⟩ := get_of_lt (l := l) (i := k) (by omega)
        obtain ⟨b, o, rfl, hcl⟩ := spans_cells hs (by omega)
        have hd := drop_cons hx
        refine Wp_skip ?_
        refine thn_normal ?_
        refine Wp_seq ?_
        refine Wp_block ?_
        refine Wp_seq_region ?_
        refine WpL_val rfl rfl (by decide) (r_indexSlice (b := b) (o := o) (len := l.length) (cap := c) (i := k) (o' := o + k * 2) rfl rfl rfl Try.underlying23 siz37 (by omega) (by omega)) ?_
        refine WpL_val rfl rfl (by decide) (r_loadAgg (vs := [(.int .i64 s.1), (.int .i64 s.2)]) rfl agg37 siz37 rfl ((hcl k s hx).ext E)) ?_
        refine s_allocStore (v := (.agg #[(.int .i64 s.1), (.int .i64 s.2)])) (c := #[(.int .i64 s.1), (.int .i64 s.2)]) (n := 2) (by decide) zer37 rfl siz37 rfl rfl rfl (by simp [Value.oneCell']) ?_
        intro b4 w4 N4
        have F4 := N4.ge E
        replace E := E.ext N4.ext
        have B4 := N4.blk
        refine WpL_nil ?_
        refine Wp_seq ?_
        refine Wp_seq_region ?_
        refine WpL_val rfl rfl (by decide) (r_loadAgg (vs := [(.int .i64 s.1), (.int .i64 s.2)]) rfl agg37 siz37 rfl (B4.cells rfl)) ?_
        refine WpL_enter rfl rfl (by decide) (r_callF (vs := [(.agg #[(.int .i64 s.1), (.int .i64 s.2)])]) Try.func74 nm74 bd74 rfl) (gspan_c s _) ?_
        rintro _ w9 ⟨rfl, X9⟩
        replace B4 := X9.keep B4
        replace E := E.ext X9
        refine WpL_val rfl rfl (by decide) (r_not (b := validB s) rfl) ?_
        refine WpL_nil ?_
        refine Wp_cond (b := !(validB s)) rfl (fun hv => ?_) (fun hv => ?_)
        · have khv := hv
          replace hv := by simpa using hv
          refine Wp_seq_region ?_
          refine WpL_val rfl rfl (by decide) (r_assign (v := (.int .i64 1)) rfl) ?_
          refine WpL_nil ?_
          refine Wp_ret ?_
          refine thn_ret ?_
          refine inB_ret ?_
          refine thn_ret ?_
          refine thn_ret ?_
          refine inB_ret ?_
          refine thn_ret ?_
          refine fin_tmp Try.results34 (v := (.int .i64 1)) rfl ?_
          exact ⟨int_eq (by rw [hp.2.2, hd, checkL_cons, if_pos hv]), E⟩
        · have khv := hv
          replace hv := by simpa using hv
          have hv2 : 0 ≤ s.1 ∧ s.1 ≤ s.2 ∧ s.2 ≤ 1114111 := by simp [validB] at hv; omega
          refine Wp_skip ?_
          refine thn_normal ?_
          refine Wp_seq ?_
          refine Wp_seq_region ?_
          refine WpL_val rfl rfl (by decide) (r_fieldAddr (b := b4) (o := 0) (o' := 0) rfl Try.underlying37 rfl siz3 rfl) ?_
          refine WpL_val rfl rfl (by decide) (r_load (v := (.int .i64 s.1)) rfl flat3 (B4.cell rfl)) ?_
          refine WpL_val rfl rfl (by decide) (r_move (v := (.int .i64 p)) rfl) ?_
          refine WpL_val rfl rfl (by decide) (r_add (k := .i64) (a := p) (b := 2) (c := p + 2) rfl rfl (wI64 (by omega))) ?_
          refine WpL_val rfl rfl (by decide) (r_lss (k := .i64) (a := s.1) (b := p + 2) rfl rfl) ?_
          refine WpL_nil ?_
          refine Wp_cond (b := decide ((s.1 : Int) < p + 2)) rfl (fun ho => ?_) (fun ho => ?_)
          · have kho := ho
            replace ho := of_decide_eq_true ho
            refine Wp_seq_region ?_
            refine WpL_val rfl rfl (by decide) (r_assign (v := (.int .i64 3)) rfl) ?_
            refine WpL_nil ?_
            refine Wp_ret ?_
            refine thn_ret ?_
            refine inB_ret ?_
            refine thn_ret ?_
            refine thn_ret ?_
            refine inB_ret ?_
            refine thn_ret ?_
            refine fin_tmp Try.results34 (v := (.int .i64 3)) rfl ?_
            exact ⟨int_eq (by rw [hp.2.2, hd, checkL_cons, if_neg (by simp [hv]), if_pos (by simpa using ho)]), E⟩
          · have kho := ho
            replace ho := of_decide_eq_false ho
            refine Wp_skip ?_
            refine thn_normal ?_
            refine Wp_region ?_
            refine WpL_val rfl rfl (by decide) (r_fieldAddr (b := b4) (o := 0) (o' := 1) rfl Try.underlying37 rfl siz3 rfl) ?_
            refine WpL_val rfl rfl (by decide) (r_load (v := (.int .i64 s.2)) rfl flat3 (B4.cell rfl)) ?_
            refine WpL_val rfl rfl (by decide) (r_assign (v := (.int .i64 s.2)) rfl) ?_
            refine WpL_nil ?_
            refine inB_normal ?_
            refine thn_normal ?_
            refine Wp_region ?_
            refine WpL_val rfl rfl (by decide) (r_add (k := .i64) (a := ((k : Nat) : Int)) (b := 1) (c := ((k : Nat) : Int) + 1) rfl rfl (wI64 (by omega))) ?_
            refine WpL_val rfl rfl (by decide) (r_move (v := (.int .i64 (((k : Nat) : Int) + 1))) rfl) ?_
            refine WpL_nil ?_
            refine thn_normal ?_
            exact ⟨l.length - (k + 1), by omega, k + 1, s.2, Fits.out ⟨rfl, rfl, rfl, rfl, trivial⟩, E, (by omega), ⟨by omega, by omega, by rw [hp.2.2, hd, checkL_cons, if_neg (by simp [hv]), if_neg (by simpa using ho)]⟩, rfl⟩
      · have khlt := hlt
        replace hlt := of_decide_eq_false hlt
        have hkl : l.drop k = [] := List.drop_eq_nil_of_le (by omega)
        refine Wp_exit ?_
        refine thn_exit ?_
        refine thn_exit ?_
        refine inB_here ?_
        refine thn_normal ?_
        refine Wp_seq_region ?_
        refine WpL_val rfl rfl (by decide) (r_assign (v := (.int .i64 0)) rfl) ?_
        refine WpL_nil ?_
        refine Wp_ret ?_
        refine fin_tmp Try.results34 (v := (.int .i64 0)) rfl ?_
        exact ⟨int_eq (by rw [hp.2.2, hkl]; rfl), E⟩
theorem inset_c (w0 : World) (v : Value) (l : List (Int × Int)) (r : Int) (hs : SpansAt w0 v l) :
    Ret Try.prog 39 #[v, .int .i64 r] w0 fun v w => v = .bool (inS l r) ∧ Ext w0 w := by
  obtain ⟨a, c, rfl⟩ := SlAt.form hs
  have hle : l.length ≤ 9223372036854775807 := by simpa using SlAt.le hs
  simp only [List.length_map] at hs ⊢
  refine Ret_of Try.func39 rfl Try.ntmps39 (Nat.le_of_ble_eq_true rfl) ?_
  have E : Chg none1 w0 w0 := Chg.refl _ _
  refine Wp_seq_region ?_
  refine WpL_val rfl rfl (by decide) (r_assign (v := (.bool false)) rfl) ?_
  refine WpL_nil ?_
  refine Wp_seq ?_
  refine Wp_seq_region ?_
  refine WpL_val rfl rfl (by decide) (r_move (v := (.slice a l.length c)) rfl) ?_
  refine WpL_val rfl rfl (by decide) (r_lenSlice (ad := a) (n := l.length) (cap := c) Try.underlying23 rfl) ?_
  refine WpL_val rfl rfl (by decide) (r_move (v := (.int .i64 0)) rfl) ?_
  refine WpL_nil ?_
  refine Wp_block ?_
  refine Wp_loop (fun nn_ σ W1 => ∃ (k : Nat), (∃ jj_, σ = upds jj_ [(1, (.int .i64 r)), (7, (.slice a l.length c)), (8, (.int .i64 ((l.length : Nat) : Int))), (9, (.int .i64 ((k : Nat) : Int)))]) ∧ Chg none1 w0 W1 ∧ (k ≤ l.length) ∧ (inS l r = inS (l.drop k) r) ∧ nn_ = l.length - k) (n := l.length - 0) ?_ ?_
  · exact ⟨0, Fits.out ⟨rfl, rfl, rfl, rfl, trivial⟩, E, Nat.zero_le _, rfl, rfl⟩
  · clear E
    rintro _ _ W1 ⟨k, ⟨j1, rfl⟩, E, hk, hp, rfl⟩
    refine Wp_seq_region ?_
    refine WpL_val rfl rfl (by decide) (r_lss (k := .i64) (a := ((k : Nat) : Int)) (b := ((l.length : Nat) : Int)) rfl rfl) ?_
    refine WpL_nil ?_
    refine Wp_seq ?_
    refine Wp_cond (b := decide ((((k : Nat) : Int) : Int) < ((l.length : Nat) : Int))) rfl (fun hlt => ?_) (fun hlt => ?_)
    · have khlt := hlt
      replace hlt := of_decide_eq_true hlt
      obtain ⟨s, hx⟩ := get_of_lt (l := l) (i := k) (by omega)
      obtain ⟨b, o, rfl, hcl⟩ := spans_cells hs (by omega)
      have hd := drop_cons hx
      refine Wp_skip ?_
      refine thn_normal ?_
      refine Wp_seq ?_
      refine Wp_block ?_
      refine Wp_seq_region ?_
      refine WpL_val rfl rfl (by decide) (r_indexSlice (b := b) (o := o) (len := l.length) (cap := c) (i := k) (o' := o + k * 2) rfl rfl rfl Try.underlying23 siz37 (by omega) (by omega)) ?_
      refine WpL_val rfl rfl (by decide) (r_loadAgg (vs := [(.int .i64 s.1), (.int .i64 s.2)]) rfl agg37 siz37 rfl ((hcl k s hx).ext E)) ?_
      refine s_allocStore (v := (.agg #[(.int .i64 s.1), (.int .i64 s.2)])) (c := #[(.int .i64 s.1), (.int .i64 s.2)]) (n := 2) (by decide) zer37 rfl siz37 rfl rfl rfl (by simp [Value.oneCell']) ?_
      intro b3 w3 N3
      have F3 := N3.ge E
      replace E := E.ext N3.ext
      have B3 := N3.blk
      refine WpL_nil ?_
      refine Wp_seq_region ?_
      refine WpL_val rfl rfl (by decide) (r_fieldAddr (b := b3) (o := 0) (o' := 0) rfl Try.underlying37 rfl siz3 rfl) ?_
      refine WpL_val rfl rfl (by decide) (r_load (v := (.int .i64 s.1)) rfl flat3 (B3.cell rfl)) ?_
      refine WpL_val rfl rfl (by decide) (r_move (v := (.int .i64 r)) rfl) ?_
      obtain ⟨e4, he4⟩ : ∃ e, (decide ((s.1 : Int) ≤ r)) = e := ⟨_, rfl⟩
      refine WpL_val rfl rfl (by decide) ((r_leq (k := .i64) (a := s.1) (b := r) rfl rfl).trans (by rw [he4]; try rfl)) ?_
      refine WpL_val rfl rfl (by decide) (r_move (v := (.bool e4)) rfl) ?_
      refine WpL_guard_any (oj := _) (gv := (.bool e4)) (u := (bif e4 then (.int .i64 r) else undef)) rfl rfl (by decide) (by decide) rfl (by cases e4 <;> first | exact Or.inr ⟨Or.inl rfl, rfl⟩ | exact Or.inr ⟨Or.inr rfl, rfl⟩ | exact Or.inl ⟨rfl, r_move (v := (.int .i64 r)) rfl⟩) ?_
      refine WpL_guard_any (oj := _) (gv := (.bool e4)) (u := (bif e4 then (.pointer (some ⟨b3, 1, none⟩)) else undef)) rfl rfl (by decide) (by decide) rfl (by cases e4 <;> first | exact Or.inr ⟨Or.inl rfl, rfl⟩ | exact Or.inr ⟨Or.inr rfl, rfl⟩ | exact Or.inl ⟨rfl, r_fieldAddr (b := b3) (o := 0) (o' := 1) rfl Try.underlying37 rfl siz3 rfl⟩) ?_
      refine WpL_guard_any (oj := _) (gv := (.bool e4)) (u := (bif e4 then (.int .i64 s.2) else undef)) rfl rfl (by decide) (by decide) rfl (by cases e4 <;> first | exact Or.inr ⟨Or.inl rfl, rfl⟩ | exact Or.inr ⟨Or.inr rfl, rfl⟩ | exact Or.inl ⟨rfl, r_load (v := (.int .i64 s.2)) rfl flat3 (B3.cell rfl)⟩) ?_
      obtain ⟨e5, he5⟩ : ∃ e, (decide ((r : Int) ≤ s.2)) = e := ⟨_, rfl⟩
      refine WpL_guard_any (oj := _) (gv := (.bool e4)) (u := (bif e4 then (.bool e5) else undef)) rfl rfl (by decide) (by decide) rfl (by cases e4 <;> first | exact Or.inr ⟨Or.inl rfl, rfl⟩ | exact Or.inr ⟨Or.inr rfl, rfl⟩ | exact Or.inl ⟨rfl, (r_leq (k := .i64) (a := r) (b := s.2) rfl rfl).trans (by rw [he5]; try rfl)⟩) ?_
      obtain ⟨e6, he6⟩ : ∃ e, (e4 && e5) = e := ⟨_, rfl⟩
      refine WpL_val rfl rfl (by decide) (r_pick (b := e4) (v := .bool e6) rfl (by rw [← he6]; cases e4 <;> rfl)) ?_
      refine WpL_nil ?_
      subst he6
      subst he5
      subst he4
      refine Wp_cond (b := ((decide ((s.1 : Int) ≤ r)) && (decide ((r : Int) ≤ s.2)))) rfl (fun hv => ?_) (fun hv => ?_)
      · have khv := hv
        refine Wp_seq_region ?_
        refine WpL_val rfl rfl (by decide) (r_assign (v := (.bool true)) rfl) ?_
        refine WpL_nil ?_
        refine Wp_ret ?_
        refine inB_ret ?_
        refine thn_ret ?_
        refine thn_ret ?_
        refine inB_ret ?_
        refine thn_ret ?_
        refine fin_tmp Try.results39 (v := (.bool true)) rfl ?_
        exact ⟨bool_eq (by rw [hp, hd]; unfold inS; rw [List.any_cons, hv]; rfl), E⟩
      · have khv := hv
        refine Wp_skip ?_
        refine inB_normal ?_
        refine thn_normal ?_
        refine Wp_region ?_
        refine WpL_val rfl rfl (by decide) (r_add (k := .i64) (a := ((k : Nat) : Int)) (b := 1) (c := ((k : Nat) : Int) + 1) rfl rfl (wI64 (by omega))) ?_
        refine WpL_val rfl rfl (by decide) (r_move (v := (.int .i64 (((k : Nat) : Int) + 1))) rfl) ?_
        refine WpL_nil ?_
        refine thn_normal ?_
        exact ⟨l.length - (k + 1), by omega, k + 1, Fits.out ⟨rfl, rfl, rfl, rfl, trivial⟩, E, (by omega), (by rw [hp, hd]; unfold inS; rw [List.any_cons, hv]; rfl), rfl⟩
    · have khlt := hlt
      replace hlt := of_decide_eq_false hlt
      have hkl : l.drop k = [] := List.drop_eq_nil_of_le (by omega)
      refine Wp_exit ?_
      refine thn_exit ?_
      refine thn_exit ?_
      refine inB_here ?_
      refine thn_normal ?_
      refine Wp_seq_region ?_
      refine WpL_val rfl rfl (by decide) (r_assign (v := (.bool false)) rfl) ?_
      refine WpL_nil ?_
      refine Wp_ret ?_
      refine fin_tmp Try.results39 (v := (.bool false)) rfl ?_
      exact ⟨bool_eq (by rw [hp, hkl]; rfl), E⟩
set_option maxHeartbeats 400000 in
theorem rspeq_c (w0 : World) (v1 v2 : Value) (l1 l2 : List (Int × Int)) (h1 : SpansAt w0 v1 l1) (h2 : SpansAt w0 v2 l2) :
    Ret Try.prog 30 #[v1, v2] w0 fun v w => v = .bool (decide (l1 = l2)) ∧ Ext w0 w := by
  obtain ⟨a1, c1, rfl⟩ := SlAt.form h1
  obtain ⟨a2, c2, rfl⟩ := SlAt.form h2
  have hb1 : l1.length ≤ 9223372036854775807 := by simpa using SlAt.le h1
  simp only [List.length_map] at h1 h2 ⊢
  refine Ret_of Try.func30 rfl Try.ntmps30 (Nat.le_of_ble_eq_true rfl) ?_
  have E : Chg none1 w0 w0 := Chg.refl _ _
  refine Wp_seq_region ?_
  refine WpL_val rfl rfl (by decide) (r_assign (v := (.bool false)) rfl) ?_
  refine WpL_nil ?_
  refine Wp_seq ?_
  refine Wp_seq_region ?_
  refine WpL_val rfl rfl (by decide) (r_move (v := (.slice a1 l1.length c1)) rfl) ?_
  refine WpL_val rfl rfl (by decide) (r_lenSlice (ad := a1) (n := l1.length) (cap := c1) Try.underlying23 rfl) ?_
  refine WpL_val rfl rfl (by decide) (r_move (v := (.slice a2 l2.length c2)) rfl) ?_
  refine WpL_val rfl rfl (by decide) (r_lenSlice (ad := a2) (n := l2.length) (cap := c2) Try.underlying23 rfl) ?_
  refine WpL_val rfl rfl (by decide) (r_neq (k := .i64) (a := ((l1.length : Nat) : Int)) (b := ((l2.length : Nat) : Int)) rfl rfl) ?_
  refine WpL_nil ?_
  refine Wp_cond (b := decide ((((l1.length : Nat) : Int) : Int) ≠ ((l2.length : Nat) : Int))) rfl (fun hl => ?_) (fun hl => ?_)
  · have khl := hl
    replace hl := of_decide_eq_true hl
    refine Wp_seq_region ?_
    refine WpL_val rfl rfl (by decide) (r_assign (v := (.bool false)) rfl) ?_
    refine WpL_nil ?_
    refine Wp_ret ?_
    refine thn_ret ?_
    refine fin_tmp Try.results30 (v := (.bool false)) rfl ?_
    exact ⟨bool_eq (by symm; rw [decide_eq_false_iff_not]; intro h; rw [h] at hl; exact hl rfl), E⟩
  · have khl := hl
    replace hl := of_decide_eq_false hl
    refine Wp_skip ?_
    refine thn_normal ?_
    refine Wp_seq ?_
    refine Wp_seq_region ?_
    refine WpL_val rfl rfl (by decide) (r_move (v := (.slice a1 l1.length c1)) rfl) ?_
    refine WpL_val rfl rfl (by decide) (r_lenSlice (ad := a1) (n := l1.length) (cap := c1) Try.underlying23 rfl) ?_
    refine WpL_val rfl rfl (by decide) (r_move (v := (.int .i64 0)) rfl) ?_
    refine WpL_nil ?_
    refine Wp_block ?_
    refine Wp_loop (fun nn_ σ W2 => ∃ (k : Nat), (∃ jj_, σ = upds jj_ [(0, (.slice a1 l1.length c1)), (1, (.slice a2 l2.length c2)), (12, (.int .i64 ((l1.length : Nat) : Int))), (13, (.int .i64 ((k : Nat) : Int)))]) ∧ Chg none1 w0 W2 ∧ (k ≤ l1.length) ∧ (∀ (i : Nat), i < k → l1[i]? = l2[i]?) ∧ nn_ = l1.length - k) (n := l1.length - 0) ?_ ?_
    · exact ⟨0, Fits.out ⟨rfl, rfl, rfl, rfl, trivial⟩, E, Nat.zero_le _, (fun i h => absurd h (Nat.not_lt_zero _)), rfl⟩
    · clear E
      rintro _ _ W2 ⟨k, ⟨j2, rfl⟩, E, hk, heq, rfl⟩
      refine Wp_seq_region ?_
      refine WpL_val rfl rfl (by decide) (r_lss (k := .i64) (a := ((k : Nat) : Int)) (b := ((l1.length : Nat) : Int)) rfl rfl) ?_
      refine WpL_nil ?_
      refine Wp_seq ?_
      refine Wp_cond (b := decide ((((k : Nat) : Int) : Int) < ((l1.length : Nat) : Int))) rfl (fun hlt => ?_) (fun hlt => ?_)
      · have khlt := hlt
        replace hlt := of_decide_eq_true hlt
        obtain ⟨p, hp⟩ := get_of_lt (l := l1) (i := k) (by omega)
        obtain ⟨q, hq⟩ := get_of_lt (l := l2) (i := k) (by omega)
        obtain ⟨b1, o1, rfl, hc1⟩ := spans_cells h1 (by omega)
        obtain ⟨b2, o2, rfl, hc2⟩ := spans_cells h2 (by omega)
        refine Wp_skip ?_
        refine thn_normal ?_
        refine Wp_seq ?_
        refine Wp_block ?_
        refine Wp_seq_region ?_
        refine WpL_val rfl rfl (by decide) (r_move (v := (.int .i64 ((k : Nat) : Int))) rfl) ?_
        refine WpL_val rfl rfl (by decide) (r_assign (v := (.int .i64 ((k : Nat) : Int))) rfl) ?_
        refine WpL_nil ?_
        refine Wp_seq_draw 8 mixed (by kernel_rfl) ?_
        intro w4 X4 _
        replace E := E.ext X4
        refine WpT_val rfl rfl (by decide) (r_move (v := (.slice (some ⟨b1, o1, none⟩) l1.length c1)) rfl) ?_
        refine WpT_val rfl rfl (by decide) (r_move (v := (.int .i64 ((k : Nat) : Int))) rfl) ?_
        refine WpT_val rfl rfl (by decide) (r_indexSlice (b := b1) (o := o1) (len := l1.length) (cap := c1) (i := k) (o' := o1 + k * 2) rfl rfl rfl Try.underlying23 siz37 (by omega) (by omega)) ?_
        refine WpT_val rfl rfl (by decide) (r_loadAgg (vs := [(.int .i64 p.1), (.int .i64 p.2)]) rfl agg37 siz37 rfl ((hc1 k p hp).ext E)) ?_
        refine WpT_val rfl rfl (by decide) (r_move (v := (.slice (some ⟨b2, o2, none⟩) l2.length c2)) rfl) ?_
        refine WpT_val rfl rfl (by decide) (r_move (v := (.int .i64 ((k : Nat) : Int))) rfl) ?_
        refine WpT_val rfl rfl (by decide) (r_indexSlice (b := b2) (o := o2) (len := l2.length) (cap := c2) (i := k) (o' := o2 + k * 2) rfl rfl rfl Try.underlying23 siz37 (by omega) (by omega)) ?_
        refine WpT_val rfl rfl (by decide) (r_loadAgg (vs := [(.int .i64 q.1), (.int .i64 q.2)]) rfl agg37 siz37 rfl ((hc2 k q hq).ext E)) ?_
        refine WpT_zero ?_
        refine WpL_val (v := (.bool (!(decide (p.1 = q.1) && decide (p.2 = q.2))))) rfl rfl (by decide) (r_neqSpan stoodSpan Try.underlying37 (by decide) (by decide) rfl rfl rfl rfl Try.underlying3 flat3 eqgSpan rfl rfl) ?_
        refine WpL_nil ?_
        refine Wp_cond (b := !(decide (p.1 = q.1) && decide (p.2 = q.2))) rfl (fun hpq => ?_) (fun hpq => ?_)
        · have khpq := hpq
          replace hpq := by simpa using hpq
          refine Wp_seq_region ?_
          refine WpL_val rfl rfl (by decide) (r_assign (v := (.bool false)) rfl) ?_
          refine WpL_nil ?_
          refine Wp_ret ?_
          refine inB_ret ?_
          refine thn_ret ?_
          refine thn_ret ?_
          refine inB_ret ?_
          refine thn_ret ?_
          refine fin_tmp Try.results30 (v := (.bool false)) rfl ?_
          exact ⟨bool_eq (by symm; rw [decide_eq_false_iff_not]; intro h; subst h; rw [hp] at hq; cases hq; simp at hpq), E⟩
        · have khpq := hpq
          replace hpq := by simpa using hpq
          have hpq2 : p = q := by obtain ⟨p1, p2⟩ := p; obtain ⟨q1, q2⟩ := q; simp at hpq; simp; exact hpq
          refine Wp_skip ?_
          refine inB_normal ?_
          refine thn_normal ?_
          refine Wp_region ?_
          refine WpL_val rfl rfl (by decide) (r_add (k := .i64) (a := ((k : Nat) : Int)) (b := 1) (c := ((k : Nat) : Int) + 1) rfl rfl (wI64 (by omega))) ?_
          refine WpL_val rfl rfl (by decide) (r_move (v := (.int .i64 (((k : Nat) : Int) + 1))) rfl) ?_
          refine WpL_nil ?_
          refine thn_normal ?_
          exact ⟨l1.length - (k + 1), by omega, k + 1, Fits.out ⟨rfl, rfl, rfl, rfl, trivial⟩, E, (by omega), (fun i hi => by rcases Nat.lt_or_ge i k with h | h; exact heq i h; obtain rfl : i = k := (by omega); rw [hp, hq, hpq2]), rfl⟩
      · have khlt := hlt
        replace hlt := of_decide_eq_false hlt
        have hkk : k = l1.length := by omega
        refine Wp_exit ?_
        refine thn_exit ?_
        refine thn_exit ?_
        refine inB_here ?_
        refine thn_normal ?_
        refine Wp_seq_region ?_
        refine WpL_val rfl rfl (by decide) (r_assign (v := (.bool true)) rfl) ?_
        refine WpL_nil ?_
        refine Wp_ret ?_
        refine fin_tmp Try.results30 (v := (.bool true)) rfl ?_
        exact ⟨bool_eq (by symm; rw [decide_eq_true_eq]; exact get_ext (by omega) (fun i hi => heq i (by omega))), E⟩

end Go.Proofs
