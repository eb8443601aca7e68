/- Contracts: the error of a node; the size of an expression; checking an expression. -/
import Derived.Test.YtiepeobnpmoghaaW2
import Derived.Test.YtiepeobnpmoghaaW3
namespace Go.Proofs
open Go Go.Eng
set_option maxRecDepth 100000

def nodeE (t : Re) : Int := if t.kind < 0 ∨ 10 < t.kind then 1 else if formB t = false then 3 else if t.kind = 2 then (if checkE t.set ≠ 0 then checkE t.set else if (t.set.length : Int) = 0 then 3 else 0)
  else if t.kind = 6 then (if t.mn < 0 ∨ t.mx < t.mn ∨ 8 < t.mx then 1 else 0) else if t.kind = 9 then (if t.mn < 0 ∨ 9 < t.mn then 1 else 0) else 0

set_option maxHeartbeats 800000 in
theorem node_c (wb w0 : World) (t : Re) (vs : List Value) (ht : ReAt wb t vs) (hE : Ext wb w0) :
    Ret Try.prog 36 #[.agg vs.toArray] w0 fun v w => v = .int .i64 (nodeE t) ∧ Ext w0 w := by
  have ht0 := ht
  obtain ⟨sa, sc, aa, ac, rfl, hset, hlen, hargs⟩ := ht.form
  refine Ret_of Try.func36 rfl Try.ntmps36 (Nat.le_of_ble_eq_true rfl) ?_
  have E : Chg none1 w0 w0 := Chg.refl _ _
  refine Wp_seq_region ?_
  refine s_box (v := (.agg #[(.int .i64 t.kind), (.slice sa t.set.length sc), (.slice aa t.args.length ac), (.int .i64 t.mn), (.int .i64 t.mx), (.bool t.neg)])) (c := #[(.int .i64 t.kind), (.slice sa t.set.length sc), (.slice aa t.args.length ac), (.int .i64 t.mn), (.int .i64 t.mx), (.bool t.neg)]) (by decide) rfl rfl ?_
  intro b1 w1 N1
  have F1 := N1.ge E
  replace E := E.ext N1.ext
  have B1 := N1.blk
  refine WpL_val rfl rfl (by decide) (r_assign (v := (.int .i64 0)) rfl) ?_
  refine WpL_nil ?_
  refine Wp_seq ?_
  refine Wp_seq_region ?_
  refine WpL_val rfl rfl (by decide) (r_fieldAddr (b := b1) (o := 0) (o' := 0) rfl Try.underlying25 rfl siz3 rfl) ?_
  refine WpL_val rfl rfl (by decide) (r_load (v := (.int .i64 t.kind)) rfl flat3 (B1.cell rfl)) ?_
  obtain ⟨e2, he2⟩ : ∃ e, (decide ((t.kind : Int) < 0)) = e := ⟨_, rfl⟩
  refine WpL_val rfl rfl (by decide) ((r_lss (k := .i64) (a := t.kind) (b := 0) rfl rfl).trans (by rw [he2]; try rfl)) ?_
  refine WpL_val rfl rfl (by decide) (r_move (v := (.bool e2)) rfl) ?_
  refine WpL_guard_any (oj := _) (gv := (.bool e2)) (u := (bif e2 then undef else (.pointer (some ⟨b1, 0, none⟩)))) rfl rfl (by decide) (by decide) rfl (by cases e2 <;> first | exact Or.inr ⟨Or.inl rfl, rfl⟩ | exact Or.inr ⟨Or.inr rfl, rfl⟩ | exact Or.inl ⟨rfl, r_fieldAddr (b := b1) (o := 0) (o' := 0) rfl Try.underlying25 rfl siz3 rfl⟩) ?_
  refine WpL_guard_any (oj := _) (gv := (.bool e2)) (u := (bif e2 then undef else (.int .i64 t.kind))) rfl rfl (by decide) (by decide) rfl (by cases e2 <;> first | exact Or.inr ⟨Or.inl rfl, rfl⟩ | exact Or.inr ⟨Or.inr rfl, rfl⟩ | exact Or.inl ⟨rfl, r_load (v := (.int .i64 t.kind)) rfl flat3 (B1.cell rfl)⟩) ?_
  obtain ⟨e3, he3⟩ : ∃ e, (decide ((10 : Int) < t.kind)) = e := ⟨_, rfl⟩
  refine WpL_guard_any (oj := _) (gv := (.bool e2)) (u := (bif e2 then undef else (.bool e3))) rfl rfl (by decide) (by decide) rfl (by cases e2 <;> first | exact Or.inr ⟨Or.inl rfl, rfl⟩ | exact Or.inr ⟨Or.inr rfl, rfl⟩ | exact Or.inl ⟨rfl, (r_gtr (k := .i64) (a := t.kind) (b := 10) rfl rfl).trans (by rw [he3]; try rfl)⟩) ?_
  obtain ⟨e4, he4⟩ : ∃ e, (e2 || e3) = e := ⟨_, rfl⟩
  refine WpL_val rfl rfl (by decide) (r_pick (b := e2) (v := .bool e4) rfl (by rw [← he4]; cases e2 <;> rfl)) ?_
  refine WpL_nil ?_
  subst he4
  subst he3
  subst he2
  refine Wp_cond (b := ((decide ((t.kind : Int) < 0)) || (decide ((10 : Int) < t.kind)))) rfl (fun hk => ?_) (fun hk => ?_)
  · have khk := hk
    simp at hk
    refine Wp_seq_region ?_
    refine WpL_val rfl rfl (by decide) (r_assign (v := (.int .i64 1)) rfl) ?_
    refine WpL_nil ?_
    refine Wp_ret ?_
    refine thn_ret ?_
    refine fin_tmp Try.results36 (v := (.int .i64 1)) rfl ?_
    exact ⟨int_eq (by unfold nodeE; rw [if_pos (by omega)]), E⟩
  · have khk := hk
    simp at hk
    refine Wp_skip ?_
    refine thn_normal ?_
    refine Wp_seq ?_
    refine Wp_seq_region ?_
    refine WpL_val rfl rfl (by decide) (r_loadAgg (vs := [(.int .i64 t.kind), (.slice sa t.set.length sc), (.slice aa t.args.length ac), (.int .i64 t.mn), (.int .i64 t.mx), (.bool t.neg)]) rfl agg25 siz25 rfl (B1.cells rfl)) ?_
    refine WpL_enter rfl rfl (by decide) (r_callF (vs := [(.agg #[(.int .i64 t.kind), (.slice sa t.set.length sc), (.slice aa t.args.length ac), (.int .i64 t.mn), (.int .i64 t.mx), (.bool t.neg)])]) Try.func48 nm48 bd48 rfl) (form_c wb _ t _ ht0) ?_
    rintro _ w9 ⟨rfl, X9⟩
    replace B1 := X9.keep B1
    replace E := E.ext X9
    refine WpL_val rfl rfl (by decide) (r_not (b := formB t) rfl) ?_
    refine WpL_nil ?_
    refine Wp_cond (b := !(formB t)) rfl (fun hf => ?_) (fun hf => ?_)
    · have khf := hf
      replace hf := by simpa using hf
      refine Wp_seq_region ?_
      refine WpL_val rfl rfl (by decide) (r_assign (v := (.int .i64 3)) rfl) ?_
      refine WpL_nil ?_
      refine Wp_ret ?_
      refine thn_ret ?_
      refine fin_tmp Try.results36 (v := (.int .i64 3)) rfl ?_
      exact ⟨int_eq (by unfold nodeE; rw [if_neg (by omega), if_pos hf]), E⟩
    · have khf := hf
      replace hf := by simpa using hf
      have hN : nodeE t = if t.kind = 2 then (if checkE t.set ≠ 0 then checkE t.set else if (t.set.length : Int) = 0 then 3 else 0) else if t.kind = 6 then (if t.mn < 0 ∨ t.mx < t.mn ∨ 8 < t.mx then 1 else 0) else if t.kind = 9 then (if t.mn < 0 ∨ 9 < t.mn then 1 else 0) else 0 := by unfold nodeE; rw [if_neg (by omega), if_neg (by simp [hf])]
      rw [hN]
      refine Wp_skip ?_
      refine thn_normal ?_
      refine Wp_seq ?_
      refine Wp_seq_region ?_
      refine WpL_val rfl rfl (by decide) (r_fieldAddr (b := b1) (o := 0) (o' := 0) rfl Try.underlying25 rfl siz3 rfl) ?_
      refine WpL_val rfl rfl (by decide) (r_load (v := (.int .i64 t.kind)) rfl flat3 (B1.cell rfl)) ?_
      refine WpL_nil ?_
      refine Wp_block ?_
      refine Wp_seq_region ?_
      refine WpL_val rfl rfl (by decide) (r_eql (k := .i64) (a := t.kind) (b := 2) rfl rfl) ?_
      refine WpL_val rfl rfl (by decide) (r_assign (v := (.bool (decide ((t.kind : Int) = 2)))) rfl) ?_
      refine WpL_nil ?_
      refine Wp_cond (b := decide ((t.kind : Int) = 2)) rfl (fun h2 => ?_) (fun h2 => ?_)
      · have kh2 := h2
        replace h2 := of_decide_eq_true h2
        rw [if_pos h2]
        refine Wp_seq ?_
        refine Wp_seq_region ?_
        refine WpL_val rfl rfl (by decide) (r_fieldAddr (b := b1) (o := 0) (o' := 1) rfl Try.underlying25 rfl siz22 rfl) ?_
        refine WpL_val rfl rfl (by decide) (r_load (v := (.slice sa t.set.length sc)) rfl flat22 (B1.cell rfl)) ?_
        refine WpL_enter rfl rfl (by decide) (r_callF (vs := [(.slice sa t.set.length sc)]) Try.func49 nm49 bd49 rfl) (rcheck_c _ _ t.set ((hset.ext hE).ext E)) ?_
        rintro _ w10 ⟨rfl, X10⟩
        replace B1 := X10.keep B1
        replace E := E.ext X10
        refine WpL_val rfl rfl (by decide) (r_assign (v := (.int .i64 (checkE t.set))) rfl) ?_
        refine WpL_nil ?_
        refine Wp_seq_region ?_
        refine WpL_val rfl rfl (by decide) (r_move (v := (.int .i64 (checkE t.set))) rfl) ?_
        refine WpL_val rfl rfl (by decide) (r_neq (k := .i64) (a := checkE t.set) (b := 0) rfl rfl) ?_
        refine WpL_nil ?_
        refine Wp_cond (b := decide ((checkE t.set : Int) ≠ 0)) rfl (fun h3 => ?_) (fun h3 => ?_)
        · have kh3 := h3
          replace h3 := of_decide_eq_true h3
          refine Wp_seq_region ?_
          refine WpL_val rfl rfl (by decide) (r_move (v := (.int .i64 (checkE t.set))) rfl) ?_
          refine WpL_val rfl rfl (by decide) (r_assign (v := (.int .i64 (checkE t.set))) rfl) ?_
          refine WpL_nil ?_
          refine Wp_ret ?_
          refine thn_ret ?_
          refine inB_ret ?_
          refine thn_ret ?_
          refine fin_tmp Try.results36 (v := (.int .i64 (checkE t.set))) rfl ?_
          exact ⟨int_eq (by rw [if_pos h3]), E⟩
        · have kh3 := h3
          replace h3 := of_decide_eq_false h3
          rw [if_neg h3]
          refine Wp_skip ?_
          refine thn_normal ?_
          refine Wp_seq_region ?_
          refine WpL_val rfl rfl (by decide) (r_fieldAddr (b := b1) (o := 0) (o' := 1) rfl Try.underlying25 rfl siz22 rfl) ?_
          refine WpL_val rfl rfl (by decide) (r_load (v := (.slice sa t.set.length sc)) rfl flat22 (B1.cell rfl)) ?_
          refine WpL_val rfl rfl (by decide) (r_lenSlice (ad := sa) (n := t.set.length) (cap := sc) Try.underlying22 rfl) ?_
          refine WpL_val rfl rfl (by decide) (r_eql (k := .i64) (a := ((t.set.length : Nat) : Int)) (b := 0) rfl rfl) ?_
          refine WpL_nil ?_
          refine Wp_cond (b := decide ((((t.set.length : Nat) : Int) : Int) = 0)) rfl (fun h4 => ?_) (fun h4 => ?_)
          · have kh4 := h4
            replace h4 := of_decide_eq_true h4
            refine Wp_seq_region ?_
            refine WpL_val rfl rfl (by decide) (r_assign (v := (.int .i64 3)) rfl) ?_
            refine WpL_nil ?_
            refine Wp_ret ?_
            refine inB_ret ?_
            refine thn_ret ?_
            refine fin_tmp Try.results36 (v := (.int .i64 3)) rfl ?_
            exact ⟨int_eq (by rw [if_pos h4]), E⟩
          · have kh4 := h4
            replace h4 := of_decide_eq_false h4
            refine Wp_skip ?_
            refine inB_normal ?_
            refine thn_normal ?_
            refine Wp_seq_region ?_
            refine WpL_val rfl rfl (by decide) (r_assign (v := (.int .i64 0)) rfl) ?_
            refine WpL_nil ?_
            refine Wp_ret ?_
            refine fin_tmp Try.results36 (v := (.int .i64 0)) rfl ?_
            exact ⟨int_eq (by rw [if_neg h4]), E⟩
      · have kh2 := h2
        replace h2 := of_decide_eq_false h2
        rw [if_neg h2]
        refine Wp_seq_region ?_
        refine WpL_val rfl rfl (by decide) (r_eql (k := .i64) (a := t.kind) (b := 6) rfl rfl) ?_
        refine WpL_val rfl rfl (by decide) (r_assign (v := (.bool (decide ((t.kind : Int) = 6)))) rfl) ?_
        refine WpL_nil ?_
        refine Wp_cond (b := decide ((t.kind : Int) = 6)) rfl (fun h6 => ?_) (fun h6 => ?_)
        · have kh6 := h6
          replace h6 := of_decide_eq_true h6
          rw [if_pos h6]
          refine Wp_seq_region ?_
          refine WpL_val rfl rfl (by decide) (r_fieldAddr (b := b1) (o := 0) (o' := 3) rfl Try.underlying25 rfl siz3 rfl) ?_
          refine WpL_val rfl rfl (by decide) (r_load (v := (.int .i64 t.mn)) rfl flat3 (B1.cell rfl)) ?_
          obtain ⟨e11, he11⟩ : ∃ e, (decide ((t.mn : Int) < 0)) = e := ⟨_, rfl⟩
          refine WpL_val rfl rfl (by decide) ((r_lss (k := .i64) (a := t.mn) (b := 0) rfl rfl).trans (by rw [he11]; try rfl)) ?_
          refine WpL_val rfl rfl (by decide) (r_move (v := (.bool e11)) rfl) ?_
          refine WpL_guard_any (oj := _) (gv := (.bool e11)) (u := (bif e11 then undef else (.pointer (some ⟨b1, 3, none⟩)))) rfl rfl (by decide) (by decide) rfl (by cases e11 <;> first | exact Or.inr ⟨Or.inl rfl, rfl⟩ | exact Or.inr ⟨Or.inr rfl, rfl⟩ | exact Or.inl ⟨rfl, r_fieldAddr (b := b1) (o := 0) (o' := 3) rfl Try.underlying25 rfl siz3 rfl⟩) ?_
          refine WpL_guard_any (oj := _) (gv := (.bool e11)) (u := (bif e11 then undef else (.int .i64 t.mn))) rfl rfl (by decide) (by decide) rfl (by cases e11 <;> first | exact Or.inr ⟨Or.inl rfl, rfl⟩ | exact Or.inr ⟨Or.inr rfl, rfl⟩ | exact Or.inl ⟨rfl, r_load (v := (.int .i64 t.mn)) rfl flat3 (B1.cell rfl)⟩) ?_
          refine WpL_guard_any (oj := _) (gv := (.bool e11)) (u := (bif e11 then undef else (.pointer (some ⟨b1, 4, none⟩)))) rfl rfl (by decide) (by decide) rfl (by cases e11 <;> first | exact Or.inr ⟨Or.inl rfl, rfl⟩ | exact Or.inr ⟨Or.inr rfl, rfl⟩ | exact Or.inl ⟨rfl, r_fieldAddr (b := b1) (o := 0) (o' := 4) rfl Try.underlying25 rfl siz3 rfl⟩) ?_
          refine WpL_guard_any (oj := _) (gv := (.bool e11)) (u := (bif e11 then undef else (.int .i64 t.mx))) rfl rfl (by decide) (by decide) rfl (by cases e11 <;> first | exact Or.inr ⟨Or.inl rfl, rfl⟩ | exact Or.inr ⟨Or.inr rfl, rfl⟩ | exact Or.inl ⟨rfl, r_load (v := (.int .i64 t.mx)) rfl flat3 (B1.cell rfl)⟩) ?_
          obtain ⟨e12, he12⟩ : ∃ e, (decide ((t.mx : Int) < t.mn)) = e := ⟨_, rfl⟩
          refine WpL_guard_any (oj := _) (gv := (.bool e11)) (u := (bif e11 then undef else (.bool e12))) rfl rfl (by decide) (by decide) rfl (by cases e11 <;> first | exact Or.inr ⟨Or.inl rfl, rfl⟩ | exact Or.inr ⟨Or.inr rfl, rfl⟩ | exact Or.inl ⟨rfl, (r_gtr (k := .i64) (a := t.mn) (b := t.mx) rfl rfl).trans (by rw [he12]; try rfl)⟩) ?_
          obtain ⟨e13, he13⟩ : ∃ e, (e11 || e12) = e := ⟨_, rfl⟩
          refine WpL_val rfl rfl (by decide) (r_pick (b := e11) (v := .bool e13) rfl (by rw [← he13]; cases e11 <;> rfl)) ?_
          refine WpL_val rfl rfl (by decide) (r_move (v := (.bool e13)) rfl) ?_
          refine WpL_guard_any (oj := _) (gv := (.bool e13)) (u := (bif e13 then undef else (.pointer (some ⟨b1, 4, none⟩)))) rfl rfl (by decide) (by decide) rfl (by cases e13 <;> first | exact Or.inr ⟨Or.inl rfl, rfl⟩ | exact Or.inr ⟨Or.inr rfl, rfl⟩ | exact Or.inl ⟨rfl, r_fieldAddr (b := b1) (o := 0) (o' := 4) rfl Try.underlying25 rfl siz3 rfl⟩) ?_
          refine WpL_guard_any (oj := _) (gv := (.bool e13)) (u := (bif e13 then undef else (.int .i64 t.mx))) rfl rfl (by decide) (by decide) rfl (by cases e13 <;> first | exact Or.inr ⟨Or.inl rfl, rfl⟩ | exact Or.inr ⟨Or.inr rfl, rfl⟩ | exact Or.inl ⟨rfl, r_load (v := (.int .i64 t.mx)) rfl flat3 (B1.cell rfl)⟩) ?_
          obtain ⟨e14, he14⟩ : ∃ e, (decide ((8 : Int) < t.mx)) = e := ⟨_, rfl⟩
          refine WpL_guard_any (oj := _) (gv := (.bool e13)) (u := (bif e13 then undef else (.bool e14))) rfl rfl (by decide) (by decide) rfl (by cases e13 <;> first | exact Or.inr ⟨Or.inl rfl, rfl⟩ | exact Or.inr ⟨Or.inr rfl, rfl⟩ | exact Or.inl ⟨rfl, (r_gtr (k := .i64) (a := t.mx) (b := 8) rfl rfl).trans (by rw [he14]; try rfl)⟩) ?_
          obtain ⟨e15, he15⟩ : ∃ e, (e13 || e14) = e := ⟨_, rfl⟩
          refine WpL_val rfl rfl (by decide) (r_pick (b := e13) (v := .bool e15) rfl (by rw [← he15]; cases e13 <;> rfl)) ?_
          refine WpL_nil ?_
          subst he15
          subst he14
          subst he13
          subst he12
          subst he11
          refine Wp_cond (b := (((decide ((t.mn : Int) < 0)) || (decide ((t.mx : Int) < t.mn))) || (decide ((8 : Int) < t.mx)))) rfl (fun h7 => ?_) (fun h7 => ?_)
          · have kh7 := h7
            simp at h7
            refine Wp_seq_region ?_
            refine WpL_val rfl rfl (by decide) (r_assign (v := (.int .i64 1)) rfl) ?_
            refine WpL_nil ?_
            refine Wp_ret ?_
            refine inB_ret ?_
            refine thn_ret ?_
            refine fin_tmp Try.results36 (v := (.int .i64 1)) rfl ?_
            exact ⟨int_eq (by rw [if_pos (by omega)]), E⟩
          · have kh7 := h7
            simp at h7
            refine Wp_skip ?_
            refine inB_normal ?_
            refine thn_normal ?_
            refine Wp_seq_region ?_
            refine WpL_val rfl rfl (by decide) (r_assign (v := (.int .i64 0)) rfl) ?_
            refine WpL_nil ?_
            refine Wp_ret ?_
            refine fin_tmp Try.results36 (v := (.int .i64 0)) rfl ?_
            exact ⟨int_eq (by rw [if_neg (by omega)]), E⟩
        · have kh6 := h6
          replace h6 := of_decide_eq_false h6
          rw [if_neg h6]
          refine Wp_seq_region ?_
          refine WpL_val rfl rfl (by decide) (r_eql (k := .i64) (a := t.kind) (b := 9) rfl rfl) ?_
          refine WpL_val rfl rfl (by decide) (r_assign (v := (.bool (decide ((t.kind : Int) = 9)))) rfl) ?_
          refine WpL_nil ?_
          refine Wp_cond (b := decide ((t.kind : Int) = 9)) rfl (fun h9 => ?_) (fun h9 => ?_)
          · have kh9 := h9
            replace h9 := of_decide_eq_true h9
            rw [if_pos h9]
            refine Wp_seq_region ?_
            refine WpL_val rfl rfl (by decide) (r_fieldAddr (b := b1) (o := 0) (o' := 3) rfl Try.underlying25 rfl siz3 rfl) ?_
            refine WpL_val rfl rfl (by decide) (r_load (v := (.int .i64 t.mn)) rfl flat3 (B1.cell rfl)) ?_
            obtain ⟨e18, he18⟩ : ∃ e, (decide ((t.mn : Int) < 0)) = e := ⟨_, rfl⟩
            refine WpL_val rfl rfl (by decide) ((r_lss (k := .i64) (a := t.mn) (b := 0) rfl rfl).trans (by rw [he18]; try rfl)) ?_
            refine WpL_val rfl rfl (by decide) (r_move (v := (.bool e18)) rfl) ?_
            refine WpL_guard_any (oj := _) (gv := (.bool e18)) (u := (bif e18 then undef else (.pointer (some ⟨b1, 3, none⟩)))) rfl rfl (by decide) (by decide) rfl (by cases e18 <;> first | exact Or.inr ⟨Or.inl rfl, rfl⟩ | exact Or.inr ⟨Or.inr rfl, rfl⟩ | exact Or.inl ⟨rfl, r_fieldAddr (b := b1) (o := 0) (o' := 3) rfl Try.underlying25 rfl siz3 rfl⟩) ?_
            refine WpL_guard_any (oj := _) (gv := (.bool e18)) (u := (bif e18 then undef else (.int .i64 t.mn))) rfl rfl (by decide) (by decide) rfl (by cases e18 <;> first | exact Or.inr ⟨Or.inl rfl, rfl⟩ | exact Or.inr ⟨Or.inr rfl, rfl⟩ | exact Or.inl ⟨rfl, r_load (v := (.int .i64 t.mn)) rfl flat3 (B1.cell rfl)⟩) ?_
            obtain ⟨e19, he19⟩ : ∃ e, (decide ((9 : Int) < t.mn)) = e := ⟨_, rfl⟩
            refine WpL_guard_any (oj := _) (gv := (.bool e18)) (u := (bif e18 then undef else (.bool e19))) rfl rfl (by decide) (by decide) rfl (by cases e18 <;> first | exact Or.inr ⟨Or.inl rfl, rfl⟩ | exact Or.inr ⟨Or.inr rfl, rfl⟩ | exact Or.inl ⟨rfl, (r_gtr (k := .i64) (a := t.mn) (b := 9) rfl rfl).trans (by rw [he19]; try rfl)⟩) ?_
            obtain ⟨e20, he20⟩ : ∃ e, (e18 || e19) = e := ⟨_, rfl⟩
            refine WpL_val rfl rfl (by decide) (r_pick (b := e18) (v := .bool e20) rfl (by rw [← he20]; cases e18 <;> rfl)) ?_
            refine WpL_nil ?_
            subst he20
            subst he19
            subst he18
            refine Wp_cond (b := ((decide ((t.mn : Int) < 0)) || (decide ((9 : Int) < t.mn)))) rfl (fun h8 => ?_) (fun h8 => ?_)
            · have kh8 := h8
              simp at h8
              refine Wp_seq_region ?_
              refine WpL_val rfl rfl (by decide) (r_assign (v := (.int .i64 1)) rfl) ?_
              refine WpL_nil ?_
              refine Wp_ret ?_
              refine inB_ret ?_
              refine thn_ret ?_
              refine fin_tmp Try.results36 (v := (.int .i64 1)) rfl ?_
              exact ⟨int_eq (by rw [if_pos (by omega)]), E⟩
            · have kh8 := h8
              simp at h8
              refine Wp_skip ?_
              refine inB_normal ?_
              refine thn_normal ?_
              refine Wp_seq_region ?_
              refine WpL_val rfl rfl (by decide) (r_assign (v := (.int .i64 0)) rfl) ?_
              refine WpL_nil ?_
              refine Wp_ret ?_
              refine fin_tmp Try.results36 (v := (.int .i64 0)) rfl ?_
              exact ⟨int_eq (by rw [if_neg (by omega)]), E⟩
          · have kh9 := h9
            replace h9 := of_decide_eq_false h9
            rw [if_neg h9]
            refine Wp_skip ?_
            refine inB_normal ?_
            refine thn_normal ?_
            refine Wp_seq_region ?_
            refine WpL_val rfl rfl (by decide) (r_assign (v := (.int .i64 0)) rfl) ?_
            refine WpL_nil ?_
            refine Wp_ret ?_
            refine fin_tmp Try.results36 (v := (.int .i64 0)) rfl ?_
            exact ⟨rfl, E⟩

def cntF : Int → Re → Bool × Int := fun s _ => (true, IntKind.i64.wrap (s + 1))
mutual
theorem walk_cnt : ∀ (t : Re) (s : Int), 0 ≤ s → s + t.size ≤ 9223372036854775807 → walkF cntF t s = (true, s + t.size)
  | .mk k set args mn mx ng, s, h0, h1 => by
    simp only [Re.size] at h1 ⊢
    rw [walkF_eq]
    simp only [cntF, if_true, Re.args]
    rw [wI64 (by omega)]
    rw [walks_cnt args (s + 1) (by omega) (by omega)]
    simp; omega
theorem walks_cnt : ∀ (ts : List Re) (s : Int), 0 ≤ s → s + Re.sizes ts ≤ 9223372036854775807 → walkFs cntF ts s = (true, s + Re.sizes ts)
  | [], s, _, _ => by simp [walkFs, Re.sizes]
  | t :: ts, s, h0, h1 => by
    simp only [Re.sizes] at h1 ⊢
    rw [walkFs_cons, walk_cnt t s h0 (by omega)]
    simp only [if_true]
    rw [walks_cnt ts _ (by omega) (by omega)]
    simp; omega
end

theorem size1_c (wb w0 : World) (t : Re) (vs : List Value) (ht : ReAt wb t vs) (b : Nat) (s : Int) (hB : Blk w0 b #[.int .i64 s] 3) :
    Ret Try.prog 26 #[.agg vs.toArray, .pointer (some ⟨b, 0, none⟩)] w0 fun v w => v = .bool true ∧ Chg (fun x => x = b) w0 w ∧ Blk w b #[.int .i64 (IntKind.i64.wrap (s + 1))] 3 := by
  have ht0 := ht
  obtain ⟨sa, sc, aa, ac, rfl, hset, hlen, hargs⟩ := ht.form
  refine Ret_of Try.func26 rfl Try.ntmps26 (Nat.le_of_ble_eq_true rfl) ?_
  have E : Chg (fun x => x = b) w0 w0 := Chg.refl _ _
  refine Wp_seq_region ?_
  refine s_box (v := (.agg #[(.int .i64 t.kind), (.slice sa t.set.length sc), (.slice aa t.args.length ac), (.int .i64 t.mn), (.int .i64 t.mx), (.bool t.neg)])) (c := #[(.int .i64 t.kind), (.slice sa t.set.length sc), (.slice aa t.args.length ac), (.int .i64 t.mn), (.int .i64 t.mx), (.bool t.neg)]) (by decide) rfl rfl ?_
  intro b1 w1 N1
  have F1 := N1.ge E
  have O1_b := N1.lt hB
  replace hB := N1.keep hB
  replace E := E.ext N1.ext
  have B1 := N1.blk
  refine WpL_val rfl rfl (by decide) (r_assign (v := (.bool false)) rfl) ?_
  refine WpL_nil ?_
  refine Wp_seq_region ?_
  refine WpL_val rfl rfl (by decide) (r_load (v := (.int .i64 s)) rfl flat3 (hB.cell rfl)) ?_
  refine WpL_val rfl rfl (by decide) (r_add (k := .i64) (a := s) (b := 1) (c := IntKind.i64.wrap (s + 1)) rfl rfl (rfl)) ?_
  refine s_store (b := b) (o := 0) (c' := #[(.int .i64 (IntKind.i64.wrap (s + 1)))]) (v := (.int .i64 (IntKind.i64.wrap (s + 1)))) rfl rfl rfl siz3 hB (by simp) rfl ?_
  intro w2 S2
  replace B1 := S2.keep (by omega) B1
  replace E := S2.step E (by first | exact Or.inl (by omega) | exact Or.inr rfl | exact Or.inr (by assumption) | exact Or.inr (by simp) | exact Or.inr (by omega) | exact Or.inr (by dsimp only; omega))
  replace hB := S2.blk
  refine WpL_nil ?_
  refine Wp_seq_region ?_
  refine WpL_val rfl rfl (by decide) (r_assign (v := (.bool true)) rfl) ?_
  refine WpL_nil ?_
  refine Wp_ret ?_
  refine fin_tmp Try.results26 (v := (.bool true)) rfl ?_
  exact ⟨rfl, E, hB⟩

theorem size_c (w0 : World) (t : Re) (vs : List Value) (ht : ReAt w0 t vs) (hs : t.size ≤ 9223372036854775807) :
    Ret Try.prog 14 #[.agg vs.toArray] w0 fun v w => v = .int .i64 t.size ∧ Ext w0 w := by
  have ht0 := ht
  have hw := walk_cnt t 0 (by omega) (by omega)
  obtain ⟨sa, sc, aa, ac, rfl, hset, hlen, hargs⟩ := ht.form
  refine Ret_of Try.func14 rfl Try.ntmps14 (Nat.le_of_ble_eq_true rfl) ?_
  have E : Chg none1 w0 w0 := Chg.refl _ _
  refine Wp_seq_region ?_
  refine s_box (v := (.agg #[(.int .i64 t.kind), (.slice sa t.set.length sc), (.slice aa t.args.length ac), (.int .i64 t.mn), (.int .i64 t.mx), (.bool t.neg)])) (c := #[(.int .i64 t.kind), (.slice sa t.set.length sc), (.slice aa t.args.length ac), (.int .i64 t.mn), (.int .i64 t.mx), (.bool t.neg)]) (by decide) rfl rfl ?_
  intro b1 w1 N1
  have F1 := N1.ge E
  replace E := E.ext N1.ext
  have B1 := N1.blk
  refine WpL_val rfl rfl (by decide) (r_assign (v := (.int .i64 0)) rfl) ?_
  refine WpL_nil ?_
  refine Wp_seq_region ?_
  refine s_allocStore (v := (.int .i64 0)) (c := #[(.int .i64 0)]) (n := 1) (by decide) zer3 rfl siz3 rfl rfl rfl (by simp [Value.oneCell']) ?_
  intro b2 w2 N2
  have F2 := N2.ge E
  have O2_b1 := N2.lt B1
  replace B1 := N2.keep B1
  replace E := E.ext N2.ext
  have B2 := N2.blk
  refine WpL_nil ?_
  refine Wp_seq_region ?_
  refine WpL_val rfl rfl (by decide) (r_loadAgg (vs := [(.int .i64 t.kind), (.slice sa t.set.length sc), (.slice aa t.args.length ac), (.int .i64 t.mn), (.int .i64 t.mx), (.bool t.neg)]) rfl agg25 siz25 rfl (B1.cells rfl)) ?_
  refine WpL_val rfl rfl (by decide) (r_makeFunc (vs := []) (us := [(.pointer (some ⟨b2, 0, none⟩))]) rfl rfl) ?_
  have hf : ∀ (s : Int) (w : World) (t : Re) (vs : List Value), b2 + 1 ≤ w.heap.size → Ext w0 w → Blk w b2 #[.int .i64 s] 3 → ReAt w0 t vs → CallV Try.prog (.func (.func 26) #[] #[.pointer (some ⟨b2, 0, none⟩)]) #[.agg vs.toArray] w fun v w' => v = .bool (cntF s t).1 ∧ Chg (fun x => x = b2) w w' ∧ Blk w' b2 #[.int .i64 (cntF s t).2] 3 := fun s w t vs _ _ hI ht => CallV.mk (first := #[]) (cap := #[.pointer (some ⟨b2, 0, none⟩)]) (args := #[.agg vs.toArray]) Try.func26 nm26 bd26 rfl (size1_c w0 w t vs ht b2 s hI)
  refine WpL_enter rfl rfl (by decide) (r_callF (vs := [(.agg #[(.int .i64 t.kind), (.slice sa t.set.length sc), (.slice aa t.args.length ac), (.int .i64 t.mn), (.int .i64 t.mx), (.bool t.neg)]), (.func (.func 26) #[] #[(.pointer (some ⟨b2, 0, none⟩))])]) Try.func25 nm25 bd25 rfl) (walk_c cntF (fun s w => Blk w b2 #[.int .i64 s] 3) (fun x => x = b2) (b2 + 1) _ w0 (fun b hb => by omega) (fun s w w' hI e => e.keep hI) hf t.size t (Nat.le_refl _) 0 _ _ (by have := B2.lt; omega) E B2 ht0) ?_
  rintro _ w3 ⟨rfl, C3, B3⟩
  replace B1 := C3.keep (by omega) B1
  replace E := E.step C3 (by intro x hx hm; omega)
  refine WpL_nil ?_
  refine Wp_seq_region ?_
  refine WpL_val rfl rfl (by decide) (r_load (v := (.int .i64 ((walkF cntF t 0).2))) rfl flat3 (B3.cell rfl)) ?_
  refine WpL_val rfl rfl (by decide) (r_assign (v := (.int .i64 ((walkF cntF t 0).2))) rfl) ?_
  refine WpL_nil ?_
  refine Wp_ret ?_
  refine fin_tmp Try.results14 (v := (.int .i64 ((walkF cntF t 0).2))) rfl ?_
  exact ⟨by rw [hw]; simp, E⟩
end Go.Proofs
