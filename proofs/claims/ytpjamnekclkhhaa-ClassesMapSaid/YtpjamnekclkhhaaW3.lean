/- Contracts: the checks of an expression's nodes. -/
import Derived.Test.YtpjamnekclkhhaaTab
import Derived.Test.YtpjamnekclkhhaaDat
namespace Go.Proofs
open Go Go.Eng
set_option maxRecDepth 100000

def validB (s : Int × Int) : Bool := (decide (0 ≤ s.1) && decide (s.1 ≤ s.2)) && decide (s.2 ≤ 1114111)

theorem valid_c (s : Int × Int) (w0 : World) :
    Ret Try.prog 73 #[.agg #[.int .i64 s.1, .int .i64 s.2]] w0 fun v w => v = .bool (validB s) ∧ Ext w0 w := by
  refine Ret_of Try.func73 rfl Try.ntmps73 (Nat.le_of_ble_eq_true rfl) ?_
  have E : Chg none1 w0 w0 := Chg.refl _ _
  refine Wp_seq_region ?_
  refine s_box (v := (.agg #[(.int .i64 s.1), (.int .i64 s.2)])) (c := #[(.int .i64 s.1), (.int .i64 s.2)]) (by decide) rfl rfl ?_
  intro b1 w1 N1
  have F1 := N1.ge E
  replace E := E.ext N1.ext
  have B1 := N1.blk
  refine WpL_val rfl rfl (by decide) (r_assign (v := (.bool false)) rfl) ?_
  refine WpL_nil ?_
  refine Wp_seq_region ?_
  refine WpL_val rfl rfl (by decide) (r_fieldAddr (b := b1) (o := 0) (o' := 0) rfl Try.underlying37 rfl siz3 rfl) ?_
  refine WpL_val rfl rfl (by decide) (r_load (v := (.int .i64 s.1)) rfl flat3 (B1.cell rfl)) ?_
  obtain ⟨e2, he2⟩ : ∃ e, (decide ((0 : Int) ≤ s.1)) = e := ⟨_, rfl⟩
  refine WpL_val rfl rfl (by decide) ((r_geq (k := .i64) (a := s.1) (b := 0) rfl rfl).trans (by rw [he2]; try rfl)) ?_
  refine WpL_val rfl rfl (by decide) (r_move (v := (.bool e2)) rfl) ?_
  refine WpL_guard_any (oj := _) (gv := (.bool e2)) (u := (bif e2 then (.pointer (some ⟨b1, 0, none⟩)) else undef)) rfl rfl (by decide) (by decide) rfl (by cases e2 <;> first | exact Or.inr ⟨Or.inl rfl, rfl⟩ | exact Or.inr ⟨Or.inr rfl, rfl⟩ | exact Or.inl ⟨rfl, r_fieldAddr (b := b1) (o := 0) (o' := 0) rfl Try.underlying37 rfl siz3 rfl⟩) ?_
  refine WpL_guard_any (oj := _) (gv := (.bool e2)) (u := (bif e2 then (.int .i64 s.1) else undef)) rfl rfl (by decide) (by decide) rfl (by cases e2 <;> first | exact Or.inr ⟨Or.inl rfl, rfl⟩ | exact Or.inr ⟨Or.inr rfl, rfl⟩ | exact Or.inl ⟨rfl, r_load (v := (.int .i64 s.1)) rfl flat3 (B1.cell rfl)⟩) ?_
  refine WpL_guard_any (oj := _) (gv := (.bool e2)) (u := (bif e2 then (.pointer (some ⟨b1, 1, none⟩)) else undef)) rfl rfl (by decide) (by decide) rfl (by cases e2 <;> first | exact Or.inr ⟨Or.inl rfl, rfl⟩ | exact Or.inr ⟨Or.inr rfl, rfl⟩ | exact Or.inl ⟨rfl, r_fieldAddr (b := b1) (o := 0) (o' := 1) rfl Try.underlying37 rfl siz3 rfl⟩) ?_
  refine WpL_guard_any (oj := _) (gv := (.bool e2)) (u := (bif e2 then (.int .i64 s.2) else undef)) rfl rfl (by decide) (by decide) rfl (by cases e2 <;> first | exact Or.inr ⟨Or.inl rfl, rfl⟩ | exact Or.inr ⟨Or.inr rfl, rfl⟩ | exact Or.inl ⟨rfl, r_load (v := (.int .i64 s.2)) rfl flat3 (B1.cell rfl)⟩) ?_
  obtain ⟨e3, he3⟩ : ∃ e, (decide ((s.1 : Int) ≤ s.2)) = e := ⟨_, rfl⟩
  refine WpL_guard_any (oj := _) (gv := (.bool e2)) (u := (bif e2 then (.bool e3) else undef)) rfl rfl (by decide) (by decide) rfl (by cases e2 <;> first | exact Or.inr ⟨Or.inl rfl, rfl⟩ | exact Or.inr ⟨Or.inr rfl, rfl⟩ | exact Or.inl ⟨rfl, (r_leq (k := .i64) (a := s.1) (b := s.2) rfl rfl).trans (by rw [he3]; try rfl)⟩) ?_
  obtain ⟨e4, he4⟩ : ∃ e, (e2 && e3) = e := ⟨_, rfl⟩
  refine WpL_val rfl rfl (by decide) (r_pick (b := e2) (v := .bool e4) rfl (by rw [← he4]; cases e2 <;> rfl)) ?_
  refine WpL_val rfl rfl (by decide) (r_move (v := (.bool e4)) rfl) ?_
  refine WpL_guard_any (oj := _) (gv := (.bool e4)) (u := (bif e4 then (.pointer (some ⟨b1, 1, none⟩)) else undef)) rfl rfl (by decide) (by decide) rfl (by cases e4 <;> first | exact Or.inr ⟨Or.inl rfl, rfl⟩ | exact Or.inr ⟨Or.inr rfl, rfl⟩ | exact Or.inl ⟨rfl, r_fieldAddr (b := b1) (o := 0) (o' := 1) rfl Try.underlying37 rfl siz3 rfl⟩) ?_
  refine WpL_guard_any (oj := _) (gv := (.bool e4)) (u := (bif e4 then (.int .i64 s.2) else undef)) rfl rfl (by decide) (by decide) rfl (by cases e4 <;> first | exact Or.inr ⟨Or.inl rfl, rfl⟩ | exact Or.inr ⟨Or.inr rfl, rfl⟩ | exact Or.inl ⟨rfl, r_load (v := (.int .i64 s.2)) rfl flat3 (B1.cell rfl)⟩) ?_
  obtain ⟨e5, he5⟩ : ∃ e, (decide ((s.2 : Int) ≤ 1114111)) = e := ⟨_, rfl⟩
  refine WpL_guard_any (oj := _) (gv := (.bool e4)) (u := (bif e4 then (.bool e5) else undef)) rfl rfl (by decide) (by decide) rfl (by cases e4 <;> first | exact Or.inr ⟨Or.inl rfl, rfl⟩ | exact Or.inr ⟨Or.inr rfl, rfl⟩ | exact Or.inl ⟨rfl, (r_leq (k := .i64) (a := s.2) (b := 1114111) rfl rfl).trans (by rw [he5]; try rfl)⟩) ?_
  obtain ⟨e6, he6⟩ : ∃ e, (e4 && e5) = e := ⟨_, rfl⟩
  refine WpL_val rfl rfl (by decide) (r_pick (b := e4) (v := .bool e6) rfl (by rw [← he6]; cases e4 <;> rfl)) ?_
  refine WpL_val rfl rfl (by decide) (r_assign (v := (.bool e6)) rfl) ?_
  refine WpL_nil ?_
  subst he6
  subst he5
  subst he4
  subst he3
  subst he2
  refine Wp_ret ?_
  refine fin_tmp Try.results73 (v := (.bool (((decide ((0 : Int) ≤ s.1)) && (decide ((s.1 : Int) ≤ s.2))) && (decide ((s.2 : Int) ≤ 1114111))))) rfl ?_
  exact ⟨rfl, E⟩

def okB (k n : Int) : Bool := if k = 3 ∨ k = 4 ∨ k = 7 then decide (2 ≤ n) else if k = 5 ∨ k = 6 ∨ k = 8 ∨ k = 9 ∨ k = 10 then decide (n = 1) else decide (n = 0)
def formB (t : Re) : Bool :=
  (((okB t.kind t.args.length && (decide (t.kind = 2) || decide ((t.set.length : Int) = 0))) && ((decide (t.kind = 6) || decide (t.kind = 9)) || decide (t.mn = 0))) && (decide (t.kind = 6) || decide (t.mx = 0))) && (decide (t.kind = 10) || !t.neg)

def checkL : Option Int → List (Int × Int) → Int
  | _, [] => 0
  | p, s :: r => if validB s = false then 1 else if (match p with | some h => decide (s.1 < h + 2) | none => false) = true then 3 else checkL (some s.2) r
theorem checkL_cons (p : Option Int) (s : Int × Int) (r : List (Int × Int)) : checkL p (s :: r) = if validB s = false then 1 else if (match p with | some h => decide (s.1 < h + 2) | none => false) = true then 3 else checkL (some s.2) r := rfl
def checkE (l : List (Int × Int)) : Int := if 16 < l.length then 2 else checkL none l
def prevHi (l : List (Int × Int)) (k : Nat) : Option Int := if k = 0 then none else (l[k - 1]?).map (·.2)

theorem nextHi {l : List (Int × Int)} {k : Nat} {s : Int × Int} (h : l[k]? = some s) : prevHi l (k + 1) = some s.2 := by
  unfold prevHi; simp [h]
theorem notHi {l : List (Int × Int)} {k : Nat} {s : Int × Int} {p : Int} (hpq : 0 < k → ∃ q, l[k - 1]? = some q ∧ q.2 = p ∧ prevHi l k = some p)
    (hf : (decide ((0 : Int) < ((k : Nat) : Int)) && decide (s.1 < p + 2)) = false) : ¬ (match prevHi l k with | some h => decide (s.1 < h + 2) | none => false) = true := by
  by_cases h0 : 0 < k
  · obtain ⟨q, _, _, h3⟩ := hpq h0
    rw [h3]
    simp at hf ⊢
    exact hf h0
  · have : prevHi l k = none := by unfold prevHi; rw [if_pos (by omega)]
    rw [this]; simp

set_option maxHeartbeats 400000 in
theorem rcheck_c (w0 : World) (v : Value) (l : List (Int × Int)) (hs : SpansAt w0 v l) :
    Ret Try.prog 33 #[v] w0 fun v w => v = .int .i64 (checkE l) ∧ Ext w0 w := by
  obtain ⟨a, c, rfl⟩ := SlAt.form hs
  have hlen : l.length ≤ 9223372036854775807 := by simpa using SlAt.le hs
  simp only [List.length_map] at hs ⊢
  refine Ret_of Try.func33 rfl Try.ntmps33 (Nat.le_of_ble_eq_true rfl) ?_
  have E : Chg none1 w0 w0 := Chg.refl _ _
  refine Wp_seq_region ?_
  refine WpL_val rfl rfl (by decide) (r_assign (v := (.int .i64 0)) rfl) ?_
  refine WpL_nil ?_
  refine Wp_seq ?_
  refine Wp_seq_region ?_
  refine WpL_val rfl rfl (by decide) (r_move (v := (.slice a l.length c)) rfl) ?_
  refine WpL_val rfl rfl (by decide) (r_lenSlice (ad := a) (n := l.length) (cap := c) Try.underlying23 rfl) ?_
  refine WpL_val rfl rfl (by decide) (r_gtr (k := .i64) (a := ((l.length : Nat) : Int)) (b := 16) rfl rfl) ?_
  refine WpL_nil ?_
  refine Wp_cond (b := decide ((16 : Int) < ((l.length : Nat) : Int))) rfl (fun h16 => ?_) (fun h16 => ?_)
  · have kh16 := h16
    replace h16 := of_decide_eq_true h16
    refine Wp_seq_region ?_
    refine WpL_val rfl rfl (by decide) (r_assign (v := (.int .i64 2)) rfl) ?_
    refine WpL_nil ?_
    refine Wp_ret ?_
    refine thn_ret ?_
    refine fin_tmp Try.results33 (v := (.int .i64 2)) rfl ?_
    exact ⟨by unfold checkE; rw [if_pos (by omega)], E⟩
  · have kh16 := h16
    replace h16 := of_decide_eq_false h16
    have hE0 : checkE l = checkL none l := by unfold checkE; rw [if_neg (by omega)]
    rw [hE0]
    refine Wp_skip ?_
    refine thn_normal ?_
    refine Wp_seq ?_
    refine Wp_seq_region ?_
    refine WpL_val rfl rfl (by decide) (r_move (v := (.slice a l.length c)) rfl) ?_
    refine WpL_val rfl rfl (by decide) (r_lenSlice (ad := a) (n := l.length) (cap := c) Try.underlying23 rfl) ?_
    refine WpL_val rfl rfl (by decide) (r_move (v := (.int .i64 0)) rfl) ?_
    refine WpL_nil ?_
    refine Wp_block ?_
    refine Wp_loop (fun nn_ σ W2 => ∃ (k : Nat), (∃ jj_, σ = upds jj_ [(0, (.slice a l.length c)), (8, (.slice a l.length c)), (9, (.int .i64 ((l.length : Nat) : Int))), (10, (.int .i64 ((k : Nat) : Int)))]) ∧ Chg none1 w0 W2 ∧ (k ≤ l.length) ∧ (checkL none l = checkL (prevHi l k) (l.drop k)) ∧ (∀ h, prevHi l k = some h → 0 ≤ h ∧ h ≤ 1114111) ∧ nn_ = l.length - k) (n := l.length - 0) ?_ ?_
    · exact ⟨0, Fits.out ⟨rfl, rfl, rfl, rfl, trivial⟩, E, Nat.zero_le _, rfl, (by intro h hh; simp [prevHi] at hh), rfl⟩
    · clear E
      rintro _ _ W2 ⟨k, ⟨j2, rfl⟩, E, hk, hrel, hpv, rfl⟩
      refine Wp_seq_region ?_
      refine WpL_val rfl rfl (by decide) (r_lss (k := .i64) (a := ((k : Nat) : Int)) (b := ((l.length : Nat) : Int)) rfl rfl) ?_
      refine WpL_nil ?_
      refine Wp_seq ?_
      refine Wp_cond (b := decide ((((k : Nat) : Int) : Int) < ((l.length : Nat) : Int))) rfl (fun hlt => ?_) (fun hlt => ?_)
      · have khlt := hlt
        replace hlt := of_decide_eq_true hlt
        have hlt' : k < l.length := by omega
        obtain ⟨s, hsk⟩ : ∃ s, l[k]? = some s := ⟨_, List.getElem?_eq_getElem hlt'⟩
        obtain ⟨b, o, rfl, hcells⟩ := spans_cells hs (by omega)
        have hdr : l.drop k = s :: l.drop (k + 1) := by rw [List.drop_eq_getElem_cons hlt']; rw [List.getElem?_eq_getElem hlt'] at hsk; cases hsk; rfl
        rw [hdr] at hrel
        refine Wp_skip ?_
        refine thn_normal ?_
        refine Wp_seq ?_
        refine Wp_block ?_
        refine Wp_seq_region ?_
        refine WpL_val rfl rfl (by decide) (r_move (v := (.int .i64 ((k : Nat) : Int))) rfl) ?_
        refine WpL_val rfl rfl (by decide) (r_indexSlice (b := b) (o := o) (len := l.length) (cap := c) (i := k) (o' := o + k * 2) rfl rfl rfl Try.underlying23 siz37 (by omega) (by omega)) ?_
        refine WpL_val rfl rfl (by decide) (r_loadAgg (vs := [(.int .i64 s.1), (.int .i64 s.2)]) rfl agg37 siz37 rfl ((hcells k s hsk).ext E)) ?_
        refine s_alloc (c := #[(.int .i64 0), (.int .i64 0)]) (by decide) zer37 rfl ?_
        intro b4 w4 N4
        have F4 := N4.ge E
        replace E := E.ext N4.ext
        have B4 := N4.blk
        refine WpL_val rfl rfl (by decide) (r_assign (v := (.int .i64 ((k : Nat) : Int))) rfl) ?_
        refine s_storeAgg (b := b4) (o := 0) (c' := #[(.int .i64 s.1), (.int .i64 s.2)]) rfl rfl (by simp [Value.oneCell']) siz37 rfl B4 (by simp) rfl ?_
        intro w5 S5
        replace E := S5.step E (by first | exact Or.inl (by omega) | exact Or.inr rfl | exact Or.inr (by assumption) | exact Or.inr (by simp) | exact Or.inr (by omega) | exact Or.inr (by dsimp only; omega))
        replace B4 := S5.blk
        refine WpL_nil ?_
        refine Wp_seq ?_
        refine Wp_seq_region ?_
        refine WpL_val rfl rfl (by decide) (r_loadAgg (vs := [(.int .i64 s.1), (.int .i64 s.2)]) rfl agg37 siz37 rfl (B4.cells rfl)) ?_
        refine WpL_enter rfl rfl (by decide) (r_callF (vs := [(.agg #[(.int .i64 s.1), (.int .i64 s.2)])]) Try.func73 nm73 bd73 rfl) (valid_c s _) ?_
        rintro _ w9 ⟨rfl, X9⟩
        replace B4 := X9.keep B4
        replace E := E.ext X9
        refine WpL_val rfl rfl (by decide) (r_not (b := validB s) rfl) ?_
        refine WpL_nil ?_
        refine Wp_cond (b := !(validB s)) rfl (fun hv => ?_) (fun hv => ?_)
        · have khv := hv
          replace hv := by simpa using hv
          refine Wp_seq_region ?_
          refine WpL_val rfl rfl (by decide) (r_assign (v := (.int .i64 1)) rfl) ?_
          refine WpL_nil ?_
          refine Wp_ret ?_
          refine thn_ret ?_
          refine inB_ret ?_
          refine thn_ret ?_
          refine thn_ret ?_
          refine inB_ret ?_
          refine thn_ret ?_
          refine fin_tmp Try.results33 (v := (.int .i64 1)) rfl ?_
          exact ⟨by rw [hrel]; rw [checkL_cons, if_pos hv], E⟩
        · have khv := hv
          replace hv := by simpa using hv
          have hvt : validB s = true := by simpa using hv
          have hvb : 0 ≤ s.2 ∧ s.2 ≤ 1114111 := by unfold validB at hvt; simp at hvt; omega
          obtain ⟨p, hpe⟩ : ∃ p, (prevHi l k).getD 0 = p := ⟨_, rfl⟩
          have hpq : 0 < k → ∃ q, l[k - 1]? = some q ∧ q.2 = p ∧ prevHi l k = some p := by
            intro h0
            have h1 : k - 1 < l.length := by omega
            have h2 : prevHi l k = some (l[k - 1]).2 := by unfold prevHi; rw [if_neg (by omega), List.getElem?_eq_getElem h1]; rfl
            rw [h2] at hpe; simp at hpe
            exact ⟨_, List.getElem?_eq_getElem h1, hpe, by rw [h2, hpe]⟩
          have hpb : 0 ≤ p ∧ p ≤ 1114111 := by
            by_cases h0 : 0 < k
            · obtain ⟨q, _, _, h3⟩ := hpq h0; exact hpv p h3
            · have : prevHi l k = none := by unfold prevHi; rw [if_pos (by omega)]
              rw [this] at hpe; simp at hpe; omega
          refine Wp_skip ?_
          refine thn_normal ?_
          refine Wp_seq_draw 13 mixed (by kernel_rfl) ?_
          intro w7 X7 _
          replace B4 := X7.keep B4
          replace E := E.ext X7
          refine WpT_val rfl rfl (by decide) (r_move (v := (.int .i64 ((k : Nat) : Int))) rfl) ?_
          obtain ⟨e8, he8⟩ : ∃ e, (decide ((0 : Int) < ((k : Nat) : Int))) = e := ⟨_, rfl⟩
          refine WpT_val rfl rfl (by decide) ((r_gtr (k := .i64) (a := ((k : Nat) : Int)) (b := 0) rfl rfl).trans (by rw [he8]; try rfl)) ?_
          refine WpT_val rfl rfl (by decide) (r_move (v := (.bool e8)) rfl) ?_
          refine WpT_guard_any (oj := _) (gv := (.bool e8)) (u := (bif e8 then (.pointer (some ⟨b4, 0, none⟩)) else undef)) rfl rfl (by decide) (by decide) rfl (by cases e8 <;> first | exact Or.inr ⟨Or.inl rfl, rfl⟩ | exact Or.inr ⟨Or.inr rfl, rfl⟩ | exact Or.inl ⟨rfl, r_fieldAddr (b := b4) (o := 0) (o' := 0) rfl Try.underlying37 rfl siz3 rfl⟩) ?_
          refine WpT_guard_any (oj := _) (gv := (.bool e8)) (u := (bif e8 then (.int .i64 s.1) else undef)) rfl rfl (by decide) (by decide) rfl (by cases e8 <;> first | exact Or.inr ⟨Or.inl rfl, rfl⟩ | exact Or.inr ⟨Or.inr rfl, rfl⟩ | exact Or.inl ⟨rfl, r_load (v := (.int .i64 s.1)) rfl flat3 (B4.cell rfl)⟩) ?_
          refine WpT_guard_any (oj := _) (gv := (.bool e8)) (u := (bif e8 then (.slice (some ⟨b, o, none⟩) l.length c) else undef)) rfl rfl (by decide) (by decide) rfl (by cases e8 <;> first | exact Or.inr ⟨Or.inl rfl, rfl⟩ | exact Or.inr ⟨Or.inr rfl, rfl⟩ | exact Or.inl ⟨rfl, r_move (v := (.slice (some ⟨b, o, none⟩) l.length c)) rfl⟩) ?_
          refine WpT_guard_any (oj := _) (gv := (.bool e8)) (u := (bif e8 then (.int .i64 ((k : Nat) : Int)) else undef)) rfl rfl (by decide) (by decide) rfl (by cases e8 <;> first | exact Or.inr ⟨Or.inl rfl, rfl⟩ | exact Or.inr ⟨Or.inr rfl, rfl⟩ | exact Or.inl ⟨rfl, r_move (v := (.int .i64 ((k : Nat) : Int))) rfl⟩) ?_
          refine WpT_guard_any (oj := _) (gv := (.bool e8)) (u := (bif e8 then (.int .i64 (((k : Nat) : Int) - 1)) else undef)) rfl rfl (by decide) (by decide) rfl (by cases e8 <;> first | exact Or.inr ⟨Or.inl rfl, rfl⟩ | exact Or.inr ⟨Or.inr rfl, rfl⟩ | exact Or.inl ⟨rfl, r_sub (k := .i64) (a := ((k : Nat) : Int)) (b := 1) (c := ((k : Nat) : Int) - 1) rfl rfl (wI64 (by have := of_decide_eq_true he8; omega))⟩) ?_
          refine WpT_guard_any (oj := _) (gv := (.bool e8)) (u := (bif e8 then (.pointer (some ⟨b, o + (k - 1) * 2, none⟩)) else undef)) rfl rfl (by decide) (by decide) rfl (by cases e8 <;> first | exact Or.inr ⟨Or.inl rfl, rfl⟩ | exact Or.inr ⟨Or.inr rfl, rfl⟩ | exact Or.inl ⟨rfl, r_indexSlice (b := b) (o := o) (len := l.length) (cap := c) (i := k - 1) (o' := o + (k - 1) * 2) rfl rfl (by have := of_decide_eq_true he8; omega) Try.underlying23 siz37 (by have := of_decide_eq_true he8; omega) (by omega)⟩) ?_
          refine WpT_guard_any (oj := _) (gv := (.bool e8)) (u := (bif e8 then (.pointer (some ⟨b, o + (k - 1) * 2 + 1, none⟩)) else undef)) rfl rfl (by decide) (by decide) rfl (by cases e8 <;> first | exact Or.inr ⟨Or.inl rfl, rfl⟩ | exact Or.inr ⟨Or.inr rfl, rfl⟩ | exact Or.inl ⟨rfl, r_fieldAddr (b := b) (o := o + (k - 1) * 2) (o' := o + (k - 1) * 2 + 1) rfl Try.underlying37 rfl siz3 rfl⟩) ?_
          refine WpT_guard_any (oj := _) (gv := (.bool e8)) (u := (bif e8 then (.int .i64 p) else undef)) rfl rfl (by decide) (by decide) rfl (by cases e8 <;> first | exact Or.inr ⟨Or.inl rfl, rfl⟩ | exact Or.inr ⟨Or.inr rfl, rfl⟩ | exact Or.inl ⟨rfl, r_load (v := (.int .i64 p)) rfl flat3 ((by have := of_decide_eq_true he8;  obtain ⟨q, hq, rfl, _⟩ := hpq (by omega); exact ((hcells (k - 1) q hq).ext E).at1))⟩) ?_
          refine WpT_guard_any (oj := _) (gv := (.bool e8)) (u := (bif e8 then (.int .i64 (p + 2)) else undef)) rfl rfl (by decide) (by decide) rfl (by cases e8 <;> first | exact Or.inr ⟨Or.inl rfl, rfl⟩ | exact Or.inr ⟨Or.inr rfl, rfl⟩ | exact Or.inl ⟨rfl, r_add (k := .i64) (a := p) (b := 2) (c := p + 2) rfl rfl (wI64 (by have := of_decide_eq_true he8; omega))⟩) ?_
          obtain ⟨e9, he9⟩ : ∃ e, (decide ((s.1 : Int) < p + 2)) = e := ⟨_, rfl⟩
          refine WpT_guard_any (oj := _) (gv := (.bool e8)) (u := (bif e8 then (.bool e9) else undef)) rfl rfl (by decide) (by decide) rfl (by cases e8 <;> first | exact Or.inr ⟨Or.inl rfl, rfl⟩ | exact Or.inr ⟨Or.inr rfl, rfl⟩ | exact Or.inl ⟨rfl, (r_lss (k := .i64) (a := s.1) (b := p + 2) rfl rfl).trans (by rw [he9]; try rfl)⟩) ?_
          refine WpT_zero ?_
          obtain ⟨e10, he10⟩ : ∃ e, (e8 && e9) = e := ⟨_, rfl⟩
          refine WpL_val rfl rfl (by decide) (r_pick (b := e8) (v := .bool e10) rfl (by rw [← he10]; cases e8 <;> rfl)) ?_
          refine WpL_nil ?_
          subst he10
          subst he9
          subst he8
          refine Wp_cond (b := ((decide ((0 : Int) < ((k : Nat) : Int))) && (decide ((s.1 : Int) < p + 2)))) rfl (fun hf => ?_) (fun hf => ?_)
          · have khf := hf
            have hf2 : 0 < k ∧ s.1 < p + 2 := by simpa using hf
            obtain ⟨q, _, _, h3⟩ := hpq hf2.1
            refine Wp_seq_region ?_
            refine WpL_val rfl rfl (by decide) (r_assign (v := (.int .i64 3)) rfl) ?_
            refine WpL_nil ?_
            refine Wp_ret ?_
            refine inB_ret ?_
            refine thn_ret ?_
            refine thn_ret ?_
            refine inB_ret ?_
            refine thn_ret ?_
            refine fin_tmp Try.results33 (v := (.int .i64 3)) rfl ?_
            exact ⟨by rw [hrel]; rw [checkL_cons, if_neg (by simp [hvt]), h3, if_pos (by simp [hf2.2])], E⟩
          · have khf := hf
            refine Wp_skip ?_
            refine inB_normal ?_
            refine thn_normal ?_
            refine Wp_region ?_
            refine WpL_val rfl rfl (by decide) (r_add (k := .i64) (a := ((k : Nat) : Int)) (b := 1) (c := ((k : Nat) : Int) + 1) rfl rfl (wI64 (by omega))) ?_
            refine WpL_val rfl rfl (by decide) (r_move (v := (.int .i64 (((k : Nat) : Int) + 1))) rfl) ?_
            refine WpL_nil ?_
            refine thn_normal ?_
            exact ⟨l.length - (k + 1), by omega, k + 1, Fits.out ⟨rfl, rfl, rfl, rfl, trivial⟩, E, (by omega), (by rw [hrel]; rw [checkL_cons, if_neg (by simp [hvt]), if_neg ?_, nextHi hsk]; exact notHi hpq hf), (by intro h hh; rw [nextHi hsk] at hh; cases hh; exact hvb), rfl⟩
      · have khlt := hlt
        replace hlt := of_decide_eq_false hlt
        have hkk : k = l.length := by omega
        rw [hkk, List.drop_length] at hrel
        refine Wp_exit ?_
        refine thn_exit ?_
        refine thn_exit ?_
        refine inB_here ?_
        refine thn_normal ?_
        refine Wp_seq_region ?_
        refine WpL_val rfl rfl (by decide) (r_assign (v := (.int .i64 0)) rfl) ?_
        refine WpL_nil ?_
        refine Wp_ret ?_
        refine fin_tmp Try.results33 (v := (.int .i64 0)) rfl ?_
        exact ⟨by rw [hrel]; rfl, E⟩
end Go.Proofs
