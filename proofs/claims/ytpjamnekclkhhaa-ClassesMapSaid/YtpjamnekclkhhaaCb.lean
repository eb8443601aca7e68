/- The functions of package classes that read a partition. -/
import Derived.Test.YtpjamnekclkhhaaCa
import Derived.Test.YtpjamnekclkhhaaLe
import Derived.Test.YtpjamnekclkhhaaCs
namespace Go.Proofs
open Go Go.Eng Go.Sort
set_option maxRecDepth 100000

def cf3 (x y : VSp) : Int := cmpI x.s.1 y.s.1
theorem cf3_c (w0 : World) (x y : VSp) : Ret Try.prog 89 #[.agg #[.int .i64 x.s.1, .int .i64 x.s.2], .agg #[.int .i64 y.s.1, .int .i64 y.s.2]] w0 fun v w => v = .int .i64 (cf3 x y) ∧ Ext w0 w := by
  refine Ret_of Try.func89 rfl Try.ntmps89 (Nat.le_of_ble_eq_true rfl) ?_
  have E : Chg none1 w0 w0 := Chg.refl _ _
  refine Wp_seq_region ?_
  refine s_box (v := (.agg #[(.int .i64 x.s.1), (.int .i64 x.s.2)])) (c := #[(.int .i64 x.s.1), (.int .i64 x.s.2)]) (by decide) rfl rfl ?_
  intro b1 w1 N1
  have F1 := N1.ge E
  replace E := E.ext N1.ext
  have B1 := N1.blk
  refine s_box (v := (.agg #[(.int .i64 y.s.1), (.int .i64 y.s.2)])) (c := #[(.int .i64 y.s.1), (.int .i64 y.s.2)]) (by decide) rfl rfl ?_
  intro b2 w2 N2
  have F2 := N2.ge E
  have O2_b1 := N2.lt B1
  replace B1 := N2.keep B1
  replace E := E.ext N2.ext
  have B2 := N2.blk
  refine WpL_val rfl rfl (by decide) (r_assign (v := (.int .i64 0)) rfl) ?_
  refine WpL_nil ?_
  refine Wp_seq_region ?_
  refine WpL_val rfl rfl (by decide) (r_fieldAddr (b := b1) (o := 0) (o' := 0) rfl Try.underlying37 rfl siz3 rfl) ?_
  refine WpL_val rfl rfl (by decide) (r_load (v := (.int .i64 x.s.1)) rfl flat3 (B1.cell rfl)) ?_
  refine WpL_val rfl rfl (by decide) (r_fieldAddr (b := b2) (o := 0) (o' := 0) rfl Try.underlying37 rfl siz3 rfl) ?_
  refine WpL_val rfl rfl (by decide) (r_load (v := (.int .i64 y.s.1)) rfl flat3 (B2.cell rfl)) ?_
  refine WpL_enter rfl rfl (by decide) (r_callF (vs := [(.int .i64 x.s.1), (.int .i64 y.s.1)]) Try.func90 nm90 bd90 rfl) (compare_c _ x.s.1 y.s.1) ?_
  rintro _ w9 ⟨rfl, X9⟩
  replace B1 := X9.keep B1
  replace B2 := X9.keep B2
  replace E := E.ext X9
  refine WpL_val rfl rfl (by decide) (r_assign (v := (.int .i64 (cf3 x y))) rfl) ?_
  refine WpL_nil ?_
  refine Wp_ret ?_
  refine fin_tmp Try.results89 (v := (.int .i64 (cf3 x y))) rfl ?_
  exact ⟨rfl, E⟩
theorem cf3_lt (x y : VSp) : cf3 x y < 0 ↔ x.s.1 < y.s.1 := by unfold cf3 cmpI; split <;> (try split) <;> omega
theorem swo3 : SWO (ltOf cf3) := by
  refine ⟨fun x => ?_, fun x y z => ?_, fun x y z => ?_⟩ <;> simp only [ltOf, decide_eq_true_eq, decide_eq_false_iff_not, cf3_lt] <;> omega
theorem sort3_c (w0 : World) (base : Nat) (v : Value) (l : List Sp) (h : OwnS w0 base v l) (hl : l.length ≤ 8796093022208) (hok : ∀ s ∈ l, vSp s) :
    Ret Try.prog 55 #[v, .func (.func 89) #[] #[]] w0 fun r w => r = .tuple #[] ∧ (∃ ls : List Sp, ls.Perm l ∧ ls.Pairwise (fun s t => s.1 ≤ t.1) ∧ SpansAt w v ls) ∧ Chg (fun x => v.ownBlock = some x) w0 w :=
  (sorts_c cf3 swo3 Try.func89 nm89 bd89 cf3_c w0 base v l h hl hok).mono fun r w ⟨h1, ⟨l', h2, h3, h4⟩, h5⟩ =>
    ⟨h1, ⟨_, h2, List.pairwise_map.2 (h3.imp fun {s t} hst => by rw [cf3_lt] at hst; omega), h4⟩, h5⟩
theorem flatLen : ∀ {ll : List (List Sp)} , (∀ l ∈ ll, checkE l = 0) → ll.flatten.length ≤ 16 * ll.length
  | [], _ => by simp
  | l :: ll, h => by
    have h1 := flatLen fun x hx => h x (List.mem_cons_of_mem _ hx)
    have h2 := (checkE_canon (h l List.mem_cons_self)).2
    simp only [List.flatten_cons, List.length_append, List.length_cons]
    omega
theorem getD_get {α : Type} {l : List α} {k : Nat} {x d : α} (h : l[k]? = some x) : l.getD k d = x := by simp [List.getD, h]
theorem hd_no {ll : List (List Sp)} {k : Nat} (hk : k < ll.length) (h : ¬ hdOk ll k) : ¬ (headsP ll ∧ isPart ll) := fun h1 => h (h1.1 k hk)
theorem hd_step {ll : List (List Sp)} {k : Nat} (hh : ∀ j, j < k → hdOk ll j) (h : hdOk ll k) : ∀ j, j < k + 1 → hdOk ll j := fun j hj => by
  rcases Nat.lt_or_ge j k with h1 | h1
  · exact hh j h1
  · have e : j = k := by omega
    rw [e]; exact h
theorem head_some {l : List Sp} (h : l ≠ []) : ∃ s, l[0]? = some s ∧ headLo l = s.1 := by
  cases l with
  | nil => exact absurd rfl h
  | cons s l => exact ⟨s, rfl, rfl⟩
set_option maxHeartbeats 1000000 in
theorem part_c (w0 : World) (v : Value) (ll : List (List Sp)) (h : SpssAt w0 v ll) :
    Ret Try.prog 49 #[v] w0 fun r w => r = .int .i64 (partE ll) ∧ Ext w0 w := by
  obtain ⟨a, c, rfl, _, hle⟩ := h.form
  obtain ⟨base, hbase⟩ : ∃ base, base = w0.heap.size := ⟨_, rfl⟩
  refine Ret_of Try.func49 rfl Try.ntmps49 (Nat.le_of_ble_eq_true rfl) ?_
  have E : Chg none1 w0 w0 := Chg.refl _ _
  refine Wp_seq_region ?_
  refine WpL_val rfl rfl (by decide) (r_assign (v := (.int .i64 0)) rfl) ?_
  refine WpL_nil ?_
  refine Wp_seq ?_
  refine Wp_seq_region ?_
  refine WpL_val rfl rfl (by decide) (r_move (v := (.slice a ll.length c)) rfl) ?_
  refine WpL_val rfl rfl (by decide) (r_lenSlice (ad := a) (n := ll.length) (cap := c) Try.underlying53 rfl) ?_
  refine WpL_val rfl rfl (by decide) (r_gtr (k := .i64) (a := ((ll.length : Nat) : Int)) (b := 16) rfl rfl) ?_
  refine WpL_nil ?_
  refine Wp_cond (b := decide ((16 : Int) < ((ll.length : Nat) : Int))) rfl (fun h16 => ?_) (fun h16 => ?_)
  · have kh16 := h16
    replace h16 := of_decide_eq_true h16
    refine Wp_seq_region ?_
    refine WpL_val rfl rfl (by decide) (r_assign (v := (.int .i64 2)) rfl) ?_
    refine WpL_nil ?_
    refine Wp_ret ?_
    refine thn_ret ?_
    refine fin_tmp Try.results49 (v := (.int .i64 2)) rfl ?_
    exact ⟨int_eq (partE_large (by omega)).symm, E⟩
  · have kh16 := h16
    replace h16 := of_decide_eq_false h16
    have h16' : ¬ 16 < ll.length := by omega
    refine Wp_skip ?_
    refine thn_normal ?_
    refine Wp_seq_region ?_
    refine WpL_val rfl rfl (by decide) (r_assign (v := (.slice none 0 0)) rfl) ?_
    refine WpL_nil ?_
    refine Wp_seq ?_
    refine Wp_seq_region ?_
    refine WpL_val rfl rfl (by decide) (r_move (v := (.slice a ll.length c)) rfl) ?_
    refine WpL_val rfl rfl (by decide) (r_lenSlice (ad := a) (n := ll.length) (cap := c) Try.underlying53 rfl) ?_
    refine WpL_val rfl rfl (by decide) (r_move (v := (.int .i64 0)) rfl) ?_
    refine WpL_nil ?_
    refine Wp_block ?_
    refine Wp_loop (fun nn_ σ W2 => ∃ (k : Nat) (la : Option Addr) (lc : Nat) (m : Nat), (∃ jj_, σ = upds jj_ [(0, (.slice a ll.length c)), (15, (.slice a ll.length c)), (16, (.int .i64 ((ll.length : Nat) : Int))), (17, (.int .i64 ((k : Nat) : Int))), (3, (.slice la m lc))]) ∧ Chg none1 w0 W2 ∧ (k ≤ ll.length) ∧ (∀ l ∈ ll.take k, checkE l = 0) ∧ (m = (ll.take k).flatten.length) ∧ (W2.ownsRow base TSp 2 (.slice la m lc) m (((ll.take k).flatten).map spanV).flatten) ∧ (base ≤ W2.heap.size) ∧ nn_ = ll.length - k) (n := ll.length - 0) ?_ ?_
    · exact ⟨0, none, 0, 0, Fits.out ⟨rfl, rfl, rfl, rfl, rfl, trivial⟩, E, Nat.zero_le _, (by simp), rfl, World.ownsRow_nil _ _ _ _, (by have := E.size; omega), rfl⟩
    · clear E
      rintro _ _ W2 ⟨k, la, lc, m, ⟨j2, rfl⟩, E, hk, hz, hm, hown, hbs, rfl⟩
      refine Wp_seq_region ?_
      refine WpL_val rfl rfl (by decide) (r_lss (k := .i64) (a := ((k : Nat) : Int)) (b := ((ll.length : Nat) : Int)) rfl rfl) ?_
      refine WpL_nil ?_
      refine Wp_seq ?_
      refine Wp_cond (b := decide ((((k : Nat) : Int) : Int) < ((ll.length : Nat) : Int))) rfl (fun hlt => ?_) (fun hlt => ?_)
      · have khlt := hlt
        replace hlt := of_decide_eq_true hlt
        obtain ⟨l, hx⟩ := get_of_lt (l := ll) (i := k) (by omega)
        obtain ⟨b, o, rfl, hcl⟩ := spss_cells h (by omega)
        obtain ⟨ra, rc, hcell, hsp⟩ := hcl k l hx
        refine Wp_skip ?_
        refine thn_normal ?_
        refine Wp_seq ?_
        refine Wp_block ?_
        refine Wp_seq_region ?_
        refine WpL_val rfl rfl (by decide) (r_indexSlice (b := b) (o := o) (len := ll.length) (cap := c) (i := k) (o' := o + k) rfl rfl rfl Try.underlying53 siz23 (by omega) (by omega)) ?_
        refine WpL_val rfl rfl (by decide) (r_load (v := (.slice ra l.length rc)) rfl flat23 (E.cell (fun f => f) hcell)) ?_
        refine WpL_val rfl rfl (by decide) (r_assign (v := (.slice ra l.length rc)) rfl) ?_
        refine WpL_nil ?_
        refine Wp_seq ?_
        refine Wp_seq_region ?_
        refine WpL_val rfl rfl (by decide) (r_move (v := (.slice ra l.length rc)) rfl) ?_
        refine WpL_enter rfl rfl (by decide) (r_callF (vs := [(.slice ra l.length rc)]) Try.func33 nm33 bd33 rfl) (rcheck_c _ _ l (hsp.ext E)) ?_
        rintro _ w9 ⟨rfl, X9⟩
        replace hown := own_ext hown X9
        replace hbs := Nat.le_trans hbs X9.size
        replace E := E.ext X9
        refine WpL_val rfl rfl (by decide) (r_assign (v := (.int .i64 (checkE l))) rfl) ?_
        refine WpL_nil ?_
        refine Wp_seq_region ?_
        refine WpL_val rfl rfl (by decide) (r_move (v := (.int .i64 (checkE l))) rfl) ?_
        refine WpL_val rfl rfl (by decide) (r_neq (k := .i64) (a := checkE l) (b := 0) rfl rfl) ?_
        refine WpL_nil ?_
        refine Wp_cond (b := decide ((checkE l : Int) ≠ 0)) rfl (fun hc => ?_) (fun hc => ?_)
        · have khc := hc
          replace hc := of_decide_eq_true hc
          refine Wp_seq_region ?_
          refine WpL_val rfl rfl (by decide) (r_move (v := (.int .i64 (checkE l))) rfl) ?_
          refine WpL_val rfl rfl (by decide) (r_assign (v := (.int .i64 (checkE l))) rfl) ?_
          refine WpL_nil ?_
          refine Wp_ret ?_
          refine thn_ret ?_
          refine inB_ret ?_
          refine thn_ret ?_
          refine thn_ret ?_
          refine inB_ret ?_
          refine thn_ret ?_
          refine fin_tmp Try.results49 (v := (.int .i64 (checkE l))) rfl ?_
          have hb := badE_at hz hx hc
          exact ⟨int_eq ((partE_bad h16' (by rw [hb]; exact hc)).trans hb).symm, E⟩
        · have khc := hc
          replace hc := of_decide_eq_false hc
          have hf := flatLen hz
          have hl16 := (checkE_canon (show checkE l = 0 by omega)).2
          have htk : (ll.take k).length = k := by simp; omega
          refine Wp_skip ?_
          refine thn_normal ?_
          refine Wp_region ?_
          refine WpL_val rfl rfl (by decide) (r_move (v := (.slice la m lc)) rfl) ?_
          refine WpL_val rfl rfl (by decide) (r_move (v := (.slice ra l.length rc)) rfl) ?_
          refine s_appendAny (base := base) (n := m) (m := l.length) (xs := (((ll.take k).flatten).map spanV).flatten) (news := (l.map spanV).flatten) (size := 2) (bytes := 16) (v := (.slice la m lc)) (by decide) Try.underlying23 siz37 byt37 zer37 rfl (by decide) rfl hown rfl (spans_six l) (spans_any (hsp.ext E)) (spans_one l) (by unfold maxLen; omega) (by omega) (hbs) ?_
          intro v9 w29 Ov9 Cv9 Dv9
          replace E := E.step Cv9 (fun x hx h => absurd (hown.lt x h).1 (by omega))
          obtain ⟨la2, lc2, rfl⟩ := own_form Ov9
          refine WpL_val rfl rfl (by decide) (r_assign (v := (.slice la2 (m + l.length) lc2)) rfl) ?_
          refine WpL_nil ?_
          refine inB_normal ?_
          refine thn_normal ?_
          refine Wp_region ?_
          refine WpL_val rfl rfl (by decide) (r_add (k := .i64) (a := ((k : Nat) : Int)) (b := 1) (c := ((k : Nat) : Int) + 1) rfl rfl (wI64 (by omega))) ?_
          refine WpL_val rfl rfl (by decide) (r_move (v := (.int .i64 (((k : Nat) : Int) + 1))) rfl) ?_
          refine WpL_nil ?_
          refine thn_normal ?_
          exact ⟨ll.length - (k + 1), by omega, k + 1, la2, lc2, m + l.length, Fits.out ⟨rfl, rfl, rfl, rfl, rfl, trivial⟩, E, (by omega), (fun y hy => by rw [take_snoc hx] at hy; rcases List.mem_append.1 hy with h1 | h1; exact hz y h1; rw [List.mem_singleton] at h1; subst h1; omega), (by rw [lens_take hx, List.length_append, hm]), (by rw [lens_take hx, spanV_append]; exact Ov9), Nat.le_trans hbs Cv9.size, rfl⟩
      · have khlt := hlt
        replace hlt := of_decide_eq_false hlt
        have hkk : k = ll.length := by omega
        rw [hkk, List.take_length] at hz hm hown
        have hz0 := badE_zero hz
        have hcan : ∀ l ∈ ll, Canon l := fun l hl => (checkE_canon (hz l hl)).1
        have hok : ∀ s ∈ ll.flatten, vSp s := fun s hs => by obtain ⟨l, hl, hs⟩ := List.mem_flatten.1 hs; exact (hcan l hl).ok s hs
        have hf := flatLen hz
        refine Wp_exit ?_
        refine thn_exit ?_
        refine thn_exit ?_
        refine inB_here ?_
        refine thn_normal ?_
        refine Wp_seq ?_
        refine Wp_seq_region ?_
        refine WpL_val rfl rfl (by decide) (r_move (v := (.slice a ll.length c)) rfl) ?_
        refine WpL_val rfl rfl (by decide) (r_lenSlice (ad := a) (n := ll.length) (cap := c) Try.underlying53 rfl) ?_
        refine WpL_val rfl rfl (by decide) (r_move (v := (.int .i64 0)) rfl) ?_
        refine WpL_nil ?_
        refine Wp_block ?_
        refine Wp_loop (fun nn_ σ W5 => ∃ (k2 : Nat), (∃ jj_, σ = upds jj_ [(0, (.slice a ll.length c)), (3, (.slice la m lc)), (30, (.slice a ll.length c)), (31, (.int .i64 ((ll.length : Nat) : Int))), (32, (.int .i64 ((k2 : Nat) : Int)))]) ∧ Chg none1 w0 W5 ∧ (k2 ≤ ll.length) ∧ (∀ j, j < k2 → hdOk ll j) ∧ (W5.ownsRow base TSp 2 (.slice la m lc) m ((ll.flatten).map spanV).flatten) ∧ nn_ = ll.length - k2) (n := ll.length - 0) ?_ ?_
        · exact ⟨0, Fits.out ⟨rfl, rfl, rfl, rfl, rfl, trivial⟩, E, Nat.zero_le _, (fun j h => absurd h (Nat.not_lt_zero _)), hown, rfl⟩
        · clear E
          rintro _ _ W5 ⟨k2, ⟨j5, rfl⟩, E, hk2, hh, hown, rfl⟩
          refine Wp_seq_region ?_
          refine WpL_val rfl rfl (by decide) (r_lss (k := .i64) (a := ((k2 : Nat) : Int)) (b := ((ll.length : Nat) : Int)) rfl rfl) ?_
          refine WpL_nil ?_
          refine Wp_seq ?_
          refine Wp_cond (b := decide ((((k2 : Nat) : Int) : Int) < ((ll.length : Nat) : Int))) rfl (fun hlt2 => ?_) (fun hlt2 => ?_)
          · have khlt2 := hlt2
            replace hlt2 := of_decide_eq_true hlt2
            obtain ⟨l, hx⟩ := get_of_lt (l := ll) (i := k2) (by omega)
            obtain ⟨b, o, rfl, hcl⟩ := spss_cells h (by omega)
            obtain ⟨ra, rc, hcell, hsp⟩ := hcl k2 l hx
            refine Wp_skip ?_
            refine thn_normal ?_
            refine Wp_seq ?_
            refine Wp_block ?_
            refine Wp_seq_region ?_
            refine WpL_val rfl rfl (by decide) (r_move (v := (.int .i64 ((k2 : Nat) : Int))) rfl) ?_
            refine WpL_val rfl rfl (by decide) (r_indexSlice (b := b) (o := o) (len := ll.length) (cap := c) (i := k2) (o' := o + k2) rfl rfl rfl Try.underlying53 siz23 (by omega) (by omega)) ?_
            refine WpL_val rfl rfl (by decide) (r_load (v := (.slice ra l.length rc)) rfl flat23 (E.cell (fun f => f) hcell)) ?_
            have hgl := getD_get (d := []) hx
            refine WpL_val rfl rfl (by decide) (r_assign (v := (.int .i64 ((k2 : Nat) : Int))) rfl) ?_
            refine WpL_val rfl rfl (by decide) (r_assign (v := (.slice ra l.length rc)) rfl) ?_
            refine WpL_nil ?_
            refine Wp_seq_draw 21 mixed (by kernel_rfl) ?_
            intro w7 X7 _
            replace hown := own_ext hown X7
            replace E := E.ext X7
            refine WpT_val rfl rfl (by decide) (r_move (v := (.slice ra l.length rc)) rfl) ?_
            refine WpT_val rfl rfl (by decide) (r_lenSlice (ad := ra) (n := l.length) (cap := rc) Try.underlying23 rfl) ?_
            refine WpT_val rfl rfl (by decide) (r_eql (k := .i64) (a := ((l.length : Nat) : Int)) (b := 0) rfl rfl) ?_
            refine WpT_val rfl rfl (by decide) (r_move (v := (.bool (decide ((((l.length : Nat) : Int) : Int) = 0)))) rfl) ?_
            rcases Bool.eq_false_or_eq_true (decide ((((l.length : Nat) : Int) : Int) = 0)) with hg0 | hg0
            · have khg0 := hg0
              replace khg0 := of_decide_eq_true khg0
              refine WpT_guard_no (oj := _) rfl rfl (by decide) (v := .bool true) (congrArg Value.bool hg0) (Or.inl rfl) ?_
              refine WpT_guard_no (oj := _) rfl rfl (by decide) (v := .bool true) (congrArg Value.bool hg0) (Or.inl rfl) ?_
              refine WpT_guard_no (oj := _) rfl rfl (by decide) (v := .bool true) (congrArg Value.bool hg0) (Or.inl rfl) ?_
              refine WpT_guard_no (oj := _) rfl rfl (by decide) (v := undef) rfl (Or.inr rfl) ?_
              refine WpT_guard_no (oj := _) rfl rfl (by decide) (v := undef) rfl (Or.inr rfl) ?_
              refine WpT_guard_no (oj := _) rfl rfl (by decide) (v := undef) rfl (Or.inr rfl) ?_
              refine WpT_guard_no (oj := _) rfl rfl (by decide) (v := undef) rfl (Or.inr rfl) ?_
              refine WpT_guard_no (oj := _) rfl rfl (by decide) (v := undef) rfl (Or.inr rfl) ?_
              refine WpT_guard_no (oj := _) rfl rfl (by decide) (v := undef) rfl (Or.inr rfl) ?_
              refine WpT_guard_no (oj := _) rfl rfl (by decide) (v := undef) rfl (Or.inr rfl) ?_
              refine WpT_guard_no (oj := _) rfl rfl (by decide) (v := undef) rfl (Or.inr rfl) ?_
              refine WpT_guard_no (oj := _) rfl rfl (by decide) (v := undef) rfl (Or.inr rfl) ?_
              refine WpT_guard_no (oj := _) rfl rfl (by decide) (v := undef) rfl (Or.inr rfl) ?_
              refine WpT_guard_no (oj := _) rfl rfl (by decide) (v := undef) rfl (Or.inr rfl) ?_
              refine WpT_guard_no (oj := _) rfl rfl (by decide) (v := undef) rfl (Or.inr rfl) ?_
              refine WpT_guard_no (oj := _) rfl rfl (by decide) (v := undef) rfl (Or.inr rfl) ?_
              refine WpT_guard_no (oj := _) rfl rfl (by decide) (v := .bool true) (congrArg Value.bool hg0) (Or.inl rfl) ?_
              refine WpT_zero ?_
              refine WpL_val rfl rfl (by decide) (r_pick (b := decide ((((l.length : Nat) : Int) : Int) = 0)) (v := (.bool true)) rfl (by rw [hg0]; rfl)) ?_
              refine WpL_nil ?_
              refine Wp_cond_true rfl ?_
              refine Wp_seq_region ?_
              refine WpL_val rfl rfl (by decide) (r_assign (v := (.int .i64 3)) rfl) ?_
              refine WpL_nil ?_
              refine Wp_ret ?_
              refine inB_ret ?_
              refine thn_ret ?_
              refine thn_ret ?_
              refine inB_ret ?_
              refine thn_ret ?_
              refine fin_tmp Try.results49 (v := (.int .i64 3)) rfl ?_
              exact ⟨int_eq (partE_form h16' hz0 (hd_no (k := k2) (by omega) fun hd => by have h1 := hd.1; rw [hgl] at h1; exact h1 (List.eq_nil_of_length_eq_zero (by omega)))).symm, E⟩
            · have khg0 := hg0
              replace khg0 := of_decide_eq_false khg0
              have hne : l ≠ [] := fun e => by subst e; exact khg0 rfl
              obtain ⟨s1, hs1, hl1⟩ := head_some hne
              obtain ⟨sb, so, rfl, hsc⟩ := spans_cells hsp (by cases l with | nil => exact absurd rfl hne | cons x y => simp)
              have hlpos : 0 < l.length := lt_of_get hs1
              refine WpT_guard_yes (oj := _) rfl rfl (by decide) (congrArg Value.bool hg0) ?_
              refine WpT_val rfl rfl (by decide) (r_move (v := (.int .i64 ((k2 : Nat) : Int))) rfl) ?_
              refine WpT_guard_yes (oj := _) rfl rfl (by decide) (congrArg Value.bool hg0) ?_
              refine WpT_val rfl rfl (by decide) (r_gtr (k := .i64) (a := ((k2 : Nat) : Int)) (b := 0) rfl rfl) ?_
              refine WpT_guard_yes (oj := _) rfl rfl (by decide) (congrArg Value.bool hg0) ?_
              refine WpT_val rfl rfl (by decide) (r_move (v := (.bool (decide ((0 : Int) < ((k2 : Nat) : Int))))) rfl) ?_
              rcases Bool.eq_false_or_eq_true (decide ((0 : Int) < ((k2 : Nat) : Int))) with hg1 | hg1
              · have khg1 := hg1
                replace khg1 := of_decide_eq_true khg1
                obtain ⟨kp, hkp⟩ : ∃ kp, k2 = kp + 1 := ⟨k2 - 1, by omega⟩
                obtain ⟨lp, hxp⟩ := get_of_lt (l := ll) (i := kp) (by omega)
                obtain ⟨ra2, rc2, hcell2, hsp2⟩ := hcl kp lp hxp
                have hgp := getD_get (d := []) hxp
                have hnp : lp ≠ [] := by have := (hh kp (by omega)).1; rwa [hgp] at this
                obtain ⟨s2, hs2, hl2⟩ := head_some hnp
                obtain ⟨pb, po, rfl, hpc⟩ := spans_cells hsp2 (by cases lp with | nil => exact absurd rfl hnp | cons x y => simp)
                have hppos : 0 < lp.length := lt_of_get hs2
                refine WpT_guard_yes (oj := _) rfl rfl (by decide) (congrArg Value.bool hg1) ?_
                refine WpT_val rfl rfl (by decide) (r_move (v := (.slice (some ⟨b, o, none⟩) ll.length c)) rfl) ?_
                refine WpT_guard_yes (oj := _) rfl rfl (by decide) (congrArg Value.bool hg1) ?_
                refine WpT_val rfl rfl (by decide) (r_move (v := (.int .i64 ((k2 : Nat) : Int))) rfl) ?_
                refine WpT_guard_yes (oj := _) rfl rfl (by decide) (congrArg Value.bool hg1) ?_
                refine WpT_val rfl rfl (by decide) (r_sub (k := .i64) (a := ((k2 : Nat) : Int)) (b := 1) (c := ((k2 : Nat) : Int) - 1) rfl rfl (wI64 (by omega))) ?_
                refine WpT_guard_yes (oj := _) rfl rfl (by decide) (congrArg Value.bool hg1) ?_
                refine WpT_val rfl rfl (by decide) (r_indexSlice (b := b) (o := o) (len := ll.length) (cap := c) (i := kp) (o' := o + kp) rfl rfl (by omega) Try.underlying53 siz23 (by omega) (by omega)) ?_
                refine WpT_guard_yes (oj := _) rfl rfl (by decide) (congrArg Value.bool hg1) ?_
                refine WpT_val rfl rfl (by decide) (r_load (v := (.slice (some ⟨pb, po, none⟩) lp.length rc2)) rfl flat23 (E.cell (fun f => f) hcell2)) ?_
                refine WpT_guard_yes (oj := _) rfl rfl (by decide) (congrArg Value.bool hg1) ?_
                refine WpT_val rfl rfl (by decide) (r_indexSlice (b := pb) (o := po) (len := lp.length) (cap := rc2) (i := 0) (o' := po + 0 * 2) rfl rfl rfl Try.underlying23 siz37 (by omega) (by omega)) ?_
                refine WpT_guard_yes (oj := _) rfl rfl (by decide) (congrArg Value.bool hg1) ?_
                refine WpT_val rfl rfl (by decide) (r_fieldAddr (b := pb) (o := po + 0 * 2) (o' := po + 0 * 2) rfl Try.underlying37 rfl siz3 rfl) ?_
                refine WpT_guard_yes (oj := _) rfl rfl (by decide) (congrArg Value.bool hg1) ?_
                refine WpT_val rfl rfl (by decide) (r_load (v := (.int .i64 s2.1)) rfl flat3 (E.cell (fun f => f) (hpc 0 s2 hs2 0 _ rfl))) ?_
                refine WpT_guard_yes (oj := _) rfl rfl (by decide) (congrArg Value.bool hg1) ?_
                refine WpT_val rfl rfl (by decide) (r_move (v := (.slice (some ⟨sb, so, none⟩) l.length rc)) rfl) ?_
                refine WpT_guard_yes (oj := _) rfl rfl (by decide) (congrArg Value.bool hg1) ?_
                refine WpT_val rfl rfl (by decide) (r_indexSlice (b := sb) (o := so) (len := l.length) (cap := rc) (i := 0) (o' := so + 0 * 2) rfl rfl rfl Try.underlying23 siz37 (by omega) (by omega)) ?_
                refine WpT_guard_yes (oj := _) rfl rfl (by decide) (congrArg Value.bool hg1) ?_
                refine WpT_val rfl rfl (by decide) (r_fieldAddr (b := sb) (o := so + 0 * 2) (o' := so + 0 * 2) rfl Try.underlying37 rfl siz3 rfl) ?_
                refine WpT_guard_yes (oj := _) rfl rfl (by decide) (congrArg Value.bool hg1) ?_
                refine WpT_val rfl rfl (by decide) (r_load (v := (.int .i64 s1.1)) rfl flat3 (E.cell (fun f => f) (hsc 0 s1 hs1 0 _ rfl))) ?_
                refine WpT_guard_yes (oj := _) rfl rfl (by decide) (congrArg Value.bool hg1) ?_
                refine WpT_val rfl rfl (by decide) (r_geq (k := .i64) (a := s2.1) (b := s1.1) rfl rfl) ?_
                refine WpT_guard_yes (oj := _) rfl rfl (by decide) (congrArg Value.bool hg0) ?_
                refine WpT_val rfl rfl (by decide) (r_pick (b := decide ((0 : Int) < ((k2 : Nat) : Int))) (v := (.bool (decide ((s1.1 : Int) ≤ s2.1)))) rfl (by rw [hg1]; rfl)) ?_
                refine WpT_zero ?_
                refine WpL_val rfl rfl (by decide) (r_pick (b := decide ((((l.length : Nat) : Int) : Int) = 0)) (v := (.bool (decide ((s1.1 : Int) ≤ s2.1)))) rfl (by rw [hg0]; rfl)) ?_
                refine WpL_nil ?_
                refine Wp_cond (b := decide ((s1.1 : Int) ≤ s2.1)) rfl (fun hge => ?_) (fun hge => ?_)
                · have khge := hge
                  replace hge := of_decide_eq_true hge
                  refine Wp_seq_region ?_
                  refine WpL_val rfl rfl (by decide) (r_assign (v := (.int .i64 3)) rfl) ?_
                  refine WpL_nil ?_
                  refine Wp_ret ?_
                  refine inB_ret ?_
                  refine thn_ret ?_
                  refine thn_ret ?_
                  refine inB_ret ?_
                  refine thn_ret ?_
                  refine fin_tmp Try.results49 (v := (.int .i64 3)) rfl ?_
                  exact ⟨int_eq (partE_form h16' hz0 (hd_no (k := k2) (by omega) fun hd => by have h1 := hd.2; rw [hgl, hl1, hkp] at h1; simp only [lastLo] at h1; rw [hgp, hl2] at h1; omega)).symm, E⟩
                · have khge := hge
                  replace hge := of_decide_eq_false hge
                  refine Wp_skip ?_
                  refine inB_normal ?_
                  refine thn_normal ?_
                  refine Wp_region ?_
                  refine WpL_val rfl rfl (by decide) (r_add (k := .i64) (a := ((k2 : Nat) : Int)) (b := 1) (c := ((k2 : Nat) : Int) + 1) rfl rfl (wI64 (by omega))) ?_
                  refine WpL_val rfl rfl (by decide) (r_move (v := (.int .i64 (((k2 : Nat) : Int) + 1))) rfl) ?_
                  refine WpL_nil ?_
                  refine thn_normal ?_
                  exact ⟨ll.length - (k2 + 1), by omega, k2 + 1, Fits.out ⟨rfl, rfl, rfl, rfl, rfl, trivial⟩, E, (by omega), hd_step hh ⟨by rw [hgl]; exact hne, by rw [hgl, hl1, hkp]; simp only [lastLo]; rw [hgp, hl2]; omega⟩, hown, rfl⟩
              · have khg1 := hg1
                replace khg1 := of_decide_eq_false khg1
                have hk20 : k2 = 0 := by omega
                have hv1 := (hok s1 (List.mem_flatten.2 ⟨l, List.mem_of_getElem? hx, List.mem_of_getElem? hs1⟩)).1
                refine WpT_guard_no (oj := _) rfl rfl (by decide) (v := .bool false) (congrArg Value.bool hg1) (Or.inl rfl) ?_
                refine WpT_guard_no (oj := _) rfl rfl (by decide) (v := .bool false) (congrArg Value.bool hg1) (Or.inl rfl) ?_
                refine WpT_guard_no (oj := _) rfl rfl (by decide) (v := .bool false) (congrArg Value.bool hg1) (Or.inl rfl) ?_
                refine WpT_guard_no (oj := _) rfl rfl (by decide) (v := .bool false) (congrArg Value.bool hg1) (Or.inl rfl) ?_
                refine WpT_guard_no (oj := _) rfl rfl (by decide) (v := .bool false) (congrArg Value.bool hg1) (Or.inl rfl) ?_
                refine WpT_guard_no (oj := _) rfl rfl (by decide) (v := .bool false) (congrArg Value.bool hg1) (Or.inl rfl) ?_
                refine WpT_guard_no (oj := _) rfl rfl (by decide) (v := .bool false) (congrArg Value.bool hg1) (Or.inl rfl) ?_
                refine WpT_guard_no (oj := _) rfl rfl (by decide) (v := .bool false) (congrArg Value.bool hg1) (Or.inl rfl) ?_
                refine WpT_guard_no (oj := _) rfl rfl (by decide) (v := .bool false) (congrArg Value.bool hg1) (Or.inl rfl) ?_
                refine WpT_guard_no (oj := _) rfl rfl (by decide) (v := .bool false) (congrArg Value.bool hg1) (Or.inl rfl) ?_
                refine WpT_guard_no (oj := _) rfl rfl (by decide) (v := .bool false) (congrArg Value.bool hg1) (Or.inl rfl) ?_
                refine WpT_guard_no (oj := _) rfl rfl (by decide) (v := .bool false) (congrArg Value.bool hg1) (Or.inl rfl) ?_
                refine WpT_guard_no (oj := _) rfl rfl (by decide) (v := .bool false) (congrArg Value.bool hg1) (Or.inl rfl) ?_
                refine WpT_guard_yes (oj := _) rfl rfl (by decide) (congrArg Value.bool hg0) ?_
                refine WpT_val rfl rfl (by decide) (r_pick (b := decide ((0 : Int) < ((k2 : Nat) : Int))) (v := (.bool false)) rfl (by rw [hg1]; rfl)) ?_
                refine WpT_zero ?_
                refine WpL_val rfl rfl (by decide) (r_pick (b := decide ((((l.length : Nat) : Int) : Int) = 0)) (v := (.bool false)) rfl (by rw [hg0]; rfl)) ?_
                refine WpL_nil ?_
                refine Wp_cond_false rfl ?_
                refine Wp_skip ?_
                refine inB_normal ?_
                refine thn_normal ?_
                refine Wp_region ?_
                refine WpL_val rfl rfl (by decide) (r_add (k := .i64) (a := ((k2 : Nat) : Int)) (b := 1) (c := ((k2 : Nat) : Int) + 1) rfl rfl (wI64 (by omega))) ?_
                refine WpL_val rfl rfl (by decide) (r_move (v := (.int .i64 (((k2 : Nat) : Int) + 1))) rfl) ?_
                refine WpL_nil ?_
                refine thn_normal ?_
                exact ⟨ll.length - (k2 + 1), by omega, k2 + 1, Fits.out ⟨rfl, rfl, rfl, rfl, rfl, trivial⟩, E, (by omega), hd_step hh ⟨by rw [hgl]; exact hne, by rw [hgl, hl1, hk20]; simp only [lastLo]; omega⟩, hown, rfl⟩
          · have khlt2 := hlt2
            replace hlt2 := of_decide_eq_false hlt2
            have hk22 : k2 = ll.length := by omega
            have hheads : headsP ll := fun j hj => hh j (by omega)
            have hOS : OwnS W5 base (.slice la m lc) ll.flatten := ⟨⟨la, lc, by rw [hm]⟩, by rw [← hm]; exact hown⟩
            refine Wp_exit ?_
            refine thn_exit ?_
            refine thn_exit ?_
            refine inB_here ?_
            refine thn_normal ?_
            refine Wp_seq_region ?_
            refine WpL_val rfl rfl (by decide) (r_move (v := (.slice la m lc)) rfl) ?_
            refine WpL_enter rfl rfl (by decide) (r_callF (vs := [(.slice la m lc), (.func (.func 89) #[] #[])]) Try.func55 nm55 bd55 rfl) (sort3_c _ base (.slice la m lc) ll.flatten hOS (by omega) hok) ?_
            rintro _ w10 ⟨rfl, ⟨ls, hperm, hsort, hat⟩, C10⟩
            replace E := E.step C10 (fun x hx hy => absurd (hown.lt x hy).1 (by omega))
            have hlen2 : ls.length = m := by rw [hm]; exact hperm.length_eq
            have hpc := part_chain hcan hperm hsort
            have hokl : ∀ s ∈ ls, vSp s := fun s hs => hok s (hperm.mem_iff.1 hs)
            have E10 : Chg none1 w10 w10 := Chg.refl _ _
            refine WpL_nil ?_
            refine Wp_seq_region ?_
            refine WpL_val rfl rfl (by decide) (r_assign (v := (.int .i64 0)) rfl) ?_
            refine WpL_nil ?_
            refine Wp_seq ?_
            refine Wp_seq_region ?_
            refine WpL_val rfl rfl (by decide) (r_move (v := (.slice la m lc)) rfl) ?_
            refine WpL_val rfl rfl (by decide) (r_lenSlice (ad := la) (n := m) (cap := lc) Try.underlying23 rfl) ?_
            refine WpL_val rfl rfl (by decide) (r_move (v := (.int .i64 0)) rfl) ?_
            refine WpL_nil ?_
            refine Wp_block ?_
            refine Wp_loop (fun nn_ σ W11 => ∃ (k3 : Nat) (nx3 : Int), (∃ jj_, σ = upds jj_ [(62, (.slice la m lc)), (63, (.int .i64 ((m : Nat) : Int))), (64, (.int .i64 ((k3 : Nat) : Int))), (9, (.int .i64 nx3))]) ∧ Chg none1 w0 W11 ∧ Chg none1 w10 W11 ∧ (k3 ≤ ls.length) ∧ (0 ≤ nx3 ∧ nx3 ≤ 1114112) ∧ (chain nx3 (ls.drop k3) = chain 0 ls) ∧ nn_ = ls.length - k3) (n := ls.length - 0) ?_ ?_
            · exact ⟨0, 0, Fits.out ⟨rfl, rfl, rfl, rfl, trivial⟩, E, E10, Nat.zero_le _, (by omega), (by simp), rfl⟩
            · clear E E10
              rintro _ _ W11 ⟨k3, nx3, ⟨j11, rfl⟩, E, E10, hk3, hnr, hch, rfl⟩
              refine Wp_seq_region ?_
              refine WpL_val rfl rfl (by decide) (r_lss (k := .i64) (a := ((k3 : Nat) : Int)) (b := ((m : Nat) : Int)) rfl rfl) ?_
              refine WpL_nil ?_
              refine Wp_seq ?_
              refine Wp_cond (b := decide ((((k3 : Nat) : Int) : Int) < ((m : Nat) : Int))) rfl (fun hlt3 => ?_) (fun hlt3 => ?_)
              · have khlt3 := hlt3
                replace hlt3 := of_decide_eq_true hlt3
                obtain ⟨s, hs⟩ := get_of_lt (l := ls) (i := k3) (by omega)
                obtain ⟨lb, lo, rfl, hlcl⟩ := spans_cells (l := ls) hat (by omega)
                have hvs := hokl s (List.mem_of_getElem? hs)
                unfold vSp at hvs
                have hdr := drop_cons hs
                rw [hdr] at hch
                refine Wp_skip ?_
                refine thn_normal ?_
                refine Wp_seq ?_
                refine Wp_block ?_
                refine Wp_seq_region ?_
                refine WpL_val rfl rfl (by decide) (r_indexSlice (b := lb) (o := lo) (len := m) (cap := lc) (i := k3) (o' := lo + k3 * 2) rfl rfl rfl Try.underlying23 siz37 (by omega) (by omega)) ?_
                refine WpL_val rfl rfl (by decide) (r_loadAgg (vs := [(.int .i64 s.1), (.int .i64 s.2)]) rfl agg37 siz37 rfl ((hlcl k3 s hs).ext E10)) ?_
                refine s_allocStore (v := (.agg #[(.int .i64 s.1), (.int .i64 s.2)])) (c := #[(.int .i64 s.1), (.int .i64 s.2)]) (n := 2) (by decide) zer37 rfl siz37 rfl rfl rfl (by simp [Value.oneCell']) ?_
                intro b13 w13 N13
                have F13 := N13.ge E
                have F13_E10 := N13.ge E10
                replace E := E.ext N13.ext
                have B13 := N13.blk
                replace E10 := E10.ext N13.ext
                refine WpL_nil ?_
                refine Wp_seq ?_
                refine Wp_seq_region ?_
                refine WpL_val rfl rfl (by decide) (r_fieldAddr (b := b13) (o := 0) (o' := 0) rfl Try.underlying37 rfl siz3 rfl) ?_
                refine WpL_val rfl rfl (by decide) (r_load (v := (.int .i64 s.1)) rfl flat3 (B13.cell rfl)) ?_
                refine WpL_val rfl rfl (by decide) (r_move (v := (.int .i64 nx3)) rfl) ?_
                refine WpL_val rfl rfl (by decide) (r_neq (k := .i64) (a := s.1) (b := nx3) rfl rfl) ?_
                refine WpL_nil ?_
                refine Wp_cond (b := decide ((s.1 : Int) ≠ nx3)) rfl (fun hne3 => ?_) (fun hne3 => ?_)
                · have khne3 := hne3
                  replace hne3 := of_decide_eq_true hne3
                  refine Wp_seq_region ?_
                  refine WpL_val rfl rfl (by decide) (r_assign (v := (.int .i64 3)) rfl) ?_
                  refine WpL_nil ?_
                  refine Wp_ret ?_
                  refine thn_ret ?_
                  refine inB_ret ?_
                  refine thn_ret ?_
                  refine thn_ret ?_
                  refine inB_ret ?_
                  refine thn_ret ?_
                  refine fin_tmp Try.results49 (v := (.int .i64 3)) rfl ?_
                  exact ⟨int_eq (partE_form h16' hz0 fun hp => by have h1 := hpc.2 hp.2; rw [← hch] at h1; simp only [chain, Bool.and_eq_true, decide_eq_true_eq] at h1; exact hne3 h1.1).symm, E⟩
                · have khne3 := hne3
                  replace hne3 := of_decide_eq_false hne3
                  refine Wp_skip ?_
                  refine thn_normal ?_
                  refine Wp_region ?_
                  refine WpL_val rfl rfl (by decide) (r_fieldAddr (b := b13) (o := 0) (o' := 1) rfl Try.underlying37 rfl siz3 rfl) ?_
                  refine WpL_val rfl rfl (by decide) (r_load (v := (.int .i64 s.2)) rfl flat3 (B13.cell rfl)) ?_
                  refine WpL_val rfl rfl (by decide) (r_add (k := .i64) (a := s.2) (b := 1) (c := s.2 + 1) rfl rfl (wI64 (by omega))) ?_
                  refine WpL_val rfl rfl (by decide) (r_assign (v := (.int .i64 (s.2 + 1))) rfl) ?_
                  refine WpL_nil ?_
                  refine inB_normal ?_
                  refine thn_normal ?_
                  refine Wp_region ?_
                  refine WpL_val rfl rfl (by decide) (r_add (k := .i64) (a := ((k3 : Nat) : Int)) (b := 1) (c := ((k3 : Nat) : Int) + 1) rfl rfl (wI64 (by omega))) ?_
                  refine WpL_val rfl rfl (by decide) (r_move (v := (.int .i64 (((k3 : Nat) : Int) + 1))) rfl) ?_
                  refine WpL_nil ?_
                  refine thn_normal ?_
                  exact ⟨ls.length - (k3 + 1), by omega, k3 + 1, s.2 + 1, Fits.out ⟨rfl, rfl, rfl, rfl, trivial⟩, E, E10, (by omega), (by omega), (by rw [← hch]; simp only [chain]; rw [decide_eq_true (by omega), Bool.true_and]), rfl⟩
              · have khlt3 := hlt3
                replace hlt3 := of_decide_eq_false hlt3
                have hk33 : k3 = ls.length := by omega
                rw [hk33, List.drop_length] at hch
                refine Wp_exit ?_
                refine thn_exit ?_
                refine thn_exit ?_
                refine inB_here ?_
                refine thn_normal ?_
                refine Wp_seq ?_
                refine Wp_seq_region ?_
                refine WpL_val rfl rfl (by decide) (r_move (v := (.int .i64 nx3)) rfl) ?_
                refine WpL_val rfl rfl (by decide) (r_neq (k := .i64) (a := nx3) (b := 1114112) rfl rfl) ?_
                refine WpL_nil ?_
                refine Wp_cond (b := decide ((nx3 : Int) ≠ 1114112)) rfl (fun hfin => ?_) (fun hfin => ?_)
                · have khfin := hfin
                  replace hfin := of_decide_eq_true hfin
                  refine Wp_seq_region ?_
                  refine WpL_val rfl rfl (by decide) (r_assign (v := (.int .i64 3)) rfl) ?_
                  refine WpL_nil ?_
                  refine Wp_ret ?_
                  refine thn_ret ?_
                  refine fin_tmp Try.results49 (v := (.int .i64 3)) rfl ?_
                  exact ⟨int_eq (partE_form h16' hz0 fun hp => by have h1 := hpc.2 hp.2; rw [← hch] at h1; simp only [chain, decide_eq_true_eq] at h1; exact hfin h1).symm, E⟩
                · have khfin := hfin
                  replace hfin := of_decide_eq_false hfin
                  refine Wp_skip ?_
                  refine thn_normal ?_
                  refine Wp_seq_region ?_
                  refine WpL_val rfl rfl (by decide) (r_assign (v := (.int .i64 0)) rfl) ?_
                  refine WpL_nil ?_
                  refine Wp_ret ?_
                  refine fin_tmp Try.results49 (v := (.int .i64 0)) rfl ?_
                  exact ⟨int_eq (partE_ok h16' hz0 ⟨hheads, hpc.1 (by rw [← hch]; simp only [chain, decide_eq_true_eq]; omega)⟩).symm, E⟩
theorem at1_c (w0 : World) (v : Value) (l : List Sp) (r : Int) (b : Nat) (h : SpansAt w0 v l) (hB : Blk w0 b #[.int .i64 r] 3) : Ret Try.prog 105 #[v, .pointer (some ⟨b, 0, none⟩)] w0 fun u w => u = .bool (inS l r) ∧ Ext w0 w := by
  refine Ret_of Try.func105 rfl Try.ntmps105 (Nat.le_of_ble_eq_true rfl) ?_
  have E : Chg none1 w0 w0 := Chg.refl _ _
  refine Wp_seq_region ?_
  refine WpL_val rfl rfl (by decide) (r_assign (v := (.bool false)) rfl) ?_
  refine WpL_nil ?_
  refine Wp_seq_region ?_
  refine WpL_val rfl rfl (by decide) (r_move (v := v) rfl) ?_
  refine WpL_val rfl rfl (by decide) (r_load (v := (.int .i64 r)) rfl flat3 (hB.cell rfl)) ?_
  refine WpL_enter rfl rfl (by decide) (r_callF (vs := [v, (.int .i64 r)]) Try.func53 nm53 bd53 rfl) (in_c _ v l r h) ?_
  rintro _ w9 ⟨rfl, X9⟩
  replace hB := X9.keep hB
  replace E := E.ext X9
  refine WpL_val rfl rfl (by decide) (r_assign (v := (.bool (inS l r))) rfl) ?_
  refine WpL_nil ?_
  refine Wp_ret ?_
  refine fin_tmp Try.results105 (v := (.bool (inS l r))) rfl ?_
  exact ⟨rfl, E⟩
theorem spss_idx_c (w0 : World) (v fv : Value) (ll : List (List Sp)) (p : List Sp → Bool) (h : SpssAt w0 v ll) (hf : ∀ (w : World) (u : Value) (l : List Sp), Ext w0 w → SpansAt w u l → CallV Try.prog fv #[u] w fun r w' => r = .bool (p l) ∧ Ext w w') :
    Ret Try.prog 104 #[v, fv] w0 fun r w => r = .int .i64 (idx p ll) ∧ Ext w0 w := by
  obtain ⟨a, c, rfl, _, hle⟩ := h.form
  refine Ret_of Try.func104 rfl Try.ntmps104 (Nat.le_of_ble_eq_true rfl) ?_
  have E : Chg none1 w0 w0 := Chg.refl _ _
  refine Wp_seq_region ?_
  refine WpL_val rfl rfl (by decide) (r_assign (v := (.int .i64 0)) rfl) ?_
  refine WpL_nil ?_
  refine Wp_seq ?_
  refine Wp_seq_region ?_
  refine WpL_val rfl rfl (by decide) (r_move (v := (.slice a ll.length c)) rfl) ?_
  refine WpL_val rfl rfl (by decide) (r_lenSlice (ad := a) (n := ll.length) (cap := c) Try.underlying53 rfl) ?_
  refine WpL_val rfl rfl (by decide) (r_move (v := (.int .i64 0)) rfl) ?_
  refine WpL_nil ?_
  refine Wp_block ?_
  refine Wp_loop (fun nn_ σ W1 => ∃ (k : Nat), (∃ jj_, σ = upds jj_ [(0, (.slice a ll.length c)), (1, fv), (7, (.int .i64 ((ll.length : Nat) : Int))), (8, (.int .i64 ((k : Nat) : Int)))]) ∧ Chg none1 w0 W1 ∧ (k ≤ ll.length) ∧ (∀ (i : Nat) (y : List Sp), i < k → ll[i]? = some y → p y = false) ∧ nn_ = ll.length - k) (n := ll.length - 0) ?_ ?_
  · exact ⟨0, Fits.out ⟨rfl, rfl, rfl, rfl, trivial⟩, E, Nat.zero_le _, (fun i y h => absurd h (Nat.not_lt_zero _)), rfl⟩
  · clear E
    rintro _ _ W1 ⟨k, ⟨j1, rfl⟩, E, hk, hno, rfl⟩
    refine Wp_seq_region ?_
    refine WpL_val rfl rfl (by decide) (r_lss (k := .i64) (a := ((k : Nat) : Int)) (b := ((ll.length : Nat) : Int)) rfl rfl) ?_
    refine WpL_nil ?_
    refine Wp_seq ?_
    refine Wp_cond (b := decide ((((k : Nat) : Int) : Int) < ((ll.length : Nat) : Int))) rfl (fun hlt => ?_) (fun hlt => ?_)
    · have khlt := hlt
      replace hlt := of_decide_eq_true hlt
      obtain ⟨l, hx⟩ := get_of_lt (l := ll) (i := k) (by omega)
      obtain ⟨b, o, rfl, hcl⟩ := spss_cells h (by omega)
      obtain ⟨ra, rc, hcell, hsp⟩ := hcl k l hx
      refine Wp_skip ?_
      refine thn_normal ?_
      refine Wp_seq ?_
      refine Wp_block ?_
      refine Wp_seq_region ?_
      refine WpL_val rfl rfl (by decide) (r_move (v := (.int .i64 ((k : Nat) : Int))) rfl) ?_
      refine WpL_val rfl rfl (by decide) (r_assign (v := (.int .i64 ((k : Nat) : Int))) rfl) ?_
      refine WpL_nil ?_
      refine Wp_seq_region ?_
      refine WpL_val rfl rfl (by decide) (r_move (v := fv) rfl) ?_
      refine WpL_val rfl rfl (by decide) (r_move (v := (.slice (some ⟨b, o, none⟩) ll.length c)) rfl) ?_
      refine WpL_val rfl rfl (by decide) (r_move (v := (.int .i64 ((k : Nat) : Int))) rfl) ?_
      refine WpL_val rfl rfl (by decide) (r_indexSlice (b := b) (o := o) (len := ll.length) (cap := c) (i := k) (o' := o + k) rfl rfl rfl Try.underlying53 siz23 (by omega) (by omega)) ?_
      refine WpL_val rfl rfl (by decide) (r_load (v := (.slice ra l.length rc)) rfl flat23 (E.cell (fun f => f) hcell)) ?_
      refine WpL_callV (fv := fv) (vs := [(.slice ra l.length rc)]) (by decide) rfl rfl (hf _ _ l E (hsp.ext E)) ?_
      rintro _ w9 ⟨rfl, X9⟩
      replace E := E.ext X9
      refine WpL_nil ?_
      refine Wp_cond (b := p l) rfl (fun hp => ?_) (fun hp => ?_)
      · have khp := hp
        refine Wp_seq_region ?_
        refine WpL_val rfl rfl (by decide) (r_move (v := (.int .i64 ((k : Nat) : Int))) rfl) ?_
        refine WpL_val rfl rfl (by decide) (r_assign (v := (.int .i64 ((k : Nat) : Int))) rfl) ?_
        refine WpL_nil ?_
        refine Wp_ret ?_
        refine inB_ret ?_
        refine thn_ret ?_
        refine thn_ret ?_
        refine inB_ret ?_
        refine thn_ret ?_
        refine fin_tmp Try.results104 (v := (.int .i64 ((k : Nat) : Int))) rfl ?_
        exact ⟨int_eq (idx_hit hx hp hno).symm, E⟩
      · have khp := hp
        refine Wp_skip ?_
        refine inB_normal ?_
        refine thn_normal ?_
        refine Wp_region ?_
        refine WpL_val rfl rfl (by decide) (r_add (k := .i64) (a := ((k : Nat) : Int)) (b := 1) (c := ((k : Nat) : Int) + 1) rfl rfl (wI64 (by omega))) ?_
        refine WpL_val rfl rfl (by decide) (r_move (v := (.int .i64 (((k : Nat) : Int) + 1))) rfl) ?_
        refine WpL_nil ?_
        refine thn_normal ?_
        exact ⟨ll.length - (k + 1), by omega, k + 1, Fits.out ⟨rfl, rfl, rfl, rfl, trivial⟩, E, (by omega), below_next hx hp hno, rfl⟩
    · have khlt := hlt
      replace hlt := of_decide_eq_false hlt
      have hkk : k = ll.length := by omega
      refine Wp_exit ?_
      refine thn_exit ?_
      refine thn_exit ?_
      refine inB_here ?_
      refine thn_normal ?_
      refine Wp_seq_region ?_
      refine WpL_val rfl rfl (by decide) (r_assign (v := (.int .i64 (-1))) rfl) ?_
      refine WpL_nil ?_
      refine Wp_ret ?_
      refine fin_tmp Try.results104 (v := (.int .i64 (-1))) rfl ?_
      exact ⟨int_eq (idx_miss fun i y hy => hno i y (by have := lt_of_get hy; omega) hy).symm, E⟩
def clAt (ll : List (List Sp)) (r : Int) : Int := idx (fun l => inS l r) ll
theorem at_c (w0 : World) (v : Value) (ll : List (List Sp)) (r : Int) (h : SpssAt w0 v ll) : Ret Try.prog 88 #[v, .int .i64 r] w0 fun u w => u = .int .i64 (clAt ll r) ∧ Ext w0 w := by
  refine Ret_of Try.func88 rfl Try.ntmps88 (Nat.le_of_ble_eq_true rfl) ?_
  have E : Chg none1 w0 w0 := Chg.refl _ _
  refine Wp_seq_region ?_
  refine s_box (v := (.int .i64 r)) (c := #[(.int .i64 r)]) (by decide) rfl rfl ?_
  intro bq wq Nq
  have Fq := Nq.ge E
  replace E := E.ext Nq.ext
  have Bq := Nq.blk
  refine WpL_val rfl rfl (by decide) (r_assign (v := (.int .i64 0)) rfl) ?_
  refine WpL_nil ?_
  refine Wp_seq_region ?_
  refine WpL_val rfl rfl (by decide) (r_move (v := v) rfl) ?_
  refine WpL_val rfl rfl (by decide) (r_makeFunc (vs := []) (us := [(.pointer (some ⟨bq, 0, none⟩))]) rfl rfl) ?_
  refine WpL_enter rfl rfl (by decide) (r_callF (vs := [v, (.func (.func 105) #[] #[(.pointer (some ⟨bq, 0, none⟩))])]) Try.func104 nm104 bd104 rfl) (spss_idx_c _ v _ ll (fun l => inS l r) (h.ext E) (fun w u l hE hs => CallV.mk (first := #[]) (cap := #[.pointer (some ⟨bq, 0, none⟩)]) Try.func105 nm105 bd105 rfl (at1_c w u l r bq hs (hE.keep Bq)))) ?_
  rintro _ w9 ⟨rfl, X9⟩
  replace Bq := X9.keep Bq
  replace E := E.ext X9
  refine WpL_val rfl rfl (by decide) (r_assign (v := (.int .i64 (clAt ll r))) rfl) ?_
  refine WpL_nil ?_
  refine Wp_ret ?_
  refine fin_tmp Try.results88 (v := (.int .i64 (clAt ll r))) rfl ?_
  exact ⟨rfl, E⟩
noncomputable def idxE (ll : List (List Sp)) (r : Int) : Int := if partE ll ≠ 0 then partE ll else if runeB r then 0 else 1
theorem index_c (w0 : World) (v : Value) (ll : List (List Sp)) (r : Int) (h : SpssAt w0 v ll) : Ret Try.prog 48 #[v, .int .i64 r] w0 fun u w => u = .tuple #[.int .i64 (if idxE ll r = 0 then clAt ll r else 0), .int .i64 (idxE ll r)] ∧ Ext w0 w := by
  refine Ret_of Try.func48 rfl Try.ntmps48 (Nat.le_of_ble_eq_true rfl) ?_
  have E : Chg none1 w0 w0 := Chg.refl _ _
  refine Wp_seq_region ?_
  refine WpL_val rfl rfl (by decide) (r_assign (v := (.int .i64 0)) rfl) ?_
  refine WpL_val rfl rfl (by decide) (r_assign (v := (.int .i64 0)) rfl) ?_
  refine WpL_nil ?_
  refine Wp_seq ?_
  refine Wp_seq_region ?_
  refine WpL_val rfl rfl (by decide) (r_move (v := v) rfl) ?_
  refine WpL_enter rfl rfl (by decide) (r_callF (vs := [v]) Try.func49 nm49 bd49 rfl) (part_c _ v ll h) ?_
  rintro _ w9 ⟨rfl, X9⟩
  replace E := E.ext X9
  refine WpL_val rfl rfl (by decide) (r_assign (v := (.int .i64 (partE ll))) rfl) ?_
  refine WpL_nil ?_
  refine Wp_seq_region ?_
  refine WpL_val rfl rfl (by decide) (r_move (v := (.int .i64 (partE ll))) rfl) ?_
  refine WpL_val rfl rfl (by decide) (r_neq (k := .i64) (a := partE ll) (b := 0) rfl rfl) ?_
  refine WpL_nil ?_
  refine Wp_cond (b := decide ((partE ll : Int) ≠ 0)) rfl (fun hp => ?_) (fun hp => ?_)
  · have khp := hp
    replace hp := of_decide_eq_true hp
    refine Wp_seq_region ?_
    refine WpL_val rfl rfl (by decide) (r_move (v := (.int .i64 (partE ll))) rfl) ?_
    refine WpL_val rfl rfl (by decide) (r_assign (v := (.int .i64 0)) rfl) ?_
    refine WpL_val rfl rfl (by decide) (r_assign (v := (.int .i64 (partE ll))) rfl) ?_
    refine WpL_nil ?_
    refine Wp_ret ?_
    refine thn_ret ?_
    refine fin_tmp2 Try.results48 (v := (.int .i64 0)) (v' := (.int .i64 (partE ll))) rfl rfl ?_
    have he : idxE ll r = partE ll := by unfold idxE; rw [if_pos hp]
    exact ⟨by rw [he, if_neg hp], E⟩
  · have khp := hp
    replace hp := of_decide_eq_false hp
    have hp0 : partE ll = 0 := by omega
    refine Wp_skip ?_
    refine thn_normal ?_
    refine Wp_seq ?_
    refine Wp_seq_region ?_
    refine WpL_val rfl rfl (by decide) (r_move (v := (.int .i64 r)) rfl) ?_
    refine WpL_enter rfl rfl (by decide) (r_callF (vs := [(.int .i64 r)]) Try.func57 nm57 bd57 rfl) (rune_c r _) ?_
    rintro _ w19 ⟨rfl, X19⟩
    replace E := E.ext X19
    refine WpL_val rfl rfl (by decide) (r_not (b := runeB r) rfl) ?_
    refine WpL_nil ?_
    refine Wp_cond (b := !(runeB r)) rfl (fun hr => ?_) (fun hr => ?_)
    · have khr := hr
      replace hr := by simpa using hr
      refine Wp_seq_region ?_
      refine WpL_val rfl rfl (by decide) (r_assign (v := (.int .i64 0)) rfl) ?_
      refine WpL_val rfl rfl (by decide) (r_assign (v := (.int .i64 1)) rfl) ?_
      refine WpL_nil ?_
      refine Wp_ret ?_
      refine thn_ret ?_
      refine fin_tmp2 Try.results48 (v := (.int .i64 0)) (v' := (.int .i64 1)) rfl rfl ?_
      have he : idxE ll r = 1 := by unfold idxE; rw [if_neg (by simp [hp0]), hr]; rfl
      exact ⟨by rw [he]; rfl, E⟩
    · have khr := hr
      replace hr := by simpa using hr
      refine Wp_skip ?_
      refine thn_normal ?_
      refine Wp_seq_region ?_
      refine WpL_val rfl rfl (by decide) (r_move (v := v) rfl) ?_
      refine WpL_val rfl rfl (by decide) (r_move (v := (.int .i64 r)) rfl) ?_
      refine WpL_enter rfl rfl (by decide) (r_callF (vs := [v, (.int .i64 r)]) Try.func88 nm88 bd88 rfl) (at_c _ v ll r (h.ext E)) ?_
      rintro _ w29 ⟨rfl, X29⟩
      replace E := E.ext X29
      refine WpL_val rfl rfl (by decide) (r_assign (v := (.int .i64 (clAt ll r))) rfl) ?_
      refine WpL_val rfl rfl (by decide) (r_assign (v := (.int .i64 0)) rfl) ?_
      refine WpL_nil ?_
      refine Wp_ret ?_
      refine fin_tmp2 Try.results48 (v := (.int .i64 (clAt ll r))) (v' := (.int .i64 0)) rfl rfl ?_
      have he : idxE ll r = 0 := by unfold idxE; rw [if_neg (by simp [hp0])]; rw [if_pos (by simpa using hr)]
      exact ⟨by rw [he]; rfl, E⟩
def IntRes (w : World) (r : Value) (out : List Int) (e : Int) : Prop := ∃ a c, r = .tuple #[.slice a out.length c, .int .i64 e] ∧ IntsAt w (.slice a out.length c) out
theorem ints_nil (w : World) : IntsAt w (.slice none 0 0) [] := SlAt.nil _ _ _ _
noncomputable def leastP (ll : List (List Sp)) : List Int := if partE ll = 0 then leastL ll else []
set_option maxHeartbeats 1000000 in
theorem least_c (w0 : World) (v : Value) (ll : List (List Sp)) (h : SpssAt w0 v ll) : Ret Try.prog 46 #[v] w0 fun r w => IntRes w r (leastP ll) (partE ll) ∧ Ext w0 w := by
  obtain ⟨a, c, rfl, _, hle⟩ := h.form
  obtain ⟨base, hbase⟩ : ∃ base, base = w0.heap.size := ⟨_, rfl⟩
  refine Ret_of Try.func46 rfl Try.ntmps46 (Nat.le_of_ble_eq_true rfl) ?_
  have E : Chg none1 w0 w0 := Chg.refl _ _
  refine Wp_seq_region ?_
  refine WpL_val rfl rfl (by decide) (r_assign (v := (.slice none 0 0)) rfl) ?_
  refine WpL_val rfl rfl (by decide) (r_assign (v := (.int .i64 0)) rfl) ?_
  refine WpL_nil ?_
  refine Wp_seq ?_
  refine Wp_seq_region ?_
  refine WpL_val rfl rfl (by decide) (r_move (v := (.slice a ll.length c)) rfl) ?_
  refine WpL_enter rfl rfl (by decide) (r_callF (vs := [(.slice a ll.length c)]) Try.func49 nm49 bd49 rfl) (part_c _ _ ll h) ?_
  rintro _ w9 ⟨rfl, X9⟩
  replace E := E.ext X9
  refine WpL_val rfl rfl (by decide) (r_assign (v := (.int .i64 (partE ll))) rfl) ?_
  refine WpL_nil ?_
  refine Wp_seq_region ?_
  refine WpL_val rfl rfl (by decide) (r_move (v := (.int .i64 (partE ll))) rfl) ?_
  refine WpL_val rfl rfl (by decide) (r_neq (k := .i64) (a := partE ll) (b := 0) rfl rfl) ?_
  refine WpL_nil ?_
  refine Wp_cond (b := decide ((partE ll : Int) ≠ 0)) rfl (fun hp => ?_) (fun hp => ?_)
  · have khp := hp
    replace hp := of_decide_eq_true hp
    refine Wp_seq_region ?_
    refine WpL_val rfl rfl (by decide) (r_move (v := (.int .i64 (partE ll))) rfl) ?_
    refine WpL_val rfl rfl (by decide) (r_assign (v := (.slice none 0 0)) rfl) ?_
    refine WpL_val rfl rfl (by decide) (r_assign (v := (.int .i64 (partE ll))) rfl) ?_
    refine WpL_nil ?_
    refine Wp_ret ?_
    refine thn_ret ?_
    refine fin_tmp2 Try.results46 (v := (.slice none 0 0)) (v' := (.int .i64 (partE ll))) rfl rfl ?_
    have he : leastP ll = [] := by unfold leastP; rw [if_neg hp]
    rw [he]
    exact ⟨⟨none, 0, rfl, ints_nil _⟩, E⟩
  · have khp := hp
    replace hp := of_decide_eq_false hp
    have hp0 : partE ll = 0 := by omega
    obtain ⟨hl16, hb0, hheads, hpart⟩ := partE_zero hp0
    refine Wp_skip ?_
    refine thn_normal ?_
    refine Wp_seq_region ?_
    refine WpL_val rfl rfl (by decide) (r_assign (v := (.slice none 0 0)) rfl) ?_
    refine WpL_nil ?_
    refine Wp_seq ?_
    refine Wp_seq_region ?_
    refine WpL_val rfl rfl (by decide) (r_move (v := (.slice a ll.length c)) rfl) ?_
    refine WpL_val rfl rfl (by decide) (r_lenSlice (ad := a) (n := ll.length) (cap := c) Try.underlying53 rfl) ?_
    refine WpL_val rfl rfl (by decide) (r_move (v := (.int .i64 0)) rfl) ?_
    refine WpL_nil ?_
    refine Wp_block ?_
    refine Wp_loop (fun nn_ σ W2 => ∃ (k : Nat) (la : Option Addr) (lc : Nat), (∃ jj_, σ = upds jj_ [(13, (.slice a ll.length c)), (14, (.int .i64 ((ll.length : Nat) : Int))), (15, (.int .i64 ((k : Nat) : Int))), (5, (.slice la k lc))]) ∧ Chg none1 w0 W2 ∧ (k ≤ ll.length) ∧ (W2.ownsRow base TInt 1 (.slice la k lc) k ((leastL (ll.take k)).map (Value.int .i64))) ∧ (base ≤ W2.heap.size) ∧ nn_ = ll.length - k) (n := ll.length - 0) ?_ ?_
    · exact ⟨0, none, 0, Fits.out ⟨rfl, rfl, rfl, rfl, trivial⟩, E, Nat.zero_le _, World.ownsRow_nil _ _ _ _, (by have := E.size; omega), rfl⟩
    · clear E
      rintro _ _ W2 ⟨k, la, lc, ⟨j2, rfl⟩, E, hk, hown, hbs, rfl⟩
      refine Wp_seq_region ?_
      refine WpL_val rfl rfl (by decide) (r_lss (k := .i64) (a := ((k : Nat) : Int)) (b := ((ll.length : Nat) : Int)) rfl rfl) ?_
      refine WpL_nil ?_
      refine Wp_seq ?_
      refine Wp_cond (b := decide ((((k : Nat) : Int) : Int) < ((ll.length : Nat) : Int))) rfl (fun hlt => ?_) (fun hlt => ?_)
      · have khlt := hlt
        replace hlt := of_decide_eq_true hlt
        obtain ⟨l, hx⟩ := get_of_lt (l := ll) (i := k) (by omega)
        obtain ⟨b, o, rfl, hcl⟩ := spss_cells h (by omega)
        obtain ⟨ra, rc, hcell, hsp⟩ := hcl k l hx
        have hgl := getD_get (d := []) hx
        have hne : l ≠ [] := by have := (hheads k (by omega)).1; rwa [hgl] at this
        obtain ⟨s1, hs1, hl1⟩ := head_some hne
        obtain ⟨sb, so, rfl, hsc⟩ := spans_cells hsp (by cases l with | nil => exact absurd rfl hne | cons x y => simp)
        have hlpos : 0 < l.length := lt_of_get hs1
        refine Wp_skip ?_
        refine thn_normal ?_
        refine Wp_seq ?_
        refine Wp_block ?_
        refine Wp_seq_region ?_
        refine WpL_val rfl rfl (by decide) (r_indexSlice (b := b) (o := o) (len := ll.length) (cap := c) (i := k) (o' := o + k) rfl rfl rfl Try.underlying53 siz23 (by omega) (by omega)) ?_
        refine WpL_val rfl rfl (by decide) (r_load (v := (.slice (some ⟨sb, so, none⟩) l.length rc)) rfl flat23 (E.cell (fun f => f) hcell)) ?_
        refine WpL_val rfl rfl (by decide) (r_assign (v := (.slice (some ⟨sb, so, none⟩) l.length rc)) rfl) ?_
        refine WpL_nil ?_
        refine Wp_region ?_
        refine WpL_val rfl rfl (by decide) (r_move (v := (.slice la k lc)) rfl) ?_
        refine WpL_val rfl rfl (by decide) (r_move (v := (.slice (some ⟨sb, so, none⟩) l.length rc)) rfl) ?_
        refine WpL_val rfl rfl (by decide) (r_indexSlice (b := sb) (o := so) (len := l.length) (cap := rc) (i := 0) (o' := so + 0 * 2) rfl rfl rfl Try.underlying23 siz37 (by omega) (by omega)) ?_
        refine WpL_val rfl rfl (by decide) (r_fieldAddr (b := sb) (o := so + 0 * 2) (o' := so + 0 * 2) rfl Try.underlying37 rfl siz3 rfl) ?_
        refine WpL_val rfl rfl (by decide) (r_load (v := (.int .i64 s1.1)) rfl flat3 (E.cell (fun f => f) (hsc 0 s1 hs1 0 _ rfl))) ?_
        refine s_buildSlice (ps := [(0, (.int .i64 s1.1))]) (c := #[(.int .i64 s1.1)]) (by decide) rfl Try.underlying22 siz3 zer3 (by decide) (by decide) (by kernel_rfl) ?_
        intro bt wt Nt
        have Ft := Nt.ge E
        replace hown := own_ext hown Nt.ext
        replace hbs := Nat.le_trans hbs Nt.ext.size
        replace E := E.ext Nt.ext
        have Bt := Nt.blk
        refine s_append (base := base) (n := k) (m := 1) (xs := ((leastL (ll.take k)).map (Value.int .i64))) (news := [(.int .i64 s1.1)]) (size := 1) (bytes := 8) (v := (.slice la k lc)) (by decide) Try.underlying22 siz3 byt3 zer3 rfl (by decide) rfl hown rfl (rfl) (Bt.cells rfl) (by simp [Value.oneCell']) (by unfold maxLen; omega) (by omega) (hbs) ?_
        intro v9 w29 Ov9 Cv9 Dv9
        replace E := E.step Cv9 (fun x hx h => absurd (hown.lt x h).1 (by omega))
        obtain ⟨la2, lc2, rfl⟩ := own_form Ov9
        refine WpL_val rfl rfl (by decide) (r_assign (v := (.slice la2 (k + 1) lc2)) rfl) ?_
        refine WpL_nil ?_
        refine inB_normal ?_
        refine thn_normal ?_
        refine Wp_region ?_
        refine WpL_val rfl rfl (by decide) (r_add (k := .i64) (a := ((k : Nat) : Int)) (b := 1) (c := ((k : Nat) : Int) + 1) rfl rfl (wI64 (by omega))) ?_
        refine WpL_val rfl rfl (by decide) (r_move (v := (.int .i64 (((k : Nat) : Int) + 1))) rfl) ?_
        refine WpL_nil ?_
        refine thn_normal ?_
        exact ⟨ll.length - (k + 1), by omega, k + 1, la2, lc2, Fits.out ⟨rfl, rfl, rfl, rfl, trivial⟩, E, (by omega), (by rw [take_snoc hx]; unfold leastL; rw [List.map_append, List.map_append]; simpa [hl1, leastL] using Ov9), Nat.le_trans hbs Cv9.size, rfl⟩
      · have khlt := hlt
        replace hlt := of_decide_eq_false hlt
        have hkk : k = ll.length := by omega
        refine Wp_exit ?_
        refine thn_exit ?_
        refine thn_exit ?_
        refine inB_here ?_
        refine thn_normal ?_
        refine Wp_seq_region ?_
        refine WpL_val rfl rfl (by decide) (r_move (v := (.slice la k lc)) rfl) ?_
        refine WpL_val rfl rfl (by decide) (r_assign (v := (.slice la k lc)) rfl) ?_
        refine WpL_val rfl rfl (by decide) (r_assign (v := (.int .i64 0)) rfl) ?_
        refine WpL_nil ?_
        refine Wp_ret ?_
        refine fin_tmp2 Try.results46 (v := (.slice la k lc)) (v' := (.int .i64 0)) rfl rfl ?_
        have he : leastP ll = leastL ll := by unfold leastP; rw [if_pos hp0]
        have hll : (leastL ll).length = k := by unfold leastL; rw [List.length_map]; omega
        rw [hkk, List.take_length, ← hkk] at hown
        have hO : OwnI _ base (.slice la k lc) (leastL ll) := ⟨⟨la, lc, by rw [hll]⟩, by rw [hll]; exact hown⟩
        rw [he, hp0]
        exact ⟨⟨la, lc, by rw [hll], by rw [hll]; exact hO.at⟩, E⟩
noncomputable def wordE (ll : List (List Sp)) (t : List Int) : Int := if partE ll ≠ 0 then partE ll else if t.any (fun r => !runeB r) then 1 else 0
noncomputable def wordL (ll : List (List Sp)) (t : List Int) : List Int := if wordE ll t = 0 then t.map (clAt ll) else []
end Go.Proofs
