/- The law RunesetBoole, walked. -/
import Derived.Test.YtpjamnekclkhhaaSh
import Derived.Test.YtpjamnekclkhhaaW1
namespace Go.Proofs
open Go Go.Eng Go.Sort
set_option maxRecDepth 100000

set_option maxHeartbeats 4000000 in
theorem set_c (w0 : World) (v : Value) (l : List Int) (h : IntsAt w0 v l) :
    Ret Try.prog 12 #[v] w0 fun r w => (∃ out, Canon out ∧ out.length ≤ 4 ∧ (∀ s ∈ out, s.2 < 1100) ∧ SetAt w r out) ∧ Ext w0 w := by
  obtain ⟨a, c, rfl⟩ := SlAt.form h
  have hlen : l.length ≤ 9223372036854775807 := by simpa using SlAt.le h
  simp only [List.length_map] at h ⊢
  obtain ⟨base0, hbase0⟩ : ∃ base, base = w0.heap.size := ⟨_, rfl⟩
  refine Ret_of Try.func12 rfl Try.ntmps12 (Nat.le_of_ble_eq_true rfl) ?_
  have E : Chg none1 w0 w0 := Chg.refl _ _
  refine Wp_seq_region ?_
  refine WpL_val rfl rfl (by decide) (r_assign (v := (.slice none 0 0)) rfl) ?_
  refine WpL_nil ?_
  refine Wp_seq_region ?_
  refine WpL_val rfl rfl (by decide) (r_assign (v := (.slice none 0 0)) rfl) ?_
  refine WpL_nil ?_
  refine Wp_seq ?_
  refine Wp_seq_region ?_
  refine WpL_val rfl rfl (by decide) (r_assign (v := (.int .i64 0)) rfl) ?_
  refine WpL_nil ?_
  refine Wp_block ?_
  refine Wp_loop (fun nn_ σ W1 => ∃ (kk : Nat) (ra : Option Addr) (rc : Nat) (mm : Nat) (rs : List Sp), (∃ jj_, σ = upds jj_ [(0, (.slice a l.length c)), (4, (.int .i64 ((2 * kk : Nat) : Int))), (3, (.slice ra mm rc))]) ∧ Chg none1 w0 W1 ∧ (kk ≤ 4) ∧ (mm = rs.length) ∧ (mm = kk) ∧ (∀ s ∈ rs, vSp s ∧ s.2 < 1100) ∧ (W1.ownsRow base0 TSp 2 (.slice ra mm rc) mm (rs.map spanV).flatten) ∧ (base0 ≤ W1.heap.size) ∧ nn_ = 4 - kk) (n := 4 - 0) ?_ ?_
  · exact ⟨0, none, 0, 0, [], Fits.out ⟨rfl, rfl, rfl, trivial⟩, E, Nat.zero_le _, rfl, rfl, (fun s hs => absurd hs List.not_mem_nil), World.ownsRow_nil _ _ _ _, (by omega), rfl⟩
  · clear E
    rintro _ _ W1 ⟨kk, ra, rc, mm, rs, ⟨j1, rfl⟩, E, hK, hM, hMk, hvr, hown, hbs, rfl⟩
    refine Wp_seq ?_
    refine Wp_seq_region ?_
    refine WpL_val rfl rfl (by decide) (r_move (v := (.int .i64 ((2 * kk : Nat) : Int))) rfl) ?_
    refine WpL_val rfl rfl (by decide) (r_add (k := .i64) (a := ((2 * kk : Nat) : Int)) (b := 1) (c := ((2 * kk : Nat) : Int) + 1) rfl rfl (wI64 (by omega))) ?_
    refine WpL_val rfl rfl (by decide) (r_move (v := (.slice a l.length c)) rfl) ?_
    refine WpL_val rfl rfl (by decide) (r_lenSlice (ad := a) (n := l.length) (cap := c) Try.underlying22 rfl) ?_
    obtain ⟨e2, he2⟩ : ∃ e, (decide ((((2 * kk : Nat) : Int) + 1 : Int) < ((l.length : Nat) : Int))) = e := ⟨_, rfl⟩
    refine WpL_val rfl rfl (by decide) ((r_lss (k := .i64) (a := ((2 * kk : Nat) : Int) + 1) (b := ((l.length : Nat) : Int)) rfl rfl).trans (by rw [he2]; try rfl)) ?_
    refine WpL_val rfl rfl (by decide) (r_move (v := (.bool e2)) rfl) ?_
    refine WpL_guard_any (oj := _) (gv := (.bool e2)) (u := (bif e2 then (.int .i64 ((2 * kk : Nat) : Int)) else undef)) rfl rfl (by decide) (by decide) rfl (by cases e2 <;> first | exact Or.inr ⟨Or.inl rfl, rfl⟩ | exact Or.inr ⟨Or.inr rfl, rfl⟩ | exact Or.inl ⟨rfl, r_move (v := (.int .i64 ((2 * kk : Nat) : Int))) rfl⟩) ?_
    obtain ⟨e3, he3⟩ : ∃ e, (decide ((((2 * kk : Nat) : Int) : Int) < 8)) = e := ⟨_, rfl⟩
    refine WpL_guard_any (oj := _) (gv := (.bool e2)) (u := (bif e2 then (.bool e3) else undef)) rfl rfl (by decide) (by decide) rfl (by cases e2 <;> first | exact Or.inr ⟨Or.inl rfl, rfl⟩ | exact Or.inr ⟨Or.inr rfl, rfl⟩ | exact Or.inl ⟨rfl, (r_lss (k := .i64) (a := ((2 * kk : Nat) : Int)) (b := 8) rfl rfl).trans (by rw [he3]; try rfl)⟩) ?_
    obtain ⟨e4, he4⟩ : ∃ e, (e2 && e3) = e := ⟨_, rfl⟩
    refine WpL_val rfl rfl (by decide) (r_pick (b := e2) (v := .bool e4) rfl (by rw [← he4]; cases e2 <;> rfl)) ?_
    refine WpL_nil ?_
    subst he4
    subst he3
    subst he2
    refine Wp_cond (b := ((decide ((((2 * kk : Nat) : Int) + 1 : Int) < ((l.length : Nat) : Int))) && (decide ((((2 * kk : Nat) : Int) : Int) < 8)))) rfl (fun hc => ?_) (fun hc => ?_)
    · have khc := hc
      have hc2 : 2 * kk + 1 < l.length ∧ 2 * kk < 8 := by simp at hc; omega
      obtain ⟨x, hx⟩ := get_of_lt (l := l) (i := 2 * kk) (by omega)
      obtain ⟨y, hy⟩ := get_of_lt (l := l) (i := 2 * kk + 1) (by omega)
      obtain ⟨b, o, hab, hcl⟩ := ints_cells h (by omega)
      subst hab
      have x1 := Int.emod_nonneg x (b := 1000) (by decide)
      have x2 := Int.emod_lt_of_pos x (b := 1000) (by decide)
      have y1 := Int.emod_nonneg y (b := 100) (by decide)
      have y2 := Int.emod_lt_of_pos y (b := 100) (by decide)
      refine Wp_skip ?_
      refine thn_normal ?_
      refine Wp_seq ?_
      refine Wp_block ?_
      refine Wp_seq_region ?_
      refine WpL_val rfl rfl (by decide) (r_move (v := (.slice (some ⟨b, o, none⟩) l.length c)) rfl) ?_
      refine WpL_val rfl rfl (by decide) (r_move (v := (.int .i64 ((2 * kk : Nat) : Int))) rfl) ?_
      refine WpL_val rfl rfl (by decide) (r_indexSlice (b := b) (o := o) (len := l.length) (cap := c) (i := 2 * kk) (o' := o + (2 * kk)) rfl rfl rfl Try.underlying22 siz3 (by omega) (by omega)) ?_
      refine WpL_val rfl rfl (by decide) (r_load (v := (.int .i64 x)) rfl flat3 (E.cell (fun f => f) (hcl (2 * kk) x hx))) ?_
      refine WpL_enter rfl rfl (by decide) (r_callF (vs := [(.int .i64 x), (.int .i64 1000)]) Try.func13 nm13 bd13 rfl) (below_c x 1000 (by decide) (by decide) _) ?_
      rintro _ w9 ⟨rfl, rfl⟩
      refine WpL_val rfl rfl (by decide) (r_assign (v := (.int .i64 (x % 1000))) rfl) ?_
      refine WpL_nil ?_
      refine Wp_region ?_
      refine WpL_val rfl rfl (by decide) (r_move (v := (.slice ra mm rc)) rfl) ?_
      refine WpL_val rfl rfl (by decide) (r_move (v := (.int .i64 (x % 1000))) rfl) ?_
      refine WpL_val rfl rfl (by decide) (r_move (v := (.int .i64 (x % 1000))) rfl) ?_
      refine WpL_val rfl rfl (by decide) (r_move (v := (.slice (some ⟨b, o, none⟩) l.length c)) rfl) ?_
      refine WpL_val rfl rfl (by decide) (r_move (v := (.int .i64 ((2 * kk : Nat) : Int))) rfl) ?_
      refine WpL_val rfl rfl (by decide) (r_add (k := .i64) (a := ((2 * kk : Nat) : Int)) (b := 1) (c := ((2 * kk : Nat) : Int) + 1) rfl rfl (wI64 (by omega))) ?_
      refine WpL_val rfl rfl (by decide) (r_indexSlice (b := b) (o := o) (len := l.length) (cap := c) (i := 2 * kk + 1) (o' := o + (2 * kk + 1)) rfl rfl (by omega) Try.underlying22 siz3 (by omega) (by omega)) ?_
      refine WpL_val rfl rfl (by decide) (r_load (v := (.int .i64 y)) rfl flat3 (E.cell (fun f => f) (hcl (2 * kk + 1) y hy))) ?_
      refine WpL_enter rfl rfl (by decide) (r_callF (vs := [(.int .i64 y), (.int .i64 100)]) Try.func13 nm13 bd13 rfl) (below_c y 100 (by decide) (by decide) _) ?_
      rintro _ w8 ⟨rfl, rfl⟩
      refine WpL_val rfl rfl (by decide) (r_add (k := .i64) (a := x % 1000) (b := y % 100) (c := (x % 1000) + (y % 100)) rfl rfl (wI64 (by omega))) ?_
      refine WpL_val rfl rfl (by decide) (r_build (ps := [(0, (.int .i64 (x % 1000))), (1, (.int .i64 ((x % 1000) + (y % 100))))]) (v := (.agg #[(.int .i64 (x % 1000)), (.int .i64 ((x % 1000) + (y % 100)))])) rfl (by kernel_rfl)) ?_
      refine s_buildSlice (ps := [(0, (.agg #[(.int .i64 (x % 1000)), (.int .i64 ((x % 1000) + (y % 100)))]))]) (c := #[(.int .i64 (x % 1000)), (.int .i64 ((x % 1000) + (y % 100)))]) (by decide) rfl Try.underlying23 siz37 zer37 (by decide) (by decide) (by kernel_rfl) ?_
      intro bq wq Nq
      have Fq := Nq.ge E
      replace hown := own_ext hown Nq.ext
      replace hbs := Nat.le_trans hbs Nq.ext.size
      replace E := E.ext Nq.ext
      have Bq := Nq.blk
      refine s_append (base := base0) (n := mm) (m := 1) (xs := (rs.map spanV).flatten) (news := [(.int .i64 (x % 1000)), (.int .i64 ((x % 1000) + (y % 100)))]) (size := 2) (bytes := 16) (v := (.slice ra mm rc)) (by decide) Try.underlying23 siz37 byt37 zer37 rfl (by decide) rfl hown rfl (rfl) (Bq.cells rfl) (by simp [Value.oneCell']) (by unfold maxLen; omega) (by omega) (hbs) ?_
      intro v9 w29 Ov9 Cv9 Dv9
      replace E := E.step Cv9 (fun x hx h => absurd (hown.lt x h).1 (by omega))
      obtain ⟨ra2, rc2, rfl⟩ := own_form Ov9
      refine WpL_val rfl rfl (by decide) (r_assign (v := (.slice ra2 (mm + 1) rc2)) rfl) ?_
      refine WpL_nil ?_
      refine inB_normal ?_
      refine thn_normal ?_
      refine Wp_region ?_
      refine WpL_val rfl rfl (by decide) (r_move (v := (.int .i64 ((2 * kk : Nat) : Int))) rfl) ?_
      refine WpL_val rfl rfl (by decide) (r_add (k := .i64) (a := ((2 * kk : Nat) : Int)) (b := 2) (c := ((2 * (kk + 1) : Nat) : Int)) rfl rfl ((wI64 (by omega)).trans (by omega))) ?_
      refine WpL_val rfl rfl (by decide) (r_assign (v := (.int .i64 ((2 * (kk + 1) : Nat) : Int))) rfl) ?_
      refine WpL_nil ?_
      refine thn_normal ?_
      exact ⟨4 - (kk + 1), by omega, kk + 1, ra2, rc2, mm + 1, rs ++ [(x % 1000, x % 1000 + y % 100)], Fits.out ⟨rfl, rfl, rfl, trivial⟩, E, (by omega), (by simp [hM]), (by omega), (fun u hu => by rcases List.mem_append.1 hu with hu | hu; exact hvr u hu; rw [List.mem_singleton] at hu; subst hu; unfold vSp; simp only; omega), (by rw [spanV_snoc]; exact Ov9), Nat.le_trans hbs Cv9.size, rfl⟩
    · have khc := hc
      have hO : OwnS W1 base0 (.slice ra mm rc) rs := ⟨⟨ra, rc, by rw [hM]⟩, by rw [← hM]; exact hown⟩
      refine Wp_exit ?_
      refine thn_exit ?_
      refine thn_exit ?_
      refine inB_here ?_
      refine thn_normal ?_
      refine Wp_seq_region ?_
      refine WpL_val rfl rfl (by decide) (r_move (v := (.slice ra mm rc)) rfl) ?_
      refine WpL_enter rfl rfl (by decide) (r_callF (vs := [(.slice ra mm rc), (.func (.func 56) #[] #[])]) Try.func55 nm55 bd55 rfl) (sort1_c _ base0 (.slice ra mm rc) rs hO (by omega) (fun s hs => (hvr s hs).1)) ?_
      rintro _ w10 ⟨rfl, ⟨ls, hperm, hsort, hat⟩, C10⟩
      replace E := E.step C10 (fun x hx hy => absurd (hown.lt x hy).1 (by omega))
      have hlen2 : ls.length = mm := by rw [hM]; exact hperm.length_eq
      have hokl : ∀ s ∈ ls, vSp s := fun s hs => (hvr s (hperm.mem_iff.1 hs)).1
      have hsz0 : w0.heap.size ≤ w10.heap.size := E.size
      obtain ⟨base, hbase⟩ : ∃ base, base = w10.heap.size := ⟨_, rfl⟩
      have hmm4 : mm ≤ 4 := by omega
      clear hown hbs hO C10
      have E2 : Chg none1 w10 w10 := Chg.refl _ _
      refine WpL_nil ?_
      refine Wp_seq_region ?_
      refine WpL_val rfl rfl (by decide) (r_assign (v := (.slice none 0 0)) rfl) ?_
      refine WpL_nil ?_
      refine Wp_seq ?_
      refine Wp_seq_region ?_
      refine WpL_val rfl rfl (by decide) (r_move (v := (.slice ra mm rc)) rfl) ?_
      refine WpL_val rfl rfl (by decide) (r_lenSlice (ad := ra) (n := mm) (cap := rc) Try.underlying23 rfl) ?_
      refine WpL_val rfl rfl (by decide) (r_move (v := (.int .i64 0)) rfl) ?_
      refine WpL_nil ?_
      refine Wp_block ?_
      refine Wp_loop (fun nn_ σ W6 => ∃ (k : Nat) (la : Option Addr) (lc : Nat) (m : Nat) (ou : List Sp), (∃ jj_, σ = upds jj_ [(41, (.slice ra mm rc)), (42, (.int .i64 ((mm : Nat) : Int))), (43, (.int .i64 ((k : Nat) : Int))), (6, (.slice la m lc))]) ∧ Chg none1 w0 W6 ∧ Chg none1 w10 W6 ∧ (k ≤ mm) ∧ (m = ou.length) ∧ (m ≤ k) ∧ (∀ s ∈ ou, 0 ≤ s.2 ∧ s.2 ≤ 1114111) ∧ ((ls.drop k).foldl jstep ou = joinF ls) ∧ (W6.ownsRow base TSp 2 (.slice la m lc) m (ou.map spanV).flatten) ∧ (base ≤ W6.heap.size) ∧ nn_ = mm - k) (n := mm - 0) ?_ ?_
      · exact ⟨0, none, 0, 0, [], Fits.out ⟨rfl, rfl, rfl, rfl, trivial⟩, E, E2, Nat.zero_le _, rfl, Nat.le_refl _, (fun s hs => absurd hs List.not_mem_nil), rfl, World.ownsRow_nil _ _ _ _, (by omega), rfl⟩
      · clear E E2
        rintro _ _ W6 ⟨k, la, lc, m, ou, ⟨j6, rfl⟩, E, E2, hk, hm, hlo, hvo, hou, hown, hbs, rfl⟩
        refine Wp_seq_region ?_
        refine WpL_val rfl rfl (by decide) (r_lss (k := .i64) (a := ((k : Nat) : Int)) (b := ((mm : Nat) : Int)) rfl rfl) ?_
        refine WpL_nil ?_
        refine Wp_seq ?_
        refine Wp_cond (b := decide ((((k : Nat) : Int) : Int) < ((mm : Nat) : Int))) rfl (fun hlt => ?_) (fun hlt => ?_)
        · have khlt := hlt
          replace hlt := of_decide_eq_true hlt
          obtain ⟨s, hs⟩ := get_of_lt (l := ls) (i := k) (by omega)
          have hv := hokl s (List.mem_of_getElem? hs)
          unfold vSp at hv
          obtain ⟨b, o, hab, hcl⟩ := spans_cells hat (by omega)
          subst hab
          rw [drop_cons hs, List.foldl_cons] at hou
          have hown0 := hown
          refine Wp_skip ?_
          refine thn_normal ?_
          refine Wp_seq ?_
          refine Wp_block ?_
          refine Wp_seq_region ?_
          refine WpL_val rfl rfl (by decide) (r_indexSlice (b := b) (o := o) (len := mm) (cap := rc) (i := k) (o' := o + k * 2) rfl rfl rfl Try.underlying23 siz37 (by omega) (by omega)) ?_
          refine WpL_val rfl rfl (by decide) (r_loadAgg (vs := [(.int .i64 s.1), (.int .i64 s.2)]) rfl agg37 siz37 rfl ((hcl k s hs).ext E2)) ?_
          refine s_allocStore (v := (.agg #[(.int .i64 s.1), (.int .i64 s.2)])) (c := #[(.int .i64 s.1), (.int .i64 s.2)]) (n := 2) (by decide) zer37 rfl siz37 rfl rfl rfl (by simp [Value.oneCell']) ?_
          intro bq wq Nq
          have Fq := Nq.ge E
          have Fq_E2 := Nq.ge E2
          replace hown := own_ext hown Nq.ext
          replace hbs := Nat.le_trans hbs Nq.ext.size
          replace E := E.ext Nq.ext
          have Bq := Nq.blk
          replace E2 := E2.ext Nq.ext
          refine WpL_nil ?_
          rcases Bool.eq_false_or_eq_true (decide ((0 : Int) < ((m : Nat) : Int))) with hm0 | hm0
          · have khm0 := hm0
            replace khm0 := of_decide_eq_true khm0
            obtain ⟨oo, cc, hoc⟩ : ∃ oo cc, ou = oo ++ [cc] := by rcases snoc_cases ou with rfl | h1; simp at hm; omega; exact h1
            subst hoc
            have hvc := hvo cc (by simp)
            have hmo : m = oo.length + 1 := by simpa using hm
            obtain ⟨g, rfl, hgb, hgc⟩ := own_cells hown (by omega)
            have hgn : g ≠ bq := fun h1 => by have := (hown0.lt g rfl).2; have := Nq.eq; omega
            refine Wp_seq_region ?_
            refine WpL_val rfl rfl (by decide) (r_move (v := (.slice (some ⟨g, 0, none⟩) m lc)) rfl) ?_
            refine WpL_val rfl rfl (by decide) (r_lenSlice (ad := some ⟨g, 0, none⟩) (n := m) (cap := lc) Try.underlying23 rfl) ?_
            refine WpL_val rfl rfl (by decide) (r_assign (v := (.int .i64 ((m : Nat) : Int))) rfl) ?_
            refine WpL_nil ?_
            refine Wp_seq_draw 13 mixed (by kernel_rfl) ?_
            intro w8 X8 _
            replace Bq := X8.keep Bq
            replace hown := own_ext hown X8
            replace hbs := Nat.le_trans hbs X8.size
            replace E := E.ext X8
            replace E2 := E2.ext X8
            refine WpT_val rfl rfl (by decide) (r_move (v := (.int .i64 ((m : Nat) : Int))) rfl) ?_
            refine WpT_val rfl rfl (by decide) (r_gtr (k := .i64) (a := ((m : Nat) : Int)) (b := 0) rfl rfl) ?_
            refine WpT_val rfl rfl (by decide) (r_move (v := (.bool (decide ((0 : Int) < ((m : Nat) : Int))))) rfl) ?_
            refine WpT_guard_yes (oj := _) rfl rfl (by decide) (congrArg Value.bool hm0) ?_
            refine WpT_val rfl rfl (by decide) (r_fieldAddr (b := bq) (o := 0) (o' := 0) rfl Try.underlying37 rfl siz3 rfl) ?_
            refine WpT_guard_yes (oj := _) rfl rfl (by decide) (congrArg Value.bool hm0) ?_
            refine WpT_val rfl rfl (by decide) (r_load (v := (.int .i64 s.1)) rfl flat3 (Bq.cell rfl)) ?_
            refine WpT_guard_yes (oj := _) rfl rfl (by decide) (congrArg Value.bool hm0) ?_
            refine WpT_val rfl rfl (by decide) (r_move (v := (.slice (some ⟨g, 0, none⟩) m lc)) rfl) ?_
            refine WpT_guard_yes (oj := _) rfl rfl (by decide) (congrArg Value.bool hm0) ?_
            refine WpT_val rfl rfl (by decide) (r_move (v := (.int .i64 ((m : Nat) : Int))) rfl) ?_
            refine WpT_guard_yes (oj := _) rfl rfl (by decide) (congrArg Value.bool hm0) ?_
            refine WpT_val rfl rfl (by decide) (r_sub (k := .i64) (a := ((m : Nat) : Int)) (b := 1) (c := ((m : Nat) : Int) - 1) rfl rfl (wI64 (by omega))) ?_
            refine WpT_guard_yes (oj := _) rfl rfl (by decide) (congrArg Value.bool hm0) ?_
            refine WpT_val rfl rfl (by decide) (r_indexSlice (b := g) (o := 0) (len := m) (cap := lc) (i := m - 1) (o' := 0 + (m - 1) * 2) rfl rfl (by omega) Try.underlying23 siz37 (by omega) (by omega)) ?_
            refine WpT_guard_yes (oj := _) rfl rfl (by decide) (congrArg Value.bool hm0) ?_
            refine WpT_val rfl rfl (by decide) (r_fieldAddr (b := g) (o := 0 + (m - 1) * 2) (o' := 0 + (m - 1) * 2 + 1) rfl Try.underlying37 rfl siz3 rfl) ?_
            refine WpT_guard_yes (oj := _) rfl rfl (by decide) (congrArg Value.bool hm0) ?_
            refine WpT_val rfl rfl (by decide) (r_load (v := (.int .i64 cc.2)) rfl flat3 ((by have h1 := (hown.cells (g := g) rfl) (oo.length * 2 + 1) _ (span_last oo cc); rwa [Addr.add_lit, show 0 + (oo.length * 2 + 1) = 0 + (m - 1) * 2 + 1 from by omega] at h1))) ?_
            refine WpT_guard_yes (oj := _) rfl rfl (by decide) (congrArg Value.bool hm0) ?_
            refine WpT_val rfl rfl (by decide) (r_add (k := .i64) (a := cc.2) (b := 1) (c := cc.2 + 1) rfl rfl (wI64 (by omega))) ?_
            refine WpT_guard_yes (oj := _) rfl rfl (by decide) (congrArg Value.bool hm0) ?_
            refine WpT_val rfl rfl (by decide) (r_leq (k := .i64) (a := s.1) (b := cc.2 + 1) rfl rfl) ?_
            refine WpT_zero ?_
            refine WpL_val rfl rfl (by decide) (r_pick (b := decide ((0 : Int) < ((m : Nat) : Int))) (v := (.bool (decide ((s.1 : Int) ≤ cc.2 + 1)))) rfl (by rw [hm0]; rfl)) ?_
            refine WpL_nil ?_
            refine Wp_cond (b := decide ((s.1 : Int) ≤ cc.2 + 1)) rfl (fun hj => ?_) (fun hj => ?_)
            · have khj := hj
              replace hj := of_decide_eq_true hj
              obtain ⟨cur, hB, hcs⟩ := own_blk hown
              refine Wp_draw 14 mixed (by kernel_rfl) ?_
              intro w10 X10 _
              replace Bq := X10.keep Bq
              replace hB := X10.keep hB
              replace hown := own_ext hown X10
              replace hbs := Nat.le_trans hbs X10.size
              replace E := E.ext X10
              replace E2 := E2.ext X10
              refine WpT_val rfl rfl (by decide) (r_move (v := (.slice (some ⟨g, 0, none⟩) m lc)) rfl) ?_
              refine WpT_val rfl rfl (by decide) (r_move (v := (.int .i64 ((m : Nat) : Int))) rfl) ?_
              refine WpT_val rfl rfl (by decide) (r_sub (k := .i64) (a := ((m : Nat) : Int)) (b := 1) (c := ((m : Nat) : Int) - 1) rfl rfl (wI64 (by omega))) ?_
              refine WpT_val rfl rfl (by decide) (r_move (v := (.slice (some ⟨g, 0, none⟩) m lc)) rfl) ?_
              refine WpT_val rfl rfl (by decide) (r_move (v := (.int .i64 ((m : Nat) : Int))) rfl) ?_
              refine WpT_val rfl rfl (by decide) (r_sub (k := .i64) (a := ((m : Nat) : Int)) (b := 1) (c := ((m : Nat) : Int) - 1) rfl rfl (wI64 (by omega))) ?_
              refine WpT_val rfl rfl (by decide) (r_indexSlice (b := g) (o := 0) (len := m) (cap := lc) (i := m - 1) (o' := 0 + (m - 1) * 2) rfl rfl (by omega) Try.underlying23 siz37 (by omega) (by omega)) ?_
              refine WpT_val rfl rfl (by decide) (r_fieldAddr (b := g) (o := 0 + (m - 1) * 2) (o' := 0 + (m - 1) * 2 + 1) rfl Try.underlying37 rfl siz3 rfl) ?_
              refine WpT_val rfl rfl (by decide) (r_load (v := (.int .i64 cc.2)) rfl flat3 ((by have h1 := (hown.cells (g := g) rfl) (oo.length * 2 + 1) _ (span_last oo cc); rwa [Addr.add_lit, show 0 + (oo.length * 2 + 1) = 0 + (m - 1) * 2 + 1 from by omega] at h1))) ?_
              refine WpT_val rfl rfl (by decide) (r_fieldAddr (b := bq) (o := 0) (o' := 1) rfl Try.underlying37 rfl siz3 rfl) ?_
              refine WpT_val rfl rfl (by decide) (r_load (v := (.int .i64 s.2)) rfl flat3 (Bq.cell rfl)) ?_
              refine WpT_val rfl rfl (by decide) (r_maxI rfl rfl rfl) ?_
              refine WpT_val rfl rfl (by decide) (r_indexSlice (b := g) (o := 0) (len := m) (cap := lc) (i := m - 1) (o' := 0 + (m - 1) * 2) rfl rfl (by omega) Try.underlying23 siz37 (by omega) (by omega)) ?_
              refine WpT_val rfl rfl (by decide) (r_fieldAddr (b := g) (o := 0 + (m - 1) * 2) (o' := 0 + (m - 1) * 2 + 1) rfl Try.underlying37 rfl siz3 rfl) ?_
              refine WpT_zero ?_
              have hB0 := hB
              refine s_store (b := g) (o := 0 + (m - 1) * 2 + 1) (c' := cur.setIfInBounds (0 + (m - 1) * 2 + 1) (.int .i64 (max cc.2 s.2))) (v := (.int .i64 (max cc.2 s.2))) rfl rfl rfl siz3 hB (by omega) (rfl) ?_
              intro w11 S11
              replace Bq := S11.keep (by omega) Bq
              replace E := S11.step E (by first | exact Or.inl (by omega) | exact Or.inr rfl | exact Or.inr (by assumption) | exact Or.inr (by simp) | exact Or.inr (by omega) | exact Or.inr (by dsimp only; omega))
              replace E2 := S11.step E2 (Or.inl (by omega))
              replace hB := S11.blk
              have hown1 := own_write hown hB0 (i := 0 + (m - 1) * 2 + 1) (by omega) hB
              refine WpL_nil ?_
              refine inB_normal ?_
              refine thn_normal ?_
              refine Wp_region ?_
              refine WpL_val rfl rfl (by decide) (r_add (k := .i64) (a := ((k : Nat) : Int)) (b := 1) (c := ((k : Nat) : Int) + 1) rfl rfl (wI64 (by omega))) ?_
              refine WpL_val rfl rfl (by decide) (r_move (v := (.int .i64 (((k : Nat) : Int) + 1))) rfl) ?_
              refine WpL_nil ?_
              refine thn_normal ?_
              exact ⟨mm - (k + 1), by omega, k + 1, some ⟨g, 0, none⟩, lc, m, oo ++ [(cc.1, max cc.2 s.2)], Fits.out ⟨rfl, rfl, rfl, rfl, trivial⟩, E, E2, (by omega), (by simp [hmo]), (by omega), (fun u hu => by rcases List.mem_append.1 hu with hu | hu; exact hvo u (by simp [hu]); rw [List.mem_singleton] at hu; subst hu; simp only; omega), (by rw [← hou, jstep_snoc, if_pos hj]), (by rw [show 0 + (m - 1) * 2 + 1 = oo.length * 2 + 1 from by omega, span_set] at hown1; exact hown1), (by have := hown1.lt g rfl; omega), rfl⟩
            · have khj := hj
              replace hj := of_decide_eq_false hj
              refine Wp_region ?_
              refine WpL_val rfl rfl (by decide) (r_move (v := (.slice (some ⟨g, 0, none⟩) m lc)) rfl) ?_
              refine WpL_val rfl rfl (by decide) (r_loadAgg (vs := [(.int .i64 s.1), (.int .i64 s.2)]) rfl agg37 siz37 rfl (Bq.cells rfl)) ?_
              refine s_buildSlice (ps := [(0, (.agg #[(.int .i64 s.1), (.int .i64 s.2)]))]) (c := #[(.int .i64 s.1), (.int .i64 s.2)]) (by decide) rfl Try.underlying23 siz37 zer37 (by decide) (by decide) (by kernel_rfl) ?_
              intro br wr Nr
              have Fr := Nr.ge E
              have Fr_E2 := Nr.ge E2
              have Or_bq := Nr.lt Bq
              replace Bq := Nr.keep Bq
              replace hown := own_ext hown Nr.ext
              replace hbs := Nat.le_trans hbs Nr.ext.size
              replace E := E.ext Nr.ext
              have Br := Nr.blk
              replace E2 := E2.ext Nr.ext
              refine s_append (base := base) (n := m) (m := 1) (xs := ((oo ++ [cc]).map spanV).flatten) (news := [(.int .i64 s.1), (.int .i64 s.2)]) (size := 2) (bytes := 16) (v := (.slice (some ⟨g, 0, none⟩) m lc)) (by decide) Try.underlying23 siz37 byt37 zer37 rfl (by decide) rfl hown rfl (rfl) (Br.cells rfl) (by simp [Value.oneCell']) (by unfold maxLen; omega) (by omega) (hbs) ?_
              intro v9 w29 Ov9 Cv9 Dv9
              replace Bq := Cv9.keep (fun h => by have := (hown0.lt _ h).2; have := Nq.eq; omega) Bq
              replace E := E.step Cv9 (fun x hx h => absurd (hown.lt x h).1 (by omega))
              replace E2 := E2.step Cv9 (fun x hx h => absurd (hown.lt x h).1 (by omega))
              obtain ⟨la2, lc2, rfl⟩ := own_form Ov9
              refine WpL_val rfl rfl (by decide) (r_assign (v := (.slice la2 (m + 1) lc2)) rfl) ?_
              refine WpL_nil ?_
              refine inB_normal ?_
              refine thn_normal ?_
              refine Wp_region ?_
              refine WpL_val rfl rfl (by decide) (r_add (k := .i64) (a := ((k : Nat) : Int)) (b := 1) (c := ((k : Nat) : Int) + 1) rfl rfl (wI64 (by omega))) ?_
              refine WpL_val rfl rfl (by decide) (r_move (v := (.int .i64 (((k : Nat) : Int) + 1))) rfl) ?_
              refine WpL_nil ?_
              refine thn_normal ?_
              exact ⟨mm - (k + 1), by omega, k + 1, la2, lc2, m + 1, oo ++ [cc] ++ [s], Fits.out ⟨rfl, rfl, rfl, rfl, trivial⟩, E, E2, (by omega), (by simp [hmo]), (by omega), (fun u hu => by rcases List.mem_append.1 hu with hu | hu; exact hvo u hu; rw [List.mem_singleton] at hu; subst hu; omega), (by rw [← hou, jstep_snoc, if_neg hj]), (by rw [spanV_snoc]; exact Ov9), Nat.le_trans hbs Cv9.size, rfl⟩
          · have khm0 := hm0
            replace khm0 := of_decide_eq_false khm0
            have hm1 : m = 0 := by omega
            have hou0 : ou = [] := List.eq_nil_of_length_eq_zero (by omega)
            subst hou0
            refine Wp_seq_region ?_
            refine WpL_val rfl rfl (by decide) (r_move (v := (.slice la m lc)) rfl) ?_
            refine WpL_val rfl rfl (by decide) (r_lenSlice (ad := la) (n := m) (cap := lc) Try.underlying23 rfl) ?_
            refine WpL_val rfl rfl (by decide) (r_assign (v := (.int .i64 ((m : Nat) : Int))) rfl) ?_
            refine WpL_nil ?_
            refine Wp_seq_draw 13 mixed (by kernel_rfl) ?_
            intro w12 X12 _
            replace Bq := X12.keep Bq
            replace hown := own_ext hown X12
            replace hbs := Nat.le_trans hbs X12.size
            replace E := E.ext X12
            replace E2 := E2.ext X12
            refine WpT_val rfl rfl (by decide) (r_move (v := (.int .i64 ((m : Nat) : Int))) rfl) ?_
            refine WpT_val rfl rfl (by decide) (r_gtr (k := .i64) (a := ((m : Nat) : Int)) (b := 0) rfl rfl) ?_
            refine WpT_val rfl rfl (by decide) (r_move (v := (.bool (decide ((0 : Int) < ((m : Nat) : Int))))) rfl) ?_
            refine WpT_guard_no (oj := _) rfl rfl (by decide) (v := .bool false) (congrArg Value.bool hm0) (Or.inl rfl) ?_
            refine WpT_guard_no (oj := _) rfl rfl (by decide) (v := .bool false) (congrArg Value.bool hm0) (Or.inl rfl) ?_
            refine WpT_guard_no (oj := _) rfl rfl (by decide) (v := .bool false) (congrArg Value.bool hm0) (Or.inl rfl) ?_
            refine WpT_guard_no (oj := _) rfl rfl (by decide) (v := .bool false) (congrArg Value.bool hm0) (Or.inl rfl) ?_
            refine WpT_guard_no (oj := _) rfl rfl (by decide) (v := .bool false) (congrArg Value.bool hm0) (Or.inl rfl) ?_
            refine WpT_guard_no (oj := _) rfl rfl (by decide) (v := .bool false) (congrArg Value.bool hm0) (Or.inl rfl) ?_
            refine WpT_guard_no (oj := _) rfl rfl (by decide) (v := .bool false) (congrArg Value.bool hm0) (Or.inl rfl) ?_
            refine WpT_guard_no (oj := _) rfl rfl (by decide) (v := .bool false) (congrArg Value.bool hm0) (Or.inl rfl) ?_
            refine WpT_guard_no (oj := _) rfl rfl (by decide) (v := .bool false) (congrArg Value.bool hm0) (Or.inl rfl) ?_
            refine WpT_guard_no (oj := _) rfl rfl (by decide) (v := .bool false) (congrArg Value.bool hm0) (Or.inl rfl) ?_
            refine WpT_zero ?_
            refine WpL_val rfl rfl (by decide) (r_pick (b := decide ((0 : Int) < ((m : Nat) : Int))) (v := (.bool false)) rfl (by rw [hm0]; rfl)) ?_
            refine WpL_nil ?_
            refine Wp_cond_false rfl ?_
            refine Wp_region ?_
            refine WpL_val rfl rfl (by decide) (r_move (v := (.slice la m lc)) rfl) ?_
            refine WpL_val rfl rfl (by decide) (r_loadAgg (vs := [(.int .i64 s.1), (.int .i64 s.2)]) rfl agg37 siz37 rfl (Bq.cells rfl)) ?_
            refine s_buildSlice (ps := [(0, (.agg #[(.int .i64 s.1), (.int .i64 s.2)]))]) (c := #[(.int .i64 s.1), (.int .i64 s.2)]) (by decide) rfl Try.underlying23 siz37 zer37 (by decide) (by decide) (by kernel_rfl) ?_
            intro b13 w13 N13
            have F13 := N13.ge E
            have F13_E2 := N13.ge E2
            have O13_bq := N13.lt Bq
            replace Bq := N13.keep Bq
            replace hown := own_ext hown N13.ext
            replace hbs := Nat.le_trans hbs N13.ext.size
            replace E := E.ext N13.ext
            have B13 := N13.blk
            replace E2 := E2.ext N13.ext
            refine s_append (base := base) (n := m) (m := 1) (xs := []) (news := [(.int .i64 s.1), (.int .i64 s.2)]) (size := 2) (bytes := 16) (v := (.slice la m lc)) (by decide) Try.underlying23 siz37 byt37 zer37 rfl (by decide) rfl hown rfl (rfl) (B13.cells rfl) (by simp [Value.oneCell']) (by unfold maxLen; omega) (by omega) (hbs) ?_
            intro v9 w29 Ov9 Cv9 Dv9
            replace Bq := Cv9.keep (fun h => by have := (hown0.lt _ h).2; have := Nq.eq; omega) Bq
            replace E := E.step Cv9 (fun x hx h => absurd (hown.lt x h).1 (by omega))
            replace E2 := E2.step Cv9 (fun x hx h => absurd (hown.lt x h).1 (by omega))
            obtain ⟨la2, lc2, rfl⟩ := own_form Ov9
            refine WpL_val rfl rfl (by decide) (r_assign (v := (.slice la2 (m + 1) lc2)) rfl) ?_
            refine WpL_nil ?_
            refine inB_normal ?_
            refine thn_normal ?_
            refine Wp_region ?_
            refine WpL_val rfl rfl (by decide) (r_add (k := .i64) (a := ((k : Nat) : Int)) (b := 1) (c := ((k : Nat) : Int) + 1) rfl rfl (wI64 (by omega))) ?_
            refine WpL_val rfl rfl (by decide) (r_move (v := (.int .i64 (((k : Nat) : Int) + 1))) rfl) ?_
            refine WpL_nil ?_
            refine thn_normal ?_
            exact ⟨mm - (k + 1), by omega, k + 1, la2, lc2, m + 1, [s], Fits.out ⟨rfl, rfl, rfl, rfl, trivial⟩, E, E2, (by omega), (by simp [hm1]), (by omega), (fun u hu => by rw [List.mem_singleton] at hu; subst hu; omega), (by rw [← hou, jstep_nil]), (by simpa [spanV] using Ov9), Nat.le_trans hbs Cv9.size, rfl⟩
        · have khlt := hlt
          replace hlt := of_decide_eq_false hlt
          have hkk : ls.drop k = [] := List.drop_eq_nil_of_le (by omega)
          rw [hkk, List.foldl_nil] at hou
          refine Wp_exit ?_
          refine thn_exit ?_
          refine thn_exit ?_
          refine inB_here ?_
          refine thn_normal ?_
          refine Wp_seq_region ?_
          refine WpL_val rfl rfl (by decide) (r_move (v := (.slice la m lc)) rfl) ?_
          refine WpL_val rfl rfl (by decide) (r_assign (v := (.slice la m lc)) rfl) ?_
          refine WpL_nil ?_
          refine Wp_ret ?_
          refine fin_tmp Try.results12 (v := (.slice la m lc)) rfl ?_
          subst hou
          have hj : JoinOf rs (joinF ls) := ⟨ls, hperm, hsort, rfl⟩
          obtain ⟨c1, c2, c3⟩ := hj.all fun s hs => (hvr s hs).1
          refine ⟨⟨joinF ls, c1, by omega, fun s hs => ?_, ⟨⟨la, lc, by rw [hm]⟩, ?_⟩⟩, E⟩
          · have hv := c1.ok s hs
            unfold vSp at hv
            have h1 : inS (joinF ls) s.2 = true := inS_iff.2 ⟨s, hs, by omega, by omega⟩
            rw [c2] at h1
            obtain ⟨t, ht, h2, h3⟩ := inS_iff.1 h1
            have := (hvr t ht).2
            omega
          · have h1 : OwnS _ _ (.slice la m lc) (joinF ls) := ⟨⟨la, lc, by rw [hm]⟩, by rw [← hm]; exact hown⟩
            exact h1.at
theorem fitsP_ok {j out : List Sp} {e : Int} (h : fitsP j out e) (hl : j.length ≤ 16) : e = 0 ∧ out = j := by
  unfold fitsP at h; rwa [if_neg (by omega)] at h
def OkRes (w : World) (v : Value) (out : List Sp) : Prop := ∃ a c, v = .tuple #[.slice a out.length c, .int .i64 0] ∧ SpansAt w (.slice a out.length c) out
theorem not_ok (w0 : World) (u : Value) (a : List Sp) (ha : SpansAt w0 u a) (ca : Canon a) (la : a.length ≤ 15) : Ret Try.prog 20 #[u] w0 fun r w => OkRes w r (notS a) ∧ Ext w0 w :=
  (not_c w0 u a ha).mono fun r w ⟨⟨out, e, h1, h2⟩, h3⟩ => by
    rcases h1 with ⟨h1, _⟩ | ⟨_, h1⟩
    · exact absurd (checkE_ok ca (by omega)) h1
    · have := notS_len a
      obtain ⟨rfl, rfl⟩ := fitsP_ok h1 (by omega)
      exact ⟨h2, h3⟩
theorem union_ok (w0 : World) (u v : Value) (a b : List Sp) (ha : SpansAt w0 u a) (hb : SpansAt w0 v b) (ca : Canon a) (cb : Canon b) (la : a.length + b.length ≤ 16) : Ret Try.prog 21 #[u, v] w0 fun r w => (∃ out, IsSet out (fun r => inS a r || inS b r) ∧ out.length ≤ a.length + b.length ∧ OkRes w r out) ∧ Ext w0 w :=
  (union_c w0 u v a b ha hb).mono fun r w ⟨⟨out, e, h1, h2⟩, h3⟩ => by
    rcases h1 with ⟨h1, _⟩ | ⟨_, j, h1, h4, h5⟩
    · exact absurd (twoE_ok ca cb (by omega) (by omega)) h1
    · obtain ⟨rfl, rfl⟩ := fitsP_ok h5 (by omega)
      exact ⟨⟨_, h1, h4, h2⟩, h3⟩
theorem both_ok (w0 : World) (u v : Value) (a b : List Sp) (ha : SpansAt w0 u a) (hb : SpansAt w0 v b) (ca : Canon a) (cb : Canon b) (la : a.length + b.length ≤ 13) : Ret Try.prog 22 #[u, v] w0 fun r w => (∃ out, IsSet out (fun r => inS a r && inS b r) ∧ out.length ≤ a.length + b.length + 3 ∧ OkRes w r out) ∧ Ext w0 w :=
  (both_c w0 u v a b ha hb).mono fun r w ⟨⟨out, e, h1, h2⟩, h3⟩ => by
    rcases h1 with ⟨h1, _⟩ | ⟨_, j, h1, h4, h5⟩
    · exact absurd (twoE_ok ca cb (by omega) (by omega)) h1
    · obtain ⟨rfl, rfl⟩ := fitsP_ok h5 (by omega)
      exact ⟨⟨_, h1, h4, h2⟩, h3⟩
theorem minus_ok (w0 : World) (u v : Value) (a b : List Sp) (ha : SpansAt w0 u a) (hb : SpansAt w0 v b) (ca : Canon a) (cb : Canon b) (la : a.length + b.length ≤ 12) : Ret Try.prog 23 #[u, v] w0 fun r w => (∃ out, IsSet out (fun r => inS a r && !inS b r) ∧ out.length ≤ a.length + b.length + 4 ∧ OkRes w r out) ∧ Ext w0 w :=
  (minus_c w0 u v a b ha hb).mono fun r w ⟨⟨out, e, h1, h2⟩, h3⟩ => by
    rcases h1 with ⟨h1, _⟩ | ⟨_, j, h1, h4, h5⟩
    · exact absurd (twoE_ok ca cb (by omega) (by omega)) h1
    · obtain ⟨rfl, rfl⟩ := fitsP_ok h5 (by omega)
      exact ⟨⟨_, h1, h4, h2⟩, h3⟩
theorem size_ok (w0 : World) (u : Value) (a : List Sp) (ha : SpansAt w0 u a) (ca : Canon a) (la : a.length ≤ 16) : Ret Try.prog 24 #[u] w0 fun v w => v = .tuple #[.int .i64 (sizeL a), .int .i64 0] ∧ Ext w0 w :=
  (ssize_c w0 u a ha).mono fun v w ⟨h1, h2⟩ => ⟨by rw [h1]; unfold sizeV; rw [if_neg (by rw [checkE_ok ca la]; simp)], h2⟩
theorem speq_ok (w0 : World) (v1 v2 : Value) (l1 l2 : List Sp) (h1 : SpansAt w0 v1 l1) (h2 : SpansAt w0 v2 l2) (h : l1 = l2) : Ret Try.prog 17 #[v1, v2] w0 fun v w => v = .bool true ∧ Ext w0 w :=
  (speq_c w0 v1 v2 l1 l2 h1 h2).mono fun v w ⟨h3, h4⟩ => ⟨by rw [h3, decide_eq_true h], h4⟩
theorem canon_five : Canon [(5, 1114111)] := Canon.one (by unfold vSp; simp)
theorem sizes_eq {x y u i : List Sp} (cx : Canon x) (cy : Canon y) (hu : IsSet u (fun r => inS x r || inS y r)) (hi : IsSet i (fun r => inS x r && inS y r)) : sizeL u + sizeL i = sizeL x + sizeL y := by
  rw [sizeL_cnt cx, sizeL_cnt cy, sizeL_cnt hu.1, sizeL_cnt hi.1]
  have h := cntN_add (f := inS u) (g := inS i) (h := inS x) (k := inS y) 1114112 fun r h0 h1 => by
    rw [hu.2 r h0 (by omega), hi.2 r h0 (by omega)]
    dsimp only
    rcases Bool.eq_false_or_eq_true (inS x r) with q | q <;> rcases Bool.eq_false_or_eq_true (inS y r) with q' | q' <;> simp [q, q']
  omega
set_option maxHeartbeats 4000000 in
theorem rboole_c (w0 : World) (v1 v2 : Value) (l1 l2 : List Int) (h1 : IntsAt w0 v1 l1) (h2 : IntsAt w0 v2 l2) :
    Ret Try.prog 4 #[v1, v2] w0 fun v w => v = .bool true ∧ Ext w0 w := by
  refine Ret_of Try.func4 rfl Try.ntmps4 (Nat.le_of_ble_eq_true rfl) ?_
  have E : Chg none1 w0 w0 := Chg.refl _ _
  refine Wp_seq_region ?_
  refine WpL_val rfl rfl (by decide) (r_assign (v := (.bool false)) rfl) ?_
  refine WpL_nil ?_
  refine Wp_seq ?_
  refine Wp_seq_region ?_
  refine WpL_enter rfl rfl (by decide) (r_callF (vs := [(.int .i64 5), (.int .i64 1114111)]) Try.func11 nm11 bd11 rfl) (span_c _ 5 1114111) ?_
  rintro _ w10 ⟨⟨b10, rfl, h10⟩, X10⟩
  replace E := E.ext X10
  refine WpL_enter rfl rfl (by decide) (r_callF (vs := [(.slice (some ⟨b10, 0, none⟩) 1 1)]) Try.func20 nm20 bd20 rfl) (not_ok _ _ _ h10 canon_five (by simp)) ?_
  rintro _ w11 ⟨⟨a11, c11, rfl, h11⟩, X11⟩
  replace E := E.ext X11
  refine WpL_val rfl rfl (by decide) (r_move (v := (.tuple #[(.slice a11 ((notS [(5, 1114111)]).length) c11), (.int .i64 0)])) rfl) ?_
  refine WpL_val rfl rfl (by decide) (r_extract (vs := #[(.slice a11 ((notS [(5, 1114111)]).length) c11), (.int .i64 0)]) (v := (.slice a11 ((notS [(5, 1114111)]).length) c11)) rfl rfl) ?_
  refine WpL_val rfl rfl (by decide) (r_extract (vs := #[(.slice a11 ((notS [(5, 1114111)]).length) c11), (.int .i64 0)]) (v := (.int .i64 0)) rfl rfl) ?_
  refine WpL_val rfl rfl (by decide) (r_assign (v := (.slice a11 ((notS [(5, 1114111)]).length) c11)) rfl) ?_
  refine WpL_val rfl rfl (by decide) (r_assign (v := (.int .i64 0)) rfl) ?_
  refine WpL_nil ?_
  refine Wp_seq_region ?_
  refine WpL_val rfl rfl (by decide) (r_move (v := (.int .i64 0)) rfl) ?_
  refine WpL_val rfl rfl (by decide) (r_neq (k := .i64) (a := 0) (b := 0) rfl rfl) ?_
  refine WpL_val rfl rfl (by decide) (r_move (v := (.bool false)) rfl) ?_
  refine WpL_guard_yes (oj := _) rfl rfl (by decide) rfl ?_
  refine WpL_val rfl rfl (by decide) (r_move (v := (.slice a11 ((notS [(5, 1114111)]).length) c11)) rfl) ?_
  refine WpL_guard_yes (oj := _) rfl rfl (by decide) rfl ?_
  refine WpL_enter rfl rfl (by decide) (r_callF (vs := [(.int .i64 0), (.int .i64 4)]) Try.func11 nm11 bd11 rfl) (span_c _ 0 4) ?_
  rintro _ w12 ⟨⟨b12, rfl, h12⟩, X12⟩
  replace E := E.ext X12
  refine WpL_guard_yes (oj := _) rfl rfl (by decide) rfl ?_
  refine WpL_enter rfl rfl (by decide) (r_callF (vs := [(.slice a11 ((notS [(5, 1114111)]).length) c11), (.slice (some ⟨b12, 0, none⟩) 1 1)]) Try.func17 nm17 bd17 rfl) (speq_ok _ _ _ _ _ (SpansAt.ext h11 X12) h12 (by decide)) ?_
  rintro _ w13 ⟨rfl, X13⟩
  replace E := E.ext X13
  refine WpL_guard_yes (oj := _) rfl rfl (by decide) rfl ?_
  refine WpL_val rfl rfl (by decide) (r_not (b := true) rfl) ?_
  refine WpL_val rfl rfl (by decide) (r_pick (b := false) (v := (.bool false)) rfl rfl) ?_
  refine WpL_nil ?_
  refine Wp_cond_false rfl ?_
  refine Wp_skip ?_
  refine thn_normal ?_
  refine Wp_seq_region ?_
  refine WpL_val rfl rfl (by decide) (r_move (v := v1) rfl) ?_
  refine WpL_enter rfl rfl (by decide) (r_callF (vs := [v1]) Try.func12 nm12 bd12 rfl) (set_c _ _ l1 (h1.ext E)) ?_
  rintro _ w14 ⟨⟨x, Cx, Lx, _, ⟨⟨ax, cx, rfl⟩, hx⟩⟩, X14⟩
  replace E := E.ext X14
  refine WpL_val rfl rfl (by decide) (r_move (v := v2) rfl) ?_
  refine WpL_enter rfl rfl (by decide) (r_callF (vs := [v2]) Try.func12 nm12 bd12 rfl) (set_c _ _ l2 (h2.ext E)) ?_
  rintro _ w15 ⟨⟨y, Cy, Ly, _, ⟨⟨ay, cy, rfl⟩, hy⟩⟩, X15⟩
  replace E := E.ext X15
  replace hx := SpansAt.ext hx X15
  refine WpL_val rfl rfl (by decide) (r_assign (v := (.slice ax x.length cx)) rfl) ?_
  refine WpL_val rfl rfl (by decide) (r_assign (v := (.slice ay y.length cy)) rfl) ?_
  refine WpL_nil ?_
  refine Wp_seq_region ?_
  refine WpL_val rfl rfl (by decide) (r_move (v := (.slice ax x.length cx)) rfl) ?_
  refine WpL_val rfl rfl (by decide) (r_move (v := (.slice ay y.length cy)) rfl) ?_
  refine WpL_enter rfl rfl (by decide) (r_callF (vs := [(.slice ax x.length cx), (.slice ay y.length cy)]) Try.func21 nm21 bd21 rfl) (union_ok _ _ _ x y hx hy Cx Cy (by omega)) ?_
  rintro _ w20 ⟨⟨ul, Iu, Lu, au, cu, rfl, hu⟩, X20⟩
  replace E := E.ext X20
  replace hx := SpansAt.ext hx X20
  replace hy := SpansAt.ext hy X20
  have Cu := Iu.1
  refine WpL_val rfl rfl (by decide) (r_move (v := (.tuple #[(.slice au ul.length cu), (.int .i64 0)])) rfl) ?_
  refine WpL_val rfl rfl (by decide) (r_extract (vs := #[(.slice au ul.length cu), (.int .i64 0)]) (v := (.slice au ul.length cu)) rfl rfl) ?_
  refine WpL_val rfl rfl (by decide) (r_extract (vs := #[(.slice au ul.length cu), (.int .i64 0)]) (v := (.int .i64 0)) rfl rfl) ?_
  refine WpL_val rfl rfl (by decide) (r_assign (v := (.slice au ul.length cu)) rfl) ?_
  refine WpL_val rfl rfl (by decide) (r_assign (v := (.int .i64 0)) rfl) ?_
  refine WpL_nil ?_
  refine Wp_seq_region ?_
  refine WpL_val rfl rfl (by decide) (r_move (v := (.slice ax x.length cx)) rfl) ?_
  refine WpL_val rfl rfl (by decide) (r_move (v := (.slice ay y.length cy)) rfl) ?_
  refine WpL_enter rfl rfl (by decide) (r_callF (vs := [(.slice ax x.length cx), (.slice ay y.length cy)]) Try.func22 nm22 bd22 rfl) (both_ok _ _ _ x y hx hy Cx Cy (by omega)) ?_
  rintro _ w21 ⟨⟨il, Ii, Li, ai, ci, rfl, hi⟩, X21⟩
  replace E := E.ext X21
  replace hx := SpansAt.ext hx X21
  replace hy := SpansAt.ext hy X21
  replace hu := SpansAt.ext hu X21
  have Ci := Ii.1
  refine WpL_val rfl rfl (by decide) (r_move (v := (.tuple #[(.slice ai il.length ci), (.int .i64 0)])) rfl) ?_
  refine WpL_val rfl rfl (by decide) (r_extract (vs := #[(.slice ai il.length ci), (.int .i64 0)]) (v := (.slice ai il.length ci)) rfl rfl) ?_
  refine WpL_val rfl rfl (by decide) (r_extract (vs := #[(.slice ai il.length ci), (.int .i64 0)]) (v := (.int .i64 0)) rfl rfl) ?_
  refine WpL_val rfl rfl (by decide) (r_assign (v := (.slice ai il.length ci)) rfl) ?_
  refine WpL_val rfl rfl (by decide) (r_assign (v := (.int .i64 0)) rfl) ?_
  refine WpL_nil ?_
  refine Wp_seq_region ?_
  refine WpL_val rfl rfl (by decide) (r_move (v := (.slice ax x.length cx)) rfl) ?_
  refine WpL_val rfl rfl (by decide) (r_move (v := (.slice ay y.length cy)) rfl) ?_
  refine WpL_enter rfl rfl (by decide) (r_callF (vs := [(.slice ax x.length cx), (.slice ay y.length cy)]) Try.func23 nm23 bd23 rfl) (minus_ok _ _ _ x y hx hy Cx Cy (by omega)) ?_
  rintro _ w22 ⟨⟨dl, Id, Ld, ad, cd, rfl, hd⟩, X22⟩
  replace E := E.ext X22
  replace hx := SpansAt.ext hx X22
  replace hy := SpansAt.ext hy X22
  replace hu := SpansAt.ext hu X22
  replace hi := SpansAt.ext hi X22
  have Cd := Id.1
  refine WpL_val rfl rfl (by decide) (r_move (v := (.tuple #[(.slice ad dl.length cd), (.int .i64 0)])) rfl) ?_
  refine WpL_val rfl rfl (by decide) (r_extract (vs := #[(.slice ad dl.length cd), (.int .i64 0)]) (v := (.slice ad dl.length cd)) rfl rfl) ?_
  refine WpL_val rfl rfl (by decide) (r_extract (vs := #[(.slice ad dl.length cd), (.int .i64 0)]) (v := (.int .i64 0)) rfl rfl) ?_
  refine WpL_val rfl rfl (by decide) (r_assign (v := (.slice ad dl.length cd)) rfl) ?_
  refine WpL_val rfl rfl (by decide) (r_assign (v := (.int .i64 0)) rfl) ?_
  refine WpL_nil ?_
  refine Wp_seq_region ?_
  refine WpL_val rfl rfl (by decide) (r_move (v := (.slice ax x.length cx)) rfl) ?_
  refine WpL_enter rfl rfl (by decide) (r_callF (vs := [(.slice ax x.length cx)]) Try.func20 nm20 bd20 rfl) (not_ok _ _ x hx Cx (by omega)) ?_
  rintro _ w23 ⟨⟨anx, cnx, rfl, hnx⟩, X23⟩
  replace E := E.ext X23
  replace hx := SpansAt.ext hx X23
  replace hy := SpansAt.ext hy X23
  replace hu := SpansAt.ext hu X23
  replace hi := SpansAt.ext hi X23
  replace hd := SpansAt.ext hd X23
  have Cnx := notS_canon Cx
  have Lnx := notS_len x
  refine WpL_val rfl rfl (by decide) (r_move (v := (.tuple #[(.slice anx ((notS x).length) cnx), (.int .i64 0)])) rfl) ?_
  refine WpL_val rfl rfl (by decide) (r_extract (vs := #[(.slice anx ((notS x).length) cnx), (.int .i64 0)]) (v := (.slice anx ((notS x).length) cnx)) rfl rfl) ?_
  refine WpL_val rfl rfl (by decide) (r_extract (vs := #[(.slice anx ((notS x).length) cnx), (.int .i64 0)]) (v := (.int .i64 0)) rfl rfl) ?_
  refine WpL_val rfl rfl (by decide) (r_assign (v := (.slice anx ((notS x).length) cnx)) rfl) ?_
  refine WpL_val rfl rfl (by decide) (r_assign (v := (.int .i64 0)) rfl) ?_
  refine WpL_nil ?_
  refine Wp_seq_region ?_
  refine WpL_val rfl rfl (by decide) (r_move (v := (.slice ay y.length cy)) rfl) ?_
  refine WpL_enter rfl rfl (by decide) (r_callF (vs := [(.slice ay y.length cy)]) Try.func20 nm20 bd20 rfl) (not_ok _ _ y hy Cy (by omega)) ?_
  rintro _ w24 ⟨⟨any, cny, rfl, hny⟩, X24⟩
  replace E := E.ext X24
  replace hx := SpansAt.ext hx X24
  replace hy := SpansAt.ext hy X24
  replace hu := SpansAt.ext hu X24
  replace hi := SpansAt.ext hi X24
  replace hd := SpansAt.ext hd X24
  replace hnx := SpansAt.ext hnx X24
  have Cny := notS_canon Cy
  have Lny := notS_len y
  refine WpL_val rfl rfl (by decide) (r_move (v := (.tuple #[(.slice any ((notS y).length) cny), (.int .i64 0)])) rfl) ?_
  refine WpL_val rfl rfl (by decide) (r_extract (vs := #[(.slice any ((notS y).length) cny), (.int .i64 0)]) (v := (.slice any ((notS y).length) cny)) rfl rfl) ?_
  refine WpL_val rfl rfl (by decide) (r_extract (vs := #[(.slice any ((notS y).length) cny), (.int .i64 0)]) (v := (.int .i64 0)) rfl rfl) ?_
  refine WpL_val rfl rfl (by decide) (r_assign (v := (.slice any ((notS y).length) cny)) rfl) ?_
  refine WpL_val rfl rfl (by decide) (r_assign (v := (.int .i64 0)) rfl) ?_
  refine WpL_nil ?_
  refine Wp_seq_region ?_
  refine WpL_val rfl rfl (by decide) (r_move (v := (.slice au ul.length cu)) rfl) ?_
  refine WpL_enter rfl rfl (by decide) (r_callF (vs := [(.slice au ul.length cu)]) Try.func20 nm20 bd20 rfl) (not_ok _ _ ul hu Cu (by omega)) ?_
  rintro _ w25 ⟨⟨anu, cnu, rfl, hnu⟩, X25⟩
  replace E := E.ext X25
  replace hx := SpansAt.ext hx X25
  replace hy := SpansAt.ext hy X25
  replace hu := SpansAt.ext hu X25
  replace hi := SpansAt.ext hi X25
  replace hd := SpansAt.ext hd X25
  replace hnx := SpansAt.ext hnx X25
  replace hny := SpansAt.ext hny X25
  have Cnu := notS_canon Cu
  have Lnu := notS_len ul
  refine WpL_val rfl rfl (by decide) (r_move (v := (.tuple #[(.slice anu ((notS ul).length) cnu), (.int .i64 0)])) rfl) ?_
  refine WpL_val rfl rfl (by decide) (r_extract (vs := #[(.slice anu ((notS ul).length) cnu), (.int .i64 0)]) (v := (.slice anu ((notS ul).length) cnu)) rfl rfl) ?_
  refine WpL_val rfl rfl (by decide) (r_extract (vs := #[(.slice anu ((notS ul).length) cnu), (.int .i64 0)]) (v := (.int .i64 0)) rfl rfl) ?_
  refine WpL_val rfl rfl (by decide) (r_assign (v := (.slice anu ((notS ul).length) cnu)) rfl) ?_
  refine WpL_val rfl rfl (by decide) (r_assign (v := (.int .i64 0)) rfl) ?_
  refine WpL_nil ?_
  refine Wp_seq_region ?_
  refine WpL_val rfl rfl (by decide) (r_move (v := (.slice anx ((notS x).length) cnx)) rfl) ?_
  refine WpL_enter rfl rfl (by decide) (r_callF (vs := [(.slice anx ((notS x).length) cnx)]) Try.func20 nm20 bd20 rfl) (not_ok _ _ (notS x) hnx Cnx (by omega)) ?_
  rintro _ w26 ⟨⟨abk, cbk, rfl, hbk⟩, X26⟩
  replace E := E.ext X26
  replace hx := SpansAt.ext hx X26
  replace hy := SpansAt.ext hy X26
  replace hu := SpansAt.ext hu X26
  replace hi := SpansAt.ext hi X26
  replace hd := SpansAt.ext hd X26
  replace hnx := SpansAt.ext hnx X26
  replace hny := SpansAt.ext hny X26
  replace hnu := SpansAt.ext hnu X26
  have Cbk := notS_canon Cnx
  have Lbk := notS_len (notS x)
  refine WpL_val rfl rfl (by decide) (r_move (v := (.tuple #[(.slice abk ((notS (notS x)).length) cbk), (.int .i64 0)])) rfl) ?_
  refine WpL_val rfl rfl (by decide) (r_extract (vs := #[(.slice abk ((notS (notS x)).length) cbk), (.int .i64 0)]) (v := (.slice abk ((notS (notS x)).length) cbk)) rfl rfl) ?_
  refine WpL_val rfl rfl (by decide) (r_extract (vs := #[(.slice abk ((notS (notS x)).length) cbk), (.int .i64 0)]) (v := (.int .i64 0)) rfl rfl) ?_
  refine WpL_val rfl rfl (by decide) (r_assign (v := (.slice abk ((notS (notS x)).length) cbk)) rfl) ?_
  refine WpL_val rfl rfl (by decide) (r_assign (v := (.int .i64 0)) rfl) ?_
  refine WpL_nil ?_
  refine Wp_seq_region ?_
  refine WpL_val rfl rfl (by decide) (r_move (v := (.slice anx ((notS x).length) cnx)) rfl) ?_
  refine WpL_val rfl rfl (by decide) (r_move (v := (.slice any ((notS y).length) cny)) rfl) ?_
  refine WpL_enter rfl rfl (by decide) (r_callF (vs := [(.slice anx ((notS x).length) cnx), (.slice any ((notS y).length) cny)]) Try.func22 nm22 bd22 rfl) (both_ok _ _ _ (notS x) (notS y) hnx hny Cnx Cny (by omega)) ?_
  rintro _ w27 ⟨⟨bol, Ibo, Lbo, abo, cbo, rfl, hbo⟩, X27⟩
  replace E := E.ext X27
  replace hx := SpansAt.ext hx X27
  replace hy := SpansAt.ext hy X27
  replace hu := SpansAt.ext hu X27
  replace hi := SpansAt.ext hi X27
  replace hd := SpansAt.ext hd X27
  replace hnx := SpansAt.ext hnx X27
  replace hny := SpansAt.ext hny X27
  replace hnu := SpansAt.ext hnu X27
  replace hbk := SpansAt.ext hbk X27
  have Cbo := Ibo.1
  refine WpL_val rfl rfl (by decide) (r_move (v := (.tuple #[(.slice abo bol.length cbo), (.int .i64 0)])) rfl) ?_
  refine WpL_val rfl rfl (by decide) (r_extract (vs := #[(.slice abo bol.length cbo), (.int .i64 0)]) (v := (.slice abo bol.length cbo)) rfl rfl) ?_
  refine WpL_val rfl rfl (by decide) (r_extract (vs := #[(.slice abo bol.length cbo), (.int .i64 0)]) (v := (.int .i64 0)) rfl rfl) ?_
  refine WpL_val rfl rfl (by decide) (r_assign (v := (.slice abo bol.length cbo)) rfl) ?_
  refine WpL_val rfl rfl (by decide) (r_assign (v := (.int .i64 0)) rfl) ?_
  refine WpL_nil ?_
  refine Wp_seq_region ?_
  refine WpL_val rfl rfl (by decide) (r_move (v := (.slice ax x.length cx)) rfl) ?_
  refine WpL_val rfl rfl (by decide) (r_move (v := (.slice any ((notS y).length) cny)) rfl) ?_
  refine WpL_enter rfl rfl (by decide) (r_callF (vs := [(.slice ax x.length cx), (.slice any ((notS y).length) cny)]) Try.func22 nm22 bd22 rfl) (both_ok _ _ _ x (notS y) hx hny Cx Cny (by omega)) ?_
  rintro _ w28 ⟨⟨lel, Ile, Lle, ale, cle, rfl, hle⟩, X28⟩
  replace E := E.ext X28
  replace hx := SpansAt.ext hx X28
  replace hy := SpansAt.ext hy X28
  replace hu := SpansAt.ext hu X28
  replace hi := SpansAt.ext hi X28
  replace hd := SpansAt.ext hd X28
  replace hnx := SpansAt.ext hnx X28
  replace hny := SpansAt.ext hny X28
  replace hnu := SpansAt.ext hnu X28
  replace hbk := SpansAt.ext hbk X28
  replace hbo := SpansAt.ext hbo X28
  have Cle := Ile.1
  refine WpL_val rfl rfl (by decide) (r_move (v := (.tuple #[(.slice ale lel.length cle), (.int .i64 0)])) rfl) ?_
  refine WpL_val rfl rfl (by decide) (r_extract (vs := #[(.slice ale lel.length cle), (.int .i64 0)]) (v := (.slice ale lel.length cle)) rfl rfl) ?_
  refine WpL_val rfl rfl (by decide) (r_extract (vs := #[(.slice ale lel.length cle), (.int .i64 0)]) (v := (.int .i64 0)) rfl rfl) ?_
  refine WpL_val rfl rfl (by decide) (r_assign (v := (.slice ale lel.length cle)) rfl) ?_
  refine WpL_val rfl rfl (by decide) (r_assign (v := (.int .i64 0)) rfl) ?_
  refine WpL_nil ?_
  refine Wp_seq_region ?_
  refine WpL_val rfl rfl (by decide) (r_move (v := (.slice ax x.length cx)) rfl) ?_
  refine WpL_val rfl rfl (by decide) (r_move (v := (.slice ai il.length ci)) rfl) ?_
  refine WpL_enter rfl rfl (by decide) (r_callF (vs := [(.slice ax x.length cx), (.slice ai il.length ci)]) Try.func21 nm21 bd21 rfl) (union_ok _ _ _ x il hx hi Cx Ci (by omega)) ?_
  rintro _ w29 ⟨⟨sal, Isa, Lsa, asa, csa, rfl, hsa⟩, X29⟩
  replace E := E.ext X29
  replace hx := SpansAt.ext hx X29
  replace hy := SpansAt.ext hy X29
  replace hu := SpansAt.ext hu X29
  replace hi := SpansAt.ext hi X29
  replace hd := SpansAt.ext hd X29
  replace hnx := SpansAt.ext hnx X29
  replace hny := SpansAt.ext hny X29
  replace hnu := SpansAt.ext hnu X29
  replace hbk := SpansAt.ext hbk X29
  replace hbo := SpansAt.ext hbo X29
  replace hle := SpansAt.ext hle X29
  have Csa := Isa.1
  refine WpL_val rfl rfl (by decide) (r_move (v := (.tuple #[(.slice asa sal.length csa), (.int .i64 0)])) rfl) ?_
  refine WpL_val rfl rfl (by decide) (r_extract (vs := #[(.slice asa sal.length csa), (.int .i64 0)]) (v := (.slice asa sal.length csa)) rfl rfl) ?_
  refine WpL_val rfl rfl (by decide) (r_extract (vs := #[(.slice asa sal.length csa), (.int .i64 0)]) (v := (.int .i64 0)) rfl rfl) ?_
  refine WpL_val rfl rfl (by decide) (r_assign (v := (.slice asa sal.length csa)) rfl) ?_
  refine WpL_val rfl rfl (by decide) (r_assign (v := (.int .i64 0)) rfl) ?_
  refine WpL_nil ?_
  refine Wp_seq ?_
  refine Wp_seq_region ?_
  refine WpL_val rfl rfl (by decide) (r_move (v := (.int .i64 0)) rfl) ?_
  refine WpL_val rfl rfl (by decide) (r_move (v := (.int .i64 0)) rfl) ?_
  refine WpL_val rfl rfl (by decide) (r_move (v := (.int .i64 0)) rfl) ?_
  refine WpL_val rfl rfl (by decide) (r_move (v := (.int .i64 0)) rfl) ?_
  refine WpL_val rfl rfl (by decide) (r_move (v := (.int .i64 0)) rfl) ?_
  refine WpL_val rfl rfl (by decide) (r_move (v := (.int .i64 0)) rfl) ?_
  refine WpL_val rfl rfl (by decide) (r_move (v := (.int .i64 0)) rfl) ?_
  refine WpL_val rfl rfl (by decide) (r_move (v := (.int .i64 0)) rfl) ?_
  refine WpL_val rfl rfl (by decide) (r_move (v := (.int .i64 0)) rfl) ?_
  refine WpL_val rfl rfl (by decide) (r_move (v := (.int .i64 0)) rfl) ?_
  refine s_buildSlice (ps := [(0, (.int .i64 0)), (1, (.int .i64 0)), (2, (.int .i64 0)), (3, (.int .i64 0)), (4, (.int .i64 0)), (5, (.int .i64 0)), (6, (.int .i64 0)), (7, (.int .i64 0)), (8, (.int .i64 0)), (9, (.int .i64 0))]) (c := #[(.int .i64 0), (.int .i64 0), (.int .i64 0), (.int .i64 0), (.int .i64 0), (.int .i64 0), (.int .i64 0), (.int .i64 0), (.int .i64 0), (.int .i64 0)]) (by decide) rfl Try.underlying72 siz24 zer24 (by decide) (by decide) (by kernel_rfl) ?_
  intro bq wq Nq
  have Fq := Nq.ge E
  replace E := E.ext Nq.ext
  have Bq := Nq.blk
  refine WpL_enter rfl rfl (by decide) (r_callF (vs := [(.slice (some ⟨bq, 0, none⟩) 10 10)]) Try.func16 nm16 bd16 rfl) (good_c _ _ [0, 0, 0, 0, 0, 0, 0, 0, 0, 0] (ints_of_blk [0, 0, 0, 0, 0, 0, 0, 0, 0, 0] Bq (by simp) (by simp))) ?_
  rintro _ w40 ⟨rfl, X40⟩
  replace Bq := X40.keep Bq
  replace E := E.ext X40
  have XX := Nq.ext.trans X40
  replace hx := SpansAt.ext hx XX
  replace hy := SpansAt.ext hy XX
  replace hu := SpansAt.ext hu XX
  replace hi := SpansAt.ext hi XX
  replace hd := SpansAt.ext hd XX
  replace hnx := SpansAt.ext hnx XX
  replace hny := SpansAt.ext hny XX
  replace hnu := SpansAt.ext hnu XX
  replace hbk := SpansAt.ext hbk XX
  replace hbo := SpansAt.ext hbo XX
  replace hle := SpansAt.ext hle XX
  replace hsa := SpansAt.ext hsa XX
  refine WpL_val rfl rfl (by decide) (r_not (b := true) rfl) ?_
  refine WpL_nil ?_
  refine Wp_cond_false rfl ?_
  refine Wp_skip ?_
  refine thn_normal ?_
  refine Wp_seq_region ?_
  refine WpL_val rfl rfl (by decide) (r_move (v := (.slice au ul.length cu)) rfl) ?_
  refine WpL_enter rfl rfl (by decide) (r_callF (vs := [(.slice au ul.length cu)]) Try.func24 nm24 bd24 rfl) (size_ok _ _ ul hu Cu (by omega)) ?_
  rintro _ w41 ⟨rfl, X41⟩
  replace Bq := X41.keep Bq
  replace E := E.ext X41
  replace hx := SpansAt.ext hx X41
  replace hy := SpansAt.ext hy X41
  replace hu := SpansAt.ext hu X41
  replace hi := SpansAt.ext hi X41
  replace hd := SpansAt.ext hd X41
  replace hnx := SpansAt.ext hnx X41
  replace hny := SpansAt.ext hny X41
  replace hnu := SpansAt.ext hnu X41
  replace hbk := SpansAt.ext hbk X41
  replace hbo := SpansAt.ext hbo X41
  replace hle := SpansAt.ext hle X41
  replace hsa := SpansAt.ext hsa X41
  refine WpL_val rfl rfl (by decide) (r_move (v := (.tuple #[(.int .i64 (sizeL ul)), (.int .i64 0)])) rfl) ?_
  refine WpL_val rfl rfl (by decide) (r_extract (vs := #[(.int .i64 (sizeL ul)), (.int .i64 0)]) (v := (.int .i64 (sizeL ul))) rfl rfl) ?_
  refine WpL_val rfl rfl (by decide) (r_extract (vs := #[(.int .i64 (sizeL ul)), (.int .i64 0)]) (v := (.int .i64 0)) rfl rfl) ?_
  refine WpL_val rfl rfl (by decide) (r_assign (v := (.int .i64 (sizeL ul))) rfl) ?_
  refine WpL_val rfl rfl (by decide) (r_assign (v := (.int .i64 0)) rfl) ?_
  refine WpL_nil ?_
  refine Wp_seq_region ?_
  refine WpL_val rfl rfl (by decide) (r_move (v := (.slice ai il.length ci)) rfl) ?_
  refine WpL_enter rfl rfl (by decide) (r_callF (vs := [(.slice ai il.length ci)]) Try.func24 nm24 bd24 rfl) (size_ok _ _ il hi Ci (by omega)) ?_
  rintro _ w42 ⟨rfl, X42⟩
  replace Bq := X42.keep Bq
  replace E := E.ext X42
  replace hx := SpansAt.ext hx X42
  replace hy := SpansAt.ext hy X42
  replace hu := SpansAt.ext hu X42
  replace hi := SpansAt.ext hi X42
  replace hd := SpansAt.ext hd X42
  replace hnx := SpansAt.ext hnx X42
  replace hny := SpansAt.ext hny X42
  replace hnu := SpansAt.ext hnu X42
  replace hbk := SpansAt.ext hbk X42
  replace hbo := SpansAt.ext hbo X42
  replace hle := SpansAt.ext hle X42
  replace hsa := SpansAt.ext hsa X42
  refine WpL_val rfl rfl (by decide) (r_move (v := (.tuple #[(.int .i64 (sizeL il)), (.int .i64 0)])) rfl) ?_
  refine WpL_val rfl rfl (by decide) (r_extract (vs := #[(.int .i64 (sizeL il)), (.int .i64 0)]) (v := (.int .i64 (sizeL il))) rfl rfl) ?_
  refine WpL_val rfl rfl (by decide) (r_extract (vs := #[(.int .i64 (sizeL il)), (.int .i64 0)]) (v := (.int .i64 0)) rfl rfl) ?_
  refine WpL_val rfl rfl (by decide) (r_assign (v := (.int .i64 (sizeL il))) rfl) ?_
  refine WpL_val rfl rfl (by decide) (r_assign (v := (.int .i64 0)) rfl) ?_
  refine WpL_nil ?_
  refine Wp_seq_region ?_
  refine WpL_val rfl rfl (by decide) (r_move (v := (.slice ax x.length cx)) rfl) ?_
  refine WpL_enter rfl rfl (by decide) (r_callF (vs := [(.slice ax x.length cx)]) Try.func24 nm24 bd24 rfl) (size_ok _ _ x hx Cx (by omega)) ?_
  rintro _ w43 ⟨rfl, X43⟩
  replace Bq := X43.keep Bq
  replace E := E.ext X43
  replace hx := SpansAt.ext hx X43
  replace hy := SpansAt.ext hy X43
  replace hu := SpansAt.ext hu X43
  replace hi := SpansAt.ext hi X43
  replace hd := SpansAt.ext hd X43
  replace hnx := SpansAt.ext hnx X43
  replace hny := SpansAt.ext hny X43
  replace hnu := SpansAt.ext hnu X43
  replace hbk := SpansAt.ext hbk X43
  replace hbo := SpansAt.ext hbo X43
  replace hle := SpansAt.ext hle X43
  replace hsa := SpansAt.ext hsa X43
  refine WpL_val rfl rfl (by decide) (r_move (v := (.tuple #[(.int .i64 (sizeL x)), (.int .i64 0)])) rfl) ?_
  refine WpL_val rfl rfl (by decide) (r_extract (vs := #[(.int .i64 (sizeL x)), (.int .i64 0)]) (v := (.int .i64 (sizeL x))) rfl rfl) ?_
  refine WpL_val rfl rfl (by decide) (r_extract (vs := #[(.int .i64 (sizeL x)), (.int .i64 0)]) (v := (.int .i64 0)) rfl rfl) ?_
  refine WpL_val rfl rfl (by decide) (r_assign (v := (.int .i64 (sizeL x))) rfl) ?_
  refine WpL_val rfl rfl (by decide) (r_assign (v := (.int .i64 0)) rfl) ?_
  refine WpL_nil ?_
  refine Wp_seq_region ?_
  refine WpL_val rfl rfl (by decide) (r_move (v := (.slice ay y.length cy)) rfl) ?_
  refine WpL_enter rfl rfl (by decide) (r_callF (vs := [(.slice ay y.length cy)]) Try.func24 nm24 bd24 rfl) (size_ok _ _ y hy Cy (by omega)) ?_
  rintro _ w44 ⟨rfl, X44⟩
  replace Bq := X44.keep Bq
  replace E := E.ext X44
  replace hx := SpansAt.ext hx X44
  replace hy := SpansAt.ext hy X44
  replace hu := SpansAt.ext hu X44
  replace hi := SpansAt.ext hi X44
  replace hd := SpansAt.ext hd X44
  replace hnx := SpansAt.ext hnx X44
  replace hny := SpansAt.ext hny X44
  replace hnu := SpansAt.ext hnu X44
  replace hbk := SpansAt.ext hbk X44
  replace hbo := SpansAt.ext hbo X44
  replace hle := SpansAt.ext hle X44
  replace hsa := SpansAt.ext hsa X44
  have su := sizeL_nn (a := ul) Cu.ok
  have si := sizeL_nn (a := il) Ci.ok
  have sx := sizeL_nn (a := x) Cx.ok
  have sy := sizeL_nn (a := y) Cy.ok
  have hsz := sizes_eq Cx Cy Iu Ii
  refine WpL_val rfl rfl (by decide) (r_move (v := (.tuple #[(.int .i64 (sizeL y)), (.int .i64 0)])) rfl) ?_
  refine WpL_val rfl rfl (by decide) (r_extract (vs := #[(.int .i64 (sizeL y)), (.int .i64 0)]) (v := (.int .i64 (sizeL y))) rfl rfl) ?_
  refine WpL_val rfl rfl (by decide) (r_extract (vs := #[(.int .i64 (sizeL y)), (.int .i64 0)]) (v := (.int .i64 0)) rfl rfl) ?_
  refine WpL_val rfl rfl (by decide) (r_assign (v := (.int .i64 (sizeL y))) rfl) ?_
  refine WpL_val rfl rfl (by decide) (r_assign (v := (.int .i64 0)) rfl) ?_
  refine WpL_nil ?_
  refine Wp_seq_region ?_
  refine WpL_val rfl rfl (by decide) (r_move (v := (.int .i64 0)) rfl) ?_
  refine WpL_val rfl rfl (by decide) (r_move (v := (.int .i64 0)) rfl) ?_
  refine WpL_val rfl rfl (by decide) (r_move (v := (.int .i64 0)) rfl) ?_
  refine WpL_val rfl rfl (by decide) (r_move (v := (.int .i64 0)) rfl) ?_
  refine s_buildSlice (ps := [(0, (.int .i64 0)), (1, (.int .i64 0)), (2, (.int .i64 0)), (3, (.int .i64 0))]) (c := #[(.int .i64 0), (.int .i64 0), (.int .i64 0), (.int .i64 0)]) (by decide) rfl Try.underlying72 siz24 zer24 (by decide) (by decide) (by kernel_rfl) ?_
  intro bt wt Nt
  have Ft := Nt.ge E
  have Ot_bq := Nt.lt Bq
  replace Bq := Nt.keep Bq
  replace E := E.ext Nt.ext
  have Bt := Nt.blk
  refine WpL_enter rfl rfl (by decide) (r_callF (vs := [(.slice (some ⟨bt, 0, none⟩) 4 4)]) Try.func16 nm16 bd16 rfl) (good_c _ _ [0, 0, 0, 0] (ints_of_blk [0, 0, 0, 0] Bt (by simp) (by simp))) ?_
  rintro _ w46 ⟨rfl, X46⟩
  replace Bq := X46.keep Bq
  replace Bt := X46.keep Bt
  replace E := E.ext X46
  have XY := Nt.ext.trans X46
  replace hx := SpansAt.ext hx XY
  replace hy := SpansAt.ext hy XY
  replace hu := SpansAt.ext hu XY
  replace hi := SpansAt.ext hi XY
  replace hd := SpansAt.ext hd XY
  replace hnx := SpansAt.ext hnx XY
  replace hny := SpansAt.ext hny XY
  replace hnu := SpansAt.ext hnu XY
  replace hbk := SpansAt.ext hbk XY
  replace hbo := SpansAt.ext hbo XY
  replace hle := SpansAt.ext hle XY
  replace hsa := SpansAt.ext hsa XY
  have hdec : decide (((sizeL ul) + (sizeL il) : Int) = (sizeL x) + (sizeL y)) = true := decide_eq_true hsz
  refine WpL_val rfl rfl (by decide) (r_move (v := (.bool true)) rfl) ?_
  refine WpL_guard_yes (oj := _) rfl rfl (by decide) rfl ?_
  refine WpL_val rfl rfl (by decide) (r_move (v := (.int .i64 (sizeL ul))) rfl) ?_
  refine WpL_guard_yes (oj := _) rfl rfl (by decide) rfl ?_
  refine WpL_val rfl rfl (by decide) (r_move (v := (.int .i64 (sizeL il))) rfl) ?_
  refine WpL_guard_yes (oj := _) rfl rfl (by decide) rfl ?_
  refine WpL_val rfl rfl (by decide) (r_add (k := .i64) (a := sizeL ul) (b := sizeL il) (c := (sizeL ul) + (sizeL il)) rfl rfl (wI64 (by omega))) ?_
  refine WpL_guard_yes (oj := _) rfl rfl (by decide) rfl ?_
  refine WpL_val rfl rfl (by decide) (r_move (v := (.int .i64 (sizeL x))) rfl) ?_
  refine WpL_guard_yes (oj := _) rfl rfl (by decide) rfl ?_
  refine WpL_val rfl rfl (by decide) (r_move (v := (.int .i64 (sizeL y))) rfl) ?_
  refine WpL_guard_yes (oj := _) rfl rfl (by decide) rfl ?_
  refine WpL_val rfl rfl (by decide) (r_add (k := .i64) (a := sizeL x) (b := sizeL y) (c := (sizeL x) + (sizeL y)) rfl rfl (wI64 (by omega))) ?_
  refine WpL_guard_yes (oj := _) rfl rfl (by decide) rfl ?_
  refine WpL_val rfl rfl (by decide) (r_eql (k := .i64) (a := (sizeL ul) + (sizeL il)) (b := (sizeL x) + (sizeL y)) rfl rfl) ?_
  refine WpL_val rfl rfl (by decide) (r_pick (b := true) (v := (.bool (decide (((sizeL ul) + (sizeL il) : Int) = (sizeL x) + (sizeL y))))) rfl rfl) ?_
  refine WpL_val rfl rfl (by decide) (r_move (v := (.bool (decide (((sizeL ul) + (sizeL il) : Int) = (sizeL x) + (sizeL y))))) rfl) ?_
  refine WpL_guard_yes (oj := _) rfl rfl (by decide) (congrArg Value.bool hdec) ?_
  refine WpL_val rfl rfl (by decide) (r_move (v := (.slice anu ((notS ul).length) cnu)) rfl) ?_
  refine WpL_guard_yes (oj := _) rfl rfl (by decide) (congrArg Value.bool hdec) ?_
  refine WpL_val rfl rfl (by decide) (r_move (v := (.slice abo bol.length cbo)) rfl) ?_
  refine WpL_guard_yes (oj := _) rfl rfl (by decide) (congrArg Value.bool hdec) ?_
  refine WpL_enter rfl rfl (by decide) (r_callF (vs := [(.slice anu ((notS ul).length) cnu), (.slice abo bol.length cbo)]) Try.func17 nm17 bd17 rfl) (speq_ok _ _ _ _ _ hnu hbo (IsSet.eq (IsSet.rest Iu) Ibo fun r r0 r1 => by rw [notS_mem Cx r0 r1, notS_mem Cy r0 r1]; cases inS x r <;> cases inS y r <;> rfl)) ?_
  rintro _ w47 ⟨rfl, X47⟩
  replace Bq := X47.keep Bq
  replace Bt := X47.keep Bt
  replace E := E.ext X47
  replace hx := SpansAt.ext hx X47
  replace hy := SpansAt.ext hy X47
  replace hu := SpansAt.ext hu X47
  replace hi := SpansAt.ext hi X47
  replace hd := SpansAt.ext hd X47
  replace hnx := SpansAt.ext hnx X47
  replace hny := SpansAt.ext hny X47
  replace hnu := SpansAt.ext hnu X47
  replace hbk := SpansAt.ext hbk X47
  replace hbo := SpansAt.ext hbo X47
  replace hle := SpansAt.ext hle X47
  replace hsa := SpansAt.ext hsa X47
  refine WpL_val rfl rfl (by decide) (r_pick (b := decide (((sizeL ul) + (sizeL il) : Int) = (sizeL x) + (sizeL y))) (v := (.bool true)) rfl (by rw [hdec]; rfl)) ?_
  refine WpL_val rfl rfl (by decide) (r_move (v := (.bool true)) rfl) ?_
  refine WpL_guard_yes (oj := _) rfl rfl (by decide) rfl ?_
  refine WpL_val rfl rfl (by decide) (r_move (v := (.slice abk ((notS (notS x)).length) cbk)) rfl) ?_
  refine WpL_guard_yes (oj := _) rfl rfl (by decide) rfl ?_
  refine WpL_val rfl rfl (by decide) (r_move (v := (.slice ax x.length cx)) rfl) ?_
  refine WpL_guard_yes (oj := _) rfl rfl (by decide) rfl ?_
  refine WpL_enter rfl rfl (by decide) (r_callF (vs := [(.slice abk ((notS (notS x)).length) cbk), (.slice ax x.length cx)]) Try.func17 nm17 bd17 rfl) (speq_ok _ _ _ _ _ hbk hx (canon_ext Cbk Cx fun r r0 r1 => by rw [notS_mem Cnx r0 r1, notS_mem Cx r0 r1, Bool.not_not])) ?_
  rintro _ w48 ⟨rfl, X48⟩
  replace Bq := X48.keep Bq
  replace Bt := X48.keep Bt
  replace E := E.ext X48
  replace hx := SpansAt.ext hx X48
  replace hy := SpansAt.ext hy X48
  replace hu := SpansAt.ext hu X48
  replace hi := SpansAt.ext hi X48
  replace hd := SpansAt.ext hd X48
  replace hnx := SpansAt.ext hnx X48
  replace hny := SpansAt.ext hny X48
  replace hnu := SpansAt.ext hnu X48
  replace hbk := SpansAt.ext hbk X48
  replace hbo := SpansAt.ext hbo X48
  replace hle := SpansAt.ext hle X48
  replace hsa := SpansAt.ext hsa X48
  refine WpL_val rfl rfl (by decide) (r_pick (b := true) (v := (.bool true)) rfl rfl) ?_
  refine WpL_val rfl rfl (by decide) (r_move (v := (.bool true)) rfl) ?_
  refine WpL_guard_yes (oj := _) rfl rfl (by decide) rfl ?_
  refine WpL_val rfl rfl (by decide) (r_move (v := (.slice ad dl.length cd)) rfl) ?_
  refine WpL_guard_yes (oj := _) rfl rfl (by decide) rfl ?_
  refine WpL_val rfl rfl (by decide) (r_move (v := (.slice ale lel.length cle)) rfl) ?_
  refine WpL_guard_yes (oj := _) rfl rfl (by decide) rfl ?_
  refine WpL_enter rfl rfl (by decide) (r_callF (vs := [(.slice ad dl.length cd), (.slice ale lel.length cle)]) Try.func17 nm17 bd17 rfl) (speq_ok _ _ _ _ _ hd hle (IsSet.eq Id Ile fun r r0 r1 => by rw [notS_mem Cy r0 r1])) ?_
  rintro _ w49 ⟨rfl, X49⟩
  replace Bq := X49.keep Bq
  replace Bt := X49.keep Bt
  replace E := E.ext X49
  replace hx := SpansAt.ext hx X49
  replace hy := SpansAt.ext hy X49
  replace hu := SpansAt.ext hu X49
  replace hi := SpansAt.ext hi X49
  replace hd := SpansAt.ext hd X49
  replace hnx := SpansAt.ext hnx X49
  replace hny := SpansAt.ext hny X49
  replace hnu := SpansAt.ext hnu X49
  replace hbk := SpansAt.ext hbk X49
  replace hbo := SpansAt.ext hbo X49
  replace hle := SpansAt.ext hle X49
  replace hsa := SpansAt.ext hsa X49
  refine WpL_val rfl rfl (by decide) (r_pick (b := true) (v := (.bool true)) rfl rfl) ?_
  refine WpL_val rfl rfl (by decide) (r_move (v := (.bool true)) rfl) ?_
  refine WpL_guard_yes (oj := _) rfl rfl (by decide) rfl ?_
  refine WpL_val rfl rfl (by decide) (r_move (v := (.slice asa sal.length csa)) rfl) ?_
  refine WpL_guard_yes (oj := _) rfl rfl (by decide) rfl ?_
  refine WpL_val rfl rfl (by decide) (r_move (v := (.slice ax x.length cx)) rfl) ?_
  refine WpL_guard_yes (oj := _) rfl rfl (by decide) rfl ?_
  refine WpL_enter rfl rfl (by decide) (r_callF (vs := [(.slice asa sal.length csa), (.slice ax x.length cx)]) Try.func17 nm17 bd17 rfl) (speq_ok _ _ _ _ _ hsa hx (canon_ext Csa Cx fun r r0 r1 => by rw [Isa.2 r r0 r1]; dsimp only; rw [Ii.2 r r0 r1]; dsimp only; cases inS x r <;> cases inS y r <;> rfl)) ?_
  rintro _ w50 ⟨rfl, X50⟩
  replace Bq := X50.keep Bq
  replace Bt := X50.keep Bt
  replace E := E.ext X50
  replace hx := SpansAt.ext hx X50
  replace hy := SpansAt.ext hy X50
  replace hu := SpansAt.ext hu X50
  replace hi := SpansAt.ext hi X50
  replace hd := SpansAt.ext hd X50
  replace hnx := SpansAt.ext hnx X50
  replace hny := SpansAt.ext hny X50
  replace hnu := SpansAt.ext hnu X50
  replace hbk := SpansAt.ext hbk X50
  replace hbo := SpansAt.ext hbo X50
  replace hle := SpansAt.ext hle X50
  replace hsa := SpansAt.ext hsa X50
  refine WpL_val rfl rfl (by decide) (r_pick (b := true) (v := (.bool true)) rfl rfl) ?_
  refine WpL_val rfl rfl (by decide) (r_assign (v := (.bool true)) rfl) ?_
  refine WpL_nil ?_
  refine Wp_ret ?_
  refine fin_tmp Try.results4 (v := (.bool true)) rfl ?_
  exact ⟨rfl, E⟩
end Go.Proofs
