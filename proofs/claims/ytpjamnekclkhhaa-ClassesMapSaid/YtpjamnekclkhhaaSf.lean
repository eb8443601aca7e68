/- Contracts: lists of spans: complements, copies, joined lists. -/
import Derived.Test.YtpjamnekclkhhaaSb
import Derived.Test.YtpjamnekclkhhaaW6
import Derived.Test.YtpjamnekclkhhaaLs
namespace Go.Proofs
open Go Go.Eng
set_option maxRecDepth 100000

abbrev TSp : Nat := 37
theorem own_low {w : World} {base base' e size n : Nat} {v : Value} {xs : List Value} (h : w.ownsRow base e size v n xs) (hb : base' ≤ base) : w.ownsRow base' e size v n xs := by
  obtain ⟨h1, h2⟩ := h
  refine ⟨h1, h2.imp id ?_⟩
  rintro ⟨g, cap, cur, a, b, r⟩
  exact ⟨g, cap, cur, a, Nat.le_trans hb b, r⟩
theorem own_le {w : World} {base e size n c : Nat} {a : Option Addr} {xs : List Value} (h : w.ownsRow base e size (.slice a n c) n xs) : n ≤ c := by
  rcases h.2 with ⟨h1, h2⟩ | ⟨g, cap, cur, hv, _, _, hnc, _⟩
  · omega
  · simp only [Value.slice.injEq] at hv
    obtain ⟨_, _, rfl⟩ := hv
    exact hnc
/-- A list of spans that lies in memory of one's own. -/
def OwnS (w : World) (base : Nat) (r : Value) (l : List Sp) : Prop := (∃ a c, r = .slice a l.length c) ∧ w.ownsRow base TSp 2 r l.length (l.map spanV).flatten
theorem OwnS.at {w : World} {base : Nat} {r : Value} {l : List Sp} (h : OwnS w base r l) : SpansAt w r l :=
  own_slat h.2 (by intro x hx; simp only [List.mem_map] at hx; obtain ⟨p, _, rfl⟩ := hx; rfl) (by simp) (by decide)
theorem OwnS.ext {w w' : World} {base : Nat} {r : Value} {l : List Sp} (h : OwnS w base r l) (e : Ext w w') : OwnS w' base r l := ⟨h.1, own_ext h.2 e⟩
theorem spanV_snoc (l : List Sp) (s : Sp) : ((l ++ [s]).map spanV).flatten = (l.map spanV).flatten ++ [.int .i64 s.1, .int .i64 s.2] := by simp [spanV]

set_option maxHeartbeats 1000000 in
theorem rest_c (w0 : World) (v : Value) (l : List Sp) (h : SpansAt w0 v l) (hl : l.length ≤ 2000000) (hok : ∀ s ∈ l, vSp s) :
    Ret Try.prog 62 #[v] w0 fun r w => OwnS w w0.heap.size r (notS l) ∧ Ext w0 w := by
  obtain ⟨a, c, rfl⟩ := SlAt.form h
  simp only [List.length_map] at h ⊢
  obtain ⟨base, hbase⟩ : ∃ base, base = w0.heap.size := ⟨_, rfl⟩
  rw [← hbase]
  refine Ret_of Try.func62 rfl Try.ntmps62 (Nat.le_of_ble_eq_true rfl) ?_
  have E : Chg none1 w0 w0 := Chg.refl _ _
  refine Wp_seq_region ?_
  refine WpL_val rfl rfl (by decide) (r_assign (v := (.slice none 0 0)) rfl) ?_
  refine WpL_nil ?_
  refine Wp_seq_region ?_
  refine WpL_val rfl rfl (by decide) (r_assign (v := (.slice none 0 0)) rfl) ?_
  refine WpL_nil ?_
  refine Wp_seq_region ?_
  refine WpL_val rfl rfl (by decide) (r_assign (v := (.int .i64 0)) rfl) ?_
  refine WpL_nil ?_
  refine Wp_seq ?_
  refine Wp_seq_region ?_
  refine WpL_val rfl rfl (by decide) (r_move (v := (.slice a l.length c)) rfl) ?_
  refine WpL_val rfl rfl (by decide) (r_lenSlice (ad := a) (n := l.length) (cap := c) Try.underlying23 rfl) ?_
  refine WpL_val rfl rfl (by decide) (r_move (v := (.int .i64 0)) rfl) ?_
  refine WpL_nil ?_
  refine Wp_block ?_
  refine Wp_loop (fun nn_ σ W1 => ∃ (k : Nat) (p : Int) (la : Option Addr) (lc : Nat) (m : Nat) (ou : List Sp), (∃ jj_, σ = upds jj_ [(7, (.slice a l.length c)), (8, (.int .i64 ((l.length : Nat) : Int))), (9, (.int .i64 ((k : Nat) : Int))), (4, (.int .i64 p)), (3, (.slice la m lc))]) ∧ Chg none1 w0 W1 ∧ (k ≤ l.length) ∧ (0 ≤ p ∧ p ≤ 1114112) ∧ (m = ou.length) ∧ (m ≤ k) ∧ (ou ++ restL p (l.drop k) = restL 0 l) ∧ (W1.ownsRow base TSp 2 (.slice la m lc) m (ou.map spanV).flatten) ∧ (base ≤ W1.heap.size) ∧ nn_ = l.length - k) (n := l.length - 0) ?_ ?_
  · exact ⟨0, 0, none, 0, 0, [], Fits.out ⟨rfl, rfl, rfl, rfl, rfl, trivial⟩, E, Nat.zero_le _, (by omega), rfl, Nat.le_refl _, rfl, World.ownsRow_nil _ _ _ _, (by omega), rfl⟩
  · clear E
    rintro _ _ W1 ⟨k, p, la, lc, m, ou, ⟨j1, rfl⟩, E, hk, hp, hm, hlo, hou, hown, hbs, rfl⟩
    refine Wp_seq_region ?_
    refine WpL_val rfl rfl (by decide) (r_lss (k := .i64) (a := ((k : Nat) : Int)) (b := ((l.length : Nat) : Int)) rfl rfl) ?_
    refine WpL_nil ?_
    refine Wp_seq ?_
    refine Wp_cond (b := decide ((((k : Nat) : Int) : Int) < ((l.length : Nat) : Int))) rfl (fun hlt => ?_) (fun hlt => ?_)
    · have khlt := hlt
      replace hlt := of_decide_eq_true hlt
      obtain ⟨s, hs⟩ := get_of_lt (l := l) (i := k) (by omega)
      have hv := hok s (List.mem_of_getElem? hs)
      unfold vSp at hv
      obtain ⟨b, o, hab, hcl⟩ := spans_cells h (by omega)
      subst hab
      rw [drop_cons hs, restL_cons] at hou
      have hown0 := hown
      refine Wp_skip ?_
      refine thn_normal ?_
      refine Wp_seq ?_
      refine Wp_block ?_
      refine Wp_seq_region ?_
      refine WpL_val rfl rfl (by decide) (r_indexSlice (b := b) (o := o) (len := l.length) (cap := c) (i := k) (o' := o + k * 2) rfl rfl rfl Try.underlying23 siz37 (by omega) (by omega)) ?_
      refine WpL_val rfl rfl (by decide) (r_loadAgg (vs := [(.int .i64 s.1), (.int .i64 s.2)]) rfl agg37 siz37 rfl ((hcl k s hs).ext E)) ?_
      refine s_allocStore (v := (.agg #[(.int .i64 s.1), (.int .i64 s.2)])) (c := #[(.int .i64 s.1), (.int .i64 s.2)]) (n := 2) (by decide) zer37 rfl siz37 rfl rfl rfl (by simp [Value.oneCell']) ?_
      intro bq wq Nq
      have Fq := Nq.ge E
      replace hown := own_ext hown Nq.ext
      replace hbs := Nat.le_trans hbs Nq.ext.size
      replace E := E.ext Nq.ext
      have Bq := Nq.blk
      refine WpL_nil ?_
      refine Wp_seq ?_
      refine Wp_seq_region ?_
      refine WpL_val rfl rfl (by decide) (r_move (v := (.int .i64 p)) rfl) ?_
      refine WpL_val rfl rfl (by decide) (r_fieldAddr (b := bq) (o := 0) (o' := 0) rfl Try.underlying37 rfl siz3 rfl) ?_
      refine WpL_val rfl rfl (by decide) (r_load (v := (.int .i64 s.1)) rfl flat3 (Bq.cell rfl)) ?_
      refine WpL_val rfl rfl (by decide) (r_lss (k := .i64) (a := p) (b := s.1) rfl rfl) ?_
      refine WpL_nil ?_
      refine Wp_cond (b := decide ((p : Int) < s.1)) rfl (fun h0 => ?_) (fun h0 => ?_)
      · have kh0 := h0
        replace h0 := of_decide_eq_true h0
        refine Wp_region ?_
        refine WpL_val rfl rfl (by decide) (r_move (v := (.slice la m lc)) rfl) ?_
        refine WpL_val rfl rfl (by decide) (r_move (v := (.int .i64 p)) rfl) ?_
        refine WpL_val rfl rfl (by decide) (r_fieldAddr (b := bq) (o := 0) (o' := 0) rfl Try.underlying37 rfl siz3 rfl) ?_
        refine WpL_val rfl rfl (by decide) (r_load (v := (.int .i64 s.1)) rfl flat3 (Bq.cell rfl)) ?_
        refine WpL_val rfl rfl (by decide) (r_sub (k := .i64) (a := s.1) (b := 1) (c := s.1 - 1) rfl rfl (wI64 (by omega))) ?_
        refine WpL_val rfl rfl (by decide) (r_build (ps := [(0, (.int .i64 p)), (1, (.int .i64 (s.1 - 1)))]) (v := (.agg #[(.int .i64 p), (.int .i64 (s.1 - 1))])) rfl (by kernel_rfl)) ?_
        refine s_buildSlice (ps := [(0, (.agg #[(.int .i64 p), (.int .i64 (s.1 - 1))]))]) (c := #[(.int .i64 p), (.int .i64 (s.1 - 1))]) (by decide) rfl Try.underlying23 siz37 zer37 (by decide) (by decide) (by kernel_rfl) ?_
        intro br wr Nr
        have Fr := Nr.ge E
        have Or_bq := Nr.lt Bq
        replace Bq := Nr.keep Bq
        replace hown := own_ext hown Nr.ext
        replace hbs := Nat.le_trans hbs Nr.ext.size
        replace E := E.ext Nr.ext
        have Br := Nr.blk
        refine s_append (base := base) (n := m) (m := 1) (xs := (ou.map spanV).flatten) (news := [(.int .i64 p), (.int .i64 (s.1 - 1))]) (size := 2) (bytes := 16) (v := (.slice la m lc)) (by decide) Try.underlying23 siz37 byt37 zer37 rfl (by decide) rfl hown rfl (rfl) (Br.cells rfl) (by simp [Value.oneCell']) (by unfold maxLen; omega) (by omega) (hbs) ?_
        intro v9 w29 Ov9 Cv9 Dv9
        replace Bq := Cv9.keep (fun h => by have := (hown0.lt _ h).2; have := Nq.eq; omega) Bq
        replace E := E.step Cv9 (fun x hx h => absurd (hown.lt x h).1 (by omega))
        obtain ⟨la2, lc2, rfl⟩ := own_form Ov9
        refine WpL_val rfl rfl (by decide) (r_assign (v := (.slice la2 (m + 1) lc2)) rfl) ?_
        refine WpL_nil ?_
        refine thn_normal ?_
        refine Wp_region ?_
        refine WpL_val rfl rfl (by decide) (r_fieldAddr (b := bq) (o := 0) (o' := 1) rfl Try.underlying37 rfl siz3 rfl) ?_
        refine WpL_val rfl rfl (by decide) (r_load (v := (.int .i64 s.2)) rfl flat3 (Bq.cell rfl)) ?_
        refine WpL_val rfl rfl (by decide) (r_add (k := .i64) (a := s.2) (b := 1) (c := s.2 + 1) rfl rfl (wI64 (by omega))) ?_
        refine WpL_val rfl rfl (by decide) (r_assign (v := (.int .i64 (s.2 + 1))) rfl) ?_
        refine WpL_nil ?_
        refine inB_normal ?_
        refine thn_normal ?_
        refine Wp_region ?_
        refine WpL_val rfl rfl (by decide) (r_add (k := .i64) (a := ((k : Nat) : Int)) (b := 1) (c := ((k : Nat) : Int) + 1) rfl rfl (wI64 (by omega))) ?_
        refine WpL_val rfl rfl (by decide) (r_move (v := (.int .i64 (((k : Nat) : Int) + 1))) rfl) ?_
        refine WpL_nil ?_
        refine thn_normal ?_
        exact ⟨l.length - (k + 1), by omega, k + 1, s.2 + 1, la2, lc2, m + 1, ou ++ [(p, s.1 - 1)], Fits.out ⟨rfl, rfl, rfl, rfl, rfl, trivial⟩, E, (by omega), (by omega), (by simp [hm]), (by omega), (by rw [if_pos h0] at hou; rw [← hou]; simp), (by rw [spanV_snoc]; exact Ov9), Nat.le_trans hbs Cv9.size, rfl⟩
      · have kh0 := h0
        replace h0 := of_decide_eq_false h0
        refine Wp_skip ?_
        refine thn_normal ?_
        refine Wp_region ?_
        refine WpL_val rfl rfl (by decide) (r_fieldAddr (b := bq) (o := 0) (o' := 1) rfl Try.underlying37 rfl siz3 rfl) ?_
        refine WpL_val rfl rfl (by decide) (r_load (v := (.int .i64 s.2)) rfl flat3 (Bq.cell rfl)) ?_
        refine WpL_val rfl rfl (by decide) (r_add (k := .i64) (a := s.2) (b := 1) (c := s.2 + 1) rfl rfl (wI64 (by omega))) ?_
        refine WpL_val rfl rfl (by decide) (r_assign (v := (.int .i64 (s.2 + 1))) rfl) ?_
        refine WpL_nil ?_
        refine inB_normal ?_
        refine thn_normal ?_
        refine Wp_region ?_
        refine WpL_val rfl rfl (by decide) (r_add (k := .i64) (a := ((k : Nat) : Int)) (b := 1) (c := ((k : Nat) : Int) + 1) rfl rfl (wI64 (by omega))) ?_
        refine WpL_val rfl rfl (by decide) (r_move (v := (.int .i64 (((k : Nat) : Int) + 1))) rfl) ?_
        refine WpL_nil ?_
        refine thn_normal ?_
        exact ⟨l.length - (k + 1), by omega, k + 1, s.2 + 1, la, lc, m, ou, Fits.out ⟨rfl, rfl, rfl, rfl, rfl, trivial⟩, E, (by omega), (by omega), hm, (by omega), (by rw [if_neg h0] at hou; exact hou), hown, hbs, rfl⟩
    · have khlt := hlt
      replace hlt := of_decide_eq_false hlt
      have hkk : k = l.length := by omega
      rw [hkk, List.drop_length, restL_nil] at hou
      refine Wp_exit ?_
      refine thn_exit ?_
      refine thn_exit ?_
      refine inB_here ?_
      refine thn_normal ?_
      refine Wp_seq ?_
      refine Wp_seq_region ?_
      refine WpL_val rfl rfl (by decide) (r_move (v := (.int .i64 p)) rfl) ?_
      refine WpL_val rfl rfl (by decide) (r_leq (k := .i64) (a := p) (b := 1114111) rfl rfl) ?_
      refine WpL_nil ?_
      refine Wp_cond (b := decide ((p : Int) ≤ 1114111)) rfl (fun h1 => ?_) (fun h1 => ?_)
      · have kh1 := h1
        replace h1 := of_decide_eq_true h1
        refine Wp_region ?_
        refine WpL_val rfl rfl (by decide) (r_move (v := (.slice la m lc)) rfl) ?_
        refine WpL_val rfl rfl (by decide) (r_move (v := (.int .i64 p)) rfl) ?_
        refine WpL_val rfl rfl (by decide) (r_build (ps := [(0, (.int .i64 p)), (1, (.int .i64 1114111))]) (v := (.agg #[(.int .i64 p), (.int .i64 1114111)])) rfl (by kernel_rfl)) ?_
        refine s_buildSlice (ps := [(0, (.agg #[(.int .i64 p), (.int .i64 1114111)]))]) (c := #[(.int .i64 p), (.int .i64 1114111)]) (by decide) rfl Try.underlying23 siz37 zer37 (by decide) (by decide) (by kernel_rfl) ?_
        intro bt wt Nt
        have Ft := Nt.ge E
        replace hown := own_ext hown Nt.ext
        replace hbs := Nat.le_trans hbs Nt.ext.size
        replace E := E.ext Nt.ext
        have Bt := Nt.blk
        refine s_append (base := base) (n := m) (m := 1) (xs := (ou.map spanV).flatten) (news := [(.int .i64 p), (.int .i64 1114111)]) (size := 2) (bytes := 16) (v := (.slice la m lc)) (by decide) Try.underlying23 siz37 byt37 zer37 rfl (by decide) rfl hown rfl (rfl) (Bt.cells rfl) (by simp [Value.oneCell']) (by unfold maxLen; omega) (by omega) (hbs) ?_
        intro v8 w28 Ov8 Cv8 Dv8
        replace E := E.step Cv8 (fun x hx h => absurd (hown.lt x h).1 (by omega))
        obtain ⟨la3, lc3, rfl⟩ := own_form Ov8
        refine WpL_val rfl rfl (by decide) (r_assign (v := (.slice la3 (m + 1) lc3)) rfl) ?_
        refine WpL_nil ?_
        refine thn_normal ?_
        refine Wp_seq_region ?_
        refine WpL_val rfl rfl (by decide) (r_move (v := (.slice la3 (m + 1) lc3)) rfl) ?_
        refine WpL_val rfl rfl (by decide) (r_assign (v := (.slice la3 (m + 1) lc3)) rfl) ?_
        refine WpL_nil ?_
        refine Wp_ret ?_
        refine fin_tmp Try.results62 (v := (.slice la3 (m + 1) lc3)) rfl ?_
        rw [if_pos h1] at hou
        have e : notS l = ou ++ [(p, 1114111)] := by unfold notS; rw [← hou]
        rw [e]
        refine ⟨⟨⟨la3, lc3, by simp [hm]⟩, ?_⟩, E⟩
        rw [spanV_snoc]
        simpa [hm] using Ov8
      · have kh1 := h1
        replace h1 := of_decide_eq_false h1
        refine Wp_skip ?_
        refine thn_normal ?_
        refine Wp_seq_region ?_
        refine WpL_val rfl rfl (by decide) (r_move (v := (.slice la m lc)) rfl) ?_
        refine WpL_val rfl rfl (by decide) (r_assign (v := (.slice la m lc)) rfl) ?_
        refine WpL_nil ?_
        refine Wp_ret ?_
        refine fin_tmp Try.results62 (v := (.slice la m lc)) rfl ?_
        rw [if_neg h1, List.append_nil] at hou
        have e : notS l = ou := by unfold notS; rw [← hou]
        rw [e]
        subst hm
        exact ⟨⟨⟨la, lc, rfl⟩, hown⟩, E⟩

set_option maxHeartbeats 1000000 in
theorem clones_c (w0 : World) (v : Value) (l : List Sp) (h : SpansAt w0 v l) (hl : l.length ≤ 8796093022208) :
    Ret Try.prog 52 #[v] w0 fun r w => OwnS w w0.heap.size r l ∧ Ext w0 w := by
  obtain ⟨a, c, rfl⟩ := SlAt.form h
  simp only [List.length_map] at h ⊢
  obtain ⟨base, hbase⟩ : ∃ base, base = w0.heap.size := ⟨_, rfl⟩
  rw [← hbase]
  refine Ret_of Try.func52 rfl Try.ntmps52 (Nat.le_of_ble_eq_true rfl) ?_
  have E : Chg none1 w0 w0 := Chg.refl _ _
  refine Wp_seq_region ?_
  refine WpL_val rfl rfl (by decide) (r_assign (v := (.slice none 0 0)) rfl) ?_
  refine WpL_nil ?_
  refine Wp_seq ?_
  refine Wp_seq_region ?_
  refine WpL_val rfl rfl (by decide) (r_move (v := (.slice a l.length c)) rfl) ?_
  refine WpL_val (v := (.bool a.isNone)) rfl rfl (by decide) (r_eqlNil Try.underlying23 rfl rfl) ?_
  refine WpL_nil ?_
  refine Wp_cond (b := a.isNone) rfl (fun hn => ?_) (fun hn => ?_)
  · have khn := hn
    have hl0 : l.length = 0 := by rcases Nat.eq_zero_or_pos l.length with h0 | h0; exact h0; obtain ⟨b, o, rfl, _⟩ := spans_cells h h0; simp at hn
    have hl1 : l = [] := List.eq_nil_of_length_eq_zero hl0
    refine Wp_seq_region ?_
    refine WpL_val rfl rfl (by decide) (r_assign (v := (.slice none 0 0)) rfl) ?_
    refine WpL_nil ?_
    refine Wp_ret ?_
    refine thn_ret ?_
    refine fin_tmp Try.results52 (v := (.slice none 0 0)) rfl ?_
    subst hl1; exact ⟨⟨⟨none, 0, rfl⟩, World.ownsRow_nil _ _ _ _⟩, E⟩
  · have khn := hn
    rcases Bool.eq_false_or_eq_true (decide (l.length = 0)) with hz | hz
    · have khz := hz
      replace khz := of_decide_eq_true khz
      refine Wp_skip ?_
      refine thn_normal ?_
      refine Wp_seq_region ?_
      refine s_build0 (by decide) Try.underlying23 siz37 ?_
      intro bq wq Nq
      have Fq := Nq.ge E
      replace E := E.ext Nq.ext
      have Bq := Nq.blk
      refine WpL_val rfl rfl (by decide) (r_move (v := (.slice a l.length c)) rfl) ?_
      refine WpL_val rfl rfl (by decide) (r_append0 Try.underlying23 siz37 (a' := a) (c' := c) rfl (Nat.le_refl _) (by show Value.slice a l.length c = _; rw [khz])) ?_
      refine WpL_val rfl rfl (by decide) (r_assign (v := (.slice (some ⟨bq, 0, none⟩) 0 0)) rfl) ?_
      refine WpL_nil ?_
      refine Wp_ret ?_
      refine fin_tmp Try.results52 (v := (.slice (some ⟨bq, 0, none⟩) 0 0)) rfl ?_
      have hl1 : l = [] := List.eq_nil_of_length_eq_zero khz
      subst hl1; exact ⟨⟨⟨_, 0, rfl⟩, own_empty (base := base) (size := 2) Bq (by omega)⟩, E⟩
    · have khz := hz
      replace khz := of_decide_eq_false khz
      obtain ⟨b, o, rfl, hcl⟩ := spans_cells h (by omega)
      refine Wp_skip ?_
      refine thn_normal ?_
      refine Wp_seq_region ?_
      refine s_build0 (by decide) Try.underlying23 siz37 ?_
      intro bq wq Nq
      have Fq := Nq.ge E
      replace E := E.ext Nq.ext
      have Bq := Nq.blk
      refine WpL_val rfl rfl (by decide) (r_move (v := (.slice (some ⟨b, o, none⟩) l.length c)) rfl) ?_
      have hown := own_empty (base := base) (size := 2) Bq (by omega)
      have hbs : base ≤ wq.heap.size := by have := Nq.ext.size; omega
      refine s_append (base := base) (n := 0) (m := l.length) (xs := []) (news := (l.map spanV).flatten) (size := 2) (bytes := 16) (v := (.slice (some ⟨bq, 0, none⟩) 0 0)) (by decide) Try.underlying23 siz37 byt37 zer37 rfl (by decide) rfl hown rfl (spans_six l) ((spans_flat hcl).ext Nq.ext) (spans_one l) (by unfold maxLen; omega) (by omega) (hbs) ?_
      intro v9 w29 Ov9 Cv9 Dv9
      replace E := E.step Cv9 (fun x hx h => absurd (hown.lt x h).1 (by omega))
      obtain ⟨la, lc, rfl⟩ := own_form Ov9
      refine WpL_val rfl rfl (by decide) (r_assign (v := (.slice la (0 + l.length) lc)) rfl) ?_
      refine WpL_nil ?_
      refine Wp_ret ?_
      refine fin_tmp Try.results52 (v := (.slice la (0 + l.length) lc)) rfl ?_
      simp only [Nat.zero_add, List.nil_append] at Ov9 ⊢
      exact ⟨⟨⟨la, lc, rfl⟩, Ov9⟩, E⟩
/-- One append of whatever slice, an empty one too. -/
theorem s_appendAny {P : Program} {N : Nat} {Q : Post} {σ : Env} {w : World} {K : Env → World → Prop} {ops : Array Oper} {rest : List Oper} {d : Nat} {ty : TypeId} {pos : String} {af : Array Edge} {t : TypeId} {s x : Operand}
    {base e size bytes n m c : Nat} {ax : Option Addr} {z v : Value} {xs news : List Value} (hN : d < N) (hu : P.underlying t = some (.slice e)) (hsz : Siz P e size) (hby : Byt P e bytes) (hz : Zer P e z) (hzs : z.cells.size = size) (h0 : 0 < size)
    (hs : ev σ s = v) (hown : w.ownsRow base e size v n xs) (hx : ev σ x = .slice ax m c) (hl : news.length = m * size) (hany : (m = 0 ∧ news = []) ∨ ∃ bx ox, ax = some ⟨bx, ox, none⟩ ∧ CellsAt w bx ox news) (h1 : ∀ u ∈ news, u.oneCell' = true)
    (h63 : n + m ≤ maxLen) (hbytes : (n + m) * bytes ≤ 140737488355328) (hbase : base ≤ w.heap.size)
    (k : ∀ v' w', w'.ownsRow base e size v' (n + m) (xs ++ news) → Chg (fun x => v.ownBlock = some x) w w' → (∀ k, v'.ownBlock = some k → v.ownBlock = some k ∨ w.heap.size ≤ k) → WpL P N ops K Q rest (upd σ d v') w') :
    WpL P N ops K Q (⟨some d, .call ⟨.builtin .append, #[s, x], #[t, t]⟩, ty, pos, af, none⟩ :: rest) σ w := by
  rcases hany with ⟨rfl, rfl⟩ | ⟨bx, ox, rfl, hc⟩
  · obtain ⟨a, c', rfl⟩ := own_form hown
    refine WpL_val rfl rfl hN (r_append0 hu hsz hs (own_le hown) hx) (k _ w (by simpa using hown) (Chg.refl _ _) fun _ h => .inl h)
  · exact s_append hN hu hsz hby hz hzs h0 hs hown hx hl hc h1 h63 hbytes hbase k
theorem spans_any {w : World} {a : Option Addr} {n c : Nat} {l : List Sp} (h : SpansAt w (.slice a n c) l) : (n = 0 ∧ (l.map spanV).flatten = []) ∨ ∃ b o, a = some ⟨b, o, none⟩ ∧ CellsAt w b o (l.map spanV).flatten := by
  have hn : n = l.length := by have := (SlAt.cap h).2; simpa using this.symm
  rcases Nat.eq_zero_or_pos n with h0 | h0
  · left; exact ⟨h0, by rw [List.eq_nil_of_length_eq_zero (show l.length = 0 by omega)]; rfl⟩
  · right
    obtain ⟨b, o, ha, hc⟩ := spans_cells h h0
    exact ⟨b, o, ha, spans_flat hc⟩
theorem ints_any {w : World} {a : Option Addr} {n c : Nat} {l : List Int} (h : IntsAt w (.slice a n c) l) : (n = 0 ∧ l.map (Value.int .i64) = []) ∨ ∃ b o, a = some ⟨b, o, none⟩ ∧ CellsAt w b o (l.map (Value.int .i64)) := by
  have hn : n = l.length := by have := (SlAt.cap h).2; simpa using this.symm
  rcases Nat.eq_zero_or_pos n with h0 | h0
  · left; exact ⟨h0, by rw [List.eq_nil_of_length_eq_zero (show l.length = 0 by omega)]; rfl⟩
  · right
    obtain ⟨b, o, ha, hc⟩ := ints_cells h h0
    exact ⟨b, o, ha, fun i u hu => by rw [List.getElem?_map, Option.map_eq_some_iff] at hu; obtain ⟨x, hx, rfl⟩ := hu; exact hc i x hx⟩
/-! Growing a slice that is nil; joined lists. -/
theorem s_appendZ {P : Program} {N : Nat} {Q : Post} {σ : Env} {w : World} {K : Env → World → Prop} {ops : Array Oper} {rest : List Oper} {d : Nat} {ty : TypeId} {pos : String} {af : Array Edge} {t ti : TypeId} {s x : Operand} {ik : IntKind}
    {base e size bytes n : Nat} {z : Value} (hN : d < N) (hu : P.underlying t = some (.slice e)) (hti : P.underlying ti = some (.int ik)) (hsz : Siz P e size) (hby : Byt P e bytes) (hz : Zer P e z) (hzs : z.cells.size = size) (h0 : 0 < size)
    (hs : ev σ s = .slice none 0 0) (hx : ev σ x = .int .i64 ((n : Nat) : Int)) (hn : 0 < n) (hbytes : n * bytes ≤ 140737488355328 ∧ n ≤ 8796093022208) (hbase : base ≤ w.heap.size)
    (k : ∀ cc w', Ext w w' → w'.ownsRow base e size (.slice (some ⟨w.heap.size, 0, none⟩) 0 cc) 0 [] → n ≤ cc → WpL P N ops K Q rest (upd σ d (.slice (some ⟨w.heap.size, 0, none⟩) n cc)) w') :
    WpL P N ops K Q (⟨some d, .call ⟨.builtin .append, #[s, x], #[t, ti]⟩, ty, pos, af, none⟩ :: rest) σ w := by
  unfold Siz at hsz; unfold Byt at hby; unfold Zer at hz
  cases hi : P.info? e with
  | none => rw [hi] at hsz; simp at hsz
  | some i =>
  rw [hi] at hsz hby hz
  simp at hsz hby hz
  subst hsz; subst hby
  have hge := grownCap_ge w n 0 e
  have hcm := grownCap_le_maxLen w n 0 e (by simp only [maxLen]; omega)
  refine WpL_val (v := .slice (some ⟨w.heap.size, 0, none⟩) n (grownCap w n 0 e)) (w' := w.drew.alloc (.cells (Builtin.zeroCells z.cells n ++ Builtin.zeroCells z.cells (grownCap w n 0 e - n)) e)) rfl rfl hN ?_ (k _ _ ?_ ?_ hge)
  · have hn0 : n ≠ 0 := by omega
    have h1 : IntKind.i64.wrap ((n : Nat) : Int) = n := wI64 (by omega)
    have h2 : ¬ ((n : Int) < 0) := by omega
    have h3 : ¬ ((281474976710656 : Int) < (n : Int) * (i.bytes : Int)) := by
      have : ((n * i.bytes : Nat) : Int) = (n : Int) * (i.bytes : Int) := by simp
      omega
    have h4 : ¬ (9223372036854775807 < (n : Int)) := by omega
    have h5 : ¬ (281474976710656 < Builtin.nextslicecap n 0 * i.bytes) := by rw [nextslicecap_zero hn]; omega
    have h6 : ¬ (n * i.size = 0) := fun h => by rcases Nat.mul_eq_zero.1 h with h | h <;> omega
    have h7 : i.size ≠ 0 := by omega
    simp [execOp, resolve, invoke, builtin, hs, hx, Builtin.append_, run_underlying hu, run_underlying hti, sizeOf, typeInfo, zeroValue, hi, hz, hn0, h1, h2, h3, h4, h5, h7, asInt, asIntOf, Question.forced, run_firstCells_none, newRow, grownCap]
    exact fun h => absurd h h6
  · exact ⟨rfl, rfl, rfl, Nat.le_succ _, by simp, fun b hb _ => heap_alloc_old w.drew _ b hb⟩
  · refine ⟨by simp, .inr ⟨w.heap.size, _, _, rfl, hbase, heap_alloc_new w.drew _, Nat.zero_le _, hcm, ?_, by simp⟩⟩
    simp only [Array.size_append, size_zeroCells, hzs, ← Nat.add_mul]
    congr 1
    omega
theorem r_capSlice {P : Program} {σ : Env} {w : World} {dst : Option Tmp} {ty : TypeId} {pos : String} {af : Array Edge} {g : Option (Nat × Bool)} {t e : TypeId} {x : Operand} {ad : Option Addr} {n cap : Nat} (hu : P.underlying t = some (.slice e)) (hx : ev σ x = .slice ad n cap) :
    (execOp (ev σ) ⟨dst, .call ⟨.builtin .cap, #[x], #[t]⟩, ty, pos, af, g⟩).run P w = .ok (.value (.int .i64 cap)) w := by
  simp only [execOp, resolve, List.map_toArray, List.map_cons, List.map_nil, hx]
  simp [invoke, builtin, Builtin.cap_, run_underlying hu, goInt]
theorem grow_c (w0 : World) (n : Nat) (hn : n ≤ 8796093022208) :
    Ret Try.prog 98 #[.slice none 0 0, .int .i64 ((n : Nat) : Int)] w0 fun r w => (∃ a c, r = .slice a 0 c) ∧ w.ownsRow w0.heap.size TSp 2 r 0 [] ∧ Ext w0 w := by
  refine Ret_of Try.func98 rfl Try.ntmps98 (Nat.le_of_ble_eq_true rfl) ?_
  have E : Chg none1 w0 w0 := Chg.refl _ _
  refine Wp_seq_region ?_
  refine WpL_val rfl rfl (by decide) (r_assign (v := (.slice none 0 0)) rfl) ?_
  refine WpL_nil ?_
  refine Wp_seq ?_
  refine Wp_seq_region ?_
  refine WpL_val rfl rfl (by decide) (r_move (v := (.int .i64 ((n : Nat) : Int))) rfl) ?_
  refine WpL_val rfl rfl (by decide) (r_lss (k := .i64) (a := ((n : Nat) : Int)) (b := 0) rfl rfl) ?_
  refine WpL_nil ?_
  have hc1 : (decide ((((n : Nat) : Int) : Int) < 0)) = false := decide_eq_false (by omega)
  refine Wp_cond_false (congrArg Value.bool hc1) ?_
  refine Wp_skip ?_
  refine thn_normal ?_
  refine Wp_seq ?_
  refine Wp_seq_region ?_
  refine WpL_val rfl rfl (by decide) (r_move (v := (.int .i64 ((n : Nat) : Int))) rfl) ?_
  refine WpL_val rfl rfl (by decide) (r_move (v := (.slice none 0 0)) rfl) ?_
  refine WpL_val rfl rfl (by decide) (r_capSlice (n := 0) (cap := 0) Try.underlying23 rfl) ?_
  refine WpL_val rfl rfl (by decide) (r_move (v := (.slice none 0 0)) rfl) ?_
  refine WpL_val rfl rfl (by decide) (r_lenSlice (ad := none) (n := 0) (cap := 0) Try.underlying23 rfl) ?_
  refine WpL_val rfl rfl (by decide) (r_sub (k := .i64) (a := 0) (b := 0) (c := 0) rfl rfl (by decide)) ?_
  refine WpL_val rfl rfl (by decide) (r_sub (k := .i64) (a := ((n : Nat) : Int)) (b := 0) (c := ((n : Nat) : Int)) rfl rfl ((wI64 (by omega)).trans (by omega))) ?_
  refine WpL_val rfl rfl (by decide) (r_assign (v := (.int .i64 ((n : Nat) : Int))) rfl) ?_
  refine WpL_nil ?_
  refine Wp_seq_region ?_
  refine WpL_val rfl rfl (by decide) (r_move (v := (.int .i64 ((n : Nat) : Int))) rfl) ?_
  refine WpL_val rfl rfl (by decide) (r_gtr (k := .i64) (a := ((n : Nat) : Int)) (b := 0) rfl rfl) ?_
  refine WpL_nil ?_
  refine Wp_cond (b := decide ((0 : Int) < ((n : Nat) : Int))) rfl (fun hp => ?_) (fun hp => ?_)
  · have khp := hp
    replace hp := of_decide_eq_true hp
    refine Wp_region ?_
    refine WpL_val rfl rfl (by decide) (r_move (v := (.slice none 0 0)) rfl) ?_
    refine WpL_val rfl rfl (by decide) (r_move (v := (.slice none 0 0)) rfl) ?_
    refine WpL_val rfl rfl (by decide) (r_capSlice (n := 0) (cap := 0) Try.underlying23 rfl) ?_
    obtain ⟨a1, ha1⟩ : ∃ a' : Option Addr, (if 0 = 0 then none else Option.map (fun q : Addr => q.add (0 * 2)) none) = a' := ⟨_, rfl⟩
    refine WpL_val rfl rfl (by decide) (r_sliceHi (a := none) (len := 0) (cap := 0) (hi := 0) (l := 0) Try.underlying23 siz37 rfl rfl (by omega) (by omega) ha1) ?_
    refine WpL_val rfl rfl (by decide) (r_move (v := (.int .i64 ((n : Nat) : Int))) rfl) ?_
    simp at ha1
    subst ha1
    refine s_appendZ (base := w0.heap.size) (n := n) (size := 2) (bytes := 16) (by decide) Try.underlying23 Try.underlying3 siz37 byt37 zer37 rfl (by decide) rfl rfl (by omega) (by omega) (by omega) ?_
    intro cc w9 X9 O9 H9
    replace E := E.ext X9
    refine WpL_val rfl rfl (by decide) (r_move (v := (.slice none 0 0)) rfl) ?_
    refine WpL_val rfl rfl (by decide) (r_lenSlice (ad := none) (n := 0) (cap := 0) Try.underlying23 rfl) ?_
    obtain ⟨a2, ha2⟩ : ∃ a' : Option Addr, (if cc = 0 then (some ⟨w0.heap.size, 0, none⟩) else Option.map (fun q : Addr => q.add (0 * 2)) (some ⟨w0.heap.size, 0, none⟩)) = a' := ⟨_, rfl⟩
    refine WpL_val rfl rfl (by decide) (r_sliceHi (a := (some ⟨w0.heap.size, 0, none⟩)) (len := n) (cap := cc) (hi := 0) (l := 0) Try.underlying23 siz37 rfl rfl (by omega) (by omega) ha2) ?_
    have ha3 : a2 = some ⟨w0.heap.size, 0, none⟩ := by rw [← ha2, if_neg (by omega)]; simp [Addr.add_lit]
    subst ha3
    refine WpL_val rfl rfl (by decide) (r_assign (v := (.slice (some ⟨w0.heap.size, 0, none⟩) 0 cc)) rfl) ?_
    refine WpL_nil ?_
    refine thn_normal ?_
    refine Wp_seq_region ?_
    refine WpL_val rfl rfl (by decide) (r_move (v := (.slice (some ⟨w0.heap.size, 0, none⟩) 0 cc)) rfl) ?_
    refine WpL_val rfl rfl (by decide) (r_assign (v := (.slice (some ⟨w0.heap.size, 0, none⟩) 0 cc)) rfl) ?_
    refine WpL_nil ?_
    refine Wp_ret ?_
    refine fin_tmp Try.results98 (v := (.slice (some ⟨w0.heap.size, 0, none⟩) 0 cc)) rfl ?_
    exact ⟨⟨_, _, rfl⟩, O9, E⟩
  · have khp := hp
    replace hp := of_decide_eq_false hp
    refine Wp_skip ?_
    refine thn_normal ?_
    refine Wp_seq_region ?_
    refine WpL_val rfl rfl (by decide) (r_move (v := (.slice none 0 0)) rfl) ?_
    refine WpL_val rfl rfl (by decide) (r_assign (v := (.slice none 0 0)) rfl) ?_
    refine WpL_nil ?_
    refine Wp_ret ?_
    refine fin_tmp Try.results98 (v := (.slice none 0 0)) rfl ?_
    exact ⟨⟨none, 0, rfl⟩, World.ownsRow_nil _ _ _ _, E⟩
def SpssAt (w : World) (v : Value) (ll : List (List Sp)) : Prop := ∃ vs : List Value, SlAt w 1 v (vs.map fun x => [x]) ∧ vs.length = ll.length ∧ ∀ (i : Nat) (u : Value) (l : List Sp), vs[i]? = some u → ll[i]? = some l → SpansAt w u l
theorem SpssAt.ext {w w' : World} {v : Value} {ll : List (List Sp)} (h : SpssAt w v ll) (e : Ext w w') : SpssAt w' v ll := by
  obtain ⟨vs, h1, h2, h3⟩ := h
  exact ⟨vs, h1.ext e, h2, fun i u l hu hl => (h3 i u l hu hl).ext e⟩
theorem SpssAt.form {w : World} {v : Value} {ll : List (List Sp)} (h : SpssAt w v ll) : ∃ a c, v = .slice a ll.length c ∧ ll.length ≤ c ∧ ll.length ≤ 9223372036854775807 := by
  obtain ⟨vs, h1, h2, _⟩ := h
  obtain ⟨a, c, rfl⟩ := h1.form
  have := h1.cap
  have := h1.le
  simp only [List.length_map] at *
  rw [h2] at *
  exact ⟨a, c, rfl, by omega, by omega⟩
theorem spss_cells {w : World} {a : Option Addr} {n c : Nat} {ll : List (List Sp)} (h : SpssAt w (.slice a n c) ll) (hn : 0 < n) :
    ∃ b o, a = some ⟨b, o, none⟩ ∧ ∀ i l, ll[i]? = some l → ∃ ra rc, w.cell? ⟨b, o + i, none⟩ = some (.slice ra l.length rc) ∧ SpansAt w (.slice ra l.length rc) l := by
  obtain ⟨vs, h1, h2, h3⟩ := h
  obtain ⟨b, o, ha, hc⟩ := SlAt.at h1 hn
  refine ⟨b, o, ha, fun i l hl => ?_⟩
  have hi : i < vs.length := by have := lt_of_get hl; omega
  have hu : vs[i]? = some vs[i] := List.getElem?_eq_getElem hi
  have h4 := h3 i vs[i] l hu hl
  obtain ⟨ra, rc, hf⟩ := SlAt.form h4
  simp only [List.length_map] at hf
  have h5 := hc i [vs[i]] (by simp [hu]) 0 _ rfl
  rw [Nat.mul_one, Nat.add_zero, hf] at h5
  rw [hf] at h4
  exact ⟨ra, rc, h5, h4⟩
def lens (ll : List (List Sp)) : Nat := ll.flatten.length
theorem lens_take {ll : List (List Sp)} {k : Nat} {l : List Sp} (h : ll[k]? = some l) : (ll.take (k + 1)).flatten = (ll.take k).flatten ++ l := by
  rw [List.take_add_one, h]; simp
theorem lens_le (ll : List (List Sp)) (k : Nat) : (ll.take k).flatten.length ≤ ll.flatten.length := by
  have h : ll.flatten = (ll.take k).flatten ++ (ll.drop k).flatten := by rw [← List.flatten_append, List.take_append_drop]
  rw [h, List.length_append]; omega
theorem spanV_append (a b : List Sp) : ((a ++ b).map spanV).flatten = (a.map spanV).flatten ++ (b.map spanV).flatten := by simp
set_option maxHeartbeats 1000000 in
theorem concat_c (w0 : World) (v : Value) (ll : List (List Sp)) (h : SpssAt w0 v ll) (hl : ll.flatten.length ≤ 8796093022208) :
    Ret Try.prog 65 #[v] w0 fun r w => OwnS w w0.heap.size r ll.flatten ∧ Ext w0 w := by
  obtain ⟨a, c, rfl, _, hle⟩ := h.form
  obtain ⟨base, hbase⟩ : ∃ base, base = w0.heap.size := ⟨_, rfl⟩
  rw [← hbase]
  refine Ret_of Try.func65 rfl Try.ntmps65 (Nat.le_of_ble_eq_true rfl) ?_
  have E : Chg none1 w0 w0 := Chg.refl _ _
  refine Wp_seq_region ?_
  refine WpL_val rfl rfl (by decide) (r_assign (v := (.slice none 0 0)) rfl) ?_
  refine WpL_nil ?_
  refine Wp_seq_region ?_
  refine WpL_val rfl rfl (by decide) (r_assign (v := (.int .i64 0)) rfl) ?_
  refine WpL_nil ?_
  refine Wp_seq ?_
  refine Wp_seq_region ?_
  refine WpL_val rfl rfl (by decide) (r_move (v := (.slice a ll.length c)) rfl) ?_
  refine WpL_val rfl rfl (by decide) (r_lenSlice (ad := a) (n := ll.length) (cap := c) Try.underlying53 rfl) ?_
  refine WpL_val rfl rfl (by decide) (r_move (v := (.int .i64 0)) rfl) ?_
  refine WpL_nil ?_
  refine Wp_block ?_
  refine Wp_loop (fun nn_ σ W1 => ∃ (k : Nat) (n : Nat), (∃ jj_, σ = upds jj_ [(0, (.slice a ll.length c)), (9, (.slice a ll.length c)), (10, (.int .i64 ((ll.length : Nat) : Int))), (11, (.int .i64 ((k : Nat) : Int))), (3, (.int .i64 ((n : Nat) : Int)))]) ∧ Chg none1 w0 W1 ∧ (k ≤ ll.length) ∧ (n = (ll.take k).flatten.length) ∧ nn_ = ll.length - k) (n := ll.length - 0) ?_ ?_
  · exact ⟨0, 0, Fits.out ⟨rfl, rfl, rfl, rfl, rfl, trivial⟩, E, Nat.zero_le _, rfl, rfl⟩
  · clear E
    rintro _ _ W1 ⟨k, n, ⟨j1, rfl⟩, E, hk, hn, rfl⟩
    refine Wp_seq_region ?_
    refine WpL_val rfl rfl (by decide) (r_lss (k := .i64) (a := ((k : Nat) : Int)) (b := ((ll.length : Nat) : Int)) rfl rfl) ?_
    refine WpL_nil ?_
    refine Wp_seq ?_
    refine Wp_cond (b := decide ((((k : Nat) : Int) : Int) < ((ll.length : Nat) : Int))) rfl (fun hlt => ?_) (fun hlt => ?_)
    · have khlt := hlt
      replace hlt := of_decide_eq_true hlt
      obtain ⟨l, hx⟩ := get_of_lt (l := ll) (i := k) (by omega)
      obtain ⟨b, o, rfl, hcl⟩ := spss_cells h (by omega)
      obtain ⟨ra, rc, hcell, hsp⟩ := hcl k l hx
      have hn1 := lens_le ll (k + 1)
      rw [lens_take hx, List.length_append] at hn1
      refine Wp_skip ?_
      refine thn_normal ?_
      refine Wp_seq ?_
      refine Wp_block ?_
      refine Wp_seq_region ?_
      refine WpL_val rfl rfl (by decide) (r_indexSlice (b := b) (o := o) (len := ll.length) (cap := c) (i := k) (o' := o + k) rfl rfl rfl Try.underlying53 siz23 (by omega) (by omega)) ?_
      refine WpL_val rfl rfl (by decide) (r_load (v := (.slice ra l.length rc)) rfl flat23 (E.cell (fun f => f) hcell)) ?_
      refine WpL_val rfl rfl (by decide) (r_assign (v := (.slice ra l.length rc)) rfl) ?_
      refine WpL_nil ?_
      refine Wp_seq_region ?_
      refine WpL_val rfl rfl (by decide) (r_move (v := (.int .i64 ((n : Nat) : Int))) rfl) ?_
      refine WpL_val rfl rfl (by decide) (r_move (v := (.slice ra l.length rc)) rfl) ?_
      refine WpL_val rfl rfl (by decide) (r_lenSlice (ad := ra) (n := l.length) (cap := rc) Try.underlying23 rfl) ?_
      refine WpL_val rfl rfl (by decide) (r_add (k := .i64) (a := ((n : Nat) : Int)) (b := ((l.length : Nat) : Int)) (c := ((n + l.length : Nat) : Int)) rfl rfl ((wI64 (by omega)).trans (by omega))) ?_
      refine WpL_val rfl rfl (by decide) (r_assign (v := (.int .i64 ((n + l.length : Nat) : Int))) rfl) ?_
      refine WpL_nil ?_
      refine Wp_seq_region ?_
      refine WpL_val rfl rfl (by decide) (r_move (v := (.int .i64 ((n + l.length : Nat) : Int))) rfl) ?_
      refine WpL_val rfl rfl (by decide) (r_lss (k := .i64) (a := ((n + l.length : Nat) : Int)) (b := 0) rfl rfl) ?_
      refine WpL_nil ?_
      have hc3 : (decide ((((n + l.length : Nat) : Int) : Int) < 0)) = false := decide_eq_false (by omega)
      refine Wp_cond_false (congrArg Value.bool hc3) ?_
      refine Wp_skip ?_
      refine inB_normal ?_
      refine thn_normal ?_
      refine Wp_region ?_
      refine WpL_val rfl rfl (by decide) (r_add (k := .i64) (a := ((k : Nat) : Int)) (b := 1) (c := ((k : Nat) : Int) + 1) rfl rfl (wI64 (by omega))) ?_
      refine WpL_val rfl rfl (by decide) (r_move (v := (.int .i64 (((k : Nat) : Int) + 1))) rfl) ?_
      refine WpL_nil ?_
      refine thn_normal ?_
      exact ⟨ll.length - (k + 1), by omega, k + 1, n + l.length, Fits.out ⟨rfl, rfl, rfl, rfl, rfl, trivial⟩, E, (by omega), (by rw [lens_take hx, List.length_append, hn]), rfl⟩
    · have khlt := hlt
      replace hlt := of_decide_eq_false hlt
      have hkk : k = ll.length := by omega
      have hn2 := lens_le ll k
      have hs0 := E.size
      refine Wp_exit ?_
      refine thn_exit ?_
      refine thn_exit ?_
      refine inB_here ?_
      refine thn_normal ?_
      refine Wp_seq_region ?_
      refine WpL_val rfl rfl (by decide) (r_move (v := (.int .i64 ((n : Nat) : Int))) rfl) ?_
      refine WpL_enter rfl rfl (by decide) (r_callF (vs := [(.slice none 0 0), (.int .i64 ((n : Nat) : Int))]) Try.func98 nm98 bd98 rfl) (grow_c _ n (by omega)) ?_
      rintro _ w9 ⟨⟨ga, gc, rfl⟩, O9, X9⟩
      replace E := E.ext X9
      have hO9 : w9.ownsRow base TSp 2 (.slice ga 0 gc) 0 [] := own_low O9 (by omega)
      refine WpL_val rfl rfl (by decide) (r_assign (v := (.slice ga 0 gc)) rfl) ?_
      refine WpL_nil ?_
      refine Wp_seq ?_
      refine Wp_seq_region ?_
      refine WpL_val rfl rfl (by decide) (r_move (v := (.slice a ll.length c)) rfl) ?_
      refine WpL_val rfl rfl (by decide) (r_lenSlice (ad := a) (n := ll.length) (cap := c) Try.underlying53 rfl) ?_
      refine WpL_val rfl rfl (by decide) (r_move (v := (.int .i64 0)) rfl) ?_
      refine WpL_nil ?_
      refine Wp_block ?_
      refine Wp_loop (fun nn_ σ W4 => ∃ (i : Nat) (la : Option Addr) (lc : Nat) (m : Nat), (∃ jj_, σ = upds jj_ [(25, (.slice a ll.length c)), (26, (.int .i64 ((ll.length : Nat) : Int))), (27, (.int .i64 ((i : Nat) : Int))), (6, (.slice la m lc))]) ∧ Chg none1 w0 W4 ∧ (i ≤ ll.length) ∧ (m = (ll.take i).flatten.length) ∧ (W4.ownsRow base TSp 2 (.slice la m lc) m (((ll.take i).flatten).map spanV).flatten) ∧ (base ≤ W4.heap.size) ∧ nn_ = ll.length - i) (n := ll.length - 0) ?_ ?_
      · exact ⟨0, ga, gc, 0, Fits.out ⟨rfl, rfl, rfl, rfl, trivial⟩, E, Nat.zero_le _, rfl, hO9, (by have := E.size; omega), rfl⟩
      · clear E
        rintro _ _ W4 ⟨i, la, lc, m, ⟨j4, rfl⟩, E, hi, hm, hown, hbs, rfl⟩
        refine Wp_seq_region ?_
        refine WpL_val rfl rfl (by decide) (r_lss (k := .i64) (a := ((i : Nat) : Int)) (b := ((ll.length : Nat) : Int)) rfl rfl) ?_
        refine WpL_nil ?_
        refine Wp_seq ?_
        refine Wp_cond (b := decide ((((i : Nat) : Int) : Int) < ((ll.length : Nat) : Int))) rfl (fun hlt2 => ?_) (fun hlt2 => ?_)
        · have khlt2 := hlt2
          replace hlt2 := of_decide_eq_true hlt2
          obtain ⟨l, hx⟩ := get_of_lt (l := ll) (i := i) (by omega)
          obtain ⟨b, o, rfl, hcl⟩ := spss_cells h (by omega)
          obtain ⟨ra, rc, hcell, hsp⟩ := hcl i l hx
          have hn1 := lens_le ll (i + 1)
          rw [lens_take hx, List.length_append] at hn1
          have hmc : m ≤ lc := own_le hown
          rcases Bool.eq_false_or_eq_true (decide (l.length = 0)) with hz | hz
          · have khz := hz
            replace khz := of_decide_eq_true khz
            refine Wp_skip ?_
            refine thn_normal ?_
            refine Wp_seq ?_
            refine Wp_block ?_
            refine Wp_seq_region ?_
            refine WpL_val rfl rfl (by decide) (r_indexSlice (b := b) (o := o) (len := ll.length) (cap := c) (i := i) (o' := o + i) rfl rfl rfl Try.underlying53 siz23 (by omega) (by omega)) ?_
            refine WpL_val rfl rfl (by decide) (r_load (v := (.slice ra l.length rc)) rfl flat23 (E.cell (fun f => f) hcell)) ?_
            refine WpL_val rfl rfl (by decide) (r_assign (v := (.slice ra l.length rc)) rfl) ?_
            refine WpL_nil ?_
            refine Wp_region ?_
            refine WpL_val rfl rfl (by decide) (r_move (v := (.slice la m lc)) rfl) ?_
            refine WpL_val rfl rfl (by decide) (r_move (v := (.slice ra l.length rc)) rfl) ?_
            refine WpL_val rfl rfl (by decide) (r_append0 Try.underlying23 siz37 (a' := ra) (c' := rc) rfl hmc (by show Value.slice ra l.length rc = _; rw [khz])) ?_
            refine WpL_val rfl rfl (by decide) (r_assign (v := (.slice la m lc)) rfl) ?_
            refine WpL_nil ?_
            refine inB_normal ?_
            refine thn_normal ?_
            refine Wp_region ?_
            refine WpL_val rfl rfl (by decide) (r_add (k := .i64) (a := ((i : Nat) : Int)) (b := 1) (c := ((i : Nat) : Int) + 1) rfl rfl (wI64 (by omega))) ?_
            refine WpL_val rfl rfl (by decide) (r_move (v := (.int .i64 (((i : Nat) : Int) + 1))) rfl) ?_
            refine WpL_nil ?_
            refine thn_normal ?_
            have hl0 : l = [] := List.eq_nil_of_length_eq_zero khz
            exact ⟨ll.length - (i + 1), by omega, i + 1, la, lc, m, Fits.out ⟨rfl, rfl, rfl, rfl, trivial⟩, E, (by omega), (by rw [lens_take hx, hl0, List.append_nil, hm]), (by rw [lens_take hx, hl0, List.append_nil]; exact hown), hbs, rfl⟩
          · have khz := hz
            replace khz := of_decide_eq_false khz
            obtain ⟨rb, ro, rfl, hrc⟩ := spans_cells hsp (by omega)
            refine Wp_skip ?_
            refine thn_normal ?_
            refine Wp_seq ?_
            refine Wp_block ?_
            refine Wp_seq_region ?_
            refine WpL_val rfl rfl (by decide) (r_indexSlice (b := b) (o := o) (len := ll.length) (cap := c) (i := i) (o' := o + i) rfl rfl rfl Try.underlying53 siz23 (by omega) (by omega)) ?_
            refine WpL_val rfl rfl (by decide) (r_load (v := (.slice (some ⟨rb, ro, none⟩) l.length rc)) rfl flat23 (E.cell (fun f => f) hcell)) ?_
            refine WpL_val rfl rfl (by decide) (r_assign (v := (.slice (some ⟨rb, ro, none⟩) l.length rc)) rfl) ?_
            refine WpL_nil ?_
            refine Wp_region ?_
            refine WpL_val rfl rfl (by decide) (r_move (v := (.slice la m lc)) rfl) ?_
            refine WpL_val rfl rfl (by decide) (r_move (v := (.slice (some ⟨rb, ro, none⟩) l.length rc)) rfl) ?_
            refine s_append (base := base) (n := m) (m := l.length) (xs := (((ll.take i).flatten).map spanV).flatten) (news := (l.map spanV).flatten) (size := 2) (bytes := 16) (v := (.slice la m lc)) (by decide) Try.underlying23 siz37 byt37 zer37 rfl (by decide) rfl hown rfl (spans_six l) ((spans_flat hrc).ext E) (spans_one l) (by unfold maxLen; omega) (by omega) (hbs) ?_
            intro v9 w29 Ov9 Cv9 Dv9
            replace E := E.step Cv9 (fun x hx h => absurd (hown.lt x h).1 (by omega))
            obtain ⟨la2, lc2, rfl⟩ := own_form Ov9
            refine WpL_val rfl rfl (by decide) (r_assign (v := (.slice la2 (m + l.length) lc2)) rfl) ?_
            refine WpL_nil ?_
            refine inB_normal ?_
            refine thn_normal ?_
            refine Wp_region ?_
            refine WpL_val rfl rfl (by decide) (r_add (k := .i64) (a := ((i : Nat) : Int)) (b := 1) (c := ((i : Nat) : Int) + 1) rfl rfl (wI64 (by omega))) ?_
            refine WpL_val rfl rfl (by decide) (r_move (v := (.int .i64 (((i : Nat) : Int) + 1))) rfl) ?_
            refine WpL_nil ?_
            refine thn_normal ?_
            exact ⟨ll.length - (i + 1), by omega, i + 1, la2, lc2, m + l.length, Fits.out ⟨rfl, rfl, rfl, rfl, trivial⟩, E, (by omega), (by rw [lens_take hx, List.length_append, hm]), (by rw [lens_take hx, spanV_append]; exact Ov9), Nat.le_trans hbs Cv9.size, rfl⟩
        · have khlt2 := hlt2
          replace hlt2 := of_decide_eq_false hlt2
          have hii : i = ll.length := by omega
          refine Wp_exit ?_
          refine thn_exit ?_
          refine thn_exit ?_
          refine inB_here ?_
          refine thn_normal ?_
          refine Wp_seq_region ?_
          refine WpL_val rfl rfl (by decide) (r_move (v := (.slice la m lc)) rfl) ?_
          refine WpL_val rfl rfl (by decide) (r_assign (v := (.slice la m lc)) rfl) ?_
          refine WpL_nil ?_
          refine Wp_ret ?_
          refine fin_tmp Try.results65 (v := (.slice la m lc)) rfl ?_
          rw [hii, List.take_length] at hown hm
          subst hm
          exact ⟨⟨⟨la, lc, rfl⟩, hown⟩, E⟩
end Go.Proofs
