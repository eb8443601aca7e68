/- Contracts: the small functions of packing. -/
import Derived.Test.YtcbkbogcaglcoaaWm
import Derived.Test.YtcbkbogcaglcoaaSo
namespace Go.Proofs
open Go Go.Eng
set_option maxRecDepth 100000

abbrev TD : Nat := 30
abbrev TT : Nat := 24

theorem fi_idx_c (w0 : World) (v fv : Value) (l : List Int) (p : Int → Bool) (hs : IntsAt w0 v l) (hf : ∀ (w : World) (x : Int), Ext w0 w → x ∈ l → CallV Try.prog fv #[.int .i64 x] w fun r w' => r = .bool (p x) ∧ Ext w w') :
    Ret Try.prog 52 #[v, fv] w0 fun r w => r = .int .i64 (idx p l) ∧ Ext w0 w := by
  obtain ⟨a, c, rfl⟩ := SlAt.form hs
  have hlen : l.length ≤ 9223372036854775807 := by simpa using SlAt.le hs
  simp only [List.length_map] at hs ⊢
  refine Ret_of Try.func52 rfl Try.ntmps52 (Nat.le_of_ble_eq_true rfl) ?_
  have E : Chg none1 w0 w0 := Chg.refl _ _
  refine Wp_seq_region ?_
  refine WpL_val rfl rfl (by decide) (r_assign (v := (.int .i64 0)) rfl) ?_
  refine WpL_nil ?_
  refine Wp_seq ?_
  refine Wp_seq_region ?_
  refine WpL_val rfl rfl (by decide) (r_move (v := (.slice a l.length c)) rfl) ?_
  refine WpL_val rfl rfl (by decide) (r_lenSlice (ad := a) (n := l.length) (cap := c) Try.underlying22 rfl) ?_
  refine WpL_val rfl rfl (by decide) (r_move (v := (.int .i64 0)) rfl) ?_
  refine WpL_nil ?_
  refine Wp_block ?_
  refine Wp_loop (fun nn_ σ W1 => ∃ (k : Nat), (∃ jj_, σ = upds jj_ [(0, (.slice a l.length c)), (1, fv), (7, (.int .i64 ((l.length : Nat) : Int))), (8, (.int .i64 ((k : Nat) : Int)))]) ∧ Chg none1 w0 W1 ∧ (k ≤ l.length) ∧ (∀ (i : Nat) (y : Int), i < k → l[i]? = some y → p y = false) ∧ nn_ = l.length - k) (n := l.length - 0) ?_ ?_
  · exact ⟨0, Fits.out ⟨rfl, rfl, rfl, rfl, trivial⟩, E, Nat.zero_le _, (fun i y h => absurd h (Nat.not_lt_zero _)), rfl⟩
  · clear E
    rintro _ _ W1 ⟨k, ⟨j1, rfl⟩, E, hk, hno, rfl⟩
    refine Wp_seq_region ?_
    refine WpL_val rfl rfl (by decide) (r_lss (k := .i64) (a := ((k : Nat) : Int)) (b := ((l.length : Nat) : Int)) rfl rfl) ?_
    refine WpL_nil ?_
    refine Wp_seq ?_
    refine Wp_cond (b := decide ((((k : Nat) : Int) : Int) < ((l.length : Nat) : Int))) rfl (fun hlt => ?_) (fun hlt => ?_)
    · have khlt := hlt
      replace hlt := of_decide_eq_true hlt
      obtain ⟨x, hx⟩ := get_of_lt (l := l) (i := k) (by omega)
      obtain ⟨b, o, rfl, hcells⟩ := ints_cells hs (by omega)
      refine Wp_skip ?_
      refine thn_normal ?_
      refine Wp_seq ?_
      refine Wp_block ?_
      refine Wp_seq_region ?_
      refine WpL_val rfl rfl (by decide) (r_move (v := (.int .i64 ((k : Nat) : Int))) rfl) ?_
      refine WpL_val rfl rfl (by decide) (r_assign (v := (.int .i64 ((k : Nat) : Int))) rfl) ?_
      refine WpL_nil ?_
      refine Wp_seq_region ?_
      refine WpL_val rfl rfl (by decide) (r_move (v := fv) rfl) ?_
      refine WpL_val rfl rfl (by decide) (r_move (v := (.slice (some ⟨b, o, none⟩) l.length c)) rfl) ?_
      refine WpL_val rfl rfl (by decide) (r_move (v := (.int .i64 ((k : Nat) : Int))) rfl) ?_
      refine WpL_val rfl rfl (by decide) (r_indexSlice (b := b) (o := o) (len := l.length) (cap := c) (i := k) (o' := o + k) rfl rfl rfl Try.underlying22 siz3 (by omega) (by omega)) ?_
      refine WpL_val rfl rfl (by decide) (r_load (v := (.int .i64 x)) rfl flat3 (E.cell (fun f => f) (hcells k x hx))) ?_
      refine WpL_callV (fv := fv) (vs := [(.int .i64 x)]) (by decide) rfl rfl (hf _ x E (List.mem_of_getElem? hx)) ?_
      rintro _ w9 ⟨rfl, X9⟩
      replace E := E.ext X9
      refine WpL_nil ?_
      refine Wp_cond (b := p x) rfl (fun hp => ?_) (fun hp => ?_)
      · have khp := hp
        refine Wp_seq_region ?_
        refine WpL_val rfl rfl (by decide) (r_move (v := (.int .i64 ((k : Nat) : Int))) rfl) ?_
        refine WpL_val rfl rfl (by decide) (r_assign (v := (.int .i64 ((k : Nat) : Int))) rfl) ?_
        refine WpL_nil ?_
        refine Wp_ret ?_
        refine inB_ret ?_
        refine thn_ret ?_
        refine thn_ret ?_
        refine inB_ret ?_
        refine thn_ret ?_
        refine fin_tmp Try.results52 (v := (.int .i64 ((k : Nat) : Int))) rfl ?_
        exact ⟨int_eq (idx_hit hx hp hno).symm, E⟩
      · have khp := hp
        refine Wp_skip ?_
        refine inB_normal ?_
        refine thn_normal ?_
        refine Wp_region ?_
        refine WpL_val rfl rfl (by decide) (r_add (k := .i64) (a := ((k : Nat) : Int)) (b := 1) (c := ((k : Nat) : Int) + 1) rfl rfl (wI64 (by omega))) ?_
        refine WpL_val rfl rfl (by decide) (r_move (v := (.int .i64 (((k : Nat) : Int) + 1))) rfl) ?_
        refine WpL_nil ?_
        refine thn_normal ?_
        exact ⟨l.length - (k + 1), by omega, k + 1, Fits.out ⟨rfl, rfl, rfl, rfl, trivial⟩, E, (by omega), below_next hx hp hno, rfl⟩
    · have khlt := hlt
      replace hlt := of_decide_eq_false hlt
      have hkk : k = l.length := by omega
      refine Wp_exit ?_
      refine thn_exit ?_
      refine thn_exit ?_
      refine inB_here ?_
      refine thn_normal ?_
      refine Wp_seq_region ?_
      refine WpL_val rfl rfl (by decide) (r_assign (v := (.int .i64 (-1))) rfl) ?_
      refine WpL_nil ?_
      refine Wp_ret ?_
      refine fin_tmp Try.results52 (v := (.int .i64 (-1))) rfl ?_
      exact ⟨int_eq (idx_miss fun i y hy => hno i y (by have := lt_of_get hy; omega) hy).symm, E⟩
theorem fi_has_c (w0 : World) (v fv : Value) (l : List Int) (p : Int → Bool) (hs : IntsAt w0 v l) (hf : ∀ (w : World) (x : Int), Ext w0 w → x ∈ l → CallV Try.prog fv #[.int .i64 x] w fun r w' => r = .bool (p x) ∧ Ext w w') :
    Ret Try.prog 33 #[v, fv] w0 fun r w => r = .bool (l.any p) ∧ Ext w0 w := by
  refine Ret_of Try.func33 rfl Try.ntmps33 (Nat.le_of_ble_eq_true rfl) ?_
  have E : Chg none1 w0 w0 := Chg.refl _ _
  refine Wp_seq_region ?_
  refine WpL_val rfl rfl (by decide) (r_assign (v := (.bool false)) rfl) ?_
  refine WpL_nil ?_
  refine Wp_seq_region ?_
  refine WpL_val rfl rfl (by decide) (r_move (v := v) rfl) ?_
  refine WpL_val rfl rfl (by decide) (r_move (v := fv) rfl) ?_
  refine WpL_enter rfl rfl (by decide) (r_callF (vs := [v, fv]) Try.func52 nm52 bd52 rfl) (fi_idx_c _ v fv l p hs hf) ?_
  rintro _ w9 ⟨rfl, X9⟩
  replace E := E.ext X9
  refine WpL_val rfl rfl (by decide) (r_geq (k := .i64) (a := idx p l) (b := 0) rfl rfl) ?_
  refine WpL_val rfl rfl (by decide) (r_assign (v := (.bool (decide ((0 : Int) ≤ idx p l)))) rfl) ?_
  refine WpL_nil ?_
  refine Wp_ret ?_
  refine fin_tmp Try.results33 (v := (.bool (decide ((0 : Int) ≤ idx p l)))) rfl ?_
  exact ⟨bool_eq (idx_any p l), E⟩

set_option maxHeartbeats 1000000 in
theorem entries_c (w0 : World) (b1 : Nat) (d : Dfa) (vs : List Value) (s : Nat) (row : List Int) (hB : Blk w0 b1 vs.toArray TD) (hd : DfaAt w0 d vs) (hs : d.next[s]? = some row) :
    Ret Try.prog 28 #[.int .i64 ((s : Nat) : Int), .pointer (some ⟨b1, 0, none⟩)] w0 fun v w => v = .int .i64 (((idxs row).length : Nat) : Int) ∧ Ext w0 w := by
  obtain ⟨aa, ac, na, nc, rfl, _, hn⟩ := hd
  obtain ⟨_, _, hv, hcap, hle⟩ := hn.form
  simp only [Value.slice.injEq] at hv
  obtain ⟨rfl, _, rfl⟩ := hv
  have hsl := lt_of_get hs
  obtain ⟨nb, no, rfl, hncl⟩ := intss_cells hn (by omega)
  obtain ⟨ra, rc, hcell, hints⟩ := hncl s row hs
  have hrl : row.length ≤ 9223372036854775807 := by simpa using SlAt.le hints
  refine Ret_of Try.func28 rfl Try.ntmps28 (Nat.le_of_ble_eq_true rfl) ?_
  have E : Chg none1 w0 w0 := Chg.refl _ _
  refine Wp_seq_region ?_
  refine WpL_val rfl rfl (by decide) (r_assign (v := (.int .i64 0)) rfl) ?_
  refine WpL_nil ?_
  refine Wp_seq_region ?_
  refine WpL_val rfl rfl (by decide) (r_assign (v := (.int .i64 0)) rfl) ?_
  refine WpL_nil ?_
  refine Wp_seq ?_
  refine Wp_seq_region ?_
  refine WpL_val rfl rfl (by decide) (r_fieldAddr (b := b1) (o := 0) (o' := 2) rfl Try.underlying30 rfl siz28 rfl) ?_
  refine WpL_val rfl rfl (by decide) (r_load (v := (.slice (some ⟨nb, no, none⟩) d.next.length nc)) rfl flat28 (hB.cell rfl)) ?_
  refine WpL_val rfl rfl (by decide) (r_move (v := (.int .i64 ((s : Nat) : Int))) rfl) ?_
  refine WpL_val rfl rfl (by decide) (r_indexSlice (b := nb) (o := no) (len := d.next.length) (cap := nc) (i := s) (o' := no + s) rfl rfl rfl Try.underlying28 siz22 (by omega) (by omega)) ?_
  refine WpL_val rfl rfl (by decide) (r_load (v := (.slice ra row.length rc)) rfl flat22 (E.cell (fun f => f) hcell)) ?_
  refine WpL_val rfl rfl (by decide) (r_lenSlice (ad := ra) (n := row.length) (cap := rc) Try.underlying22 rfl) ?_
  refine WpL_val rfl rfl (by decide) (r_move (v := (.int .i64 0)) rfl) ?_
  refine WpL_nil ?_
  refine Wp_block ?_
  refine Wp_loop (fun nn_ σ W1 => ∃ (k : Nat) (m : Nat), (∃ jj_, σ = upds jj_ [(11, (.slice ra row.length rc)), (12, (.int .i64 ((row.length : Nat) : Int))), (13, (.int .i64 ((k : Nat) : Int))), (4, (.int .i64 ((m : Nat) : Int)))]) ∧ Chg none1 w0 W1 ∧ Blk W1 b1 #[(.int .i64 d.start), (.slice aa d.accept.length ac), (.slice (some ⟨nb, no, none⟩) d.next.length nc)] TD ∧ (k ≤ row.length) ∧ (m = (idxsN row k).length) ∧ nn_ = row.length - k) (n := row.length - 0) ?_ ?_
  · exact ⟨0, 0, Fits.out ⟨rfl, rfl, rfl, rfl, trivial⟩, E, hB, Nat.zero_le _, rfl, rfl⟩
  · clear E hB
    rintro _ _ W1 ⟨k, m, ⟨j1, rfl⟩, E, hB, hk, hm, rfl⟩
    refine Wp_seq_region ?_
    refine WpL_val rfl rfl (by decide) (r_lss (k := .i64) (a := ((k : Nat) : Int)) (b := ((row.length : Nat) : Int)) rfl rfl) ?_
    refine WpL_nil ?_
    refine Wp_seq ?_
    refine Wp_cond (b := decide ((((k : Nat) : Int) : Int) < ((row.length : Nat) : Int))) rfl (fun hlt => ?_) (fun hlt => ?_)
    · have khlt := hlt
      replace hlt := of_decide_eq_true hlt
      obtain ⟨x, hx⟩ := get_of_lt (l := row) (i := k) (by omega)
      obtain ⟨rb, ro, hra, hrc⟩ := ints_cells hints (by omega)
      subst hra
      have hsucc := idxsN_succ hx
      have hmle := idxsN_le row k
      refine Wp_skip ?_
      refine thn_normal ?_
      refine Wp_seq ?_
      refine Wp_block ?_
      refine Wp_seq_region ?_
      refine WpL_val rfl rfl (by decide) (r_indexSlice (b := rb) (o := ro) (len := row.length) (cap := rc) (i := k) (o' := ro + k) rfl rfl rfl Try.underlying22 siz3 (by omega) (by omega)) ?_
      refine WpL_val rfl rfl (by decide) (r_load (v := (.int .i64 x)) rfl flat3 (E.cell (fun f => f) (hrc k x hx))) ?_
      refine WpL_val rfl rfl (by decide) (r_assign (v := (.int .i64 x)) rfl) ?_
      refine WpL_nil ?_
      refine Wp_seq_region ?_
      refine WpL_val rfl rfl (by decide) (r_move (v := (.int .i64 x)) rfl) ?_
      refine WpL_val rfl rfl (by decide) (r_geq (k := .i64) (a := x) (b := 0) rfl rfl) ?_
      refine WpL_nil ?_
      refine Wp_cond (b := decide ((0 : Int) ≤ x)) rfl (fun h0 => ?_) (fun h0 => ?_)
      · have kh0 := h0
        replace h0 := of_decide_eq_true h0
        refine Wp_region ?_
        refine WpL_val rfl rfl (by decide) (r_move (v := (.int .i64 ((m : Nat) : Int))) rfl) ?_
        refine WpL_val rfl rfl (by decide) (r_add (k := .i64) (a := ((m : Nat) : Int)) (b := 1) (c := ((m : Nat) : Int) + 1) rfl rfl (wI64 (by omega))) ?_
        refine WpL_val rfl rfl (by decide) (r_assign (v := (.int .i64 (((m : Nat) : Int) + 1))) rfl) ?_
        refine WpL_nil ?_
        refine inB_normal ?_
        refine thn_normal ?_
        refine Wp_region ?_
        refine WpL_val rfl rfl (by decide) (r_add (k := .i64) (a := ((k : Nat) : Int)) (b := 1) (c := ((k : Nat) : Int) + 1) rfl rfl (wI64 (by omega))) ?_
        refine WpL_val rfl rfl (by decide) (r_move (v := (.int .i64 (((k : Nat) : Int) + 1))) rfl) ?_
        refine WpL_nil ?_
        refine thn_normal ?_
        exact ⟨row.length - (k + 1), by omega, k + 1, m + 1, Fits.out ⟨rfl, rfl, rfl, rfl, trivial⟩, E, hB, (by omega), (by rw [hsucc, if_pos h0, hm]; simp), rfl⟩
      · have kh0 := h0
        replace h0 := of_decide_eq_false h0
        refine Wp_skip ?_
        refine inB_normal ?_
        refine thn_normal ?_
        refine Wp_region ?_
        refine WpL_val rfl rfl (by decide) (r_add (k := .i64) (a := ((k : Nat) : Int)) (b := 1) (c := ((k : Nat) : Int) + 1) rfl rfl (wI64 (by omega))) ?_
        refine WpL_val rfl rfl (by decide) (r_move (v := (.int .i64 (((k : Nat) : Int) + 1))) rfl) ?_
        refine WpL_nil ?_
        refine thn_normal ?_
        exact ⟨row.length - (k + 1), by omega, k + 1, m, Fits.out ⟨rfl, rfl, rfl, rfl, trivial⟩, E, hB, (by omega), (by rw [hsucc, if_neg h0, hm]; simp), rfl⟩
    · have khlt := hlt
      replace hlt := of_decide_eq_false hlt
      have hkk : k = row.length := by omega
      refine Wp_exit ?_
      refine thn_exit ?_
      refine thn_exit ?_
      refine inB_here ?_
      refine thn_normal ?_
      refine Wp_seq_region ?_
      refine WpL_val rfl rfl (by decide) (r_move (v := (.int .i64 ((m : Nat) : Int))) rfl) ?_
      refine WpL_val rfl rfl (by decide) (r_assign (v := (.int .i64 ((m : Nat) : Int))) rfl) ?_
      refine WpL_nil ?_
      refine Wp_ret ?_
      refine fin_tmp Try.results28 (v := (.int .i64 ((m : Nat) : Int))) rfl ?_
      exact ⟨int_eq (by rw [hm, hkk]; rfl), E⟩

def cmpI (x y : Int) : Int := if x < y then -1 else if y < x then 1 else 0
theorem nan_c (w0 : World) (x : Int) : Ret Try.prog 51 #[.int .i64 x] w0 fun v w => v = .bool false ∧ Ext w0 w := by
  refine Ret_of Try.func51 rfl Try.ntmps51 (Nat.le_of_ble_eq_true rfl) ?_
  have E : Chg none1 w0 w0 := Chg.refl _ _
  refine Wp_seq_region ?_
  refine WpL_val rfl rfl (by decide) (r_assign (v := (.bool false)) rfl) ?_
  refine WpL_nil ?_
  refine Wp_seq_region ?_
  refine WpL_val rfl rfl (by decide) (r_move (v := (.int .i64 x)) rfl) ?_
  refine WpL_val rfl rfl (by decide) (r_move (v := (.int .i64 x)) rfl) ?_
  refine WpL_val rfl rfl (by decide) (r_neq (k := .i64) (a := x) (b := x) rfl rfl) ?_
  refine WpL_val rfl rfl (by decide) (r_assign (v := (.bool (decide ((x : Int) ≠ x)))) rfl) ?_
  refine WpL_nil ?_
  refine Wp_ret ?_
  refine fin_tmp Try.results51 (v := (.bool (decide ((x : Int) ≠ x)))) rfl ?_
  exact ⟨bool_eq (by simp), E⟩
theorem compare_c (w0 : World) (x y : Int) : Ret Try.prog 31 #[.int .i64 x, .int .i64 y] w0 fun v w => v = .int .i64 (cmpI x y) ∧ Ext w0 w := by
  refine Ret_of Try.func31 rfl Try.ntmps31 (Nat.le_of_ble_eq_true rfl) ?_
  have E : Chg none1 w0 w0 := Chg.refl _ _
  refine Wp_seq_region ?_
  refine WpL_val rfl rfl (by decide) (r_assign (v := (.int .i64 0)) rfl) ?_
  refine WpL_nil ?_
  refine Wp_seq_region ?_
  refine WpL_val rfl rfl (by decide) (r_move (v := (.int .i64 x)) rfl) ?_
  refine WpL_enter rfl rfl (by decide) (r_callF (vs := [(.int .i64 x)]) Try.func51 nm51 bd51 rfl) (nan_c _ x) ?_
  rintro _ w9 ⟨rfl, X9⟩
  replace E := E.ext X9
  refine WpL_val rfl rfl (by decide) (r_assign (v := (.bool false)) rfl) ?_
  refine WpL_nil ?_
  refine Wp_seq_region ?_
  refine WpL_val rfl rfl (by decide) (r_move (v := (.int .i64 y)) rfl) ?_
  refine WpL_enter rfl rfl (by decide) (r_callF (vs := [(.int .i64 y)]) Try.func51 nm51 bd51 rfl) (nan_c _ y) ?_
  rintro _ w19 ⟨rfl, X19⟩
  replace E := E.ext X19
  refine WpL_val rfl rfl (by decide) (r_assign (v := (.bool false)) rfl) ?_
  refine WpL_nil ?_
  refine Wp_seq ?_
  refine Wp_seq_region ?_
  refine WpL_val rfl rfl (by decide) (r_move (v := (.bool false)) rfl) ?_
  refine WpL_nil ?_
  refine Wp_cond_false rfl ?_
  refine Wp_skip ?_
  refine thn_normal ?_
  refine Wp_seq ?_
  refine Wp_seq_region ?_
  refine WpL_val rfl rfl (by decide) (r_move (v := (.bool false)) rfl) ?_
  refine WpL_nil ?_
  refine Wp_cond_false rfl ?_
  refine Wp_skip ?_
  refine thn_normal ?_
  refine Wp_seq ?_
  refine Wp_seq_region ?_
  refine WpL_val rfl rfl (by decide) (r_move (v := (.int .i64 x)) rfl) ?_
  refine WpL_val rfl rfl (by decide) (r_move (v := (.int .i64 y)) rfl) ?_
  refine WpL_val rfl rfl (by decide) (r_lss (k := .i64) (a := x) (b := y) rfl rfl) ?_
  refine WpL_nil ?_
  refine Wp_cond (b := decide ((x : Int) < y)) rfl (fun h1 => ?_) (fun h1 => ?_)
  · have kh1 := h1
    replace h1 := of_decide_eq_true h1
    refine Wp_seq_region ?_
    refine WpL_val rfl rfl (by decide) (r_assign (v := (.int .i64 (-1))) rfl) ?_
    refine WpL_nil ?_
    refine Wp_ret ?_
    refine thn_ret ?_
    refine fin_tmp Try.results31 (v := (.int .i64 (-1))) rfl ?_
    exact ⟨int_eq (by unfold cmpI; rw [if_pos h1]), E⟩
  · have kh1 := h1
    replace h1 := of_decide_eq_false h1
    refine Wp_skip ?_
    refine thn_normal ?_
    refine Wp_seq ?_
    refine Wp_seq_region ?_
    refine WpL_val rfl rfl (by decide) (r_move (v := (.int .i64 x)) rfl) ?_
    refine WpL_val rfl rfl (by decide) (r_move (v := (.int .i64 y)) rfl) ?_
    refine WpL_val rfl rfl (by decide) (r_gtr (k := .i64) (a := x) (b := y) rfl rfl) ?_
    refine WpL_nil ?_
    refine Wp_cond (b := decide ((y : Int) < x)) rfl (fun h2 => ?_) (fun h2 => ?_)
    · have kh2 := h2
      replace h2 := of_decide_eq_true h2
      refine Wp_seq_region ?_
      refine WpL_val rfl rfl (by decide) (r_assign (v := (.int .i64 1)) rfl) ?_
      refine WpL_nil ?_
      refine Wp_ret ?_
      refine thn_ret ?_
      refine fin_tmp Try.results31 (v := (.int .i64 1)) rfl ?_
      exact ⟨int_eq (by unfold cmpI; rw [if_neg h1, if_pos h2]), E⟩
    · have kh2 := h2
      replace h2 := of_decide_eq_false h2
      refine Wp_skip ?_
      refine thn_normal ?_
      refine Wp_seq_region ?_
      refine WpL_val rfl rfl (by decide) (r_assign (v := (.int .i64 0)) rfl) ?_
      refine WpL_nil ?_
      refine Wp_ret ?_
      refine fin_tmp Try.results31 (v := (.int .i64 0)) rfl ?_
      exact ⟨int_eq (by unfold cmpI; rw [if_neg h1, if_neg h2]), E⟩
def entD (d : Dfa) (s : Int) : Int := (((idxs (d.next.getD s.toNat [])).length : Nat) : Int)
theorem entD_nat {d : Dfa} {s : Nat} {row : List Int} (h : d.next[s]? = some row) : entD d ((s : Nat) : Int) = (((idxs row).length : Nat) : Int) := by
  unfold entD
  rw [Int.toNat_natCast, List.getD_eq_getElem?_getD, h]; rfl

set_option maxHeartbeats 1000000 in
theorem cmp2_c (w0 : World) (b1 b6 : Nat) (d : Dfa) (vs : List Value) (s u : Nat) (hB : Blk w0 b1 vs.toArray TD) (hd : DfaAt w0 d vs) (h6 : Blk w0 b6 #[.func (.func 28) #[] #[.pointer (some ⟨b1, 0, none⟩)]] 55) (hs : s < d.next.length) (hu : u < d.next.length) :
    Ret Try.prog 30 #[.int .i64 ((s : Nat) : Int), .int .i64 ((u : Nat) : Int), .pointer (some ⟨b6, 0, none⟩)] w0 fun v w => v = .int .i64 (cmpI (entD d ((u : Nat) : Int)) (entD d ((s : Nat) : Int))) ∧ Ext w0 w := by
  obtain ⟨rs, hrs⟩ := get_of_lt hs
  obtain ⟨ru, hru⟩ := get_of_lt hu
  rw [entD_nat hrs, entD_nat hru]
  refine Ret_of Try.func30 rfl Try.ntmps30 (Nat.le_of_ble_eq_true rfl) ?_
  have E : Chg none1 w0 w0 := Chg.refl _ _
  refine Wp_seq_region ?_
  refine WpL_val rfl rfl (by decide) (r_assign (v := (.int .i64 0)) rfl) ?_
  refine WpL_nil ?_
  refine Wp_seq ?_
  obtain ⟨Fs1, hFs1⟩ : ∃ Fs : List Fact, Fs = [.eq (.func (.func 28) #[] #[(.pointer (some ⟨b1, 0, none⟩))]), .eq (.int .i64 ((u : Nat) : Int)), .eq (.int .i64 (((idxs ru).length : Nat) : Int)), .eq (.func (.func 28) #[] #[(.pointer (some ⟨b1, 0, none⟩))]), .eq (.int .i64 ((s : Nat) : Int)), .eq (.int .i64 (((idxs rs).length : Nat) : Int)), .eq (.int .i64 (cmpI (((idxs ru).length : Nat) : Int) (((idxs rs).length : Nat) : Int))), .eq (.int .i64 (cmpI (((idxs ru).length : Nat) : Int) (((idxs rs).length : Nat) : Int)))] := ⟨_, rfl⟩
  refine Wp_dag [6, 7, 8, 9, 10, 11, 12, 5] [[], [], [0, 1], [], [], [2, 3, 4], [2, 5], [0, 1, 2, 3, 4, 5, 6]] Fs1 hFs1 mixed (by kernel_rfl) (by kernel_rfl) ?_ ?_
  · intro wd X0
    refine DagSteps.cons (fun s' w' X U H => Or.inl ⟨?_, ?_⟩) ?_
    · exact Guarded_none rfl
    · exact Does_val (r_load (v := (.func (.func 28) #[] #[(.pointer (some ⟨b1, 0, none⟩))])) (U 2 rfl) flat55 (((X0.trans X).keep h6).cell rfl)) (Ext.refl _) rfl
    refine DagSteps.cons (fun s' w' X U H => Or.inl ⟨?_, ?_⟩) ?_
    · exact Guarded_none rfl
    · exact Does_val (r_move (v := (.int .i64 ((u : Nat) : Int))) (U 1 rfl)) (Ext.refl _) rfl
    refine DagSteps.cons (fun s' w' X U H => Or.inl ⟨?_, ?_⟩) ?_
    · exact Guarded_none rfl
    · have e7 : s' 7 = (.int .i64 ((u : Nat) : Int)) := H 1 rfl 7 (.eq (.int .i64 ((u : Nat) : Int))) rfl (by rw [hFs1]; rfl)
      have e6 : s' 6 = (.func (.func 28) #[] #[(.pointer (some ⟨b1, 0, none⟩))]) := H 0 rfl 6 (.eq (.func (.func 28) #[] #[(.pointer (some ⟨b1, 0, none⟩))])) rfl (by rw [hFs1]; rfl)
      exact Does_enter (r_callV (first := #[]) (cap := #[(.pointer (some ⟨b1, 0, none⟩))]) (vs := [(.int .i64 ((u : Nat) : Int))]) (ws := #[(.int .i64 ((u : Nat) : Int)), (.pointer (some ⟨b1, 0, none⟩))]) e6 Try.func28 nm28 bd28 (lst1 e7) rfl) (entries_c _ b1 d vs u ru ((X0.trans X).keep (Ext.keep E hB)) (hd.ext (Ext.trans E (X0.trans X))) hru)
    refine DagSteps.cons (fun s' w' X U H => Or.inl ⟨?_, ?_⟩) ?_
    · exact Guarded_none rfl
    · exact Does_val (r_load (v := (.func (.func 28) #[] #[(.pointer (some ⟨b1, 0, none⟩))])) (U 2 rfl) flat55 (((X0.trans X).keep h6).cell rfl)) (Ext.refl _) rfl
    refine DagSteps.cons (fun s' w' X U H => Or.inl ⟨?_, ?_⟩) ?_
    · exact Guarded_none rfl
    · exact Does_val (r_move (v := (.int .i64 ((s : Nat) : Int))) (U 0 rfl)) (Ext.refl _) rfl
    refine DagSteps.cons (fun s' w' X U H => Or.inl ⟨?_, ?_⟩) ?_
    · exact Guarded_none rfl
    · have e10 : s' 10 = (.int .i64 ((s : Nat) : Int)) := H 4 rfl 10 (.eq (.int .i64 ((s : Nat) : Int))) rfl (by rw [hFs1]; rfl)
      have e9 : s' 9 = (.func (.func 28) #[] #[(.pointer (some ⟨b1, 0, none⟩))]) := H 3 rfl 9 (.eq (.func (.func 28) #[] #[(.pointer (some ⟨b1, 0, none⟩))])) rfl (by rw [hFs1]; rfl)
      exact Does_enter (r_callV (first := #[]) (cap := #[(.pointer (some ⟨b1, 0, none⟩))]) (vs := [(.int .i64 ((s : Nat) : Int))]) (ws := #[(.int .i64 ((s : Nat) : Int)), (.pointer (some ⟨b1, 0, none⟩))]) e9 Try.func28 nm28 bd28 (lst1 e10) rfl) (entries_c _ b1 d vs s rs ((X0.trans X).keep (Ext.keep E hB)) (hd.ext (Ext.trans E (X0.trans X))) hrs)
    refine DagSteps.cons (fun s' w' X U H => Or.inl ⟨?_, ?_⟩) ?_
    · exact Guarded_none rfl
    · have e8 : s' 8 = (.int .i64 (((idxs ru).length : Nat) : Int)) := H 2 rfl 8 (.eq (.int .i64 (((idxs ru).length : Nat) : Int))) rfl (by rw [hFs1]; rfl)
      have e11 : s' 11 = (.int .i64 (((idxs rs).length : Nat) : Int)) := H 5 rfl 11 (.eq (.int .i64 (((idxs rs).length : Nat) : Int))) rfl (by rw [hFs1]; rfl)
      exact Does_enter (r_callF (vs := [(.int .i64 (((idxs ru).length : Nat) : Int)), (.int .i64 (((idxs rs).length : Nat) : Int))]) Try.func31 nm31 bd31 (lst2 e8 e11)) (compare_c _ _ _)
    refine DagSteps.cons (fun s' w' X U H => Or.inl ⟨?_, ?_⟩) ?_
    · exact Guarded_none rfl
    · have e12 : s' 12 = (.int .i64 (cmpI (((idxs ru).length : Nat) : Int) (((idxs rs).length : Nat) : Int))) := H 6 rfl 12 (.eq (.int .i64 (cmpI (((idxs ru).length : Nat) : Int) (((idxs rs).length : Nat) : Int)))) rfl (by rw [hFs1]; rfl)
      exact Does_val (r_assign (v := (.int .i64 (cmpI (((idxs ru).length : Nat) : Int) (((idxs rs).length : Nat) : Int)))) e12) (Ext.refl _) rfl
    exact DagSteps.nil
  · intro s' w1 X1 U H
    obtain ⟨j1, rfl⟩ := Fits.out (σ := s') (l := [(5, (.int .i64 (cmpI (((idxs ru).length : Nat) : Int) (((idxs rs).length : Nat) : Int))))]) ⟨(show s' 5 = (.int .i64 (cmpI (((idxs ru).length : Nat) : Int) (((idxs rs).length : Nat) : Int))) from H 7 5 (.eq (.int .i64 (cmpI (((idxs ru).length : Nat) : Int) (((idxs rs).length : Nat) : Int)))) rfl (by rw [hFs1]; rfl)), trivial⟩
    clear U H
    replace h6 := X1.keep h6
    replace E := E.ext X1
    refine thn_normal ?_
    refine Wp_ret ?_
    refine fin_tmp Try.results30 (v := (.int .i64 (cmpI (((idxs ru).length : Nat) : Int) (((idxs rs).length : Nat) : Int)))) rfl ?_
    exact ⟨rfl, E⟩

def freeB (ow : List Int) (i : Nat) : Bool := decide (((ow.length : Nat) : Int) ≤ ((i : Nat) : Int)) || decide (ow.getD i (-1) < 0)
theorem freeB_iff {ow : List Int} {i : Nat} : freeB ow i = true ↔ ow.length ≤ i ∨ ∃ x, ow[i]? = some x ∧ x < 0 := by
  unfold freeB
  rw [Bool.or_eq_true, decide_eq_true_eq, decide_eq_true_eq]
  constructor
  · rintro (h | h)
    · left; omega
    · rcases Nat.lt_or_ge i ow.length with h1 | h1
      · right
        refine ⟨ow[i], List.getElem?_eq_getElem h1, ?_⟩
        rwa [List.getD_eq_getElem?_getD, List.getElem?_eq_getElem h1, Option.getD_some] at h
      · left; exact h1
  · rintro (h | ⟨x, h1, h2⟩)
    · left; omega
    · right; rw [List.getD_eq_getElem?_getD, h1]; exact h2
theorem free_c (w0 : World) (b5 i : Nat) (ow : List Int) (x0 x1 : Int) (v2 v3 v4 v5 : Value) (hB : Blk w0 b5 #[.int .i64 x0, .int .i64 x1, v2, v3, v4, v5] TT) (ho : IntsAt w0 v4 ow) :
    Ret Try.prog 32 #[.int .i64 ((i : Nat) : Int), .pointer (some ⟨b5, 0, none⟩)] w0 fun v w => v = .bool (freeB ow i) ∧ Ext w0 w := by
  obtain ⟨a, c, rfl⟩ := SlAt.form ho
  have hlen : ow.length ≤ 9223372036854775807 := by simpa using SlAt.le ho
  simp only [List.length_map] at ho hB
  rcases Nat.lt_or_ge i ow.length with hi | hi
  · obtain ⟨ob, oo, rfl, hoc⟩ := ints_cells ho (by omega)
    obtain ⟨x, hx⟩ := get_of_lt hi
    have hg : ow.getD i (-1) = x := by rw [List.getD_eq_getElem?_getD, hx]; rfl
    refine Ret_of Try.func32 rfl Try.ntmps32 (Nat.le_of_ble_eq_true rfl) ?_
    have E : Chg none1 w0 w0 := Chg.refl _ _
    refine Wp_seq_region ?_
    refine WpL_val rfl rfl (by decide) (r_assign (v := (.bool false)) rfl) ?_
    refine WpL_nil ?_
    refine Wp_seq_region ?_
    refine WpL_val rfl rfl (by decide) (r_move (v := (.int .i64 ((i : Nat) : Int))) rfl) ?_
    refine WpL_val rfl rfl (by decide) (r_fieldAddr (b := b5) (o := 0) (o' := 4) rfl Try.underlying24 rfl siz22 rfl) ?_
    refine WpL_val rfl rfl (by decide) (r_load (v := (.slice (some ⟨ob, oo, none⟩) ow.length c)) rfl flat22 (hB.cell rfl)) ?_
    refine WpL_val rfl rfl (by decide) (r_lenSlice (ad := some ⟨ob, oo, none⟩) (n := ow.length) (cap := c) Try.underlying22 rfl) ?_
    obtain ⟨e1, he1⟩ : ∃ e, (decide ((((ow.length : Nat) : Int) : Int) ≤ ((i : Nat) : Int))) = e := ⟨_, rfl⟩
    refine WpL_val rfl rfl (by decide) ((r_geq (k := .i64) (a := ((i : Nat) : Int)) (b := ((ow.length : Nat) : Int)) rfl rfl).trans (by rw [he1]; try rfl)) ?_
    refine WpL_val rfl rfl (by decide) (r_move (v := (.bool e1)) rfl) ?_
    refine WpL_guard_any (oj := _) (gv := (.bool e1)) (u := (bif e1 then undef else (.pointer (some ⟨b5, 4, none⟩)))) rfl rfl (by decide) (by decide) rfl (by cases e1 <;> first | exact Or.inr ⟨Or.inl rfl, rfl⟩ | exact Or.inr ⟨Or.inr rfl, rfl⟩ | exact Or.inl ⟨rfl, r_fieldAddr (b := b5) (o := 0) (o' := 4) rfl Try.underlying24 rfl siz22 rfl⟩) ?_
    refine WpL_guard_any (oj := _) (gv := (.bool e1)) (u := (bif e1 then undef else (.slice (some ⟨ob, oo, none⟩) ow.length c))) rfl rfl (by decide) (by decide) rfl (by cases e1 <;> first | exact Or.inr ⟨Or.inl rfl, rfl⟩ | exact Or.inr ⟨Or.inr rfl, rfl⟩ | exact Or.inl ⟨rfl, r_load (v := (.slice (some ⟨ob, oo, none⟩) ow.length c)) rfl flat22 (hB.cell rfl)⟩) ?_
    refine WpL_guard_any (oj := _) (gv := (.bool e1)) (u := (bif e1 then undef else (.int .i64 ((i : Nat) : Int)))) rfl rfl (by decide) (by decide) rfl (by cases e1 <;> first | exact Or.inr ⟨Or.inl rfl, rfl⟩ | exact Or.inr ⟨Or.inr rfl, rfl⟩ | exact Or.inl ⟨rfl, r_move (v := (.int .i64 ((i : Nat) : Int))) rfl⟩) ?_
    refine WpL_guard_any (oj := _) (gv := (.bool e1)) (u := (bif e1 then undef else (.pointer (some ⟨ob, oo + i, none⟩)))) rfl rfl (by decide) (by decide) rfl (by cases e1 <;> first | exact Or.inr ⟨Or.inl rfl, rfl⟩ | exact Or.inr ⟨Or.inr rfl, rfl⟩ | exact Or.inl ⟨rfl, r_indexSlice (b := ob) (o := oo) (len := ow.length) (cap := c) (i := i) (o' := oo + i) rfl rfl rfl Try.underlying22 siz3 (by have := of_decide_eq_false he1; omega) (by omega)⟩) ?_
    refine WpL_guard_any (oj := _) (gv := (.bool e1)) (u := (bif e1 then undef else (.int .i64 x))) rfl rfl (by decide) (by decide) rfl (by cases e1 <;> first | exact Or.inr ⟨Or.inl rfl, rfl⟩ | exact Or.inr ⟨Or.inr rfl, rfl⟩ | exact Or.inl ⟨rfl, r_load (v := (.int .i64 x)) rfl flat3 (E.cell (fun f => f) (hoc i x hx))⟩) ?_
    obtain ⟨e2, he2⟩ : ∃ e, (decide ((x : Int) < 0)) = e := ⟨_, rfl⟩
    refine WpL_guard_any (oj := _) (gv := (.bool e1)) (u := (bif e1 then undef else (.bool e2))) rfl rfl (by decide) (by decide) rfl (by cases e1 <;> first | exact Or.inr ⟨Or.inl rfl, rfl⟩ | exact Or.inr ⟨Or.inr rfl, rfl⟩ | exact Or.inl ⟨rfl, (r_lss (k := .i64) (a := x) (b := 0) rfl rfl).trans (by rw [he2]; try rfl)⟩) ?_
    obtain ⟨e3, he3⟩ : ∃ e, (e1 || e2) = e := ⟨_, rfl⟩
    refine WpL_val rfl rfl (by decide) (r_pick (b := e1) (v := .bool e3) rfl (by rw [← he3]; cases e1 <;> rfl)) ?_
    refine WpL_val rfl rfl (by decide) (r_assign (v := (.bool e3)) rfl) ?_
    refine WpL_nil ?_
    subst he3
    subst he2
    subst he1
    refine Wp_ret ?_
    refine fin_tmp Try.results32 (v := (.bool ((decide ((((ow.length : Nat) : Int) : Int) ≤ ((i : Nat) : Int))) || (decide ((x : Int) < 0))))) rfl ?_
    exact ⟨bool_eq (by unfold freeB; rw [hg]), E⟩
  · skip
    refine Ret_of Try.func32 rfl Try.ntmps32 (Nat.le_of_ble_eq_true rfl) ?_
    have E : Chg none1 w0 w0 := Chg.refl _ _
    refine Wp_seq_region ?_
    refine WpL_val rfl rfl (by decide) (r_assign (v := (.bool false)) rfl) ?_
    refine WpL_nil ?_
    refine Wp_seq_region ?_
    refine WpL_val rfl rfl (by decide) (r_move (v := (.int .i64 ((i : Nat) : Int))) rfl) ?_
    refine WpL_val rfl rfl (by decide) (r_fieldAddr (b := b5) (o := 0) (o' := 4) rfl Try.underlying24 rfl siz22 rfl) ?_
    refine WpL_val rfl rfl (by decide) (r_load (v := (.slice a ow.length c)) rfl flat22 (hB.cell rfl)) ?_
    refine WpL_val rfl rfl (by decide) (r_lenSlice (ad := a) (n := ow.length) (cap := c) Try.underlying22 rfl) ?_
    refine WpL_val rfl rfl (by decide) (r_geq (k := .i64) (a := ((i : Nat) : Int)) (b := ((ow.length : Nat) : Int)) rfl rfl) ?_
    refine WpL_val rfl rfl (by decide) (r_move (v := (.bool (decide ((((ow.length : Nat) : Int) : Int) ≤ ((i : Nat) : Int))))) rfl) ?_
    have hg1 : (decide ((((ow.length : Nat) : Int) : Int) ≤ ((i : Nat) : Int))) = true := by simp; omega
    refine WpL_guard_no (oj := _) rfl rfl (by decide) (v := .bool true) (congrArg Value.bool hg1) (Or.inl rfl) ?_
    refine WpL_guard_no (oj := _) rfl rfl (by decide) (v := .bool true) (congrArg Value.bool hg1) (Or.inl rfl) ?_
    refine WpL_guard_no (oj := _) rfl rfl (by decide) (v := .bool true) (congrArg Value.bool hg1) (Or.inl rfl) ?_
    refine WpL_guard_no (oj := _) rfl rfl (by decide) (v := .bool true) (congrArg Value.bool hg1) (Or.inl rfl) ?_
    refine WpL_guard_no (oj := _) rfl rfl (by decide) (v := .bool true) (congrArg Value.bool hg1) (Or.inl rfl) ?_
    refine WpL_guard_no (oj := _) rfl rfl (by decide) (v := .bool true) (congrArg Value.bool hg1) (Or.inl rfl) ?_
    refine WpL_val rfl rfl (by decide) (r_pick (b := decide ((((ow.length : Nat) : Int) : Int) ≤ ((i : Nat) : Int))) (v := (.bool true)) rfl (by rw [hg1]; rfl)) ?_
    refine WpL_val rfl rfl (by decide) (r_assign (v := (.bool true)) rfl) ?_
    refine WpL_nil ?_
    refine Wp_ret ?_
    refine fin_tmp Try.results32 (v := (.bool true)) rfl ?_
    exact ⟨bool_eq (by unfold freeB; rw [decide_eq_true (by omega)]; rfl), E⟩
theorem cont_c (w0 : World) (b5 b9 b12 c m : Nat) (ow : List Int) (x0 x1 : Int) (v2 v3 v4 v5 : Value) (hB : Blk w0 b5 #[.int .i64 x0, .int .i64 x1, v2, v3, v4, v5] TT) (ho : IntsAt w0 v4 ow) (h9 : Blk w0 b9 #[.func (.func 32) #[] #[.pointer (some ⟨b5, 0, none⟩)]] 57) (h12 : Blk w0 b12 #[.int .i64 ((m : Nat) : Int)] TI) (hm : m + c ≤ 9223372036854775807) :
    Ret Try.prog 35 #[.int .i64 ((c : Nat) : Int), .pointer (some ⟨b9, 0, none⟩), .pointer (some ⟨b12, 0, none⟩)] w0 fun v w => v = .bool (!freeB ow (m + c)) ∧ Ext w0 w := by
  refine Ret_of Try.func35 rfl Try.ntmps35 (Nat.le_of_ble_eq_true rfl) ?_
  have E : Chg none1 w0 w0 := Chg.refl _ _
  refine Wp_seq_region ?_
  refine WpL_val rfl rfl (by decide) (r_assign (v := (.bool false)) rfl) ?_
  refine WpL_nil ?_
  refine Wp_seq_region ?_
  refine WpL_val rfl rfl (by decide) (r_load (v := (.func (.func 32) #[] #[(.pointer (some ⟨b5, 0, none⟩))])) rfl flat57 (h9.cell rfl)) ?_
  refine WpL_val rfl rfl (by decide) (r_load (v := (.int .i64 ((m : Nat) : Int))) rfl flat3 (h12.cell rfl)) ?_
  refine WpL_val rfl rfl (by decide) (r_move (v := (.int .i64 ((c : Nat) : Int))) rfl) ?_
  refine WpL_val rfl rfl (by decide) (r_add (k := .i64) (a := ((m : Nat) : Int)) (b := ((c : Nat) : Int)) (c := (((m + c : Nat) : Nat) : Int)) rfl rfl ((wI64 (by omega)).trans (by omega))) ?_
  refine WpL_enter rfl rfl (by decide) (r_callV (first := #[]) (cap := #[(.pointer (some ⟨b5, 0, none⟩))]) (vs := [(.int .i64 (((m + c : Nat) : Nat) : Int))]) (ws := #[(.int .i64 (((m + c : Nat) : Nat) : Int)), (.pointer (some ⟨b5, 0, none⟩))]) rfl Try.func32 nm32 bd32 rfl rfl) (free_c _ b5 (m + c) ow x0 x1 v2 v3 v4 v5 (Ext.keep E hB) (ho.ext E)) ?_
  rintro _ w9 ⟨rfl, X9⟩
  replace h9 := X9.keep h9
  replace h12 := X9.keep h12
  replace E := E.ext X9
  refine WpL_val rfl rfl (by decide) (r_not (b := freeB ow (m + c)) rfl) ?_
  refine WpL_val rfl rfl (by decide) (r_assign (v := (.bool (!(freeB ow (m + c))))) rfl) ?_
  refine WpL_nil ?_
  refine Wp_ret ?_
  refine fin_tmp Try.results35 (v := (.bool (!(freeB ow (m + c))))) rfl ?_
  exact ⟨rfl, E⟩

def natV (l : List Nat) : List Int := l.map fun n => ((n : Nat) : Int)
set_option maxHeartbeats 1000000 in
theorem indices_c (w0 : World) (v : Value) (row : List Int) (h : IntsAt w0 v row) (hl : row.length ≤ 1000000) :
    Ret Try.prog 34 #[v] w0 fun r w => (∃ a c, r = .slice a (idxs row).length c ∧ w.ownsRow w0.heap.size TI 1 r (idxs row).length ((natV (idxs row)).map (Value.int .i64))) ∧ Ext w0 w := by
  obtain ⟨a, c, rfl⟩ := SlAt.form h
  simp only [List.length_map] at h ⊢
  obtain ⟨base, hbase⟩ : ∃ base, base = w0.heap.size := ⟨_, rfl⟩
  refine Ret_of Try.func34 rfl Try.ntmps34 (Nat.le_of_ble_eq_true rfl) ?_
  have E : Chg none1 w0 w0 := Chg.refl _ _
  refine Wp_seq_region ?_
  refine WpL_val rfl rfl (by decide) (r_assign (v := (.slice none 0 0)) rfl) ?_
  refine WpL_nil ?_
  refine Wp_seq_region ?_
  refine WpL_val rfl rfl (by decide) (r_assign (v := (.slice none 0 0)) rfl) ?_
  refine WpL_nil ?_
  refine Wp_seq ?_
  refine Wp_seq_region ?_
  refine WpL_val rfl rfl (by decide) (r_move (v := (.slice a row.length c)) rfl) ?_
  refine WpL_val rfl rfl (by decide) (r_lenSlice (ad := a) (n := row.length) (cap := c) Try.underlying22 rfl) ?_
  refine WpL_val rfl rfl (by decide) (r_move (v := (.int .i64 0)) rfl) ?_
  refine WpL_nil ?_
  refine Wp_block ?_
  refine Wp_loop (fun nn_ σ W1 => ∃ (k : Nat) (la : Option Addr) (lc : Nat) (m : Nat), (∃ jj_, σ = upds jj_ [(6, (.slice a row.length c)), (7, (.int .i64 ((row.length : Nat) : Int))), (8, (.int .i64 ((k : Nat) : Int))), (3, (.slice la m lc))]) ∧ Chg none1 w0 W1 ∧ (k ≤ row.length) ∧ (m = (idxsN row k).length) ∧ (W1.ownsRow base TI 1 (.slice la m lc) m ((natV (idxsN row k)).map (Value.int .i64))) ∧ (base ≤ W1.heap.size) ∧ nn_ = row.length - k) (n := row.length - 0) ?_ ?_
  · exact ⟨0, none, 0, 0, Fits.out ⟨rfl, rfl, rfl, rfl, trivial⟩, E, Nat.zero_le _, rfl, World.ownsRow_nil _ _ _ _, (by omega), rfl⟩
  · clear E
    rintro _ _ W1 ⟨k, la, lc, m, ⟨j1, rfl⟩, E, hk, hm, hown, hbs, rfl⟩
    refine Wp_seq_region ?_
    refine WpL_val rfl rfl (by decide) (r_lss (k := .i64) (a := ((k : Nat) : Int)) (b := ((row.length : Nat) : Int)) rfl rfl) ?_
    refine WpL_nil ?_
    refine Wp_seq ?_
    refine Wp_cond (b := decide ((((k : Nat) : Int) : Int) < ((row.length : Nat) : Int))) rfl (fun hlt => ?_) (fun hlt => ?_)
    · have khlt := hlt
      replace hlt := of_decide_eq_true hlt
      obtain ⟨x, hx⟩ := get_of_lt (l := row) (i := k) (by omega)
      obtain ⟨b, o, hab, hcl⟩ := ints_cells h (by omega)
      subst hab
      have hsucc := idxsN_succ hx
      have hmle := idxsN_le row k
      refine Wp_skip ?_
      refine thn_normal ?_
      refine Wp_seq ?_
      refine Wp_block ?_
      refine Wp_seq_region ?_
      refine WpL_val rfl rfl (by decide) (r_move (v := (.int .i64 ((k : Nat) : Int))) rfl) ?_
      refine WpL_val rfl rfl (by decide) (r_indexSlice (b := b) (o := o) (len := row.length) (cap := c) (i := k) (o' := o + k) rfl rfl rfl Try.underlying22 siz3 (by omega) (by omega)) ?_
      refine WpL_val rfl rfl (by decide) (r_load (v := (.int .i64 x)) rfl flat3 (E.cell (fun f => f) (hcl k x hx))) ?_
      refine WpL_val rfl rfl (by decide) (r_assign (v := (.int .i64 ((k : Nat) : Int))) rfl) ?_
      refine WpL_val rfl rfl (by decide) (r_assign (v := (.int .i64 x)) rfl) ?_
      refine WpL_nil ?_
      refine Wp_seq_region ?_
      refine WpL_val rfl rfl (by decide) (r_move (v := (.int .i64 x)) rfl) ?_
      refine WpL_val rfl rfl (by decide) (r_geq (k := .i64) (a := x) (b := 0) rfl rfl) ?_
      refine WpL_nil ?_
      refine Wp_cond (b := decide ((0 : Int) ≤ x)) rfl (fun h0 => ?_) (fun h0 => ?_)
      · have kh0 := h0
        replace h0 := of_decide_eq_true h0
        refine Wp_region ?_
        refine WpL_val rfl rfl (by decide) (r_move (v := (.slice la m lc)) rfl) ?_
        refine WpL_val rfl rfl (by decide) (r_move (v := (.int .i64 ((k : Nat) : Int))) rfl) ?_
        refine s_buildSlice (ps := [(0, (.int .i64 ((k : Nat) : Int)))]) (c := #[(.int .i64 ((k : Nat) : Int))]) (by decide) rfl Try.underlying22 siz3 zer3 (by decide) (by decide) (by kernel_rfl) ?_
        intro bq wq Nq
        have Fq := Nq.ge E
        replace hown := own_ext hown Nq.ext
        replace hbs := Nat.le_trans hbs Nq.ext.size
        replace E := E.ext Nq.ext
        have Bq := Nq.blk
        refine s_append (base := base) (n := m) (m := 1) (xs := (natV (idxsN row k)).map (Value.int .i64)) (news := [(.int .i64 ((k : Nat) : Int))]) (size := 1) (bytes := 8) (v := (.slice la m lc)) (by decide) Try.underlying22 siz3 byt3 zer3 rfl (by decide) rfl hown rfl (rfl) (Bq.cells rfl) (by simp [Value.oneCell']) (by unfold maxLen; omega) (by omega) (hbs) ?_
        intro v9 w29 Ov9 Cv9 Dv9
        replace E := E.step Cv9 (fun x hx h => absurd (hown.lt x h).1 (by omega))
        obtain ⟨la2, lc2, rfl⟩ := own_form Ov9
        refine WpL_val rfl rfl (by decide) (r_assign (v := (.slice la2 (m + 1) lc2)) rfl) ?_
        refine WpL_nil ?_
        refine inB_normal ?_
        refine thn_normal ?_
        refine Wp_region ?_
        refine WpL_val rfl rfl (by decide) (r_add (k := .i64) (a := ((k : Nat) : Int)) (b := 1) (c := ((k : Nat) : Int) + 1) rfl rfl (wI64 (by omega))) ?_
        refine WpL_val rfl rfl (by decide) (r_move (v := (.int .i64 (((k : Nat) : Int) + 1))) rfl) ?_
        refine WpL_nil ?_
        refine thn_normal ?_
        exact ⟨row.length - (k + 1), by omega, k + 1, la2, lc2, m + 1, Fits.out ⟨rfl, rfl, rfl, rfl, trivial⟩, E, (by omega), (by rw [hsucc, if_pos h0, hm]; simp), (by rw [hsucc, if_pos h0]; simpa [natV] using Ov9), Nat.le_trans hbs Cv9.size, rfl⟩
      · have kh0 := h0
        replace h0 := of_decide_eq_false h0
        refine Wp_skip ?_
        refine inB_normal ?_
        refine thn_normal ?_
        refine Wp_region ?_
        refine WpL_val rfl rfl (by decide) (r_add (k := .i64) (a := ((k : Nat) : Int)) (b := 1) (c := ((k : Nat) : Int) + 1) rfl rfl (wI64 (by omega))) ?_
        refine WpL_val rfl rfl (by decide) (r_move (v := (.int .i64 (((k : Nat) : Int) + 1))) rfl) ?_
        refine WpL_nil ?_
        refine thn_normal ?_
        exact ⟨row.length - (k + 1), by omega, k + 1, la, lc, m, Fits.out ⟨rfl, rfl, rfl, rfl, trivial⟩, E, (by omega), (by rw [hsucc, if_neg h0, hm]; simp), (by rw [hsucc, if_neg h0]; simpa using hown), hbs, rfl⟩
    · have khlt := hlt
      replace hlt := of_decide_eq_false hlt
      have hkk : k = row.length := by omega
      refine Wp_exit ?_
      refine thn_exit ?_
      refine thn_exit ?_
      refine inB_here ?_
      refine thn_normal ?_
      refine Wp_seq_region ?_
      refine WpL_val rfl rfl (by decide) (r_move (v := (.slice la m lc)) rfl) ?_
      refine WpL_val rfl rfl (by decide) (r_assign (v := (.slice la m lc)) rfl) ?_
      refine WpL_nil ?_
      refine Wp_ret ?_
      refine fin_tmp Try.results34 (v := (.slice la m lc)) rfl ?_
      have hm2 : m = (idxs row).length := by rw [hm, hkk]; rfl
      subst hm2
      subst hbase
      rw [hkk] at hown
      exact ⟨⟨la, lc, rfl, hown⟩, E⟩
end Go.Proofs
