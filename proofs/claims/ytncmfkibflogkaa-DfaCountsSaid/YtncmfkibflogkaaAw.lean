/- Small contracts of the laws on automata. -/
import Derived.Test.YtncmfkibflogkaaAv
import Derived.Test.YtncmfkibflogkaaW6
namespace Go.Proofs
open Go Go.Eng Go.Sort
set_option maxRecDepth 100000

set_option maxHeartbeats 400000 in
theorem eql2_c (w0 : World) (v1 v2 : Value) (l1 l2 : List Int) (h1 : IntsAt w0 v1 l1) (h2 : IntsAt w0 v2 l2) :
    Ret Try.prog 28 #[v1, v2] w0 fun v w => v = .bool (decide (l1 = l2)) ∧ Ext w0 w := by
  obtain ⟨a1, c1, rfl⟩ := SlAt.form h1
  obtain ⟨a2, c2, rfl⟩ := SlAt.form h2
  have hb1 : l1.length ≤ 9223372036854775807 := by simpa using SlAt.le h1
  simp only [List.length_map] at h1 h2 ⊢
  refine Ret_of Try.func28 rfl Try.ntmps28 (Nat.le_of_ble_eq_true rfl) ?_
  have E : Chg none1 w0 w0 := Chg.refl _ _
  refine Wp_seq_region ?_
  refine WpL_val rfl rfl (by decide) (r_assign (v := (.bool false)) rfl) ?_
  refine WpL_nil ?_
  refine Wp_seq ?_
  refine Wp_seq_region ?_
  refine WpL_val rfl rfl (by decide) (r_move (v := (.slice a1 l1.length c1)) rfl) ?_
  refine WpL_val rfl rfl (by decide) (r_lenSlice (ad := a1) (n := l1.length) (cap := c1) Try.underlying22 rfl) ?_
  refine WpL_val rfl rfl (by decide) (r_move (v := (.slice a2 l2.length c2)) rfl) ?_
  refine WpL_val rfl rfl (by decide) (r_lenSlice (ad := a2) (n := l2.length) (cap := c2) Try.underlying22 rfl) ?_
  refine WpL_val rfl rfl (by decide) (r_neq (k := .i64) (a := ((l1.length : Nat) : Int)) (b := ((l2.length : Nat) : Int)) rfl rfl) ?_
  refine WpL_nil ?_
  refine Wp_cond (b := decide ((((l1.length : Nat) : Int) : Int) ≠ ((l2.length : Nat) : Int))) rfl (fun hl => ?_) (fun hl => ?_)
  · have khl := hl
    replace hl := of_decide_eq_true hl
    refine Wp_seq_region ?_
    refine WpL_val rfl rfl (by decide) (r_assign (v := (.bool false)) rfl) ?_
    refine WpL_nil ?_
    refine Wp_ret ?_
    refine thn_ret ?_
    refine fin_tmp Try.results28 (v := (.bool false)) rfl ?_
    exact ⟨bool_eq (by symm; rw [decide_eq_false_iff_not]; intro h; rw [h] at hl; exact hl rfl), E⟩
  · have khl := hl
    replace hl := of_decide_eq_false hl
    refine Wp_skip ?_
    refine thn_normal ?_
    refine Wp_seq ?_
    refine Wp_seq_region ?_
    refine WpL_val rfl rfl (by decide) (r_move (v := (.slice a1 l1.length c1)) rfl) ?_
    refine WpL_val rfl rfl (by decide) (r_lenSlice (ad := a1) (n := l1.length) (cap := c1) Try.underlying22 rfl) ?_
    refine WpL_val rfl rfl (by decide) (r_move (v := (.int .i64 0)) rfl) ?_
    refine WpL_nil ?_
    refine Wp_block ?_
    refine Wp_loop (fun nn_ σ W2 => ∃ (k : Nat), (∃ jj_, σ = upds jj_ [(0, (.slice a1 l1.length c1)), (1, (.slice a2 l2.length c2)), (12, (.int .i64 ((l1.length : Nat) : Int))), (13, (.int .i64 ((k : Nat) : Int)))]) ∧ Chg none1 w0 W2 ∧ (k ≤ l1.length) ∧ (∀ (i : Nat), i < k → l1[i]? = l2[i]?) ∧ nn_ = l1.length - k) (n := l1.length - 0) ?_ ?_
    · exact ⟨0, Fits.out ⟨rfl, rfl, rfl, rfl, trivial⟩, E, Nat.zero_le _, (fun i h => absurd h (Nat.not_lt_zero _)), rfl⟩
    · clear E
      rintro _ _ W2 ⟨k, ⟨j2, rfl⟩, E, hk, heq, rfl⟩
      refine Wp_seq_region ?_
      refine WpL_val rfl rfl (by decide) (r_lss (k := .i64) (a := ((k : Nat) : Int)) (b := ((l1.length : Nat) : Int)) rfl rfl) ?_
      refine WpL_nil ?_
      refine Wp_seq ?_
      refine Wp_cond (b := decide ((((k : Nat) : Int) : Int) < ((l1.length : Nat) : Int))) rfl (fun hlt => ?_) (fun hlt => ?_)
      · have khlt := hlt
        replace hlt := of_decide_eq_true hlt
        obtain ⟨p, hp⟩ := get_of_lt (l := l1) (i := k) (by omega)
        obtain ⟨q, hq⟩ := get_of_lt (l := l2) (i := k) (by omega)
        obtain ⟨b1, o1, rfl, hc1⟩ := ints_cells h1 (by omega)
        obtain ⟨b2, o2, rfl, hc2⟩ := ints_cells h2 (by omega)
        refine Wp_skip ?_
        refine thn_normal ?_
        refine Wp_seq ?_
        refine Wp_block ?_
        refine Wp_seq_region ?_
        refine WpL_val rfl rfl (by decide) (r_move (v := (.int .i64 ((k : Nat) : Int))) rfl) ?_
        refine WpL_val rfl rfl (by decide) (r_assign (v := (.int .i64 ((k : Nat) : Int))) rfl) ?_
        refine WpL_nil ?_
        refine Wp_seq_draw 8 mixed (by kernel_rfl) ?_
        intro w4 X4 _
        replace E := E.ext X4
        refine WpT_val rfl rfl (by decide) (r_move (v := (.slice (some ⟨b1, o1, none⟩) l1.length c1)) rfl) ?_
        refine WpT_val rfl rfl (by decide) (r_move (v := (.int .i64 ((k : Nat) : Int))) rfl) ?_
        refine WpT_val rfl rfl (by decide) (r_indexSlice (b := b1) (o := o1) (len := l1.length) (cap := c1) (i := k) (o' := o1 + k) rfl rfl rfl Try.underlying22 siz3 (by omega) (by omega)) ?_
        refine WpT_val rfl rfl (by decide) (r_load (v := (.int .i64 p)) rfl flat3 (E.cell (fun f => f) (hc1 k p hp))) ?_
        refine WpT_val rfl rfl (by decide) (r_move (v := (.slice (some ⟨b2, o2, none⟩) l2.length c2)) rfl) ?_
        refine WpT_val rfl rfl (by decide) (r_move (v := (.int .i64 ((k : Nat) : Int))) rfl) ?_
        refine WpT_val rfl rfl (by decide) (r_indexSlice (b := b2) (o := o2) (len := l2.length) (cap := c2) (i := k) (o' := o2 + k) rfl rfl rfl Try.underlying22 siz3 (by omega) (by omega)) ?_
        refine WpT_val rfl rfl (by decide) (r_load (v := (.int .i64 q)) rfl flat3 (E.cell (fun f => f) (hc2 k q hq))) ?_
        refine WpT_zero ?_
        refine WpL_val rfl rfl (by decide) (r_neq (k := .i64) (a := p) (b := q) rfl rfl) ?_
        refine WpL_nil ?_
        refine Wp_cond (b := decide ((p : Int) ≠ q)) rfl (fun hpq => ?_) (fun hpq => ?_)
        · have khpq := hpq
          replace hpq := of_decide_eq_true hpq
          refine Wp_seq_region ?_
          refine WpL_val rfl rfl (by decide) (r_assign (v := (.bool false)) rfl) ?_
          refine WpL_nil ?_
          refine Wp_ret ?_
          refine inB_ret ?_
          refine thn_ret ?_
          refine thn_ret ?_
          refine inB_ret ?_
          refine thn_ret ?_
          refine fin_tmp Try.results28 (v := (.bool false)) rfl ?_
          exact ⟨bool_eq (by symm; rw [decide_eq_false_iff_not]; intro h; subst h; rw [hp] at hq; cases hq; exact hpq rfl), E⟩
        · have khpq := hpq
          replace hpq := of_decide_eq_false hpq
          have hpq2 : p = q := by omega
          refine Wp_skip ?_
          refine inB_normal ?_
          refine thn_normal ?_
          refine Wp_region ?_
          refine WpL_val rfl rfl (by decide) (r_add (k := .i64) (a := ((k : Nat) : Int)) (b := 1) (c := ((k : Nat) : Int) + 1) rfl rfl (wI64 (by omega))) ?_
          refine WpL_val rfl rfl (by decide) (r_move (v := (.int .i64 (((k : Nat) : Int) + 1))) rfl) ?_
          refine WpL_nil ?_
          refine thn_normal ?_
          exact ⟨l1.length - (k + 1), by omega, k + 1, Fits.out ⟨rfl, rfl, rfl, rfl, trivial⟩, E, (by omega), (fun i hi => by rcases Nat.lt_or_ge i k with h | h; exact heq i h; obtain rfl : i = k := (by omega); rw [hp, hq, hpq2]), rfl⟩
      · have khlt := hlt
        replace hlt := of_decide_eq_false hlt
        have hkk : k = l1.length := by omega
        refine Wp_exit ?_
        refine thn_exit ?_
        refine thn_exit ?_
        refine inB_here ?_
        refine thn_normal ?_
        refine Wp_seq_region ?_
        refine WpL_val rfl rfl (by decide) (r_assign (v := (.bool true)) rfl) ?_
        refine WpL_nil ?_
        refine Wp_ret ?_
        refine fin_tmp Try.results28 (v := (.bool true)) rfl ?_
        exact ⟨bool_eq (by symm; rw [decide_eq_true_eq]; exact get_ext (by omega) (fun i hi => heq i (by omega))), E⟩
def evnD : Dfa := ⟨0, [0, -1], [[1], [0]]⟩
theorem evn_c (w0 : World) : Ret Try.prog 27 #[] w0 fun r w => (∃ vs, r = .agg vs.toArray ∧ DfaAt w evnD vs) ∧ Ext w0 w := by
  refine Ret_of Try.func27 rfl Try.ntmps27 (Nat.le_of_ble_eq_true rfl) ?_
  have E : Chg none1 w0 w0 := Chg.refl _ _
  refine Wp_seq_region ?_
  refine s_alloc (c := #[(.int .i64 0), (.slice none 0 0), (.slice none 0 0)]) (by decide) zer25 rfl ?_
  intro bt wt Nt
  have Ft := Nt.ge E
  replace E := E.ext Nt.ext
  have Bt := Nt.blk
  refine WpL_nil ?_
  refine Wp_seq_region ?_
  refine s_buildSlice (ps := [(0, (.int .i64 0)), (1, (.int .i64 (-1)))]) (c := #[(.int .i64 0), (.int .i64 (-1))]) (by decide) rfl Try.underlying22 siz3 zer3 (by decide) (by decide) (by kernel_rfl) ?_
  intro ba wa Na
  have Fa := Na.ge E
  have Oa_bt := Na.lt Bt
  replace Bt := Na.keep Bt
  replace E := E.ext Na.ext
  have Ba := Na.blk
  refine s_buildSlice (ps := [(0, (.int .i64 1))]) (c := #[(.int .i64 1)]) (by decide) rfl Try.underlying22 siz3 zer3 (by decide) (by decide) (by kernel_rfl) ?_
  intro bp wp Np
  have Fp := Np.ge E
  have Op_bt := Np.lt Bt
  have Op_ba := Np.lt Ba
  replace Bt := Np.keep Bt
  replace Ba := Np.keep Ba
  replace E := E.ext Np.ext
  have Bp := Np.blk
  refine s_buildSlice (ps := [(0, (.int .i64 0))]) (c := #[(.int .i64 0)]) (by decide) rfl Try.underlying22 siz3 zer3 (by decide) (by decide) (by kernel_rfl) ?_
  intro bq wq Nq
  have Fq := Nq.ge E
  have Oq_bt := Nq.lt Bt
  have Oq_ba := Nq.lt Ba
  have Oq_bp := Nq.lt Bp
  replace Bt := Nq.keep Bt
  replace Ba := Nq.keep Ba
  replace Bp := Nq.keep Bp
  replace E := E.ext Nq.ext
  have Bq := Nq.blk
  refine s_buildSlice (ps := [(0, (.slice (some ⟨bp, 0, none⟩) 1 1)), (1, (.slice (some ⟨bq, 0, none⟩) 1 1))]) (c := #[(.slice (some ⟨bp, 0, none⟩) 1 1), (.slice (some ⟨bq, 0, none⟩) 1 1)]) (by decide) rfl Try.underlying23 siz22 zer22 (by decide) (by decide) (by kernel_rfl) ?_
  intro bn wn Nn
  have Fn := Nn.ge E
  have On_bt := Nn.lt Bt
  have On_ba := Nn.lt Ba
  have On_bp := Nn.lt Bp
  have On_bq := Nn.lt Bq
  replace Bt := Nn.keep Bt
  replace Ba := Nn.keep Ba
  replace Bp := Nn.keep Bp
  replace Bq := Nn.keep Bq
  replace E := E.ext Nn.ext
  have Bn := Nn.blk
  refine WpL_val rfl rfl (by decide) (r_build (ps := [(1, (.slice (some ⟨ba, 0, none⟩) 2 2)), (2, (.slice (some ⟨bn, 0, none⟩) 2 2))]) (v := (.agg #[(.int .i64 0), (.slice (some ⟨ba, 0, none⟩) 2 2), (.slice (some ⟨bn, 0, none⟩) 2 2)])) rfl (by kernel_rfl)) ?_
  refine s_storeAgg (b := bt) (o := 0) (c' := #[(.int .i64 0), (.slice (some ⟨ba, 0, none⟩) 2 2), (.slice (some ⟨bn, 0, none⟩) 2 2)]) rfl rfl (by simp [Value.oneCell']) siz25 rfl Bt (by simp) rfl ?_
  intro w1 S1
  replace Ba := S1.keep (by omega) Ba
  replace Bp := S1.keep (by omega) Bp
  replace Bq := S1.keep (by omega) Bq
  replace Bn := S1.keep (by omega) Bn
  replace E := S1.step E (by first | exact Or.inl (by omega) | exact Or.inr rfl | exact Or.inr (by assumption) | exact Or.inr (by simp) | exact Or.inr (by omega) | exact Or.inr (by dsimp only; omega))
  replace Bt := S1.blk
  refine WpL_nil ?_
  refine Wp_ret ?_
  refine fin_agg Try.results27 (vs := [(.int .i64 0), (.slice (some ⟨ba, 0, none⟩) 2 2), (.slice (some ⟨bn, 0, none⟩) 2 2)]) (b := bt) rfl agg25 siz25 rfl (Bt.cells rfl) ?_
  refine ⟨⟨_, rfl, ?_⟩, E⟩
  refine ⟨_, _, _, _, rfl, ints_own (l := [0, -1]) (rest := []) Ba (by decide) (by decide), [.slice (some ⟨bp, 0, none⟩) 1 1, .slice (some ⟨bq, 0, none⟩) 1 1], ⟨_, _, rfl, by simp, by simp, .inr ⟨bn, 0, rfl, ?_⟩⟩, rfl, ?_⟩
  · intro i r hr
    rcases i with _ | _ | i
    · simp at hr; subst hr
      intro j u hu
      cases j with
      | zero => simp at hu; subst hu; exact Bn.cell rfl
      | succ j => simp at hu
    · simp at hr; subst hr
      intro j u hu
      cases j with
      | zero => simp at hu; subst hu; exact Bn.cell rfl
      | succ j => simp at hu
    · simp at hr
  · intro i u l hu hl
    rcases i with _ | _ | i
    · simp [evnD] at hu hl; subst hu; subst hl; exact ints_own (l := [1]) (rest := []) Bp (by decide) (by decide)
    · simp [evnD] at hu hl; subst hu; subst hl; exact ints_own (l := [0]) (rest := []) Bq (by decide) (by decide)
    · simp at hu

theorem plain_d (w0 : World) (v : Value) (l : List Int) (hl : IntsAt w0 v l) :
    Ret Try.prog 21 #[v, .int .i64 3] w0 fun r w => (∃ n d aa ac na nc, (1 ≤ n ∧ n ≤ 6) ∧ OkD n 3 d ∧ (∀ x ∈ d.accept, x ≤ 0) ∧ r = .agg #[.int .i64 d.start, .slice aa n ac, .slice na n nc] ∧ DfaAt w d [.int .i64 d.start, .slice aa n ac, .slice na n nc]) ∧ Ext w0 w :=
  (plain_c w0 v l hl).mono fun r w h => by
    obtain ⟨⟨n, d, vs, h1, h2, h3, rfl, h4⟩, h5⟩ := h
    have h4' := h4
    obtain ⟨aa, ac, na, nc, rfl, _, _⟩ := h4
    rw [h2.nl, h2.al] at h4'
    exact ⟨⟨n, d, aa, ac, na, nc, h1, h2, h3, by rw [h2.nl, h2.al], h4'⟩, h5⟩
theorem evn_ok : OkD 2 1 evnD := ⟨rfl, rfl, by decide, by decide, by decide⟩
/-- What Least gives, in one form. -/
def LstW (n c : Nat) (f : List Nat → Int) (l : List Nat) (s : Bool) : Prop := (s = true → LeastOf c f l ∧ l.length < n) ∧ (s = false → l = [] ∧ ∀ u, inW c u → f u < 0)
theorem dfLeast_d (w0 : World) (n c : Nat) (d : Dfa) (dv : List Value) (ok : OkD n c d) (h : DfaAt w0 d dv) (hn : 1 ≤ n ∧ n ≤ 200) (hc : 1 ≤ c ∧ c ≤ 16) :
    Ret Try.prog 30 #[.agg dv.toArray] w0 fun r w => (∃ l a cc s, r = .tuple #[.slice a l.length cc, .bool s, .int .i64 0] ∧ IntsAt w (.slice a l.length cc) (toI l) ∧ LstW n c (beh d d.start) l s) ∧ Ext w0 w :=
  (dfLeast_c w0 n c d dv ok h hn hc).mono fun r w h => by
    obtain ⟨h1, h2⟩ := h
    refine ⟨?_, h2⟩
    rcases h1 with ⟨l, a, cc, rfl, h3, h4, h5⟩ | ⟨rfl, h3⟩
    · exact ⟨l, a, cc, true, rfl, h3, fun _ => ⟨h4, h5⟩, fun h => by cases h⟩
    · exact ⟨[], none, 0, false, rfl, SlAt.nil _ _ _ _, (fun h => by cases h), fun _ => ⟨rfl, h3⟩⟩
theorem LstW.inw {n c : Nat} {f : List Nat → Int} {l : List Nat} {s : Bool} (h : LstW n c f l s) (hn : 1 ≤ n) : inW c l ∧ l.length < n := by
  cases s with
  | true => exact ⟨(h.1 rfl).1.inw, (h.1 rfl).2⟩
  | false => rw [(h.2 rfl).1]; exact ⟨inW.nil c, hn⟩
theorem LstW.cnt {n c : Nat} {f : List Nat → Int} {l : List Nat} {s : Bool} (h : LstW n c f l s) {k : Nat} (hk : k < l.length) : cntF c k f = 0 := by
  have hm : ∀ u, inW c u → u.length = k → f u < 0 := fun u hu hl => by
    cases s with
    | true => exact (h.1 rfl).1.min u hu (by omega)
    | false => exact (h.2 rfl).2 u hu
  rcases Int.lt_or_le 0 (cntF c k f) with h1 | h1
  · obtain ⟨u, h2, h3, h4⟩ := cntF_some h1
    have := hm u h3 h2
    omega
  · have := cntF_nn (c := c) (k := k) (f := f); omega
theorem toI_rng {c : Nat} {l : List Nat} (h : inW c l) : ∀ x ∈ toI l, 0 ≤ x ∧ x < c := fun x hx => by
  obtain ⟨y, hy, rfl⟩ := List.mem_map.1 hx
  have := h y hy
  omega
end Go.Proofs
