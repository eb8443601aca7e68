/- Contracts and plain lemmas, part 5. -/
import Derived.Tactics
import Derived.Deep.Quiet
import Derived.Laws.AppendOwn
import Derived.KernelRfl
import Derived.Laws.Entries
import Derived.Laws.Build
import Derived.Below
import Derived.RowKit3
import Derived.StillTail
import Derived.Sort.Grow
import Derived.Deep.Draws
import Derived.Test.YtncmfkibflogkaaChecked
import Derived.Laws.StructEq
import Derived.Laws.MakeOwn
import Derived.MapKept
import Derived.Laws.BytesArg
import Derived.Laws.CopyRow
import Derived.DeepKeys3
import Derived.OpenShut
import Derived.ChangeSlices
import Derived.Test.YtncmfkibflogkaaPb4
namespace Go.Proofs
open Go Go.Eng Go.Sort
set_option maxRecDepth 100000
theorem MStP.chg {base top ka kn : Nat} {vals : List Value} {D M : Nat → Prop} {w w' : World} {va vn : Value} {acc : List Int} {rows : List (List Int)} (c : Chg M w w') (hM : ∀ y, M y → y < base ∨ top ≤ y) (h : MStP base top vals D w va vn ka kn acc rows) : MStP base top vals D w' va vn ka kn acc rows := by
  obtain ⟨h1, h2, h3, h4, h5, h6, h7, h8⟩ := h
  have hb : ∀ y, base ≤ y → y < top → ¬ M y := fun y h hlt hm => by have := hM y hm; omega
  exact ⟨own_chg h1 c (fun q hq => hb q (h1.lt q hq).1 (h7 q (.inl hq))), own_chg h2 c (fun q hq => hb q (h2.lt q hq).1 (h7 q (.inr hq))), h3, fun i u l hu hl => (h4 i u l hu hl).chg c (fun y hy => hb y (h6 y hy).1.1 (h6 y hy).1.2), h5, h6, h7, Nat.le_trans h8 c.size⟩
theorem MStP.ext {base top ka kn : Nat} {vals : List Value} {D : Nat → Prop} {w w' : World} {va vn : Value} {acc : List Int} {rows : List (List Int)} (c : Ext w w') (h : MStP base top vals D w va vn ka kn acc rows) : MStP base top vals D w' va vn ka kn acc rows := MStP.chg c (fun _ f => f.elim) h
theorem MStP.row {base top n nc c ka : Nat} {vals : List Value} {D : Nat → Prop} {w : World} {va : Value} {acc row : List Int} {rows : List (List Int)} {gn s : Nat} (h : MStP base top vals D w va (.slice (some ⟨gn, 0, none⟩) n nc) ka n acc rows) (hr : rows[s]? = some row) (hn : rows.length = n) (hl : row.length = c) (hc : 0 < c) :
    ∃ rb ro rc, vals[s]? = some (.slice (some ⟨rb, ro, none⟩) c rc) ∧ w.cell? ⟨gn, 0 + s, none⟩ = some (.slice (some ⟨rb, ro, none⟩) c rc) ∧ CellsAt w rb ro (row.map (Value.int .i64)) := by
  obtain ⟨h1, h2, h3, h4, h5, h6, h7, h8⟩ := h
  have hsl := lt_of_get hr
  obtain ⟨u, hu⟩ := get_of_lt (l := vals) (i := s) (by omega)
  have hs := (h4 s u row hu hr).at
  obtain ⟨ra, rc, rfl⟩ := SlAt.form hs
  simp only [List.length_map] at hs hu
  rw [hl] at hs hu
  obtain ⟨rb, ro, rfl, hx⟩ := ints_cells hs hc
  obtain ⟨g9, hg9, _, hca⟩ := own_cells h2 (by omega)
  simp only [Option.some.injEq, Addr.mk.injEq, and_true] at hg9
  subst hg9
  refine ⟨rb, ro, rc, hu, hca s _ hu, fun j v hv => ?_⟩
  rw [List.getElem?_map] at hv
  cases hj : row[j]? with
  | none => rw [hj] at hv; cases hv
  | some y => rw [hj] at hv; simp only [Option.map_some, Option.some.injEq] at hv; subst hv; exact hx j y hj
theorem MSt.own {base top n : Nat} {w : World} {va vn : Value} {acc : List Int} {rows : List (List Int)} {aa na : Option Addr} {ac nc : Nat} (h : MSt base top w (.slice aa n ac) (.slice na n nc) n n acc rows) (hn : 0 < n) : ∃ ga gn, aa = some ⟨ga, 0, none⟩ ∧ na = some ⟨gn, 0, none⟩ ∧ base ≤ ga ∧ base ≤ gn ∧ ga < top ∧ gn < top ∧ ga ≠ gn := by
  obtain ⟨vals, D, h1, h2, h3, h4, h5, h6, h7, h8⟩ := h
  obtain ⟨ga, rfl, hg1, _⟩ := own_cells h1 hn
  obtain ⟨gn, rfl, hg2, _⟩ := own_cells h2 hn
  exact ⟨ga, gn, rfl, rfl, hg1, hg2, h7 ga (.inl rfl), h7 gn (.inr rfl), fun e => h5 ga rfl (by rw [e]; rfl)⟩
end Go.Proofs
namespace Go.Proofs
open Go Go.Eng Go.Sort
set_option maxRecDepth 100000
set_option maxHeartbeats 400000 in
theorem eql2_c (w0 : World) (v1 v2 : Value) (l1 l2 : List Int) (h1 : IntsAt w0 v1 l1) (h2 : IntsAt w0 v2 l2) :
    Ret Try.prog 28 #[v1, v2] w0 fun v w => v = .bool (decide (l1 = l2)) ∧ Ext w0 w := by
  obtain ⟨a1, c1, rfl⟩ := SlAt.form h1
  obtain ⟨a2, c2, rfl⟩ := SlAt.form h2
  have hb1 : l1.length ≤ 9223372036854775807 := by simpa using SlAt.le h1
  simp only [List.length_map] at h1 h2 ⊢
  refine Ret_of Try.func28 rfl Try.ntmps28 (Nat.le_of_ble_eq_true rfl) ?_
  have E : Chg none1 w0 w0 := Chg.refl _ _
  refine Wp_seq_region ?_
  refine WpL_val rfl rfl (by decide) (r_assign (v := (.bool false)) rfl) ?_
  refine WpL_nil ?_
  refine Wp_seq ?_
  refine Wp_seq_region ?_
  refine WpL_val rfl rfl (by decide) (r_move (v := (.slice a1 l1.length c1)) rfl) ?_
  refine WpL_val rfl rfl (by decide) (r_lenSlice (ad := a1) (n := l1.length) (cap := c1) Try.underlying22 rfl) ?_
  refine WpL_val rfl rfl (by decide) (r_move (v := (.slice a2 l2.length c2)) rfl) ?_
  refine WpL_val rfl rfl (by decide) (r_lenSlice (ad := a2) (n := l2.length) (cap := c2) Try.underlying22 rfl) ?_
  refine WpL_val rfl rfl (by decide) (r_neq (k := .i64) (a := ((l1.length : Nat) : Int)) (b := ((l2.length : Nat) : Int)) rfl rfl) ?_
  refine WpL_nil ?_
  refine Wp_cond (b := decide ((((l1.length : Nat) : Int) : Int) ≠ ((l2.length : Nat) : Int))) rfl (fun hl => ?_) (fun hl => ?_)
  · have khl := hl
    replace hl := of_decide_eq_true hl
    refine Wp_seq_region ?_
    refine WpL_val rfl rfl (by decide) (r_assign (v := (.bool false)) rfl) ?_
    refine WpL_nil ?_
    refine Wp_ret ?_
    refine thn_ret ?_
    refine fin_tmp Try.results28 (v := (.bool false)) rfl ?_
    exact ⟨bool_eq (by symm; rw [decide_eq_false_iff_not]; intro h; rw [h] at hl; exact hl rfl), E⟩
  · have khl := hl
    replace hl := of_decide_eq_false hl
    refine Wp_skip ?_
    refine thn_normal ?_
    refine Wp_seq ?_
    refine Wp_seq_region ?_
    refine WpL_val rfl rfl (by decide) (r_move (v := (.slice a1 l1.length c1)) rfl) ?_
    refine WpL_val rfl rfl (by decide) (r_lenSlice (ad := a1) (n := l1.length) (cap := c1) Try.underlying22 rfl) ?_
    refine WpL_val rfl rfl (by decide) (r_move (v := (.int .i64 0)) rfl) ?_
    refine WpL_nil ?_
    refine Wp_block ?_
    refine Wp_loop (fun nn_ σ W2 => ∃ (k : Nat), (∃ jj_, σ = upds jj_ [(0, (.slice a1 l1.length c1)), (1, (.slice a2 l2.length c2)), (12, (.int .i64 ((l1.length : Nat) : Int))), (13, (.int .i64 ((k : Nat) : Int)))]) ∧ Chg none1 w0 W2 ∧ (k ≤ l1.length) ∧ (∀ (i : Nat), i < k → l1[i]? = l2[i]?) ∧ nn_ = l1.length - k) (n := l1.length - 0) ?_ ?_
    · exact ⟨0, Fits.out ⟨rfl, rfl, rfl, rfl, trivial⟩, E, Nat.zero_le _, (fun i h => absurd h (Nat.not_lt_zero _)), rfl⟩
    · clear E
      rintro _ _ W2 ⟨k, ⟨j2, rfl⟩, E, hk, heq, rfl⟩
      refine Wp_seq_region ?_
      refine WpL_val rfl rfl (by decide) (r_lss (k := .i64) (a := ((k : Nat) : Int)) (b := ((l1.length : Nat) : Int)) rfl rfl) ?_
      refine WpL_nil ?_
      refine Wp_seq ?_
      refine Wp_cond (b := decide ((((k : Nat) : Int) : Int) < ((l1.length : Nat) : Int))) rfl (fun hlt => ?_) (fun hlt => ?_)
      · have khlt := hlt
        replace hlt := of_decide_eq_true hlt
        obtain ⟨p, hp⟩ := get_of_lt (l := l1) (i := k) (by omega)
        obtain ⟨q, hq⟩ := get_of_lt (l := l2) (i := k) (by omega)
        obtain ⟨b1, o1, rfl, hc1⟩ := ints_cells h1 (by omega)
        obtain ⟨b2, o2, rfl, hc2⟩ := ints_cells h2 (by omega)
        refine Wp_skip ?_
        refine thn_normal ?_
        refine Wp_seq ?_
        refine Wp_block ?_
        refine Wp_seq_region ?_
        refine WpL_val rfl rfl (by decide) (r_move (v := (.int .i64 ((k : Nat) : Int))) rfl) ?_
        refine WpL_val rfl rfl (by decide) (r_assign (v := (.int .i64 ((k : Nat) : Int))) rfl) ?_
        refine WpL_nil ?_
        refine Wp_seq_draw 8 mixed (by kernel_rfl) ?_
        intro w4 X4 _
        replace E := E.ext X4
        refine WpT_val rfl rfl (by decide) (r_move (v := (.slice (some ⟨b1, o1, none⟩) l1.length c1)) rfl) ?_
        refine WpT_val rfl rfl (by decide) (r_move (v := (.int .i64 ((k : Nat) : Int))) rfl) ?_
        refine WpT_val rfl rfl (by decide) (r_indexSlice (b := b1) (o := o1) (len := l1.length) (cap := c1) (i := k) (o' := o1 + k) rfl rfl rfl Try.underlying22 siz3 (by omega) (by omega)) ?_
        refine WpT_val rfl rfl (by decide) (r_load (v := (.int .i64 p)) rfl flat3 (E.cell (fun f => f) (hc1 k p hp))) ?_
        refine WpT_val rfl rfl (by decide) (r_move (v := (.slice (some ⟨b2, o2, none⟩) l2.length c2)) rfl) ?_
        refine WpT_val rfl rfl (by decide) (r_move (v := (.int .i64 ((k : Nat) : Int))) rfl) ?_
        refine WpT_val rfl rfl (by decide) (r_indexSlice (b := b2) (o := o2) (len := l2.length) (cap := c2) (i := k) (o' := o2 + k) rfl rfl rfl Try.underlying22 siz3 (by omega) (by omega)) ?_
        refine WpT_val rfl rfl (by decide) (r_load (v := (.int .i64 q)) rfl flat3 (E.cell (fun f => f) (hc2 k q hq))) ?_
        refine WpT_zero ?_
        refine WpL_val rfl rfl (by decide) (r_neq (k := .i64) (a := p) (b := q) rfl rfl) ?_
        refine WpL_nil ?_
        refine Wp_cond (b := decide ((p : Int) ≠ q)) rfl (fun hpq => ?_) (fun hpq => ?_)
        · have khpq := hpq
          replace hpq := of_decide_eq_true hpq
          refine Wp_seq_region ?_
          refine WpL_val rfl rfl (by decide) (r_assign (v := (.bool false)) rfl) ?_
          refine WpL_nil ?_
          refine Wp_ret ?_
          refine inB_ret ?_
          refine thn_ret ?_
          refine thn_ret ?_
          refine inB_ret ?_
          refine thn_ret ?_
          refine fin_tmp Try.results28 (v := (.bool false)) rfl ?_
          exact ⟨bool_eq (by symm; rw [decide_eq_false_iff_not]; intro h; subst h; rw [hp] at hq; cases hq; exact hpq rfl), E⟩
        · have khpq := hpq
          replace hpq := of_decide_eq_false hpq
          have hpq2 : p = q := by omega
          refine Wp_skip ?_
          refine inB_normal ?_
          refine thn_normal ?_
          refine Wp_region ?_
          refine WpL_val rfl rfl (by decide) (r_add (k := .i64) (a := ((k : Nat) : Int)) (b := 1) (c := ((k : Nat) : Int) + 1) rfl rfl (wI64 (by omega))) ?_
          refine WpL_val rfl rfl (by decide) (r_move (v := (.int .i64 (((k : Nat) : Int) + 1))) rfl) ?_
          refine WpL_nil ?_
          refine thn_normal ?_
          exact ⟨l1.length - (k + 1), by omega, k + 1, Fits.out ⟨rfl, rfl, rfl, rfl, trivial⟩, E, (by omega), (fun i hi => by rcases Nat.lt_or_ge i k with h | h; exact heq i h; obtain rfl : i = k := (by omega); rw [hp, hq, hpq2]), rfl⟩
      · have khlt := hlt
        replace hlt := of_decide_eq_false hlt
        have hkk : k = l1.length := by omega
        refine Wp_exit ?_
        refine thn_exit ?_
        refine thn_exit ?_
        refine inB_here ?_
        refine thn_normal ?_
        refine Wp_seq_region ?_
        refine WpL_val rfl rfl (by decide) (r_assign (v := (.bool true)) rfl) ?_
        refine WpL_nil ?_
        refine Wp_ret ?_
        refine fin_tmp Try.results28 (v := (.bool true)) rfl ?_
        exact ⟨bool_eq (by symm; rw [decide_eq_true_eq]; exact get_ext (by omega) (fun i hi => heq i (by omega))), E⟩
def evnD : Dfa := ⟨0, [0, -1], [[1], [0]]⟩
theorem evn_c (w0 : World) : Ret Try.prog 27 #[] w0 fun r w => (∃ vs, r = .agg vs.toArray ∧ DfaAt w evnD vs) ∧ Ext w0 w := by
  refine Ret_of Try.func27 rfl Try.ntmps27 (Nat.le_of_ble_eq_true rfl) ?_
  have E : Chg none1 w0 w0 := Chg.refl _ _
  refine Wp_seq_region ?_
  refine s_alloc (c := #[(.int .i64 0), (.slice none 0 0), (.slice none 0 0)]) (by decide) zer25 rfl ?_
  intro bt wt Nt
  have Ft := Nt.ge E
  replace E := E.ext Nt.ext
  have Bt := Nt.blk
  refine WpL_nil ?_
  refine Wp_seq_region ?_
  refine s_buildSlice (ps := [(0, (.int .i64 0)), (1, (.int .i64 (-1)))]) (c := #[(.int .i64 0), (.int .i64 (-1))]) (by decide) rfl Try.underlying22 siz3 zer3 (by decide) (by decide) (by kernel_rfl) ?_
  intro ba wa Na
  have Fa := Na.ge E
  have Oa_bt := Na.lt Bt
  replace Bt := Na.keep Bt
  replace E := E.ext Na.ext
  have Ba := Na.blk
  refine s_buildSlice (ps := [(0, (.int .i64 1))]) (c := #[(.int .i64 1)]) (by decide) rfl Try.underlying22 siz3 zer3 (by decide) (by decide) (by kernel_rfl) ?_
  intro bp wp Np
  have Fp := Np.ge E
  have Op_bt := Np.lt Bt
  have Op_ba := Np.lt Ba
  replace Bt := Np.keep Bt
  replace Ba := Np.keep Ba
  replace E := E.ext Np.ext
  have Bp := Np.blk
  refine s_buildSlice (ps := [(0, (.int .i64 0))]) (c := #[(.int .i64 0)]) (by decide) rfl Try.underlying22 siz3 zer3 (by decide) (by decide) (by kernel_rfl) ?_
  intro bq wq Nq
  have Fq := Nq.ge E
  have Oq_bt := Nq.lt Bt
  have Oq_ba := Nq.lt Ba
  have Oq_bp := Nq.lt Bp
  replace Bt := Nq.keep Bt
  replace Ba := Nq.keep Ba
  replace Bp := Nq.keep Bp
  replace E := E.ext Nq.ext
  have Bq := Nq.blk
  refine s_buildSlice (ps := [(0, (.slice (some ⟨bp, 0, none⟩) 1 1)), (1, (.slice (some ⟨bq, 0, none⟩) 1 1))]) (c := #[(.slice (some ⟨bp, 0, none⟩) 1 1), (.slice (some ⟨bq, 0, none⟩) 1 1)]) (by decide) rfl Try.underlying23 siz22 zer22 (by decide) (by decide) (by kernel_rfl) ?_
  intro bn wn Nn
  have Fn := Nn.ge E
  have On_bt := Nn.lt Bt
  have On_ba := Nn.lt Ba
  have On_bp := Nn.lt Bp
  have On_bq := Nn.lt Bq
  replace Bt := Nn.keep Bt
  replace Ba := Nn.keep Ba
  replace Bp := Nn.keep Bp
  replace Bq := Nn.keep Bq
  replace E := E.ext Nn.ext
  have Bn := Nn.blk
  refine WpL_val rfl rfl (by decide) (r_build (ps := [(1, (.slice (some ⟨ba, 0, none⟩) 2 2)), (2, (.slice (some ⟨bn, 0, none⟩) 2 2))]) (v := (.agg #[(.int .i64 0), (.slice (some ⟨ba, 0, none⟩) 2 2), (.slice (some ⟨bn, 0, none⟩) 2 2)])) rfl (by kernel_rfl)) ?_
  refine s_storeAgg (b := bt) (o := 0) (c' := #[(.int .i64 0), (.slice (some ⟨ba, 0, none⟩) 2 2), (.slice (some ⟨bn, 0, none⟩) 2 2)]) rfl rfl (by simp [Value.oneCell']) siz25 rfl Bt (by simp) rfl ?_
  intro w1 S1
  replace Ba := S1.keep (by omega) Ba
  replace Bp := S1.keep (by omega) Bp
  replace Bq := S1.keep (by omega) Bq
  replace Bn := S1.keep (by omega) Bn
  replace E := S1.step E (by first | exact Or.inl (by omega) | exact Or.inr rfl | exact Or.inr (by assumption) | exact Or.inr (by simp) | exact Or.inr (by omega) | exact Or.inr (by dsimp only; omega))
  replace Bt := S1.blk
  refine WpL_nil ?_
  refine Wp_ret ?_
  refine fin_agg Try.results27 (vs := [(.int .i64 0), (.slice (some ⟨ba, 0, none⟩) 2 2), (.slice (some ⟨bn, 0, none⟩) 2 2)]) (b := bt) rfl agg25 siz25 rfl (Bt.cells rfl) ?_
  refine ⟨⟨_, rfl, ?_⟩, E⟩
  refine ⟨_, _, _, _, rfl, ints_own (l := [0, -1]) (rest := []) Ba (by decide) (by decide), [.slice (some ⟨bp, 0, none⟩) 1 1, .slice (some ⟨bq, 0, none⟩) 1 1], ⟨_, _, rfl, by simp, by simp, .inr ⟨bn, 0, rfl, ?_⟩⟩, rfl, ?_⟩
  · intro i r hr
    rcases i with _ | _ | i
    · simp at hr; subst hr
      intro j u hu
      cases j with
      | zero => simp at hu; subst hu; exact Bn.cell rfl
      | succ j => simp at hu
    · simp at hr; subst hr
      intro j u hu
      cases j with
      | zero => simp at hu; subst hu; exact Bn.cell rfl
      | succ j => simp at hu
    · simp at hr
  · intro i u l hu hl
    rcases i with _ | _ | i
    · simp [evnD] at hu hl; subst hu; subst hl; exact ints_own (l := [1]) (rest := []) Bp (by decide) (by decide)
    · simp [evnD] at hu hl; subst hu; subst hl; exact ints_own (l := [0]) (rest := []) Bq (by decide) (by decide)
    · simp at hu
theorem evn_ok : OkD 2 1 evnD := ⟨rfl, rfl, by decide, by decide, by decide⟩
/-- What Least gives, in one form. -/
def LstW (n c : Nat) (f : List Nat → Int) (l : List Nat) (s : Bool) : Prop := (s = true → LeastOf c f l ∧ l.length < n) ∧ (s = false → l = [] ∧ ∀ u, inW c u → f u < 0)
theorem LstW.inw {n c : Nat} {f : List Nat → Int} {l : List Nat} {s : Bool} (h : LstW n c f l s) (hn : 1 ≤ n) : inW c l ∧ l.length < n := by
  cases s with
  | true => exact ⟨(h.1 rfl).1.inw, (h.1 rfl).2⟩
  | false => rw [(h.2 rfl).1]; exact ⟨inW.nil c, hn⟩
theorem LstW.cnt {n c : Nat} {f : List Nat → Int} {l : List Nat} {s : Bool} (h : LstW n c f l s) {k : Nat} (hk : k < l.length) : cntF c k f = 0 := by
  have hm : ∀ u, inW c u → u.length = k → f u < 0 := fun u hu hl => by
    cases s with
    | true => exact (h.1 rfl).1.min u hu (by omega)
    | false => exact (h.2 rfl).2 u hu
  rcases Int.lt_or_le 0 (cntF c k f) with h1 | h1
  · obtain ⟨u, h2, h3, h4⟩ := cntF_some h1
    have := hm u h3 h2
    omega
  · have := cntF_nn (c := c) (k := k) (f := f); omega
end Go.Proofs
namespace Go.Eng
open Go
end Go.Eng
namespace Go.Proofs
open Go Go.Eng Go.Sort
set_option maxRecDepth 100000
--BEGIN
section
variable {α : Type}
/-- An entry of a row: the number of the key that follows, or -1. -/
def EntX (stp : α → Nat → Option α) (keys : List α) (k : α) (x : Nat) (y : Int) : Prop := match stp k x with | none => y = -1 | some b => ∃ j : Nat, y = ((j : Nat) : Int) ∧ keys[j]? = some b
theorem EntX.mono {stp : α → Nat → Option α} {keys : List α} {k : α} {x : Nat} {y : Int} (h : EntX stp keys k x y) (u : List α) : EntX stp (keys ++ u) k x y := by
  unfold EntX at h ⊢
  cases hs : stp k x with
  | none => rw [hs] at h; exact h
  | some b => rw [hs] at h; obtain ⟨j, h1, h2⟩ := h; exact ⟨j, h1, by rw [List.getElem?_append_left (lt_of_get h2)]; exact h2⟩
structure ExpP (c : Nat) (stp : α → Nat → Option α) (a0 : α) (keys : List α) (rows : List (List Int)) (row : List Int) : Prop where
  k0 : keys[0]? = some a0
  nd : keys.Nodup
  rch : ∀ k ∈ keys, ∃ w, inW c w ∧ runO stp a0 w = some k
  len : ∀ r ∈ rows, r.length = c
  ent : ∀ (i x : Nat) r y k, rows[i]? = some r → r[x]? = some y → keys[i]? = some k → EntX stp keys k x y
  cur : ∀ (x : Nat) y k, row[x]? = some y → keys[rows.length]? = some k → EntX stp keys k x y
variable {c : Nat} {stp : α → Nat → Option α} {a0 : α} {keys : List α} {rows : List (List Int)} {row : List Int}
theorem ExpP.start (c : Nat) (stp : α → Nat → Option α) (a0 : α) : ExpP c stp a0 [a0] [] [] := by
  refine ⟨rfl, by simp, fun k hk => ?_, fun r h => (by cases h), fun i x r y k h => by simp at h, fun x y k h => by simp at h⟩
  rw [List.mem_singleton] at hk
  subst hk
  exact ⟨[], inW.nil c, rfl⟩
theorem ExpP.add {k : α} {y : Int} (h : ExpP c stp a0 keys rows row) (hk : keys[rows.length]? = some k) (hE : EntX stp keys k row.length y) : ExpP c stp a0 keys rows (row ++ [y]) := by
  refine { h with cur := fun x z q hx hq => ?_ }
  rcases snoc_get hx with h1 | ⟨h1, h2⟩
  · exact h.cur x z q h1 hq
  · rw [hk] at hq; cases hq
    rw [h1, h2]; exact hE
theorem ExpP.new {k b : α} (h : ExpP c stp a0 keys rows row) (hk : keys[rows.length]? = some k) (hx : row.length < c) (hs : stp k row.length = some b) (hb : b ∉ keys) : ExpP c stp a0 (keys ++ [b]) rows (row ++ [((keys.length : Nat) : Int)]) := by
  have hkl := lt_of_get hk
  have hE : EntX stp (keys ++ [b]) k row.length ((keys.length : Nat) : Int) := by
    unfold EntX; rw [hs]; exact ⟨keys.length, rfl, by simp⟩
  refine ⟨by rw [List.getElem?_append_left (lt_of_get h.k0)]; exact h.k0, ?_, fun q hq => ?_, h.len, fun i x r y q hr hy hq => ?_, fun x z q hz hq => ?_⟩
  · rw [List.nodup_append]
    refine ⟨h.nd, by simp, fun p hp q hq => ?_⟩
    rw [List.mem_singleton] at hq
    subst hq
    exact fun e => hb (e ▸ hp)
  · rcases List.mem_append.1 hq with h1 | h1
    · exact h.rch q h1
    · rw [List.mem_singleton] at h1
      subst h1
      obtain ⟨w, h2, h3⟩ := h.rch k (List.mem_of_getElem? hk)
      exact ⟨w ++ [row.length], h2.snoc hx, by rw [runO_snoc, h3]; exact hs⟩
  · rcases snoc_get hq with h1 | ⟨h1, _⟩
    · exact (h.ent i x r y q hr hy h1).mono _
    · have := lt_of_get hr; omega
  · have hq2 : q = k := by
      rw [List.getElem?_append_left hkl, hk] at hq
      exact (Option.some.inj hq).symm
    subst hq2
    rcases snoc_get hz with h1 | ⟨h1, h2⟩
    · exact (h.cur x z q h1 hk).mono _
    · rw [h1, h2]; exact hE
/-- What an explored automaton tells. -/
def behX (stp : α → Nat → Option α) (acc : α → Int) (k : α) (w : List Nat) : Int := match runO stp k w with | some b => acc b | none => -1
theorem ExpP.done {acc : α → Int} (h : ExpP c stp a0 keys rows []) (hl : rows.length = keys.length) (ha : ∀ k ∈ keys, -1 ≤ acc k) : OkD keys.length c ⟨0, keys.map acc, rows⟩ ∧ ∀ w, inW c w → beh ⟨0, keys.map acc, rows⟩ 0 w = behX stp acc a0 w := by
  have hk0 := lt_of_get h.k0
  have ok : OkD keys.length c ⟨0, keys.map acc, rows⟩ := ⟨hl, by simp, ⟨Int.le_refl _, by show (0 : Int) < _; omega⟩, fun x hx => by
    obtain ⟨k, hk, rfl⟩ := List.mem_map.1 hx
    exact ha k hk, fun r hr => by
    have hr : r ∈ rows := hr
    refine ⟨h.len r hr, fun y hy => ?_⟩
    obtain ⟨i, hi⟩ := List.getElem?_of_mem hr
    obtain ⟨x, hx⟩ := List.getElem?_of_mem hy
    obtain ⟨k, hk⟩ := get_of_lt (l := keys) (i := i) (by have := lt_of_get hi; omega)
    have hE := h.ent i x r y k hi hx hk
    unfold EntX at hE
    cases hs : stp k x with
    | none => rw [hs] at hE; simp only at hE; omega
    | some b => rw [hs] at hE; obtain ⟨j, h1, h2⟩ := hE; have := lt_of_get h2; omega⟩
  refine ⟨ok, ?_⟩
  have key : ∀ (w : List Nat) (i : Nat) (k : α), inW c w → keys[i]? = some k → beh ⟨0, keys.map acc, rows⟩ ((i : Nat) : Int) w = behX stp acc k w := by
    intro w
    induction w with
    | nil =>
      intro i k _ hk
      simp only [beh, behX, runO]
      exact atD_get (by simp [hk])
    | cons x w ih =>
      intro i k hw hk
      obtain ⟨r, hr⟩ := get_of_lt (l := rows) (i := i) (by have := lt_of_get hk; omega)
      obtain ⟨y, hy⟩ := get_of_lt (l := r) (i := x) (by have := h.len r (List.mem_of_getElem? hr); have := hw.head; omega)
      have hE := h.ent i x r y k hr hy hk
      simp only [beh, behX, runO]
      rw [toD_get (d := ⟨0, keys.map acc, rows⟩) hr hy]
      unfold EntX at hE
      cases hs : stp k x with
      | none => rw [hs] at hE; simp only at hE; simp only [Option.bind_none]; exact beh_neg (by omega)
      | some b =>
        rw [hs] at hE
        obtain ⟨j, rfl, h2⟩ := hE
        simp only [Option.bind_some]
        exact ih j b hw.tail h2
  intro w hw
  exact key w 0 a0 hw h.k0
end
--END
end Go.Proofs
namespace Go.Proofs
open Go Go.Eng Go.Sort
set_option maxRecDepth 100000
/-- An automaton in memory of its own, above a bound. -/
def DfaOwn (base : Nat) (D : Dfa) (r : Value) (w : World) : Prop := ∃ ea ec na nc vs, r = .agg #[.int .i64 D.start, .slice ea D.accept.length ec, .slice na D.next.length nc] ∧ OutSt w base (.slice ea D.accept.length ec) (.slice na D.next.length nc) vs D.accept D.next
theorem OutSt.low {w : World} {base b0 : Nat} {E N : Value} {vs : List Value} {acc : List Int} {rows : List (List Int)} (h : OutSt w base E N vs acc rows) (hb : b0 ≤ base) : OutSt w b0 E N vs acc rows :=
  ⟨own_low h.e hb, ⟨own_low h.n.o hb, h.n.len, fun i v p hv hp => own_low (h.n.inn i v p hv hp) hb, h.n.apo⟩, h.en, h.ei⟩
end Go.Proofs
namespace Go.Eng
open Go
def edgeB (l : List Oper) (t u : Nat) : Bool := match l[t]? with
  | some o => o.after.any fun e => Region.binds .any e && Nat.beq e.on u
  | none => false
def guardB (hd : List Bool) (o : Oper) : Bool := match o.guard with | some p => hd.getD p.1 false | none => true
/-- Each operation is of the head or of the tail, and one of the tail waits for the whole head or for another of the tail. -/
def tailPB (l : List Oper) (hd : List Bool) (ts : List Nat) : Bool :=
  (List.range l.length).all fun i => hd.getD i false || (ts.contains i && ((List.range l.length).all (fun u => !hd.getD u false || edgeB l i u) || ts.any fun p => !hd.getD p true && edgeB l i p))
def permB (ops : Array Oper) : List Nat → Array Bool → Bool
  | [], listed => (Region.ready .any ops listed).isEmpty
  | k :: ks, listed => decide (Region.ready .any ops listed = [k]) && permB ops ks (listed.setIfInBounds k true)
theorem wpAny_of_perm {P : Program} {ops : Array Oper} {Q' : Exit → Act → World → Prop} : ∀ (ks : List Nat) (listed : Array Bool) (a : Act) (w : World), permB ops ks listed = true → wpList P ops Q' (ks.filterMap fun k => ops[k]?) a w → wpAny P .any ops Q' ks.length listed a w
  | [], _, _, _, hB, h => ⟨by simpa [permB] using hB, h⟩
  | k :: ks, listed, a, w, hB, h => by
    simp only [permB, Bool.and_eq_true, decide_eq_true_eq] at hB
    refine ⟨fun h1 => (by rw [hB.1] at h1; cases h1), fun i hi => ?_⟩
    have hi0 := hi
    rw [hB.1] at hi
    have hik : i = k := by simpa using hi
    subst hik
    obtain ⟨_, o, h0, _⟩ := mem_ready.1 hi0
    have hw : wpOp P ops Q' i (wpList P ops Q' (ks.filterMap fun k => ops[k]?)) a w := by
      rw [List.filterMap_cons, h0] at h
      unfold wpOp; simp only [h0]; exact h
    exact wpOp_mono (fun a' w' h' => wpAny_of_perm ks _ a' w' hB.2 h') hw
inductive DagStepsP (P : Program) (N : Nat) (ds : List Nat) (Fs : List Fact) (σ : Env) (w : World) : List Oper → List (List Nat) → List Bool → List Fact → Prop where
  | nil : DagStepsP P N ds Fs σ w [] [] [] []
  | cons {o : Oper} {ws : List Nat} {F : Fact} {l : List Oper} {wss : List (List Nat)} {hs : List Bool} {Gs : List Fact} : DagStep P N ds Fs σ w o ws F → DagStepsP P N ds Fs σ w l wss hs Gs → DagStepsP P N ds Fs σ w (o :: l) (ws :: wss) (true :: hs) (F :: Gs)
  | tail {o : Oper} {ws : List Nat} {F : Fact} {l : List Oper} {wss : List (List Nat)} {hs : List Bool} {Gs : List Fact} : DagStepsP P N ds Fs σ w l wss hs Gs → DagStepsP P N ds Fs σ w (o :: l) (ws :: wss) (false :: hs) (F :: Gs)
theorem DagStepsP.get {P : Program} {N : Nat} {ds : List Nat} {Fs : List Fact} {σ : Env} {w : World} : ∀ {l : List Oper} {wss : List (List Nat)} {hs : List Bool} {Gs : List Fact}, DagStepsP P N ds Fs σ w l wss hs Gs → ∀ {j : Nat} {o : Oper}, l[j]? = some o → hs[j]? = some true → ∃ ws F, wss[j]? = some ws ∧ Gs[j]? = some F ∧ DagStep P N ds Fs σ w o ws F
  | _, _, _, _, .nil, j, o, h, _ => by simp at h
  | _, _, _, _, .cons h1 h2, 0, o, h, _ => by simp at h; subst h; exact ⟨_, _, rfl, rfl, h1⟩
  | _, _, _, _, .tail h2, 0, o, h, ht => by simp at ht
  | _, _, _, _, .cons h1 h2, j + 1, o, h, ht => by
    obtain ⟨ws, F, a, b, c⟩ := h2.get (j := j) (by simpa using h) (by simpa using ht)
    exact ⟨ws, F, by simpa using a, by simpa using b, c⟩
  | _, _, _, _, .tail h2, j + 1, o, h, ht => by
    obtain ⟨ws, F, a, b, c⟩ := h2.get (j := j) (by simpa using h) (by simpa using ht)
    exact ⟨ws, F, by simpa using a, by simpa using b, c⟩
/-- How many of the head are yet to come. -/
def leftH (hd : List Bool) (listed : List Bool) : Nat := ((hd.zip listed).filter fun p => p.1 && !p.2).length
theorem leftH_set : ∀ {hd listed : List Bool} {i : Nat}, hd[i]? = some true → listed[i]? = some false → leftH hd (listed.set i true) + 1 = leftH hd listed
  | [], _, _, h, _ => by simp at h
  | _ :: _, [], _, _, h => by simp at h
  | h :: hd, x :: listed, 0, h1, h2 => by
    simp at h1 h2
    subst h1; subst h2
    simp [leftH]
  | h :: hd, x :: listed, i + 1, h1, h2 => by
    have := leftH_set (hd := hd) (listed := listed) (i := i) (by simpa using h1) (by simpa using h2)
    simp only [leftH, List.set_cons_succ, List.zip_cons_cons, List.filter_cons] at this ⊢
    split
    · simp only [List.length_cons]; omega
    · exact this
theorem leftH_zero : ∀ {hd listed : List Bool}, hd.length = listed.length → leftH hd listed = 0 → (∀ (i : Nat), hd[i]? = some false → listed[i]? = some false) → listed = hd
  | [], [], _, _, _ => rfl
  | [], _ :: _, h, _, _ => by simp at h
  | _ :: _, [], h, _, _ => by simp at h
  | h :: hd, x :: listed, hl, h0, ht => by
    have e1 : leftH hd listed = 0 := by
      simp only [leftH, List.zip_cons_cons, List.filter_cons] at h0 ⊢
      split at h0
      · simp at h0
      · exact h0
    have e2 := leftH_zero (by simpa using hl) e1 fun i hi => by have := ht (i + 1) (by simpa using hi); simpa using this
    have e3 : x = h := by
      cases h with
      | false => have := ht 0 rfl; simpa using this
      | true =>
        cases x with
        | true => rfl
        | false => simp [leftH] at h0
    rw [e2, e3]
theorem leftH_pos : ∀ {hd listed : List Bool}, 0 < leftH hd listed → ∃ i : Nat, hd[i]? = some true ∧ listed[i]? = some false
  | [], _, h => by simp [leftH] at h
  | _ :: _, [], h => by simp [leftH] at h
  | h :: hd, x :: listed, hp => by
    simp only [leftH, List.zip_cons_cons, List.filter_cons] at hp
    split at hp
    · rename_i hc
      simp at hc
      exact ⟨0, by simp [hc.1], by simp [hc.2]⟩
    · obtain ⟨i, h1, h2⟩ := leftH_pos (hd := hd) (listed := listed) hp
      exact ⟨i + 1, by simpa using h1, by simpa using h2⟩
theorem getD_arr {listed : Array Bool} {i : Nat} {b d : Bool} (h : listed.toList[i]? = some b) : listed.getD i d = b := by
  have : listed[i]? = some b := by simpa using h
  simp [Array.getD_eq_getD_getElem?, this]
section
variable {P : Program} {N : Nat} {σ : Env} {w : World} {dst : Option Tmp} {ty : TypeId} {pos : String} {af : Array Edge} {g : Option (Nat × Bool)} {t : TypeId} {x y z u : Operand} {a b c d : Value} {i j k m : Nat}
theorem bld2 (h : ev σ x = a) (h2 : ev σ y = b) : ([(i, x), (j, y)].map fun (i, x) => (i, ev σ x)) = [(i, a), (j, b)] := by simp only [List.map, h, h2]
/-- A new variable, with its cells. -/
def alF (e : Nat) (c : Array Value) (hs : Nat) : Fct := fun v w => ∃ b, v = .pointer (some ⟨b, 0, none⟩) ∧ Blk w b c e ∧ hs ≤ b
theorem alF_ext (e : Nat) (c : Array Value) (hs : Nat) : Stable (alF e c hs) := by
  rintro v w w' x ⟨b, h1, h2, h3⟩
  exact ⟨b, h1, Ext.keep x h2, h3⟩
end
end Go.Eng
namespace Go.Eng
open Go
abbrev FctS := (Nat → Bool) → Env → Fct
def HoldsS (ds : List Nat) (Fs : List FctS) (S : Nat → Bool) (j : Nat) (σ : Env) (w : World) : Prop := ∀ d F, ds[j]? = some d → Fs[j]? = some F → F S σ (σ d) w
def insS (S : Nat → Bool) (i : Nat) : Nat → Bool := fun j => bif Nat.beq j i then true else S j
theorem insS_self (S : Nat → Bool) (i : Nat) : insS S i i = true := by simp [insS]
theorem insS_ne {S : Nat → Bool} {i j : Nat} (h : j ≠ i) : insS S i j = S j := by
  have : Nat.beq j i = false := by cases hb : Nat.beq j i; rfl; exact absurd (Nat.eq_of_beq_eq_true hb) h
  simp [insS, this]
/-- The blocks that the operations change. -/
def MsL : List (Nat × (Nat → Prop)) → Nat → Nat → Prop
  | [], _, _ => False
  | p :: r, j, y => (j = p.1 ∧ p.2 y) ∨ MsL r j y
theorem MsL_or {c : Nat} {M : Nat → Prop} {r : List (Nat × (Nat → Prop))} {j y : Nat} (h : MsL ((c, M) :: r) j y) : (j = c ∧ M y) ∨ MsL r j y := h
def dagOneS (N i : Nat) (hd : List Bool) (o : Oper) (d : Nat) (ws : List Nat) : Bool :=
  (match o.dst with | some d' => Nat.beq d' d && Nat.blt d N | none => Nat.ble N d) && (o.after.all fun e => !Region.binds .any e || (Nat.blt e.on i && hd.getD e.on false)) && (ws.all fun j => o.after.any fun e => Region.binds .any e && Nat.beq e.on j) && guardB hd o
def dagSB (N : Nat) (hd : List Bool) : Nat → List Oper → List Nat → List (List Nat) → List Bool → Bool
  | _, [], [], [], [] => true
  | i, o :: l, d :: ds, ws :: wss, h :: hs => (bif h then dagOneS N i hd o d ws else Nat.ble N d) && dagSB N hd (i + 1) l ds wss hs
  | _, _, _, _, _ => false
theorem dagSB_get {N : Nat} {hd : List Bool} : ∀ {i : Nat} {l : List Oper} {ds : List Nat} {wss : List (List Nat)} {hs : List Bool}, dagSB N hd i l ds wss hs = true → ∀ {j : Nat} {o : Oper}, l[j]? = some o → ∃ d ws h, ds[j]? = some d ∧ wss[j]? = some ws ∧ hs[j]? = some h ∧ (bif h then dagOneS N (i + j) hd o d ws else Nat.ble N d) = true
  | _, [], _, _, _, _, j, o, h => by simp at h
  | i, x :: l, [], _, _, hB, _, _, _ => by simp [dagSB] at hB
  | i, x :: l, d :: ds, [], _, hB, _, _, _ => by simp [dagSB] at hB
  | i, x :: l, d :: ds, ws :: wss, [], hB, _, _, _ => by simp [dagSB] at hB
  | i, x :: l, d :: ds, ws :: wss, h0 :: hs, hB, j, o, h => by
    simp only [dagSB, Bool.and_eq_true] at hB
    cases j with
    | zero => simp at h; subst h; exact ⟨d, ws, h0, rfl, rfl, rfl, hB.1⟩
    | succ j =>
      simp at h
      obtain ⟨d', ws', h', h1, h2, h3, h4⟩ := dagSB_get hB.2 h
      exact ⟨d', ws', h', by simpa using h1, by simpa using h2, by simpa using h3, by rw [show i + (j + 1) = i + 1 + j from by omega]; exact h4⟩
theorem dagSB_len {N : Nat} {hd : List Bool} : ∀ {i : Nat} {l : List Oper} {ds : List Nat} {wss : List (List Nat)} {hs : List Bool}, dagSB N hd i l ds wss hs = true → ds.length = l.length ∧ hs.length = l.length ∧ wss.length = l.length
  | _, [], [], [], [], _ => ⟨rfl, rfl, rfl⟩
  | _, [], [], [], _ :: _, hB => by simp [dagSB] at hB
  | _, [], [], _ :: _, _, hB => by simp [dagSB] at hB
  | _, [], _ :: _, _, _, hB => by simp [dagSB] at hB
  | i, x :: l, [], _, _, hB => by simp [dagSB] at hB
  | i, x :: l, d :: ds, [], _, hB => by simp [dagSB] at hB
  | i, x :: l, d :: ds, ws :: wss, [], hB => by simp [dagSB] at hB
  | i, x :: l, d :: ds, ws :: wss, h0 :: hs, hB => by
    simp only [dagSB, Bool.and_eq_true] at hB
    have := dagSB_len hB.2
    simp [this.1, this.2.1, this.2.2]
def DagStepS (P : Program) (N : Nat) (ds : List Nat) (Fs : List FctS) (σ : Env) (w : World) (Ms : Nat → Nat → Prop) (cl : List (List Nat)) (i : Nat) (o : Oper) (ws : List Nat) (F : FctS) : Prop :=
  ∀ (S : Nat → Bool) σ' w', S i = false → (∀ j, (cl.getD j []).contains i = true → S j = false) → Chg (fun y => ∃ j, S j = true ∧ Ms j y) w w' → (∀ t, ds.contains t = false → σ' t = σ t) → (∀ j d, ds[j]? = some d → S j = false → σ' d = σ d) → (∀ j, ws.contains j = true → S j = true ∧ HoldsS ds Fs S j σ' w') →
    (Guarded ds o σ' ∧ DoesT (Ms i) P N o (fun v w => F (insS S i) σ' (Go.Eng.valOf o v) w) σ' w') ∨ (Unmet ds o σ' ∧ F (insS S i) σ' undef w')
/-- A fact lasts while other operations are done. -/
def StabS (Ms : Nat → Nat → Prop) (i : Nat) (ws : List Nat) (F : FctS) : Prop := ∀ p, p ≠ i → ws.contains p = false → ∀ S σ v w w', S i = true → S p = false → Chg (Ms p) w w' → F S σ v w → F (insS S p) σ v w'
/-- A fact speaks of the values of the operations that it waits for alone. -/
def LocS (ds : List Nat) (ws : List Nat) (F : FctS) : Prop := ∀ S (σ1 σ2 : Env), (∀ j d, ws.contains j = true → ds[j]? = some d → σ2 d = σ1 d) → ∀ v w, F S σ1 v w → F S σ2 v w
inductive DagStepsS (P : Program) (N : Nat) (ds : List Nat) (Fs : List FctS) (σ : Env) (w : World) (Ms : Nat → Nat → Prop) (cl : List (List Nat)) : Nat → List Oper → List (List Nat) → List Bool → List FctS → Prop where
  | nil {i : Nat} : DagStepsS P N ds Fs σ w Ms cl i [] [] [] []
  | cons {i : Nat} {o : Oper} {ws : List Nat} {F : FctS} {l : List Oper} {wss : List (List Nat)} {hs : List Bool} {Gs : List FctS} (s : StabS Ms i ws F) (lc : LocS ds ws F) (h : DagStepS P N ds Fs σ w Ms cl i o ws F) (t : DagStepsS P N ds Fs σ w Ms cl (i + 1) l wss hs Gs) : DagStepsS P N ds Fs σ w Ms cl i (o :: l) (ws :: wss) (true :: hs) (F :: Gs)
  | tail {i : Nat} {o : Oper} {ws : List Nat} {F : FctS} {l : List Oper} {wss : List (List Nat)} {hs : List Bool} {Gs : List FctS} (t : DagStepsS P N ds Fs σ w Ms cl (i + 1) l wss hs Gs) : DagStepsS P N ds Fs σ w Ms cl i (o :: l) (ws :: wss) (false :: hs) (F :: Gs)
theorem DagStepsS.get {P : Program} {N : Nat} {ds : List Nat} {Fs : List FctS} {σ : Env} {w : World} {Ms : Nat → Nat → Prop} {cl : List (List Nat)} : ∀ {i : Nat} {l : List Oper} {wss : List (List Nat)} {hs : List Bool} {Gs : List FctS}, DagStepsS P N ds Fs σ w Ms cl i l wss hs Gs → ∀ {j : Nat} {o : Oper}, l[j]? = some o → hs[j]? = some true → ∃ ws F, wss[j]? = some ws ∧ Gs[j]? = some F ∧ StabS Ms (i + j) ws F ∧ LocS ds ws F ∧ DagStepS P N ds Fs σ w Ms cl (i + j) o ws F
  | _, _, _, _, _, .nil, j, o, h, _ => by simp at h
  | i, _, _, _, _, .cons s lc h t, 0, o, ho, _ => by
    simp at ho; subst ho
    exact ⟨_, _, rfl, rfl, s, lc, h⟩
  | _, _, _, _, _, .tail t, 0, o, h, ht => by simp at ht
  | i, _, _, _, _, .cons s lc h t, j + 1, o, ho, ht => by
    obtain ⟨ws, F, h1, h2, h3, h5, h4⟩ := t.get (j := j) (by simpa using ho) (by simpa using ht)
    exact ⟨ws, F, by simpa using h1, by simpa using h2, by rw [show i + (j + 1) = i + 1 + j from by omega]; exact h3, h5, by rw [show i + (j + 1) = i + 1 + j from by omega]; exact h4⟩
  | i, _, _, _, _, .tail t, j + 1, o, ho, ht => by
    obtain ⟨ws, F, h1, h2, h3, h5, h4⟩ := t.get (j := j) (by simpa using ho) (by simpa using ht)
    exact ⟨ws, F, by simpa using h1, by simpa using h2, by rw [show i + (j + 1) = i + 1 + j from by omega]; exact h3, h5, by rw [show i + (j + 1) = i + 1 + j from by omega]; exact h4⟩
def allS (hd : List Bool) : Nat → Bool := fun j => hd.getD j false
theorem Wp_dagS {P : Program} {N : Nat} {Q : Post} {σ : Env} {w : World} {id : Nat} {l : List Oper} (Ms : Nat → Nat → Prop) (hd : List Bool) (ts : List Nat) (ds : List Nat) (wss cl : List (List Nat)) (Fs : List FctS) {Gs : List FctS} (hG : Fs = Gs) (hC : closB wss cl = true) (hm : P.follows .mixedOrders = true) (hB : dagSB N hd 0 l ds wss hd = true) (hn : nodupB ds = true)
    (hT : (tailPB l hd ts && permB l.toArray ts hd.toArray) = true) (hN : Nat.beq (leftH hd (List.replicate l.length false) + ts.length) l.length = true)
    (steps : ∀ w1, Ext w w1 → DagStepsS P N ds Fs σ w1 Ms cl 0 l cl hd Gs)
    (k : ∀ σ' w1 w', Ext w w1 → Chg (fun y => ∃ j, hd.getD j false = true ∧ Ms j y) w1 w' → (∀ t, ds.contains t = false → σ' t = σ t) → (∀ j, hd[j]? = some true → HoldsS ds Fs (allS hd) j σ' w') → WpL P N l.toArray (Q .normal) Q (ts.filterMap fun k => l[k]?) σ' w') : Wp P N (.region id l.toArray true) Q σ w := by
  intro a ha he
  have eQ : lift N (thn (Q .normal) Q) = lift N Q := by funext e a w; cases e <;> rfl
  refine wp_region_any hm ?_
  obtain ⟨w1, hw1⟩ : ∃ w1 : World, w1 = { w with drawn := w.drawn + 1 } := ⟨_, rfl⟩
  have hE1 : Ext w w1 := by rw [hw1]; exact drew_ext w
  rw [← hw1]
  have hst := steps w1 hE1
  rw [← hG] at hst
  rw [Bool.and_eq_true] at hT
  obtain ⟨hT1, hT2⟩ := hT
  obtain ⟨hlen, hlen2, hlen3⟩ := dagSB_len hB
  let Lf : Array Bool → Nat → Bool := fun listed j => listed.getD j false
  have key : ∀ (m : Nat) (listed : Array Bool) (a : Act) (w' : World), leftH hd listed.toList = m → listed.size = l.length → (∀ (t : Nat), hd[t]? = some false → listed.toList[t]? = some false) → (∀ (j : Nat) oj, l[j]? = some oj → listed.getD j false = true → ∀ e ∈ oj.after, Region.binds .any e = true → listed.getD e.on false = true) → Ok N a → Chg (fun y => ∃ j, listed.getD j false = true ∧ Ms j y) w1 w' → (∀ t, ds.contains t = false → env a t = σ t) → (∀ j d, ds[j]? = some d → listed.getD j false = false → env a d = σ d) → (∀ j, hd[j]? = some true → listed.getD j false = true → HoldsS ds Fs (Lf listed) j (env a) w') →
      wpAny P .any l.toArray (lift N Q) (m + ts.length) listed a w' := by
    intro m
    induction m with
    | zero =>
      intro listed a w' hc0 hsz htl hcd ha hx hu hv0 hh
      have hl : listed = hd.toArray := by
        apply Array.ext'
        exact leftH_zero (by simp; omega) hc0 htl
      have hLf : Lf listed = allS hd := by
        funext j
        show listed.getD j false = hd.getD j false
        rw [hl]; simp [List.getD_eq_getElem?_getD]
      rw [Nat.zero_add]
      have h1 := k (env a) w1 w' hE1 (hx.mono fun y _ h => by
        obtain ⟨j, h1, h2⟩ := h
        have : allS hd j = true := by rw [← hLf]; exact h1
        exact ⟨j, this, h2⟩) hu (fun j hj => by rw [← hLf]; exact hh j hj (getD_arr (by rw [hl]; exact hj))) a ha rfl
      rw [eQ] at h1
      exact wpAny_of_perm ts listed a w' (by rw [hl]; exact hT2) (by simpa using h1)
    | succ m ih =>
      intro listed a w' hcm hsz htl hcd ha hx hu hv0 hh
      obtain ⟨i0, hi0, hi1⟩ := leftH_pos (hd := hd) (listed := listed.toList) (by omega)
      rw [show m + 1 + ts.length = (m + ts.length) + 1 by omega]
      refine ⟨fun hr => ?_, fun i hi => ?_⟩
      · exfalso
        have hall : ∀ i : Nat, hd[i]? = some true → listed.getD i true = true := by
          intro i
          induction i using Nat.strongRecOn with
          | _ i ihi =>
            intro hi
            cases hv : listed.getD i true with
            | true => rfl
            | false =>
              exfalso
              obtain ⟨o, ho⟩ := get_of_lt (l := l) (i := i) (by have := lt_of_get hi; omega)
              obtain ⟨d, ws, h, _, _, h2, h3⟩ := dagSB_get hB ho
              rw [hi] at h2
              cases h2
              simp only [cond_true, dagOneS, Bool.and_eq_true, Nat.zero_add] at h3
              have : i ∈ Region.ready .any l.toArray listed := by
                refine mem_ready.2 ⟨hv, o, by simpa using ho, fun e he hb => ?_⟩
                have h4 := h3.1.1.2
                simp only [Array.all_eq_true_iff_forall_mem, Bool.or_eq_true, Bool.not_eq_true', Bool.and_eq_true] at h4
                have h6 := (h4 e he).resolve_left (by simp [hb])
                have hlt : e.on < i := by simpa [Nat.blt_eq] using h6.1
                have h7 := h6.2
                have hj0 : e.on < hd.length := by have := lt_of_get hi; omega
                have h8 : hd[e.on]? = some true := by
                  rw [List.getD_eq_getElem?_getD, List.getElem?_eq_getElem hj0, Option.getD_some] at h7
                  rw [List.getElem?_eq_getElem hj0, h7]
                have h9 := ihi e.on hlt h8
                have hj : e.on < listed.size := by omega
                simpa only [Array.getD_eq_getD_getElem?, Array.getElem?_eq_getElem hj, Option.getD_some] using h9
              rw [hr] at this
              cases this
        have := hall i0 hi0
        rw [getD_arr hi1] at this
        cases this
      · obtain ⟨h1, o, h2, h3⟩ := mem_ready.1 hi
        have ho : l[i]? = some o := by simpa using h2
        have hil : i < l.length := lt_of_get ho
        have hih : hd[i]? = some true := by
          obtain ⟨b, hb⟩ := get_of_lt (l := hd) (i := i) (by omega)
          cases b with
          | true => exact hb
          | false =>
            exfalso
            have h4 := List.all_eq_true.1 hT1 i (List.mem_range.2 hil)
            rw [List.getD_eq_getElem?_getD, hb, Option.getD_some, Bool.false_or, Bool.and_eq_true, Bool.or_eq_true] at h4
            have edge : ∀ u, edgeB l i u = true → listed.getD u false = true := fun u hu' => by
              unfold edgeB at hu'
              rw [ho] at hu'
              simp only [Array.any_eq_true', Bool.and_eq_true] at hu'
              obtain ⟨e, he, hb1, hb2⟩ := hu'
              have := Nat.eq_of_beq_eq_true hb2
              rw [← this]
              exact h3 e he hb1
            rcases h4.2 with h5 | h5
            · have h6 := List.all_eq_true.1 h5 i0 (List.mem_range.2 (by have := lt_of_get hi0; omega))
              rw [List.getD_eq_getElem?_getD, hi0, Option.getD_some, Bool.not_true, Bool.false_or] at h6
              have := edge i0 h6
              rw [getD_arr hi1] at this
              cases this
            · obtain ⟨p, _, h6⟩ := List.any_eq_true.1 h5
              rw [Bool.and_eq_true, Bool.not_eq_true'] at h6
              have h7 := edge p h6.2
              have hp : hd[p]? = some false := by
                have h8 := h6.1
                rw [List.getD_eq_getElem?_getD] at h8
                cases h9 : hd[p]? with
                | none => rw [h9] at h8; cases h8
                | some b => rw [h9, Option.getD_some] at h8; rw [h8]
              rw [getD_arr (htl p hp)] at h7
              cases h7
        obtain ⟨d, ws, h, hd', hws, hhs, h4⟩ := dagSB_get hB ho
        rw [hih] at hhs
        cases hhs
        obtain ⟨ci, F, hci, hF, hstab, hloc, hstep⟩ := hst.get ho hih
        rw [Nat.zero_add] at hstab hstep
        simp only [cond_true, dagOneS, Bool.and_eq_true, List.all_eq_true, Array.any_eq_true', Nat.zero_add] at h4
        obtain ⟨⟨⟨hdst, _⟩, hwait⟩, hgB⟩ := h4
        have hlisted : ∀ j, listed.getD j false = true → hd[j]? = some true := fun j hj => by
          obtain ⟨b, hb⟩ := get_of_lt (l := hd) (i := j) (by
            rcases Nat.lt_or_ge j listed.size with h9 | h9
            · omega
            · simp [Array.getD_eq_getD_getElem?, Array.getElem?_eq_none h9] at hj)
          cases b with
          | true => exact hb
          | false => rw [getD_arr (htl j hb)] at hj; cases hj
        have hcl : ∀ j, listed.getD j false = true → ∀ c, (cl.getD j []).contains c = true → listed.getD c false = true := by
          intro j
          induction j using Nat.strongRecOn with
          | _ j ihj =>
            intro hlj c hc
            have hjh := hlisted j hlj
            obtain ⟨oc, hoc⟩ := get_of_lt (l := l) (i := j) (by have := lt_of_get hjh; omega)
            obtain ⟨dc, wsc, hb, _, hwsc, hhb, h5⟩ := dagSB_get hB hoc
            rw [hjh] at hhb
            cases hhb
            simp only [cond_true, dagOneS, Bool.and_eq_true, List.all_eq_true, Array.any_eq_true', Array.all_eq_true_iff_forall_mem, Bool.or_eq_true, Bool.not_eq_true', Nat.zero_add] at h5
            have hdir : ∀ e' ∈ wsc, listed.getD e' false = true ∧ e' < j := by
              intro e' he'
              obtain ⟨e, he, hb1, hb2⟩ := h5.1.2 e' he'
              have hei : e.on = e' := Nat.eq_of_beq_eq_true hb2
              have h6 := hcd j oc hoc hlj e he hb1
              have h7 := (h5.1.1.2 e he).resolve_left (by simp [hb1])
              rw [hei] at h6 h7
              exact ⟨h6, by simpa [Nat.blt_eq] using h7.1⟩
            rcases closB_get hC hwsc hc with h6 | ⟨e', he', h6⟩
            · exact (hdir c h6).1
            · exact ihj e' (hdir e' he').2 (hdir e' he').1 c h6
        have hclo : ∀ j, ci.contains j = true → listed.getD j false = true := by
          intro j hj
          have hj' : (cl.getD i []).contains j = true := by rw [List.getD_eq_getElem?_getD, hci, Option.getD_some]; exact hj
          have hdir : ∀ e' ∈ ws, listed.getD e' false = true := by
            intro e' he'
            obtain ⟨e, he, hb1, hb2⟩ := hwait e' he'
            have : e.on = e' := Nat.eq_of_beq_eq_true hb2
            exact this ▸ h3 e he hb1
          rcases closB_get hC hws hj' with h6 | ⟨e', he', h6⟩
          · exact hdir j h6
          · exact hcl e' (hdir e' he') j h6
        have hSi : Lf listed i = false := getD_both h1
        have hSn : ∀ j, (cl.getD j []).contains i = true → Lf listed j = false := by
          intro j hj
          cases hlj : Lf listed j with
          | false => rfl
          | true =>
            exfalso
            have := hcl j hlj i hj
            rw [getD_both h1] at this; cases this
        have hH : ∀ j, ci.contains j = true → Lf listed j = true ∧ HoldsS ds Fs (Lf listed) j (env a) w' := fun j hj => ⟨hclo j hj, hh j (hlisted j (hclo j hj)) (hclo j hj)⟩
        have hil2 : i < listed.size := by omega
        have hLs : Lf (listed.setIfInBounds i true) = insS (Lf listed) i := by
          funext j
          by_cases hij : j = i
          · subst hij
            rw [insS_self]
            show (listed.setIfInBounds j true).getD j false = true
            simp [Array.getD_eq_getD_getElem?, hil2]
          · rw [insS_ne hij]
            exact getD_set_ne _ (Ne.symm hij)
        have hstep2 : ∀ w2, Chg (Ms i) w' w2 → Chg (fun y => ∃ j, (listed.setIfInBounds i true).getD j false = true ∧ Ms j y) w1 w2 := by
          intro w2 hx2
          have hg : (listed.setIfInBounds i true).getD i false = true := by simp [Array.getD_eq_getD_getElem?, hil2]
          refine Chg.step (hx.mono fun y _ h => ?_) hx2 (fun y _ h => ⟨i, hg, h⟩)
          obtain ⟨j, h5, h6⟩ := h
          by_cases hij : j = i
          · exact ⟨i, hg, hij ▸ h6⟩
          · exact ⟨j, by rw [getD_set_ne _ (Ne.symm hij)]; exact h5, h6⟩
        have cont : ∀ v w2, Chg (Ms i) w' w2 → F (insS (Lf listed) i) (env a) (Go.Eng.valOf o v) w2 → wpAny P .any l.toArray (lift N Q) (m + ts.length) (listed.setIfInBounds i true) (a.put o.dst v) w2 := by
          intro v w2 hx2 hv
          have henv : (∀ t, t ≠ d → env (a.put o.dst v) t = env a t) ∧ env (a.put o.dst v) d = Go.Eng.valOf o v := by
            cases hod : o.dst with
            | none =>
              rw [hod] at hdst
              have hNd : N ≤ d := Nat.le_of_ble_eq_true hdst
              refine ⟨fun t _ => rfl, ?_⟩
              simp only [Go.Eng.valOf, hod]
              show a.tmps.getD d undef = undef
              have : a.tmps.size ≤ d := by rw [ha.size]; exact hNd
              simp [Array.getElem?_eq_none this]
            | some d' =>
              rw [hod] at hdst
              simp only [Bool.and_eq_true] at hdst
              have hd1 : d' = d := Nat.eq_of_beq_eq_true hdst.1
              have hd2 : d < N := by simpa [Nat.blt_eq] using hdst.2
              subst hd1
              rw [env_put ha hd2 v]
              refine ⟨fun t ht => ?_, ?_⟩
              · have : Nat.beq t d' = false := by cases hb : Nat.beq t d'; rfl; exact absurd (Nat.eq_of_beq_eq_true hb) ht
                simp [upd, this]
              · simp [upd, Go.Eng.valOf, hod]
          have hlf : listed.toList[i]? = some false := by
            simp only [Array.getD_eq_getD_getElem?, Array.getElem?_eq_getElem hil2, Option.getD_some] at h1
            rw [Array.getElem?_toList, Array.getElem?_eq_getElem hil2, h1]
          refine ih _ _ _ ?_ (by simpa using hsz) (fun t ht => ?_) (fun j oj hoj hlj e he hb => ?_) (ha.put _ _) (hstep2 w2 hx2) ?_ ?_ ?_
          · rw [Array.toList_setIfInBounds]
            have := leftH_set hih hlf
            omega
          · rw [Array.toList_setIfInBounds, List.getElem?_set]
            have hne : i ≠ t := fun e => by rw [← e, hih] at ht; cases ht
            rw [if_neg hne]
            exact htl t ht
          · refine getD_set_true ?_
            by_cases hij : j = i
            · subst hij
              rw [ho] at hoj; cases hoj
              exact h3 e he hb
            · rw [getD_set_ne _ (Ne.symm hij)] at hlj
              exact hcd j oj hoj hlj e he hb
          · intro t ht
            rw [henv.1 t (fun h => by
              subst h
              have := List.mem_of_getElem? hd'
              simp [this] at ht), hu t ht]
          · intro j d2 hd2 hj2
            by_cases hij : j = i
            · subst hij
              have hg2 : (listed.setIfInBounds j true).getD j false = true := by simp [Array.getD_eq_getD_getElem?, hil2]
              rw [hg2] at hj2; cases hj2
            · rw [getD_set_ne _ (Ne.symm hij)] at hj2
              rw [henv.1 d2 (fun h => by subst h; exact hij (nodupB_get hn hd2 hd')), hv0 j d2 hd2 hj2]
          · intro j hjh hj d2 F2 hd2 hF2
            rw [hLs]
            by_cases hij : j = i
            · subst hij
              rw [hd'] at hd2; cases hd2
              rw [hF] at hF2; cases hF2
              rw [henv.2]
              refine hloc _ (env a) _ (fun j' d2 hj' hd2 => henv.1 d2 fun he => ?_) _ _ hv
              have := nodupB_get hn (he ▸ hd2) hd'
              subst this
              have := hclo j' hj'
              rw [getD_both h1] at this
              cases this
            · have hne : d2 ≠ d := by
                intro h
                subst h
                exact hij (nodupB_get hn hd2 hd')
              rw [henv.1 d2 hne]
              rw [getD_set_ne _ (Ne.symm hij)] at hj
              have h6 := hh j hjh hj d2 F2 hd2 hF2
              obtain ⟨oj, hoj⟩ := get_of_lt (l := l) (i := j) (by have := lt_of_get hjh; omega)
              obtain ⟨cj, Fj, hcj, hFj, hsj, hlj, _⟩ := hst.get hoj hjh
              rw [hF2] at hFj; cases hFj
              rw [Nat.zero_add] at hsj
              have hgc : cl.getD j [] = cj := by rw [List.getD_eq_getElem?_getD, hcj, Option.getD_some]
              have hcji : cj.contains i = false := by
                cases hcji : cj.contains i with
                | false => rfl
                | true =>
                  exfalso
                  have := hSn j (by rw [hgc]; exact hcji)
                  have hj' : Lf listed j = true := hj
                  rw [hj'] at this; cases this
              refine hlj _ (env a) _ (fun j' d3 hj' hd3 => henv.1 d3 fun he => ?_) _ _ (hsj i (Ne.symm hij) hcji (Lf listed) (env a) _ _ _ hj hSi hx2 h6)
              have h8 := nodupB_get hn (he ▸ hd3) hd'
              subst h8
              rw [hcji] at hj'
              cases hj'
        have gd : ∀ j b, o.guard = some (j, b) → ∀ dj, ds[j]? = some dj → ((∃ oj, l[j]? = some oj ∧ oj.dst = some dj) ∧ dj < N) ∨ (N ≤ dj ∧ ∃ oj, l[j]? = some oj ∧ oj.dst = none) := fun j b hgd dj hdj => by
          obtain ⟨oj, hoj⟩ := get_of_lt (l := l) (i := j) (by have := lt_of_get hdj; omega)
          obtain ⟨dj', _, hj, hdj', _, h5, h6⟩ := dagSB_get hB hoj
          rw [hdj] at hdj'
          cases hdj'
          unfold guardB at hgB
          rw [hgd] at hgB
          simp only at hgB
          have h7 : hj = true := by rw [List.getD_eq_getElem?_getD, h5, Option.getD_some] at hgB; exact hgB
          rw [h7] at h6
          simp only [cond_true, Bool.and_eq_true, dagOneS] at h6
          have hdst2 := h6.1.1.1
          split at hdst2
          · rename_i d2 hq
            rw [Bool.and_eq_true] at hdst2
            exact .inl ⟨⟨oj, hoj, by rw [hq, Nat.eq_of_beq_eq_true hdst2.1]⟩, by simpa [Nat.blt_eq] using hdst2.2⟩
          · rename_i hq
            exact .inr ⟨Nat.le_of_ble_eq_true hdst2, oj, hoj, hq⟩
        rcases hstep (Lf listed) (env a) w' hSi hSn hx hu hv0 hH with ⟨hg, hdo⟩ | ⟨⟨j, b, dj, hgd, hdj, hvj⟩, hund⟩
        · have hw : Region.wanted o (yielded l.toArray a.tmps) = true := by
            cases hgd : o.guard with
            | none => simp [Region.wanted, hgd]
            | some p =>
              obtain ⟨j, b⟩ := p
              obtain ⟨dj, hdj, hvj⟩ := hg j b hgd
              rcases gd j b hgd dj hdj with ⟨hdst2, hdN2⟩ | ⟨hge, _⟩
              · have h6 : a.tmps[dj]? = some (Value.bool b) := by
                  have h2 : a.tmps.getD dj undef = .bool b := hvj
                  have hlt : dj < a.tmps.size := by rw [ha.size]; exact hdN2
                  rw [Array.getElem?_eq_getElem hlt]
                  simpa [hlt] using h2
                obtain ⟨oj, hoj, hdst2⟩ := hdst2
                simp [Region.wanted, hgd, yielded, hoj, hdst2, h6]
              · exfalso
                have h2 : a.tmps.getD dj undef = .bool b := hvj
                have : a.tmps.size ≤ dj := by rw [ha.size]; exact hge
                simp [Array.getElem?_eq_none this, undef] at h2
          unfold wpOp
          simp only [h2, hw, if_true]
          exact Or.inl (hdo a ha rfl _ _ cont)
        · have hw : Region.wanted o (yielded l.toArray a.tmps) = false := by
            rcases gd j b hgd dj hdj with ⟨hdst2, hdN2⟩ | ⟨_, oj, hoj, hq⟩
            · have hlt : dj < a.tmps.size := by rw [ha.size]; exact hdN2
              have h6 : a.tmps[dj]? = some (env a dj) := by
                rw [Array.getElem?_eq_getElem hlt]
                simp [env, hlt]
              obtain ⟨oj, hoj, hdst2⟩ := hdst2
              rcases hvj with hvj | hvj
              · rw [hvj] at h6
                cases b <;> simp [Region.wanted, hgd, yielded, hoj, hdst2, h6]
              · rw [hvj] at h6
                simp [Region.wanted, hgd, yielded, hoj, hdst2, h6, undef]
            · simp [Region.wanted, hgd, yielded, hoj, hq]
          unfold wpOp
          simp only [h2, hw, Bool.false_eq_true, if_false]
          exact cont undef w' (Chg.refl _ _) (by
            have : Go.Eng.valOf o undef = undef := by unfold Go.Eng.valOf; split <;> rfl
            rw [this]; exact hund)
  have h1 := key (leftH hd (Array.replicate l.toArray.size false).toList) (Array.replicate l.toArray.size false) a w1 rfl (by simp) (fun t ht => by have h9 := lt_of_get ht; rw [Array.toList_replicate, List.getElem?_replicate, if_pos (by rw [List.size_toArray]; omega)]) (fun j oj _ hl => (by rw [getD_replicate_false] at hl; cases hl)) ha (Chg.refl _ _) (fun t _ => by rw [he]) (fun j d _ _ => by rw [he]) (fun j _ hj => by rw [getD_replicate_false] at hj; cases hj)
  have e3 : leftH hd (Array.replicate l.toArray.size false).toList + ts.length = l.toArray.size := by have h9 := Nat.eq_of_beq_eq_true hN; simpa using h9
  rw [e3] at h1
  exact h1
section
variable {Ms : Nat → Nat → Prop} {i : Nat} {ws ds : List Nat}
theorem StabS.eq {u : Value} : StabS Ms i ws (fun _ _ v _ => v = u) := fun _ _ _ _ _ _ _ _ _ _ _ h => h
theorem StabS.chg {F : Fct} {U : Nat → Prop} (hF : ∀ v w w', Chg U w w' → F v w → F v w') (hM : ∀ p y, p ≠ i → ws.contains p = false → Ms p y → U y) : StabS Ms i ws (fun _ _ => F) :=
  fun p h1 h2 _ _ v w w' _ _ x h => hF v w w' (x.mono fun y _ hy => hM p y h1 h2 hy) h
theorem StabS.till {F : Fct} {U : Nat → Prop} {c : Nat} (hF : ∀ v w w', Chg U w w' → F v w → F v w') (hM : ∀ p y, p ≠ i → ws.contains p = false → p ≠ c → Ms p y → U y) : StabS Ms i ws (fun S _ v w => S c = false → F v w) :=
  fun p h1 h2 S _ v w w' _ _ x h hc => by
    have hpc : p ≠ c := fun e => by subst e; rw [insS_self] at hc; cases hc
    rw [insS_ne (Ne.symm hpc)] at hc
    exact hF v w w' (x.mono fun y _ hy => hM p y h1 h2 hpc hy) (h hc)
theorem LocS.const {G : (Nat → Bool) → Fct} : LocS ds ws (fun S _ => G S) := fun _ _ _ _ _ _ h => h
end
section
variable {M : Nat → Prop} {P : Program} {N : Nat} {o : Oper} {R : Fct} {σ : Env} {w : World} {dst : Option Tmp} {ty : TypeId} {pos : String} {af : Array Edge} {g : Option (Nat × Bool)} {t : TypeId}
theorem DoesT_pure {v : Value} (hr : (execOp (ev σ) o).run P w = .ok (.value v) w) (h : R v w) : DoesT M P N o R σ w := DoesT_val hr (Chg.refl _ _) h
theorem DoesT_callE {f : FuncId} {args : Array Value} (hr : (execOp (ev σ) o).run P w = .ok (.enter f args) w) (hc : Ret P f args w fun v w' => R v w' ∧ Ext w w') : DoesT M P N o R σ w :=
  DoesT_enter hr (hc.mono fun _ _ h => ⟨h.1, Ext.chg h.2⟩)
theorem DoesT_alloc {d hs : Nat} {z : Value} {c : Array Value} (hz : Zer P t z) (hc : z.cells = c) (hh : hs ≤ w.heap.size) : DoesT M P N ⟨some d, .alloc t, ty, pos, af, g⟩ (alF t c hs) σ w := by
  subst hc
  have hn := New.mk' w z.cells t
  exact DoesT_val (v := .pointer (some ⟨w.heap.size, 0, none⟩)) (by simp [execOp, Instr.alloc, hz.run, newVar, newRow]) (Ext.chg hn.ext) ⟨_, rfl, hn.blk, hh⟩
end
def putF (sa n : Nat) (T : TypeId) (G : Fct) : FctS := fun _ s _ w => ∃ b vs, s sa = .pointer (some ⟨b, 0, none⟩) ∧ n ≤ b ∧ Blk w b vs T ∧ G (.agg vs) w
section
variable {Ms : Nat → Nat → Prop} {i : Nat} {ws ds : List Nat}
theorem StabS.put {sa n : Nat} {T : TypeId} {G : Fct} (hG : ∀ v w w', Ext w w' → G v w → G v w') (hM : ∀ p y, p ≠ i → ws.contains p = false → Ms p y → False) : StabS Ms i ws (putF sa n T G) :=
  fun p h1 h2 _ _ v w w' _ _ x h => by
    obtain ⟨b, vs, h3, h4, h5, h6⟩ := h
    have hx : Ext w w' := x.mono fun y _ hy => (hM p y h1 h2 hy).elim
    exact ⟨b, vs, h3, h4, Ext.keep hx h5, hG _ _ _ hx h6⟩
theorem LocS.put {sa n j : Nat} {T : TypeId} {G : Fct} (hj : ws.contains j = true) (hd : ds[j]? = some sa) : LocS ds ws (putF sa n T G) :=
  fun _ σ1 σ2 hs v w h => by
    obtain ⟨b, vs, h3, h4⟩ := h
    exact ⟨b, vs, by rw [hs j sa hj hd]; exact h3, h4⟩
end
end Go.Eng
namespace Go.Proofs
open Go Go.Eng Go.Sort
set_option maxRecDepth 100000
--BEGIN
theorem DfaOwn.low {b0 base : Nat} {D : Dfa} {r : Value} {w : World} (h : DfaOwn base D r w) (hb : b0 ≤ base) : DfaOwn b0 D r w := by
  obtain ⟨ea, ec, na, nc, vs, h1, h2⟩ := h
  exact ⟨ea, ec, na, nc, vs, h1, h2.low hb⟩
end Go.Proofs
namespace Go.Proofs
open Go Go.Eng Go.Sort
set_option maxRecDepth 100000
set_option maxHeartbeats 400000 in
theorem eqrows_c (w0 : World) (v1 v2 : Value) (l1 l2 : List (List Int)) (h1 : IntssAt w0 v1 l1) (h2 : IntssAt w0 v2 l2) (n1 n2 : Nat) (a1 a2 : Option Addr) (c1 c2 : Nat) (e1 : v1 = .slice a1 n1 c1) (e2 : v2 = .slice a2 n2 c2) (hn1 : l1.length = n1) (hn2 : l2.length = n2) (hb : n1 ≤ 20000) :
    Ret Try.prog 62 #[v1, v2, .func (.func 28) #[] #[]] w0 fun v w => v = .bool (decide (l1 = l2)) ∧ Ext w0 w := by
  subst e1; subst e2
  refine Ret_of Try.func62 rfl Try.ntmps62 (Nat.le_of_ble_eq_true rfl) ?_
  have E : Chg none1 w0 w0 := Chg.refl _ _
  refine Wp_seq_region ?_
  refine WpL_val rfl rfl (by decide) (r_assign (v := (.bool false)) rfl) ?_
  refine WpL_nil ?_
  refine Wp_seq ?_
  refine Wp_seq_region ?_
  refine WpL_val rfl rfl (by decide) (r_move (v := (.slice a1 n1 c1)) rfl) ?_
  refine WpL_val rfl rfl (by decide) (r_lenSlice (ad := a1) (n := n1) (cap := c1) Try.underlying23 rfl) ?_
  refine WpL_val rfl rfl (by decide) (r_move (v := (.slice a2 n2 c2)) rfl) ?_
  refine WpL_val rfl rfl (by decide) (r_lenSlice (ad := a2) (n := n2) (cap := c2) Try.underlying23 rfl) ?_
  refine WpL_val rfl rfl (by decide) (r_neq (k := .i64) (a := ((n1 : Nat) : Int)) (b := ((n2 : Nat) : Int)) rfl rfl) ?_
  refine WpL_nil ?_
  refine Wp_cond (b := decide ((((n1 : Nat) : Int) : Int) ≠ ((n2 : Nat) : Int))) rfl (fun hl => ?_) (fun hl => ?_)
  · have khl := hl
    replace hl := of_decide_eq_true hl
    refine Wp_seq_region ?_
    refine WpL_val rfl rfl (by decide) (r_assign (v := (.bool false)) rfl) ?_
    refine WpL_nil ?_
    refine Wp_ret ?_
    refine thn_ret ?_
    refine fin_tmp Try.results62 (v := (.bool false)) rfl ?_
    exact ⟨bool_eq (by symm; rw [decide_eq_false_iff_not]; intro h; rw [h] at hn1; omega), E⟩
  · have khl := hl
    replace hl := of_decide_eq_false hl
    refine Wp_skip ?_
    refine thn_normal ?_
    refine Wp_seq ?_
    refine Wp_seq_region ?_
    refine WpL_val rfl rfl (by decide) (r_move (v := (.slice a1 n1 c1)) rfl) ?_
    refine WpL_val rfl rfl (by decide) (r_lenSlice (ad := a1) (n := n1) (cap := c1) Try.underlying23 rfl) ?_
    refine WpL_val rfl rfl (by decide) (r_move (v := (.int .i64 0)) rfl) ?_
    refine WpL_nil ?_
    refine Wp_block ?_
    refine Wp_loop (fun nn_ σ W2 => ∃ (k : Nat), (∃ jj_, σ = upds jj_ [(1, (.slice a2 n2 c2)), (2, (.func (.func 28) #[] #[])), (15, (.slice a1 n1 c1)), (16, (.int .i64 ((n1 : Nat) : Int))), (17, (.int .i64 ((k : Nat) : Int)))]) ∧ Chg none1 w0 W2 ∧ (k ≤ n1) ∧ (∀ (i : Nat), i < k → l1[i]? = l2[i]?) ∧ nn_ = n1 - k) (n := n1 - 0) ?_ ?_
    · exact ⟨0, Fits.out ⟨rfl, rfl, rfl, rfl, rfl, trivial⟩, E, Nat.zero_le _, (fun i h => absurd h (Nat.not_lt_zero _)), rfl⟩
    · clear E
      rintro _ _ W2 ⟨k, ⟨j2, rfl⟩, E, hk, heq, rfl⟩
      refine Wp_seq_region ?_
      refine WpL_val rfl rfl (by decide) (r_lss (k := .i64) (a := ((k : Nat) : Int)) (b := ((n1 : Nat) : Int)) rfl rfl) ?_
      refine WpL_nil ?_
      refine Wp_seq ?_
      refine Wp_cond (b := decide ((((k : Nat) : Int) : Int) < ((n1 : Nat) : Int))) rfl (fun hlt => ?_) (fun hlt => ?_)
      · have khlt := hlt
        replace hlt := of_decide_eq_true hlt
        obtain ⟨p, hp⟩ := get_of_lt (l := l1) (i := k) (by omega)
        obtain ⟨q, hq⟩ := get_of_lt (l := l2) (i := k) (by omega)
        obtain ⟨b1, o1, rfl, hc1⟩ := intss_cells h1 (by omega)
        obtain ⟨b2, o2, rfl, hc2⟩ := intss_cells h2 (by omega)
        obtain ⟨ra1, rc1, hx1, hi1⟩ := hc1 k p hp
        obtain ⟨ra2, rc2, hx2, hi2⟩ := hc2 k q hq
        refine Wp_skip ?_
        refine thn_normal ?_
        refine Wp_seq ?_
        refine Wp_block ?_
        refine Wp_seq_region ?_
        refine WpL_val rfl rfl (by decide) (r_move (v := (.int .i64 ((k : Nat) : Int))) rfl) ?_
        refine WpL_val rfl rfl (by decide) (r_indexSlice (b := b1) (o := o1) (len := n1) (cap := c1) (i := k) (o' := o1 + k) rfl rfl rfl Try.underlying23 siz22 (by omega) (by omega)) ?_
        refine WpL_val rfl rfl (by decide) (r_load (v := (.slice ra1 p.length rc1)) rfl flat22 (E.cell (fun f => f) hx1)) ?_
        refine WpL_val rfl rfl (by decide) (r_assign (v := (.int .i64 ((k : Nat) : Int))) rfl) ?_
        refine WpL_val rfl rfl (by decide) (r_assign (v := (.slice ra1 p.length rc1)) rfl) ?_
        refine WpL_nil ?_
        refine Wp_seq_region ?_
        refine WpL_val rfl rfl (by decide) (r_move (v := (.slice (some ⟨b2, o2, none⟩) n2 c2)) rfl) ?_
        refine WpL_val rfl rfl (by decide) (r_move (v := (.int .i64 ((k : Nat) : Int))) rfl) ?_
        refine WpL_val rfl rfl (by decide) (r_indexSlice (b := b2) (o := o2) (len := n2) (cap := c2) (i := k) (o' := o2 + k) rfl rfl rfl Try.underlying23 siz22 (by omega) (by omega)) ?_
        refine WpL_val rfl rfl (by decide) (r_load (v := (.slice ra2 q.length rc2)) rfl flat22 (E.cell (fun f => f) hx2)) ?_
        refine WpL_val rfl rfl (by decide) (r_assign (v := (.slice ra2 q.length rc2)) rfl) ?_
        refine WpL_nil ?_
        refine Wp_seq_region ?_
        refine WpL_val rfl rfl (by decide) (r_move (v := (.func (.func 28) #[] #[])) rfl) ?_
        refine WpL_val rfl rfl (by decide) (r_move (v := (.slice ra1 p.length rc1)) rfl) ?_
        refine WpL_val rfl rfl (by decide) (r_move (v := (.slice ra2 q.length rc2)) rfl) ?_
        refine WpL_enter rfl rfl (by decide) (r_callV (first := #[]) (cap := #[]) (vs := [(.slice ra1 p.length rc1), (.slice ra2 q.length rc2)]) (ws := #[(.slice ra1 p.length rc1), (.slice ra2 q.length rc2)]) rfl Try.func28 nm28 bd28 rfl rfl) (eql2_c _ _ _ p q (hi1.ext E) (hi2.ext E)) ?_
        rintro _ w9 ⟨rfl, X9⟩
        replace E := E.ext X9
        refine WpL_val rfl rfl (by decide) (r_not (b := decide (p = q)) rfl) ?_
        refine WpL_nil ?_
        refine Wp_cond (b := !(decide (p = q))) rfl (fun hpq => ?_) (fun hpq => ?_)
        · have khpq := hpq
          replace hpq := by simpa using hpq
          refine Wp_seq_region ?_
          refine WpL_val rfl rfl (by decide) (r_assign (v := (.bool false)) rfl) ?_
          refine WpL_nil ?_
          refine Wp_ret ?_
          refine inB_ret ?_
          refine thn_ret ?_
          refine thn_ret ?_
          refine inB_ret ?_
          refine thn_ret ?_
          refine fin_tmp Try.results62 (v := (.bool false)) rfl ?_
          exact ⟨bool_eq (by symm; rw [decide_eq_false_iff_not]; intro h; rw [h] at hp; rw [hp] at hq; exact hpq (Option.some.inj hq)), E⟩
        · have khpq := hpq
          replace hpq := by simpa using hpq
          refine Wp_skip ?_
          refine inB_normal ?_
          refine thn_normal ?_
          refine Wp_region ?_
          refine WpL_val rfl rfl (by decide) (r_add (k := .i64) (a := ((k : Nat) : Int)) (b := 1) (c := ((k : Nat) : Int) + 1) rfl rfl (wI64 (by omega))) ?_
          refine WpL_val rfl rfl (by decide) (r_move (v := (.int .i64 (((k : Nat) : Int) + 1))) rfl) ?_
          refine WpL_nil ?_
          refine thn_normal ?_
          exact ⟨n1 - (k + 1), by omega, k + 1, Fits.out ⟨rfl, rfl, rfl, rfl, rfl, trivial⟩, E, (by omega), (fun i hi => by rcases Nat.lt_or_ge i k with h | h; exact heq i h; (have h' : i = k := by omega); subst h'; (have hpq' : p = q := by simpa using hpq); rw [hp, hq, hpq']), rfl⟩
      · have khlt := hlt
        replace hlt := of_decide_eq_false hlt
        refine Wp_exit ?_
        refine thn_exit ?_
        refine thn_exit ?_
        refine inB_here ?_
        refine thn_normal ?_
        refine Wp_seq_region ?_
        refine WpL_val rfl rfl (by decide) (r_assign (v := (.bool true)) rfl) ?_
        refine WpL_nil ?_
        refine Wp_ret ?_
        refine fin_tmp Try.results62 (v := (.bool true)) rfl ?_
        exact ⟨bool_eq (by symm; rw [decide_eq_true_iff]; apply List.ext_getElem?; intro i; rcases Nat.lt_or_ge i n1 with h | h; exact heq i (by omega); rw [List.getElem?_eq_none (by omega), List.getElem?_eq_none (by omega)]), E⟩
theorem dfa_eq_iff (a b : Dfa) : a = b ↔ a.start = b.start ∧ a.accept = b.accept ∧ a.next = b.next := by
  cases a; cases b; simp
instance : DecidableEq Dfa := fun a b => decidable_of_iff _ (dfa_eq_iff a b).symm
set_option maxHeartbeats 400000 in
theorem equalD_c (w0 : World) (a b : Dfa) (av bv : List Value) (ha : DfaAt w0 a av) (hb : DfaAt w0 b bv) (hn : a.next.length ≤ 20000) :
    Ret Try.prog 25 #[.agg av.toArray, .agg bv.toArray] w0 fun v w => v = .bool (decide (a = b)) ∧ Ext w0 w := by
  obtain ⟨aa, ac, na, nc, rfl, hA, hR⟩ := ha
  obtain ⟨aa2, ac2, na2, nc2, rfl, hA2, hR2⟩ := hb
  refine Ret_of Try.func25 rfl Try.ntmps25 (Nat.le_of_ble_eq_true rfl) ?_
  have E : Chg none1 w0 w0 := Chg.refl _ _
  refine Wp_seq_region ?_
  refine s_box (v := (.agg #[(.int .i64 a.start), (.slice aa a.accept.length ac), (.slice na a.next.length nc)])) (c := #[(.int .i64 a.start), (.slice aa a.accept.length ac), (.slice na a.next.length nc)]) (by decide) rfl rfl ?_
  intro bp wp Np
  have Fp := Np.ge E
  replace E := E.ext Np.ext
  have Bp := Np.blk
  refine s_box (v := (.agg #[(.int .i64 b.start), (.slice aa2 b.accept.length ac2), (.slice na2 b.next.length nc2)])) (c := #[(.int .i64 b.start), (.slice aa2 b.accept.length ac2), (.slice na2 b.next.length nc2)]) (by decide) rfl rfl ?_
  intro bq wq Nq
  have Fq := Nq.ge E
  have Oq_bp := Nq.lt Bp
  replace Bp := Nq.keep Bp
  replace E := E.ext Nq.ext
  have Bq := Nq.blk
  refine WpL_val rfl rfl (by decide) (r_assign (v := (.bool false)) rfl) ?_
  refine WpL_nil ?_
  refine Wp_seq_region ?_
  refine WpL_val rfl rfl (by decide) (r_fieldAddr (b := bp) (o := 0) (o' := 0) rfl Try.underlying25 rfl siz3 rfl) ?_
  refine WpL_val rfl rfl (by decide) (r_load (v := (.int .i64 a.start)) rfl flat3 (Bp.cell rfl)) ?_
  refine WpL_val rfl rfl (by decide) (r_fieldAddr (b := bq) (o := 0) (o' := 0) rfl Try.underlying25 rfl siz3 rfl) ?_
  refine WpL_val rfl rfl (by decide) (r_load (v := (.int .i64 b.start)) rfl flat3 (Bq.cell rfl)) ?_
  refine WpL_val rfl rfl (by decide) (r_eql (k := .i64) (a := a.start) (b := b.start) rfl rfl) ?_
  refine WpL_val rfl rfl (by decide) (r_move (v := (.bool (decide ((a.start : Int) = b.start)))) rfl) ?_
  rcases Bool.eq_false_or_eq_true (decide ((a.start : Int) = b.start)) with hs | hs
  · have khs := hs
    replace khs := of_decide_eq_true khs
    refine WpL_guard_yes (oj := _) rfl rfl (by decide) (congrArg Value.bool hs) ?_
    refine WpL_val rfl rfl (by decide) (r_fieldAddr (b := bp) (o := 0) (o' := 1) rfl Try.underlying25 rfl siz22 rfl) ?_
    refine WpL_guard_yes (oj := _) rfl rfl (by decide) (congrArg Value.bool hs) ?_
    refine WpL_val rfl rfl (by decide) (r_load (v := (.slice aa a.accept.length ac)) rfl flat22 (Bp.cell rfl)) ?_
    refine WpL_guard_yes (oj := _) rfl rfl (by decide) (congrArg Value.bool hs) ?_
    refine WpL_val rfl rfl (by decide) (r_fieldAddr (b := bq) (o := 0) (o' := 1) rfl Try.underlying25 rfl siz22 rfl) ?_
    refine WpL_guard_yes (oj := _) rfl rfl (by decide) (congrArg Value.bool hs) ?_
    refine WpL_val rfl rfl (by decide) (r_load (v := (.slice aa2 b.accept.length ac2)) rfl flat22 (Bq.cell rfl)) ?_
    refine WpL_guard_yes (oj := _) rfl rfl (by decide) (congrArg Value.bool hs) ?_
    refine WpL_enter rfl rfl (by decide) (r_callF (vs := [(.slice aa a.accept.length ac), (.slice aa2 b.accept.length ac2)]) Try.func28 nm28 bd28 rfl) (eql2_c _ _ _ a.accept b.accept (hA.ext E) (hA2.ext E)) ?_
    rintro _ w9 ⟨rfl, X9⟩
    replace Bp := X9.keep Bp
    replace Bq := X9.keep Bq
    replace E := E.ext X9
    refine WpL_val rfl rfl (by decide) (r_pick (b := decide ((a.start : Int) = b.start)) (v := (.bool (decide (a.accept = b.accept)))) rfl (by rw [hs]; rfl)) ?_
    refine WpL_val rfl rfl (by decide) (r_move (v := (.bool (decide (a.accept = b.accept)))) rfl) ?_
    rcases Bool.eq_false_or_eq_true (decide (a.accept = b.accept)) with hac | hac
    · have khac := hac
      replace khac := of_decide_eq_true khac
      refine WpL_guard_yes (oj := _) rfl rfl (by decide) (congrArg Value.bool hac) ?_
      refine WpL_val rfl rfl (by decide) (r_fieldAddr (b := bp) (o := 0) (o' := 2) rfl Try.underlying25 rfl siz23 rfl) ?_
      refine WpL_guard_yes (oj := _) rfl rfl (by decide) (congrArg Value.bool hac) ?_
      refine WpL_val rfl rfl (by decide) (r_load (v := (.slice na a.next.length nc)) rfl flat23 (Bp.cell rfl)) ?_
      refine WpL_guard_yes (oj := _) rfl rfl (by decide) (congrArg Value.bool hac) ?_
      refine WpL_val rfl rfl (by decide) (r_fieldAddr (b := bq) (o := 0) (o' := 2) rfl Try.underlying25 rfl siz23 rfl) ?_
      refine WpL_guard_yes (oj := _) rfl rfl (by decide) (congrArg Value.bool hac) ?_
      refine WpL_val rfl rfl (by decide) (r_load (v := (.slice na2 b.next.length nc2)) rfl flat23 (Bq.cell rfl)) ?_
      refine WpL_guard_yes (oj := _) rfl rfl (by decide) (congrArg Value.bool hac) ?_
      refine WpL_enter rfl rfl (by decide) (r_callF (vs := [(.slice na a.next.length nc), (.slice na2 b.next.length nc2), (.func (.func 28) #[] #[])]) Try.func62 nm62 bd62 rfl) (eqrows_c _ _ _ a.next b.next (hR.ext E) (hR2.ext E) _ _ _ _ _ _ rfl rfl rfl rfl hn) ?_
      rintro _ w19 ⟨rfl, X19⟩
      replace Bp := X19.keep Bp
      replace Bq := X19.keep Bq
      replace E := E.ext X19
      refine WpL_val rfl rfl (by decide) (r_pick (b := decide (a.accept = b.accept)) (v := (.bool (decide (a.next = b.next)))) rfl (by rw [hac]; rfl)) ?_
      refine WpL_val rfl rfl (by decide) (r_assign (v := (.bool (decide (a.next = b.next)))) rfl) ?_
      refine WpL_nil ?_
      refine Wp_ret ?_
      refine fin_tmp Try.results25 (v := (.bool (decide (a.next = b.next)))) rfl ?_
      exact ⟨bool_eq (by rw [Bool.eq_iff_iff, decide_eq_true_iff, decide_eq_true_iff, dfa_eq_iff]; exact ⟨fun h => ⟨khs, khac, h⟩, fun h => h.2.2⟩), E⟩
    · have khac := hac
      replace khac := of_decide_eq_false khac
      refine WpL_guard_no (oj := _) rfl rfl (by decide) (v := .bool false) (congrArg Value.bool hac) (Or.inl rfl) ?_
      refine WpL_guard_no (oj := _) rfl rfl (by decide) (v := .bool false) (congrArg Value.bool hac) (Or.inl rfl) ?_
      refine WpL_guard_no (oj := _) rfl rfl (by decide) (v := .bool false) (congrArg Value.bool hac) (Or.inl rfl) ?_
      refine WpL_guard_no (oj := _) rfl rfl (by decide) (v := .bool false) (congrArg Value.bool hac) (Or.inl rfl) ?_
      refine WpL_guard_no (oj := _) rfl rfl (by decide) (v := .bool false) (congrArg Value.bool hac) (Or.inl rfl) ?_
      refine WpL_val rfl rfl (by decide) (r_pick (b := decide (a.accept = b.accept)) (v := (.bool false)) rfl (by rw [hac]; rfl)) ?_
      refine WpL_val rfl rfl (by decide) (r_assign (v := (.bool false)) rfl) ?_
      refine WpL_nil ?_
      refine Wp_ret ?_
      refine fin_tmp Try.results25 (v := (.bool false)) rfl ?_
      exact ⟨bool_eq (by symm; rw [decide_eq_false_iff_not]; intro h; rw [dfa_eq_iff] at h; exact khac h.2.1), E⟩
  · have khs := hs
    replace khs := of_decide_eq_false khs
    refine WpL_guard_no (oj := _) rfl rfl (by decide) (v := .bool false) (congrArg Value.bool hs) (Or.inl rfl) ?_
    refine WpL_guard_no (oj := _) rfl rfl (by decide) (v := .bool false) (congrArg Value.bool hs) (Or.inl rfl) ?_
    refine WpL_guard_no (oj := _) rfl rfl (by decide) (v := .bool false) (congrArg Value.bool hs) (Or.inl rfl) ?_
    refine WpL_guard_no (oj := _) rfl rfl (by decide) (v := .bool false) (congrArg Value.bool hs) (Or.inl rfl) ?_
    refine WpL_guard_no (oj := _) rfl rfl (by decide) (v := .bool false) (congrArg Value.bool hs) (Or.inl rfl) ?_
    refine WpL_val rfl rfl (by decide) (r_pick (b := decide ((a.start : Int) = b.start)) (v := (.bool false)) rfl (by rw [hs]; rfl)) ?_
    refine WpL_val rfl rfl (by decide) (r_move (v := (.bool false)) rfl) ?_
    refine WpL_guard_no (oj := _) rfl rfl (by decide) (v := .bool false) rfl (Or.inl rfl) ?_
    refine WpL_guard_no (oj := _) rfl rfl (by decide) (v := .bool false) rfl (Or.inl rfl) ?_
    refine WpL_guard_no (oj := _) rfl rfl (by decide) (v := .bool false) rfl (Or.inl rfl) ?_
    refine WpL_guard_no (oj := _) rfl rfl (by decide) (v := .bool false) rfl (Or.inl rfl) ?_
    refine WpL_guard_no (oj := _) rfl rfl (by decide) (v := .bool false) rfl (Or.inl rfl) ?_
    refine WpL_val rfl rfl (by decide) (r_pick (b := false) (v := (.bool false)) rfl rfl) ?_
    refine WpL_val rfl rfl (by decide) (r_assign (v := (.bool false)) rfl) ?_
    refine WpL_nil ?_
    refine Wp_ret ?_
    refine fin_tmp Try.results25 (v := (.bool false)) rfl ?_
    exact ⟨bool_eq (by symm; rw [decide_eq_false_iff_not]; intro h; rw [dfa_eq_iff] at h; exact khs h.1), E⟩
end Go.Proofs
namespace Go.Proofs
open Go Go.Eng Go.Sort
set_option maxRecDepth 100000
--BEGIN
theorem CanOf.ok {c : Nat} {f : List Nat → Int} {C : Dfa} (h : CanOf c f C) : OkD C.next.length c C ∧ C.start = 0 ∧ (∀ w, inW c w → beh C C.start w = f w) ∧ 1 ≤ C.next.length := by
  obtain ⟨m, b, h1, _, _⟩ := h
  have e := b.ok.nl
  have := b.ok.st
  exact ⟨by rw [e]; exact b.ok, b.st, fun w hw => by rw [b.st]; exact h1 w hw, by omega⟩
--END
theorem evn_d (w0 : World) : Ret Try.prog 27 #[] w0 fun r w => (∃ aa ac na nc, r = .agg #[.int .i64 0, .slice aa 2 ac, .slice na 2 nc] ∧ DfaAt w evnD [.int .i64 0, .slice aa 2 ac, .slice na 2 nc]) ∧ Ext w0 w :=
  (evn_c w0).mono fun r w h => by
    obtain ⟨⟨vs, rfl, h1⟩, h2⟩ := h
    have h3 := h1
    obtain ⟨aa, ac, na, nc, rfl, _, _⟩ := h3
    exact ⟨⟨aa, ac, na, nc, rfl, h1⟩, h2⟩
end Go.Proofs
namespace Go.Proofs
open Go Go.Eng Go.Sort
set_option maxRecDepth 100000
theorem DfaAt.parts {w : World} {d : Dfa} {s : Int} {ca ma : Option Addr} {cc mc n1 n2 : Nat} (h : DfaAt w d [.int .i64 s, .slice ca n1 cc, .slice ma n2 mc]) : IntsAt w (.slice ca n1 cc) d.accept ∧ IntssAt w (.slice ma n2 mc) d.next := by
  obtain ⟨_, _, _, _, hq, h1, h2⟩ := h
  simp only [List.cons.injEq, Value.slice.injEq, and_true] at hq
  obtain ⟨_, ⟨rfl, rfl, rfl⟩, rfl, rfl, rfl⟩ := hq
  exact ⟨h1, h2⟩
end Go.Proofs
namespace Go.Proofs
open Go Go.Eng Go.Sort
set_option maxRecDepth 100000
--BEGIN
def runN (d : Dfa) (s : Int) (w : List Nat) : Int := w.foldl (toD d) s
theorem OkD.runN {n c : Nat} {d : Dfa} (h : OkD n c d) (w : List Nat) : -1 ≤ runN d d.start w ∧ Go.Proofs.runN d d.start w < n := by
  have hst := h.st
  rcases List.eq_nil_or_concat w with rfl | ⟨u, x, rfl⟩
  · show -1 ≤ d.start ∧ d.start < n; omega
  · rw [List.concat_eq_append]
    simp only [Go.Proofs.runN, List.foldl_append, List.foldl_cons, List.foldl_nil]
    exact h.to
theorem first_at {F : List Int} (h : ∀ (k : Nat) x, F[k]? = some x → x ≤ mxL (F.take k) + 1) {j : Int} (hj : 0 < j) : ∀ p : Nat, p ≤ F.length → j ≤ mxL (F.take p) → ∃ k : Nat, k < p ∧ F[k]? = some j ∧ mxL (F.take k) < j
  | 0, _, h1 => by simp [mxL] at h1; omega
  | p + 1, hp, h1 => by
    rcases Int.lt_or_le (mxL (F.take p)) j with h2 | h2
    · obtain ⟨x, hx⟩ := get_of_lt (l := F) (i := p) (by omega)
      rw [take_get_snoc hx, mxL_snoc] at h1
      have h3 := h p x hx
      have : x = j := by omega
      subst this
      exact ⟨p, by omega, hx, h2⟩
    · obtain ⟨k, h3, h4, h5⟩ := first_at h hj p (by omega) h2
      exact ⟨k, by omega, h4, h5⟩
theorem Bfs.reach {n c : Nat} {C : Dfa} (b : Bfs n c C) : ∀ j : Nat, j < n → ∃ u, inW c u ∧ runN C 0 u = ((j : Nat) : Int) := by
  intro j
  induction j using Nat.strongRecOn with
  | ind j ih =>
    intro hj
    rcases Nat.eq_zero_or_pos j with rfl | hp
    · exact ⟨[], inW.nil c, rfl⟩
    · have hfl := flat_len (L := C.next) (c := c) fun r hr => (b.ok.row r hr).1
      rw [b.ok.nl] at hfl
      obtain ⟨k, h1, h2, h3⟩ := first_at b.ord (j := ((j : Nat) : Int)) (by omega) C.next.flatten.length (Nat.le_refl _) (by rw [List.take_length, b.fin]; omega)
      have hc : 0 < c := by
        rcases Nat.eq_zero_or_pos c with h | h
        · subst h; omega
        · exact h
      obtain ⟨i, x, rfl, hx⟩ : ∃ i x, k = i * c + x ∧ x < c := ⟨k / c, k % c, by rw [Nat.mul_comm]; exact (Nat.div_add_mod k c).symm, Nat.mod_lt _ hc⟩
      have hin : i < n := by
        apply Classical.byContradiction
        intro h
        have : n * c ≤ i * c := Nat.mul_le_mul_right c (by omega)
        omega
      have hmono : mxL (C.next.flatten.take (i * c)) ≤ mxL (C.next.flatten.take (i * c + x)) := mxL_take (by omega)
      have hri := b.rch i hin
      obtain ⟨u, hu, hr⟩ := ih i (by omega) hin
      refine ⟨u ++ [x], hu.snoc hx, ?_⟩
      rw [ent_to b.ok hin hx] at h2
      simp only [runN, List.foldl_append, List.foldl_cons, List.foldl_nil] at hr ⊢
      rw [hr]
      exact Option.some.inj h2
end Go.Proofs
namespace Go.Proofs
open Go Go.Eng Go.Sort
set_option maxRecDepth 100000
def rowT (t : Tab) (s : Nat) : List Int := (List.range t.cols).map fun c => atT t.ow t.nx t.bs s c
theorem rowT_len (t : Tab) (s : Nat) : (rowT t s).length = t.cols := by simp [rowT]
def unT (t : Tab) : Dfa := ⟨t.start, t.acc, (List.range t.bs.length).map (rowT t)⟩
def LsB (vo : Value) (vs : List Value) (b : Nat) : Prop := vo.ownBlock = some b ∨ ∃ (i : Nat) (v : Value), vs[i]? = some v ∧ v.ownBlock = some b
theorem LSt.ltB {To e sz base : Nat} {w : World} {vo : Value} {vs : List Value} {ns : List (Nat × List Value)} (h : LSt To e sz w base vo vs ns) {b : Nat} (hb : LsB vo vs b) : base ≤ b ∧ b < w.heap.size := by
  rcases hb with h1 | ⟨i, v, h1, h2⟩
  · exact h.o.lt b h1
  · obtain ⟨p, hp⟩ := get_of_lt (l := ns) (i := i) (by have := lt_of_get h1; have := h.len; omega)
    exact (h.inn i v p h1 hp).lt b h2
theorem LSt.chgB {M : Nat → Prop} {To e sz base : Nat} {w w' : World} {vo : Value} {vs : List Value} {ns : List (Nat × List Value)} (h : LSt To e sz w base vo vs ns) (c : Chg M w w') (hM : ∀ b, LsB vo vs b → ¬ M b) : LSt To e sz w' base vo vs ns :=
  ⟨own_chg h.o c fun b hb => hM b (.inl hb), h.len, fun i v p hv hp => own_chg (h.inn i v p hv hp) c fun b hb => hM b (.inr ⟨i, v, hv, hb⟩), h.apo⟩
/-- A slice of one's own that was made behind a size of the heap. -/
def cloR (l : List Int) (hs : Nat) : Fct := fun v w => ∃ b rest k, v = .slice (some ⟨b, 0, none⟩) l.length k ∧ Blk w b (l.map (Value.int .i64) ++ rest).toArray TDI ∧ l.length + rest.length = k ∧ k ≤ 9223372036854775807 ∧ hs ≤ b
theorem cloR_ext (l : List Int) (hs : Nat) : ∀ v w w', Ext w w' → cloR l hs v w → cloR l hs v w' := by
  rintro v w w' x ⟨b, rest, k, h1, h2, h3⟩
  exact ⟨b, rest, k, h1, x.keep h2, h3⟩
def cloA (s : Int) (l : List Int) (hs : Nat) : Fct := fun v w => ∃ b rest k, v = .agg #[.int .i64 s, .slice (some ⟨b, 0, none⟩) l.length k, .slice none 0 0] ∧ Blk w b (l.map (Value.int .i64) ++ rest).toArray TDI ∧ l.length + rest.length = k ∧ k ≤ 9223372036854775807 ∧ hs ≤ b
theorem cloA_ext (s : Int) (l : List Int) (hs : Nat) : ∀ v w w', Ext w w' → cloA s l hs v w → cloA s l hs v w' := by
  rintro v w w' x ⟨b, rest, k, h1, h2, h3⟩
  exact ⟨b, rest, k, h1, x.keep h2, h3⟩
theorem clone_ext (w0 : World) (v : Value) (l : List Int) (hs : Nat) (h : IntsAt w0 v l) (hl : l.length ≤ 2000000) (h1 : 0 < l.length) (hh : hs ≤ w0.heap.size) : Ret Try.prog 74 #[v] w0 fun r w => cloR l hs r w ∧ Ext w0 w := by
  refine (cloneo_c w0 v l h hl h1).mono ?_
  rintro r w ⟨⟨b, rest, k, rfl, hb, hB, hk, hkm⟩, e⟩
  exact ⟨⟨b, rest, k, rfl, hB, hk, hkm, by omega⟩, e⟩
set_option maxHeartbeats 4000000 in
theorem unpack_c (w0 : World) (t : Tab) (vs : List Value) (h : TabAt w0 t vs) (hg : GoodT t) : Ret Try.prog 41 #[.agg vs.toArray] w0 fun r w => (∃ dv, r = .tuple #[.agg (List.toArray dv), .int .i64 0] ∧ DfaAt w (unT t) dv) ∧ Ext w0 w := by
  have h' := h
  obtain ⟨aa, ac, ba, bc, oa, oc, na, nc, rfl, ha, hb, ho, hn⟩ := h'
  have g1 := hg.n1; have g2 := hg.n2; have g3 := hg.c1; have g4 := hg.c2; have g7 := hg.al
  refine Ret_of Try.func41 rfl Try.ntmps41 (Nat.le_of_ble_eq_true rfl) ?_
  have E : Chg none1 w0 w0 := Chg.refl _ _
  refine Wp_seq_region ?_
  refine s_box (v := (.agg #[(.int .i64 t.start), (.int .i64 ((t.cols : Nat) : Int)), (.slice aa t.acc.length ac), (.slice ba t.bs.length bc), (.slice oa t.ow.length oc), (.slice na t.nx.length nc)])) (c := #[(.int .i64 t.start), (.int .i64 ((t.cols : Nat) : Int)), (.slice aa t.acc.length ac), (.slice ba t.bs.length bc), (.slice oa t.ow.length oc), (.slice na t.nx.length nc)]) (by decide) rfl rfl ?_
  intro bt wt Nt
  have Ft := Nt.ge E
  replace E := E.ext Nt.ext
  have Bt := Nt.blk
  refine s_alloc (c := #[(.int .i64 0), (.slice none 0 0), (.slice none 0 0)]) (by decide) zer25 rfl ?_
  intro br wr Nr
  have Fr := Nr.ge E
  have Or_bt := Nr.lt Bt
  replace Bt := Nr.keep Bt
  replace E := E.ext Nr.ext
  have Br := Nr.blk
  refine WpL_val rfl rfl (by decide) (r_assign (v := (.int .i64 0)) rfl) ?_
  refine WpL_nil ?_
  refine Wp_seq ?_
  refine Wp_seq_region ?_
  refine WpL_val rfl rfl (by decide) (r_loadAgg (vs := [(.int .i64 t.start), (.int .i64 ((t.cols : Nat) : Int)), (.slice aa t.acc.length ac), (.slice ba t.bs.length bc), (.slice oa t.ow.length oc), (.slice na t.nx.length nc)]) rfl agg58 siz58 rfl (Bt.cells rfl)) ?_
  refine WpL_enter rfl rfl (by decide) (r_callF (vs := [(.agg #[(.int .i64 t.start), (.int .i64 ((t.cols : Nat) : Int)), (.slice aa t.acc.length ac), (.slice ba t.bs.length bc), (.slice oa t.ow.length oc), (.slice na t.nx.length nc)])]) Try.func44 nm44 bd44 rfl) (tcheck_c _ t _ (h.ext E) hg) ?_
  rintro _ w9 ⟨rfl, X9⟩
  replace Bt := X9.keep Bt
  replace Br := X9.keep Br
  replace E := E.ext X9
  obtain ⟨z0, hz0⟩ : ∃ z0, z0 = (w9).heap.size := ⟨_, rfl⟩
  have hz0r : br < z0 ∧ bt < z0 := ⟨by rw [hz0]; exact Br.lt, by rw [hz0]; exact Bt.lt⟩
  refine WpL_val rfl rfl (by decide) (r_assign (v := (.int .i64 0)) rfl) ?_
  refine WpL_nil ?_
  refine Wp_seq_region ?_
  refine WpL_val rfl rfl (by decide) (r_move (v := (.int .i64 0)) rfl) ?_
  refine WpL_val rfl rfl (by decide) (r_neq (k := .i64) (a := 0) (b := 0) rfl rfl) ?_
  refine WpL_nil ?_
  refine Wp_cond_false rfl ?_
  refine Wp_skip ?_
  refine thn_normal ?_
  have hz_1 : w0.heap.size ≤ w9.heap.size := E.size
  have lz_1_bt : bt < w9.heap.size := Bt.lt
  have lz_1_br : br < w9.heap.size := Br.lt
  refine Wp_seq ?_
  obtain ⟨Fs1, hFs1⟩ : ∃ Fs : List FctS, Fs = [(fun _ _ v _ => v = (.pointer (some ⟨bt, 0, none⟩))), (fun _ _ v _ => v = (.int .i64 t.start)), (fun _ _ v _ => v = (.pointer (some ⟨bt, 2, none⟩))), (fun _ _ v _ => v = (.slice aa t.acc.length ac)), (fun _ _ => cloR t.acc z0), (fun _ _ => cloA t.start t.acc z0), (fun _ _ => alF 25 #[(.int .i64 0), (.slice none 0 0), (.slice none 0 0)] w9.heap.size), (fun _ _ v _ => v = undef)] := ⟨_, rfl⟩
  refine Wp_dagS (MsL []) [true, true, true, true, true, true, true, false] [7] [15, 16, 17, 18, 19, 20, 5, 58] [[], [0], [], [2], [3], [1, 4], [], []] [[], [0], [], [2], [3, 2], [1, 0, 4, 3, 2], [], []] Fs1 hFs1 (by kernel_rfl) mixed (by kernel_rfl) (by kernel_rfl) (by kernel_rfl) (by kernel_rfl) ?_ ?_
  · intro wd X0
    refine DagStepsS.cons (StabS.eq) (LocS.const) (fun S s' w' hi hN X U V H => Or.inl ⟨Guarded_none rfl, ?_⟩) ?_
    · replace X := X.mono (M' := none1) (fun y _ h => by
          obtain ⟨j, hj, h⟩ := h
          exact h.elim)
      exact DoesT_pure (r_fieldAddr (b := bt) (o := 0) (o' := 0) (U 1 rfl) Try.underlying58 rfl siz3 rfl) rfl
    refine DagStepsS.cons (StabS.eq) (LocS.const) (fun S s' w' hi hN X U V H => Or.inl ⟨Guarded_none rfl, ?_⟩) ?_
    · replace X := X.mono (M' := none1) (fun y _ h => by
          obtain ⟨j, hj, h⟩ := h
          exact h.elim)
      have e15 : s' 15 = (.pointer (some ⟨bt, 0, none⟩)) := (H 0 rfl).2 15 (fun _ _ v _ => v = (.pointer (some ⟨bt, 0, none⟩))) rfl (by rw [hFs1]; rfl)
      exact DoesT_pure (r_load (v := (.int .i64 t.start)) e15 flat3 (((X0.trans X).keep Bt).cell rfl)) rfl
    refine DagStepsS.cons (StabS.eq) (LocS.const) (fun S s' w' hi hN X U V H => Or.inl ⟨Guarded_none rfl, ?_⟩) ?_
    · replace X := X.mono (M' := none1) (fun y _ h => by
          obtain ⟨j, hj, h⟩ := h
          exact h.elim)
      exact DoesT_pure (r_fieldAddr (b := bt) (o := 0) (o' := 2) (U 1 rfl) Try.underlying58 rfl siz22 rfl) rfl
    refine DagStepsS.cons (StabS.eq) (LocS.const) (fun S s' w' hi hN X U V H => Or.inl ⟨Guarded_none rfl, ?_⟩) ?_
    · replace X := X.mono (M' := none1) (fun y _ h => by
          obtain ⟨j, hj, h⟩ := h
          exact h.elim)
      have e17 : s' 17 = (.pointer (some ⟨bt, 2, none⟩)) := (H 2 rfl).2 17 (fun _ _ v _ => v = (.pointer (some ⟨bt, 2, none⟩))) rfl (by rw [hFs1]; rfl)
      exact DoesT_pure (r_load (v := (.slice aa t.acc.length ac)) e17 flat22 (((X0.trans X).keep Bt).cell rfl)) rfl
    refine DagStepsS.cons (StabS.chg (U := none1) (cloR_ext _ _) (fun p y hp hw h => by
          exact h.elim)) (LocS.const) (fun S s' w' hi hN X U V H => Or.inl ⟨Guarded_none rfl, ?_⟩) ?_
    · replace X := X.mono (M' := none1) (fun y _ h => by
          obtain ⟨j, hj, h⟩ := h
          exact h.elim)
      have e18 : s' 18 = (.slice aa t.acc.length ac) := (H 3 rfl).2 18 (fun _ _ v _ => v = (.slice aa t.acc.length ac)) rfl (by rw [hFs1]; rfl)
      exact DoesT_callE (r_callF (vs := [(.slice aa t.acc.length ac)]) Try.func74 nm74 bd74 (lst1 e18)) (clone_ext _ _ t.acc z0 (ha.ext (Ext.trans E (X0.trans X))) (by omega) (by omega) (by have := X0.size; have := X.size; omega))
    refine DagStepsS.cons (StabS.chg (U := none1) (cloA_ext _ _ _) (fun p y hp hw h => by
          exact h.elim)) (LocS.const) (fun S s' w' hi hN X U V H => Or.inl ⟨Guarded_none rfl, ?_⟩) ?_
    · replace X := X.mono (M' := none1) (fun y _ h => by
          obtain ⟨j, hj, h⟩ := h
          exact h.elim)
      have e16 : s' 16 = (.int .i64 t.start) := (H 1 rfl).2 16 (fun _ _ v _ => v = (.int .i64 t.start)) rfl (by rw [hFs1]; rfl)
      obtain ⟨b19, r19, k19, e19, B19, m19, n19, g19⟩ := (show ((fun _ _ => cloR t.acc z0) : FctS) S s' (s' 19) w' from (H 4 rfl).2 19 (fun _ _ => cloR t.acc z0) rfl (by rw [hFs1]; rfl))
      exact DoesT_pure (r_build (ps := [(0, .int .i64 t.start), (1, .slice (some ⟨b19, 0, none⟩) t.acc.length k19)]) (v := .agg #[.int .i64 t.start, .slice (some ⟨b19, 0, none⟩) t.acc.length k19, .slice none 0 0]) (bld2 e16 e19) (by kernel_rfl)) ⟨b19, r19, k19, rfl, B19, m19, n19, g19⟩
    refine DagStepsS.cons (StabS.chg (U := none1) (fun v w w' x h => alF_ext _ _ _ v w w' x h) (fun p y hp hw h => by
          exact h.elim)) (LocS.const) (fun S s' w' hi hN X U V H => Or.inl ⟨Guarded_none rfl, ?_⟩) ?_
    · replace X := X.mono (M' := none1) (fun y _ h => by
          obtain ⟨j, hj, h⟩ := h
          exact h.elim)
      exact DoesT_alloc (c := #[(.int .i64 0), (.slice none 0 0), (.slice none 0 0)]) zer25 rfl (by have := X0.size; have := X.size; omega)
    refine DagStepsS.tail ?_
    exact DagStepsS.nil
  · intro s' wd1 w1 X0 X1 U H
    replace X1 := X1.mono (M' := none1) (fun y _ h => by
        obtain ⟨j, hj, h⟩ := h
        exact h.elim)
    obtain ⟨b20, r20, k20, e20, B20, m20, n20, g20⟩ := (show ((fun _ _ => cloA t.start t.acc z0) : FctS) (allS [true, true, true, true, true, true, true, false]) s' (s' 20) w1 from H 5 rfl 20 (fun _ _ => cloA t.start t.acc z0) rfl (by rw [hFs1]; rfl))
    obtain ⟨b5, e5, B5, g5⟩ := (show ((fun _ _ => alF 25 #[(.int .i64 0), (.slice none 0 0), (.slice none 0 0)] w9.heap.size) : FctS) (allS [true, true, true, true, true, true, true, false]) s' (s' 5) w1 from H 6 rfl 5 (fun _ _ => alF 25 #[(.int .i64 0), (.slice none 0 0), (.slice none 0 0)] w9.heap.size) rfl (by rw [hFs1]; rfl))
    obtain ⟨j1, rfl⟩ := Fits.out (σ := s') (l := [(1, (.pointer (some ⟨bt, 0, none⟩))), (2, (.pointer (some ⟨br, 0, none⟩))), (20, (.agg #[(.int .i64 t.start), (.slice (some ⟨b20, 0, none⟩) t.acc.length k20), (.slice none 0 0)])), (5, (.pointer (some ⟨b5, 0, none⟩)))]) ⟨U 1 rfl, U 2 rfl, e20, e5, trivial⟩
    clear U H
    replace Bt := (X0.trans X1).keep Bt
    replace Br := (X0.trans X1).keep Br
    replace X1 := X0.trans X1
    replace E := E.ext X1
    have hne5 : b20 ≠ b5 := fun e => by have h8 := B20; rw [e] at h8; unfold Blk at h8 B5; rw [h8] at B5; simp at B5; exact absurd B5.2 (by decide)
    refine s_storeAgg (b := b5) (o := 0) (c' := #[(.int .i64 t.start), (.slice (some ⟨b20, 0, none⟩) t.acc.length k20), (.slice none 0 0)]) rfl rfl (by simp [Value.oneCell']) siz25 rfl B5 (by simp) rfl ?_
    intro w2 S2
    replace Bt := S2.keep (by omega) Bt
    replace Br := S2.keep (by omega) Br
    replace B20 := S2.keep (by omega) B20
    replace E := S2.step E (by first | exact Or.inl (by omega) | exact Or.inr rfl | exact Or.inr (by assumption) | exact Or.inr (by simp) | exact Or.inr (by omega) | exact Or.inr (by dsimp only; omega))
    replace B5 := S2.blk
    refine WpL_nil ?_
    refine thn_normal ?_
    refine Wp_seq ?_
    refine Wp_seq_region ?_
    refine WpL_val rfl rfl (by decide) (r_fieldAddr (b := bt) (o := 0) (o' := 3) rfl Try.underlying58 rfl siz22 rfl) ?_
    refine WpL_val rfl rfl (by decide) (r_load (v := (.slice ba t.bs.length bc)) rfl flat22 (Bt.cell rfl)) ?_
    refine WpL_val rfl rfl (by decide) (r_lenSlice (ad := ba) (n := t.bs.length) (cap := bc) Try.underlying22 rfl) ?_
    refine WpL_val rfl rfl (by decide) (r_move (v := (.int .i64 0)) rfl) ?_
    refine WpL_nil ?_
    refine Wp_block ?_
    obtain ⟨n1, hn1e⟩ : ∃ n1, n1 = (w2).heap.size := ⟨_, rfl⟩
    have hb5n : b5 < n1 ∧ br < n1 ∧ b20 < n1 := ⟨by rw [hn1e]; exact B5.lt, by rw [hn1e]; exact Br.lt, by rw [hn1e]; exact B20.lt⟩
    have hbs0 : w0.heap.size ≤ n1 := by rw [hn1e]; exact E.size
    refine Wp_loop (fun nn_ σ W3 => ∃ (i : Nat) (vs : List Value) (na2 : Option Addr) (nc2 : Nat), (∃ jj_, σ = upds jj_ [(1, (.pointer (some ⟨bt, 0, none⟩))), (2, (.pointer (some ⟨br, 0, none⟩))), (5, (.pointer (some ⟨b5, 0, none⟩))), (23, (.int .i64 ((t.bs.length : Nat) : Int))), (24, (.int .i64 ((i : Nat) : Int)))]) ∧ Chg none1 w0 W3 ∧ Blk W3 bt #[(.int .i64 t.start), (.int .i64 ((t.cols : Nat) : Int)), (.slice aa t.acc.length ac), (.slice ba t.bs.length bc), (.slice oa t.ow.length oc), (.slice na t.nx.length nc)] 58 ∧ Blk W3 br #[(.int .i64 0), (.slice none 0 0), (.slice none 0 0)] 25 ∧ Blk W3 b5 (#[Value.int .i64 t.start, .slice (some ⟨b20, 0, none⟩) t.acc.length k20, .slice na2 i nc2]) 25 ∧ Blk W3 b20 ((t.acc.map (Value.int .i64) ++ r20).toArray) 3 ∧ (i ≤ t.bs.length) ∧ (LSt TDIs TDI 1 W3 n1 (.slice na2 i nc2) vs (((List.range i).map (rowT t)).map iRow)) ∧ (n1 ≤ W3.heap.size) ∧ nn_ = t.bs.length - i) (n := t.bs.length - 0) ?_ ?_
    · exact ⟨0, [], none, 0, Fits.out ⟨rfl, rfl, rfl, rfl, rfl, trivial⟩, E, Bt, Br, B5, B20, Nat.zero_le _, LSt.start _ _ _ _ _, (by omega), rfl⟩
    · clear E Bt Br B5 B20
      rintro _ _ W3 ⟨i, vs, na2, nc2, ⟨j3, rfl⟩, E, Bt, Br, B5, B20, hi, hL, hsz, rfl⟩
      refine Wp_seq_region ?_
      refine WpL_val rfl rfl (by decide) (r_lss (k := .i64) (a := ((i : Nat) : Int)) (b := ((t.bs.length : Nat) : Int)) rfl rfl) ?_
      refine WpL_nil ?_
      refine Wp_seq ?_
      refine Wp_cond (b := decide ((((i : Nat) : Int) : Int) < ((t.bs.length : Nat) : Int))) rfl (fun hlt => ?_) (fun hlt => ?_)
      · have khlt := hlt
        replace hlt := of_decide_eq_true hlt
        obtain ⟨bb, hbb⟩ := get_of_lt (l := t.bs) (i := i) (by omega)
        have hbm := hg.bm bb (List.mem_of_getElem? hbb)
        obtain ⟨z1, hz1⟩ : ∃ z1, z1 = (W3).heap.size := ⟨_, rfl⟩
        have hnz1 : n1 ≤ z1 := by omega
        have hLz : ∀ b, LsB (.slice na2 i nc2) vs b → b < z1 := fun b hb => by have := (hL.ltB hb).2; omega
        refine Wp_skip ?_
        refine thn_normal ?_
        refine Wp_seq ?_
        refine Wp_block ?_
        refine Wp_seq_region ?_
        refine WpL_val rfl rfl (by decide) (r_move (v := (.int .i64 ((i : Nat) : Int))) rfl) ?_
        refine WpL_val rfl rfl (by decide) (r_assign (v := (.int .i64 ((i : Nat) : Int))) rfl) ?_
        refine WpL_nil ?_
        refine Wp_seq_region ?_
        refine WpL_val rfl rfl (by decide) (r_fieldAddr (b := bt) (o := 0) (o' := 1) rfl Try.underlying58 rfl siz3 rfl) ?_
        refine WpL_val rfl rfl (by decide) (r_load (v := (.int .i64 ((t.cols : Nat) : Int))) rfl flat3 (Bt.cell rfl)) ?_
        refine s_make (n := t.cols) (z := (.int .i64 0)) (bytes := 8) (by decide) Try.underlying22 siz3 byt3 zer3 rfl rfl rfl (by omega) (by omega) ?_
        intro bq wq Nq
        have Fq := Nq.ge E
        have Oq_bt := Nq.lt Bt
        have Oq_br := Nq.lt Br
        have Oq_b5 := Nq.lt B5
        have Oq_b20 := Nq.lt B20
        replace Bt := Nq.keep Bt
        replace Br := Nq.keep Br
        replace B5 := Nq.keep B5
        replace B20 := Nq.keep B20
        replace hL := hL.ext Nq.ext
        replace hsz := Nat.le_trans hsz Nq.ext.size
        replace E := E.ext Nq.ext
        have Bq := Nq.blk
        refine WpL_val rfl rfl (by decide) (r_assign (v := (.slice (some ⟨bq, 0, none⟩) t.cols t.cols)) rfl) ?_
        refine WpL_nil ?_
        refine Wp_seq ?_
        refine Wp_seq_region ?_
        refine WpL_val rfl rfl (by decide) (r_move (v := (.slice (some ⟨bq, 0, none⟩) t.cols t.cols)) rfl) ?_
        refine WpL_val rfl rfl (by decide) (r_lenSlice (ad := some ⟨bq, 0, none⟩) (n := t.cols) (cap := t.cols) Try.underlying22 rfl) ?_
        refine WpL_val rfl rfl (by decide) (r_move (v := (.int .i64 0)) rfl) ?_
        refine WpL_nil ?_
        refine Wp_block ?_
        rw [show List.replicate t.cols (Value.int .i64 0) = (List.replicate t.cols (0 : Int)).map (Value.int .i64) by simp] at Bq
        have hqz : z1 ≤ bq := by have := Nq.eq; omega
        refine Wp_loop (fun nn_ σ W5 => ∃ (x : Nat) (R : List Int), (∃ jj_, σ = upds jj_ [(1, (.pointer (some ⟨bt, 0, none⟩))), (2, (.pointer (some ⟨br, 0, none⟩))), (5, (.pointer (some ⟨b5, 0, none⟩))), (6, (.int .i64 ((i : Nat) : Int))), (7, (.slice (some ⟨bq, 0, none⟩) t.cols t.cols)), (23, (.int .i64 ((t.bs.length : Nat) : Int))), (24, (.int .i64 ((i : Nat) : Int))), (31, (.int .i64 ((t.cols : Nat) : Int))), (32, (.int .i64 ((x : Nat) : Int)))]) ∧ Chg none1 w0 W5 ∧ Blk W5 bt #[(.int .i64 t.start), (.int .i64 ((t.cols : Nat) : Int)), (.slice aa t.acc.length ac), (.slice ba t.bs.length bc), (.slice oa t.ow.length oc), (.slice na t.nx.length nc)] 58 ∧ Blk W5 br #[(.int .i64 0), (.slice none 0 0), (.slice none 0 0)] 25 ∧ Blk W5 b5 (#[Value.int .i64 t.start, .slice (some ⟨b20, 0, none⟩) t.acc.length k20, .slice na2 i nc2]) 25 ∧ Blk W5 b20 ((t.acc.map (Value.int .i64) ++ r20).toArray) 3 ∧ Blk W5 bq ((R.map (Value.int .i64)).toArray) 3 ∧ (x ≤ t.cols) ∧ (R.length = t.cols) ∧ (R.take x = (rowT t i).take x) ∧ (LSt TDIs TDI 1 W5 n1 (.slice na2 i nc2) vs (((List.range i).map (rowT t)).map iRow)) ∧ (n1 ≤ W5.heap.size) ∧ nn_ = t.cols - x) (n := t.cols - 0) ?_ ?_
        · exact ⟨0, List.replicate t.cols 0, Fits.out ⟨rfl, rfl, rfl, rfl, rfl, rfl, rfl, rfl, rfl, trivial⟩, E, Bt, Br, B5, B20, Bq, Nat.zero_le _, (by simp), (by simp), hL, hsz, rfl⟩
        · clear E Bt Br B5 B20 Bq
          rintro _ _ W5 ⟨x, R, ⟨j5, rfl⟩, E, Bt, Br, B5, B20, Bq, hx, hRl, hRt, hL, hsz, rfl⟩
          refine Wp_seq_region ?_
          refine WpL_val rfl rfl (by decide) (r_lss (k := .i64) (a := ((x : Nat) : Int)) (b := ((t.cols : Nat) : Int)) rfl rfl) ?_
          refine WpL_nil ?_
          refine Wp_seq ?_
          refine Wp_cond (b := decide ((((x : Nat) : Int) : Int) < ((t.cols : Nat) : Int))) rfl (fun hlt2 => ?_) (fun hlt2 => ?_)
          · have khlt2 := hlt2
            replace hlt2 := of_decide_eq_true hlt2
            refine Wp_skip ?_
            refine thn_normal ?_
            refine Wp_seq ?_
            refine Wp_block ?_
            refine Wp_seq_region ?_
            refine WpL_val rfl rfl (by decide) (r_move (v := (.int .i64 ((x : Nat) : Int))) rfl) ?_
            refine WpL_val rfl rfl (by decide) (r_assign (v := (.int .i64 ((x : Nat) : Int))) rfl) ?_
            refine WpL_nil ?_
            refine Wp_region ?_
            refine WpL_val rfl rfl (by decide) (r_move (v := (.slice (some ⟨bq, 0, none⟩) t.cols t.cols)) rfl) ?_
            refine WpL_val rfl rfl (by decide) (r_move (v := (.int .i64 ((x : Nat) : Int))) rfl) ?_
            refine WpL_val rfl rfl (by decide) (r_loadAgg (vs := [(.int .i64 t.start), (.int .i64 ((t.cols : Nat) : Int)), (.slice aa t.acc.length ac), (.slice ba t.bs.length bc), (.slice oa t.ow.length oc), (.slice na t.nx.length nc)]) rfl agg58 siz58 rfl (Bt.cells rfl)) ?_
            refine WpL_val rfl rfl (by decide) (r_move (v := (.int .i64 ((i : Nat) : Int))) rfl) ?_
            refine WpL_val rfl rfl (by decide) (r_move (v := (.int .i64 ((x : Nat) : Int))) rfl) ?_
            refine WpL_enter rfl rfl (by decide) (r_callF (vs := [(.agg #[(.int .i64 t.start), (.int .i64 ((t.cols : Nat) : Int)), (.slice aa t.acc.length ac), (.slice ba t.bs.length bc), (.slice oa t.ow.length oc), (.slice na t.nx.length nc)]), (.int .i64 ((i : Nat) : Int)), (.int .i64 ((x : Nat) : Int))]) Try.func82 nm82 bd82 rfl) (at_c _ t _ i x bb (h.ext E) hbb hg.nl (by omega)) ?_
            rintro _ w39 ⟨rfl, X39⟩
            replace Bt := X39.keep Bt
            replace Br := X39.keep Br
            replace B5 := X39.keep B5
            replace B20 := X39.keep B20
            replace Bq := X39.keep Bq
            replace hL := hL.ext X39
            replace hsz := Nat.le_trans hsz X39.size
            replace E := E.ext X39
            refine WpL_val rfl rfl (by decide) (r_indexSlice (b := bq) (o := 0) (len := t.cols) (cap := t.cols) (i := x) (o' := 0 + x) rfl rfl rfl Try.underlying22 siz3 (by omega) (by omega)) ?_
            refine s_store (b := bq) (o := 0 + x) (c' := ((R.set x (atT t.ow t.nx t.bs i x)).map (Value.int .i64)).toArray) (v := (.int .i64 (atT t.ow t.nx t.bs i x))) rfl rfl rfl siz3 Bq (by simp; omega) (ints_setD _) ?_
            intro w7 S7
            replace hL := hL.chgB S7.chg fun b hb h => by have := hLz b hb; have h' : b = bq := h; omega
            replace hsz := Nat.le_trans hsz S7.chg.size
            replace Bt := S7.keep (by omega) Bt
            replace Br := S7.keep (by omega) Br
            replace B5 := S7.keep (by omega) B5
            replace B20 := S7.keep (by omega) B20
            replace E := S7.step E (by first | exact Or.inl (by omega) | exact Or.inr rfl | exact Or.inr (by assumption) | exact Or.inr (by simp) | exact Or.inr (by omega) | exact Or.inr (by dsimp only; omega))
            replace Bq := S7.blk
            have hts := take_set_succ (L := R) (s := x) (x := atT t.ow t.nx t.bs i x) (by omega)
            have hrx : (rowT t i)[x]? = some (atT t.ow t.nx t.bs i x) := by unfold rowT; rw [List.getElem?_map, List.getElem?_range (by omega)]; rfl
            refine WpL_nil ?_
            refine inB_normal ?_
            refine thn_normal ?_
            refine Wp_region ?_
            refine WpL_val rfl rfl (by decide) (r_add (k := .i64) (a := ((x : Nat) : Int)) (b := 1) (c := ((x : Nat) : Int) + 1) rfl rfl (wI64 (by omega))) ?_
            refine WpL_val rfl rfl (by decide) (r_move (v := (.int .i64 (((x : Nat) : Int) + 1))) rfl) ?_
            refine WpL_nil ?_
            refine thn_normal ?_
            exact ⟨t.cols - (x + 1), by omega, x + 1, R.set x (atT t.ow t.nx t.bs i x), Fits.out ⟨rfl, rfl, rfl, rfl, rfl, rfl, rfl, rfl, rfl, trivial⟩, E, Bt, Br, B5, B20, Bq, (by omega), (by simp [hRl]), (by rw [hts, hRt, take_snoc' hrx]), hL, hsz, rfl⟩
          · have khlt2 := hlt2
            replace hlt2 := of_decide_eq_false hlt2
            have hxc : x = t.cols := by omega
            rw [hxc, List.take_of_length_le (by omega), List.take_of_length_le (by rw [rowT_len]; omega)] at hRt
            rw [hRt] at Bq
            have hUq := own_exact (base := bq) Bq (Nat.le_refl _) (rowT_len t i)
            refine Wp_exit ?_
            refine thn_exit ?_
            refine thn_exit ?_
            refine inB_here ?_
            refine thn_normal ?_
            refine Wp_region ?_
            refine WpL_val rfl rfl (by decide) (r_fieldAddr (b := b5) (o := 0) (o' := 2) rfl Try.underlying25 rfl siz23 rfl) ?_
            refine WpL_val rfl rfl (by decide) (r_load (v := (.slice na2 i nc2)) rfl flat23 (B5.cell rfl)) ?_
            refine WpL_val rfl rfl (by decide) (r_move (v := (.slice (some ⟨bq, 0, none⟩) t.cols t.cols)) rfl) ?_
            refine s_buildSlice (ps := [(0, (.slice (some ⟨bq, 0, none⟩) t.cols t.cols))]) (c := #[(.slice (some ⟨bq, 0, none⟩) t.cols t.cols)]) (by decide) rfl Try.underlying23 siz22 zer22 (by decide) (by decide) (by kernel_rfl) ?_
            intro bu wu Nu
            have Fu := Nu.ge E
            have Ou_bt := Nu.lt Bt
            have Ou_br := Nu.lt Br
            have Ou_b5 := Nu.lt B5
            have Ou_b20 := Nu.lt B20
            have Ou_bq := Nu.lt Bq
            replace Bt := Nu.keep Bt
            replace Br := Nu.keep Br
            replace B5 := Nu.keep B5
            replace B20 := Nu.keep B20
            replace Bq := Nu.keep Bq
            replace hL := hL.ext Nu.ext
            replace hsz := Nat.le_trans hsz Nu.ext.size
            replace E := E.ext Nu.ext
            have Bu := Nu.blk
            have hbqu : bq < (wu).heap.size := Bq.lt
            have hO8 : (wu).ownsRow n1 TDIs 1 (.slice na2 i nc2) i vs := hL.on (by simp)
            refine s_append (base := n1) (n := i) (m := 1) (xs := vs) (news := [(.slice (some ⟨bq, 0, none⟩) t.cols t.cols)]) (size := 1) (bytes := 24) (v := (.slice na2 i nc2)) (by decide) Try.underlying23 siz22 byt22 zer22 rfl (by decide) rfl hO8 rfl (rfl) (Bu.cells rfl) (by simp [Value.oneCell']) (by unfold maxLen; omega) (by omega) ((by omega)) ?_
            intro v7 w59 Ov7 Cv7 Dv7
            replace Bt := Cv7.keep (fun h => by have := (hO8.lt _ h).1; omega) Bt
            replace Br := Cv7.keep (fun h => by have := (hO8.lt _ h).1; omega) Br
            replace B5 := Cv7.keep (fun h => by have := (hO8.lt _ h).1; omega) B5
            replace B20 := Cv7.keep (fun h => by have := (hO8.lt _ h).1; omega) B20
            replace E := E.step Cv7 (fun x hx h => absurd (hO8.lt x h).1 (by omega))
            obtain ⟨sa3, sc3, rfl⟩ := own_form Ov7
            have hL2 := hL.push (n := i) (by simp) (own_ext hUq Nu.ext) (by omega) (fun k hk => by have := hLz k (.inl hk); omega) Ov7 Cv7 (fun k hk => (Dv7 k hk).imp id (fun h9 => h9))
            have hsz2 := Nat.le_trans hsz Cv7.size
            refine WpL_val rfl rfl (by decide) (r_fieldAddr (b := b5) (o := 0) (o' := 2) rfl Try.underlying25 rfl siz23 rfl) ?_
            refine s_store (b := b5) (o := 2) (c' := #[(.int .i64 t.start), (.slice (some ⟨b20, 0, none⟩) t.acc.length k20), (.slice sa3 (i + 1) sc3)]) (v := (.slice sa3 (i + 1) sc3)) rfl rfl rfl siz23 B5 (by simp) rfl ?_
            intro w8 S8
            replace hL2 := hL2.chgB S8.chg fun b hb h => by have := (hL2.ltB hb).1; have h' : b = b5 := h; omega
            replace hsz2 := Nat.le_trans hsz2 S8.chg.size
            replace Bt := S8.keep (by omega) Bt
            replace Br := S8.keep (by omega) Br
            replace B20 := S8.keep (by omega) B20
            replace E := S8.step E (by first | exact Or.inl (by omega) | exact Or.inr rfl | exact Or.inr (by assumption) | exact Or.inr (by simp) | exact Or.inr (by omega) | exact Or.inr (by dsimp only; omega))
            replace B5 := S8.blk
            refine WpL_nil ?_
            refine inB_normal ?_
            refine thn_normal ?_
            refine Wp_region ?_
            refine WpL_val rfl rfl (by decide) (r_add (k := .i64) (a := ((i : Nat) : Int)) (b := 1) (c := ((i : Nat) : Int) + 1) rfl rfl (wI64 (by omega))) ?_
            refine WpL_val rfl rfl (by decide) (r_move (v := (.int .i64 (((i : Nat) : Int) + 1))) rfl) ?_
            refine WpL_nil ?_
            refine thn_normal ?_
            exact ⟨t.bs.length - (i + 1), by omega, i + 1, vs ++ [Value.slice (some ⟨bq, 0, none⟩) t.cols t.cols], sa3, sc3, Fits.out ⟨rfl, rfl, rfl, rfl, rfl, trivial⟩, E, Bt, Br, B5, B20, (by omega), (by rw [List.range_succ, List.map_append, List.map_append]; show LSt TDIs TDI 1 _ n1 _ _ (_ ++ [((rowT t i).length, (rowT t i).map (Value.int .i64))]); rw [rowT_len]; exact hL2), hsz2, rfl⟩
      · have khlt := hlt
        replace hlt := of_decide_eq_false hlt
        have hib : i = t.bs.length := by omega
        subst hib
        refine Wp_exit ?_
        refine thn_exit ?_
        refine thn_exit ?_
        refine inB_here ?_
        refine thn_normal ?_
        refine Wp_seq_region ?_
        refine WpL_val rfl rfl (by decide) (r_loadAgg (vs := [(.int .i64 t.start), (.slice (some ⟨b20, 0, none⟩) t.acc.length k20), (.slice na2 t.bs.length nc2)]) rfl agg25 siz25 rfl (B5.cells rfl)) ?_
        refine s_storeAgg (b := br) (o := 0) (c' := #[(.int .i64 t.start), (.slice (some ⟨b20, 0, none⟩) t.acc.length k20), (.slice na2 t.bs.length nc2)]) rfl rfl (by simp [Value.oneCell']) siz25 rfl Br (by simp) rfl ?_
        intro w9 S9
        replace hL := hL.chgB S9.chg fun b hb h => by have := (hL.ltB hb).1; have h' : b = br := h; omega
        replace Bt := S9.keep (by omega) Bt
        replace B5 := S9.keep (by omega) B5
        replace B20 := S9.keep (by omega) B20
        replace E := S9.step E (by first | exact Or.inl (by omega) | exact Or.inr rfl | exact Or.inr (by assumption) | exact Or.inr (by simp) | exact Or.inr (by omega) | exact Or.inr (by dsimp only; omega))
        replace Br := S9.blk
        refine WpL_val rfl rfl (by decide) (r_assign (v := (.int .i64 0)) rfl) ?_
        refine WpL_nil ?_
        refine Wp_ret ?_
        refine fin_agg_tmp Try.results41 (vs := [(.int .i64 t.start), (.slice (some ⟨b20, 0, none⟩) t.acc.length k20), (.slice na2 t.bs.length nc2)]) (b := br) (v' := (.int .i64 0)) rfl agg25 siz25 rfl (Br.cells rfl) rfl ?_
        have hnl : (unT t).next.length = t.bs.length := by simp [unT]
        exact ⟨⟨_, rfl, ⟨some ⟨b20, 0, none⟩, k20, na2, nc2, by rw [hnl]; rfl, ints_own (l := t.acc) (rest := r20) B20 (by omega) (by omega), by rw [hnl]; exact hL.intss⟩⟩, E⟩
end Go.Proofs
namespace Go.Proofs
open Go Go.Eng
set_option maxRecDepth 100000
def encN (x : Nat) : List Nat := if x < 128 then [x] else (x % 128 + 128) :: encN (x / 128)
termination_by x
theorem encN_small {x : Nat} (h : x < 128) : encN x = [x] := by rw [encN, if_pos h]
theorem encN_big {x : Nat} (h : 128 ≤ x) : encN x = (x % 128 + 128) :: encN (x / 128) := by rw [encN, if_neg (by omega)]
theorem encN_pos (x : Nat) : 0 < (encN x).length := by rw [encN]; split <;> simp
theorem encN_len : ∀ (k x : Nat), x < 128 ^ (k + 1) → (encN x).length ≤ k + 1
  | 0, x, h => by rw [encN_small (by simpa using h)]; simp
  | k + 1, x, h => by
    rcases Nat.lt_or_ge x 128 with h1 | h1
    · rw [encN_small h1]; simp
    · rw [encN_big h1, List.length_cons]
      have := encN_len k (x / 128) (Nat.div_lt_of_lt_mul (by rw [← Nat.pow_succ']; exact h))
      omega
def byV (x : Nat) : List Value := [.int .u8 ((x : Nat) : Int)]
abbrev ByAt (w : World) (v : Value) (l : List Nat) : Prop := SlAt w 1 v (l.map byV)
theorem by_cells {w : World} {a : Option Addr} {n c : Nat} {l : List Nat} (h : ByAt w (.slice a n c) l) (hn : 0 < n) :
    ∃ b o, a = some ⟨b, o, none⟩ ∧ ∀ i x, l[i]? = some x → w.cell? ⟨b, o + i, none⟩ = some (.int .u8 ((x : Nat) : Int)) := by
  obtain ⟨b, o, ha, h⟩ := SlAt.at h hn
  refine ⟨b, o, ha, fun i x hx => ?_⟩
  have := h i (byV x) (by simp [hx]) 0 _ rfl
  simpa using this
theorem by_flat (l : List Nat) : (l.map byV).flatten = l.map fun x => Value.int .u8 ((x : Nat) : Int) := by
  induction l with
  | nil => rfl
  | cons x l ih => simp [byV]; simpa [byV] using ih
theorem by_own {w : World} {base n : Nat} {v : Value} {l : List Nat} (h : w.ownsRow base TU8 1 v n (l.map fun x => Value.int .u8 ((x : Nat) : Int))) (hn : n = l.length) : ByAt w v l := by
  rw [← by_flat] at h
  exact own_slat h (by intro x hx; simp only [List.mem_map] at hx; obtain ⟨p, _, rfl⟩ := hx; rfl) (by simp [hn]) (by decide)
theorem and8 {P : Program} {w : World} (m : Nat) (hm : m < 256) : (Op.intBits .and .u8 (m : Int) 127).run P w = .ok (.int .u8 ((m % 128 : Nat) : Int)) w := by
  have h1 : m &&& 127 = m % 128 := by
    have := Nat.and_two_pow_sub_one_eq_mod m 7
    rwa [show (2 : Nat) ^ 7 - 1 = 127 by decide] at this
  show Result.ok (Value.int .u8 (IntKind.u8.wrap ((BitVec.ofInt 8 (m : Int) &&& BitVec.ofInt 8 (((127 : Nat) : Nat) : Int) : BitVec 8).toNat : Int))) w = _
  rw [BitVec.toNat_and, show (BitVec.ofInt 8 (m : Int)).toNat = m by rw [BitVec.toNat_ofInt]; omega, show (BitVec.ofInt 8 (((127 : Nat) : Nat) : Int)).toNat = 127 by decide, h1, wU8m]
  congr 2
  omega
theorem or64 {P : Program} {w : World} (m n k : Nat) (hm : m < 2 ^ k) (hn : n * 2 ^ k + m < 18446744073709551616) : (Op.intBits .or .u64 (m : Int) ((n * 2 ^ k : Nat) : Int)).run P w = .ok (.int .u64 ((n * 2 ^ k + m : Nat) : Int)) w := by
  have h1 : m ||| (n * 2 ^ k) = n * 2 ^ k + m := by
    rw [Nat.or_comm, Nat.mul_comm n, ← Nat.two_pow_add_eq_or_of_lt hm]
  show Result.ok (Value.int .u64 (IntKind.u64.wrap ((BitVec.ofInt 64 (m : Int) ||| BitVec.ofInt 64 ((n * 2 ^ k : Nat) : Int) : BitVec 64).toNat : Int))) w = _
  rw [BitVec.toNat_or, ofInt64 m (by omega), ofInt64 _ (by omega), h1, wU64 (by omega)]
theorem shl64 (a k : Nat) (hk : k ≤ 63) (h : a * 2 ^ k < 18446744073709551616) : IntKind.u64.wrap (((a : Nat) : Int) * 2 ^ (min ((k : Nat) : Int).toNat IntKind.u64.bits)) = ((a * 2 ^ k : Nat) : Int) := by
  rw [show min ((k : Nat) : Int).toNat IntKind.u64.bits = k by simp only [IntKind.bits]; omega, show ((a : Nat) : Int) * 2 ^ k = ((a * 2 ^ k : Nat) : Int) by push_cast; rfl, wU64 (by omega)]
theorem wU64m (n : Int) : IntKind.u64.wrap n = n % 18446744073709551616 := by
  simp only [IntKind.wrap, IntKind.bits, IntKind.signed, Bool.true_and, Bool.false_and, decide_eq_true_eq, ge_iff_le, Int.reducePow, Nat.reduceSub, Bool.false_eq_true, if_false]
theorem wI64back (x : Nat) (h : x ≤ 9223372036854775808) : IntKind.i64.wrap ((((x : Nat) : Int) - 1) % 18446744073709551616) = ((x : Nat) : Int) - 1 := by
  simp only [IntKind.wrap, IntKind.bits, IntKind.signed, Bool.true_and, decide_eq_true_eq, ge_iff_le, Int.reducePow, Nat.reduceSub]
  split <;> omega
theorem pow7 (i : Nat) : (2 : Nat) ^ (7 * i) = 128 ^ i := by rw [Nat.pow_mul]
theorem pow_split (x i : Nat) : x % 128 ^ (i + 1) = x / 128 ^ i % 128 * 128 ^ i + x % 128 ^ i := by
  rw [Nat.pow_succ, Nat.mod_mul]
  rw [Nat.mul_comm, Nat.add_comm]
theorem div_next (x i : Nat) : x / 128 ^ (i + 1) = x / 128 ^ i / 128 := by rw [Nat.pow_succ, Nat.div_div_eq_div_mul]
set_option maxHeartbeats 1000000 in
theorem number_c (w0 : World) (v : Value) (x : Nat) (rest : List Nat) (h : ByAt w0 v (encN x ++ rest)) (hx : x ≤ 9223372036854775808) :
    Ret Try.prog 84 #[v] w0 fun r w => r = .tuple #[.int .i64 ((x : Int) - 1), .int .i64 (((encN x).length : Nat) : Int)] ∧ Ext w0 w := by
  have h' := h
  obtain ⟨a, c, rfl⟩ := SlAt.form h'
  have hle := SlAt.le h
  simp only [List.length_map] at h hle ⊢
  obtain ⟨n, hn⟩ : ∃ n, n = (encN x ++ rest).length := ⟨_, rfl⟩
  rw [← hn] at h hle ⊢
  have hpos := encN_pos x
  rw [List.length_append] at hn
  obtain ⟨b, o, rfl, hcl⟩ := by_cells h (by omega)
  refine Ret_of Try.func84 rfl Try.ntmps84 (Nat.le_of_ble_eq_true rfl) ?_
  have E : Chg none1 w0 w0 := Chg.refl _ _
  refine Wp_seq_region ?_
  refine WpL_val rfl rfl (by decide) (r_assign (v := (.int .i64 0)) rfl) ?_
  refine WpL_val rfl rfl (by decide) (r_assign (v := (.int .i64 0)) rfl) ?_
  refine WpL_nil ?_
  refine Wp_seq_region ?_
  refine WpL_val rfl rfl (by decide) (r_assign (v := (.int .u64 0)) rfl) ?_
  refine WpL_nil ?_
  refine Wp_seq ?_
  refine Wp_seq_region ?_
  refine WpL_val rfl rfl (by decide) (r_move (v := (.slice (some ⟨b, o, none⟩) n c)) rfl) ?_
  refine WpL_val rfl rfl (by decide) (r_lenSlice (ad := some ⟨b, o, none⟩) (n := n) (cap := c) Try.underlying62 rfl) ?_
  refine WpL_val rfl rfl (by decide) (r_move (v := (.int .i64 0)) rfl) ?_
  refine WpL_nil ?_
  refine Wp_block ?_
  refine Wp_loop (fun nn_ σ W1 => ∃ (i : Nat) (y : Nat) (pre : List Nat), (∃ jj_, σ = upds jj_ [(7, (.slice (some ⟨b, o, none⟩) n c)), (8, (.int .i64 ((n : Nat) : Int))), (9, (.int .i64 ((i : Nat) : Int))), (4, (.int .u64 ((y : Nat) : Int)))]) ∧ Chg none1 w0 W1 ∧ (encN x = pre ++ encN (x / 128 ^ i)) ∧ (pre.length = i) ∧ (i ≤ 9) ∧ (0 < i → 0 < x / 128 ^ i) ∧ (y = x % 128 ^ i) ∧ nn_ = 10 - i) (n := 10 - 0) ?_ ?_
  · exact ⟨0, 0, [], Fits.out ⟨rfl, rfl, rfl, rfl, trivial⟩, E, (by simp), rfl, (by omega), (fun h => absurd h (Nat.lt_irrefl 0)), (by rw [Nat.pow_zero, Nat.mod_one]), rfl⟩
  · clear E
    rintro _ _ W1 ⟨i, y, pre, ⟨j1, rfl⟩, E, hp, hpl, hi, hnz, hy, rfl⟩
    obtain ⟨q, hq⟩ : ∃ q, q = x / 128 ^ i := ⟨_, rfl⟩
    have hps := pow_split x i
    have hdn := div_next x i
    have hyl : y < 128 ^ i := by rw [hy]; exact Nat.mod_lt _ (Nat.pow_pos (by decide))
    have hxe : q * 128 ^ i + y = x := by rw [hq, hy, Nat.mul_comm]; exact Nat.div_add_mod x _
    have hi9 : i = 9 → q ≤ 1 := fun e => by subst e; rw [show (128 : Nat) ^ 9 = 9223372036854775808 by decide] at hxe; omega
    rw [← hq] at hp hnz hps hdn
    rw [← hy] at hps
    have hqx : (q % 128) * 128 ^ i ≤ q * 128 ^ i := Nat.mul_le_mul_right _ (Nat.mod_le _ _)
    have hil : i < n := by have h8 := congrArg List.length hp; have h9 := encN_pos q; rw [List.length_append] at h8; omega
    refine Wp_seq_region ?_
    refine WpL_val rfl rfl (by decide) (r_lss (k := .i64) (a := ((i : Nat) : Int)) (b := ((n : Nat) : Int)) rfl rfl) ?_
    refine WpL_nil ?_
    refine Wp_seq ?_
    refine Wp_cond (b := decide ((((i : Nat) : Int) : Int) < ((n : Nat) : Int))) rfl (fun hlt => ?_) (fun hlt => ?_)
    · have khlt := hlt
      replace hlt := of_decide_eq_true hlt
      have hgo := hcl i
      rw [hp, List.append_assoc, List.getElem?_append_right (by omega), hpl, Nat.sub_self] at hgo
      rcases Bool.eq_false_or_eq_true (decide (128 ≤ q)) with hbig | hbig
      · have khbig := hbig
        replace khbig := of_decide_eq_true khbig
        rw [encN_big khbig] at hgo hp
        have hlo := hgo (q % 128 + 128) rfl
        have hi8 : i ≤ 8 := by rcases Nat.lt_or_ge i 9 with h9 | h9; omega; have := hi9 (by omega); omega
        refine Wp_skip ?_
        refine thn_normal ?_
        refine Wp_seq ?_
        refine Wp_block ?_
        refine Wp_seq_region ?_
        refine WpL_val rfl rfl (by decide) (r_move (v := (.int .i64 ((i : Nat) : Int))) rfl) ?_
        refine WpL_val rfl rfl (by decide) (r_indexSlice (b := b) (o := o) (len := n) (cap := c) (i := i) (o' := o + i) rfl rfl rfl Try.underlying62 siz5 (by omega) (by omega)) ?_
        refine WpL_val rfl rfl (by decide) (r_load (v := (.int .u8 ((q % 128 + 128 : Nat) : Int))) rfl flat5 (E.cell (fun f => f) hlo)) ?_
        refine WpL_val rfl rfl (by decide) (r_assign (v := (.int .i64 ((i : Nat) : Int))) rfl) ?_
        refine WpL_val rfl rfl (by decide) (r_assign (v := (.int .u8 ((q % 128 + 128 : Nat) : Int))) rfl) ?_
        refine WpL_nil ?_
        refine Wp_seq ?_
        refine Wp_seq_region ?_
        refine WpL_val rfl rfl (by decide) (r_move (v := (.int .i64 ((i : Nat) : Int))) rfl) ?_
        obtain ⟨e3, he3⟩ : ∃ e, (decide ((((i : Nat) : Int) : Int) = 9)) = e := ⟨_, rfl⟩
        refine WpL_val rfl rfl (by decide) ((r_eql (k := .i64) (a := ((i : Nat) : Int)) (b := 9) rfl rfl).trans (by rw [he3]; try rfl)) ?_
        refine WpL_val rfl rfl (by decide) (r_move (v := (.bool e3)) rfl) ?_
        refine WpL_guard_any (oj := _) (gv := (.bool e3)) (u := (bif e3 then (.int .u8 ((q % 128 + 128 : Nat) : Int)) else undef)) rfl rfl (by decide) (by decide) rfl (by cases e3 <;> first | exact Or.inr ⟨Or.inl rfl, rfl⟩ | exact Or.inr ⟨Or.inr rfl, rfl⟩ | exact Or.inl ⟨rfl, r_move (v := (.int .u8 ((q % 128 + 128 : Nat) : Int))) rfl⟩) ?_
        obtain ⟨e4, he4⟩ : ∃ e, (decide ((1 : Int) < ((q % 128 + 128 : Nat) : Int))) = e := ⟨_, rfl⟩
        refine WpL_guard_any (oj := _) (gv := (.bool e3)) (u := (bif e3 then (.bool e4) else undef)) rfl rfl (by decide) (by decide) rfl (by cases e3 <;> first | exact Or.inr ⟨Or.inl rfl, rfl⟩ | exact Or.inr ⟨Or.inr rfl, rfl⟩ | exact Or.inl ⟨rfl, (r_gtr (k := .u8) (a := ((q % 128 + 128 : Nat) : Int)) (b := 1) rfl rfl).trans (by rw [he4]; try rfl)⟩) ?_
        obtain ⟨e5, he5⟩ : ∃ e, (e3 && e4) = e := ⟨_, rfl⟩
        refine WpL_val rfl rfl (by decide) (r_pick (b := e3) (v := .bool e5) rfl (by rw [← he5]; cases e3 <;> rfl)) ?_
        refine WpL_val rfl rfl (by decide) (r_move (v := (.bool e5)) rfl) ?_
        refine WpL_guard_any (oj := _) (gv := (.bool e5)) (u := (bif e5 then undef else (.int .i64 ((i : Nat) : Int)))) rfl rfl (by decide) (by decide) rfl (by cases e5 <;> first | exact Or.inr ⟨Or.inl rfl, rfl⟩ | exact Or.inr ⟨Or.inr rfl, rfl⟩ | exact Or.inl ⟨rfl, r_move (v := (.int .i64 ((i : Nat) : Int))) rfl⟩) ?_
        obtain ⟨e6, he6⟩ : ∃ e, (decide ((9 : Int) < ((i : Nat) : Int))) = e := ⟨_, rfl⟩
        refine WpL_guard_any (oj := _) (gv := (.bool e5)) (u := (bif e5 then undef else (.bool e6))) rfl rfl (by decide) (by decide) rfl (by cases e5 <;> first | exact Or.inr ⟨Or.inl rfl, rfl⟩ | exact Or.inr ⟨Or.inr rfl, rfl⟩ | exact Or.inl ⟨rfl, (r_gtr (k := .i64) (a := ((i : Nat) : Int)) (b := 9) rfl rfl).trans (by rw [he6]; try rfl)⟩) ?_
        obtain ⟨e7, he7⟩ : ∃ e, (e5 || e6) = e := ⟨_, rfl⟩
        refine WpL_val rfl rfl (by decide) (r_pick (b := e5) (v := .bool e7) rfl (by rw [← he7]; cases e5 <;> rfl)) ?_
        refine WpL_nil ?_
        subst he7
        subst he6
        subst he5
        subst he4
        subst he3
        have hc8 : ((((decide ((((i : Nat) : Int) : Int) = 9)) && (decide ((1 : Int) < ((q % 128 + 128 : Nat) : Int)))) || (decide ((9 : Int) < ((i : Nat) : Int))))) = false := by simp only [Bool.or_eq_false_iff, Bool.and_eq_false_iff, decide_eq_false_iff_not]; omega
        refine Wp_cond_false (congrArg Value.bool hc8) ?_
        refine Wp_skip ?_
        refine thn_normal ?_
        refine Wp_seq_region ?_
        refine WpL_val rfl rfl (by decide) (r_move (v := (.int .u64 ((y : Nat) : Int))) rfl) ?_
        refine WpL_val rfl rfl (by decide) (r_move (v := (.int .u8 ((q % 128 + 128 : Nat) : Int))) rfl) ?_
        refine WpL_val rfl rfl (by decide) (r_bits (k := .u8) (a := ((q % 128 + 128 : Nat) : Int)) (b := 127) (v := .int .u8 (((q % 128 + 128) % 128 : Nat) : Int)) rfl rfl (by simp) (and8 _ (by omega))) ?_
        refine WpL_val rfl rfl (by decide) (r_convInt (k := .u8) (k' := .u64) (n := (((q % 128 + 128) % 128 : Nat) : Int)) (c := ((q % 128 : Nat) : Int)) ⟨_, Try.underlying5⟩ Try.underlying110 rfl ((wU64 (by omega)).trans (by omega))) ?_
        refine WpL_val rfl rfl (by decide) (r_move (v := (.int .i64 ((i : Nat) : Int))) rfl) ?_
        refine WpL_val rfl rfl (by decide) (r_mul (k := .i64) (a := 7) (b := ((i : Nat) : Int)) (c := ((7 * i : Nat) : Int)) rfl rfl ((wI64 (by omega)).trans (by omega))) ?_
        refine WpL_val rfl rfl (by decide) (r_shl (k := .u64) (a := ((q % 128 : Nat) : Int)) (b := ((7 * i : Nat) : Int)) (c := (((q % 128) * 2 ^ (7 * i) : Nat) : Int)) (k' := .i64) rfl rfl (by omega) (shl64 _ _ (by omega) (by rw [pow7]; omega))) ?_
        refine WpL_val rfl rfl (by decide) (r_bits (k := .u64) (a := ((y : Nat) : Int)) (b := (((q % 128) * 2 ^ (7 * i) : Nat) : Int)) (v := .int .u64 (((q % 128) * 2 ^ (7 * i) + y : Nat) : Int)) rfl rfl (by simp) (or64 _ _ _ (by rw [pow7]; exact hyl) (by rw [pow7]; omega))) ?_
        refine WpL_val rfl rfl (by decide) (r_assign (v := (.int .u64 (((q % 128) * 2 ^ (7 * i) + y : Nat) : Int))) rfl) ?_
        refine WpL_nil ?_
        refine Wp_seq ?_
        refine Wp_seq_region ?_
        refine WpL_val rfl rfl (by decide) (r_move (v := (.int .u8 ((q % 128 + 128 : Nat) : Int))) rfl) ?_
        refine WpL_val rfl rfl (by decide) (r_geq (k := .u8) (a := ((q % 128 + 128 : Nat) : Int)) (b := 128) rfl rfl) ?_
        refine WpL_nil ?_
        have hc9 : (decide ((128 : Int) ≤ ((q % 128 + 128 : Nat) : Int))) = true := decide_eq_true (by omega)
        refine Wp_cond_true (congrArg Value.bool hc9) ?_
        refine Wp_exit ?_
        refine thn_exit ?_
        refine inB_here ?_
        refine thn_normal ?_
        refine Wp_region ?_
        refine WpL_val rfl rfl (by decide) (r_add (k := .i64) (a := ((i : Nat) : Int)) (b := 1) (c := ((i : Nat) : Int) + 1) rfl rfl (wI64 (by omega))) ?_
        refine WpL_val rfl rfl (by decide) (r_move (v := (.int .i64 (((i : Nat) : Int) + 1))) rfl) ?_
        refine WpL_nil ?_
        refine thn_normal ?_
        exact ⟨10 - (i + 1), by omega, i + 1, (q % 128) * 2 ^ (7 * i) + y, pre ++ [q % 128 + 128], Fits.out ⟨rfl, rfl, rfl, rfl, trivial⟩, E, (by rw [hdn, hp, List.append_assoc]; rfl), (by simp [hpl]), (by omega), (fun _ => by rw [hdn]; omega), (by rw [hps, pow7]), rfl⟩
      · have khbig := hbig
        replace khbig := of_decide_eq_false khbig
        have kq : q < 128 := by omega
        rw [encN_small kq] at hgo hp
        have hlo := hgo q rfl
        refine Wp_skip ?_
        refine thn_normal ?_
        refine Wp_seq ?_
        refine Wp_block ?_
        refine Wp_seq_region ?_
        refine WpL_val rfl rfl (by decide) (r_move (v := (.int .i64 ((i : Nat) : Int))) rfl) ?_
        refine WpL_val rfl rfl (by decide) (r_indexSlice (b := b) (o := o) (len := n) (cap := c) (i := i) (o' := o + i) rfl rfl rfl Try.underlying62 siz5 (by omega) (by omega)) ?_
        refine WpL_val rfl rfl (by decide) (r_load (v := (.int .u8 ((q : Nat) : Int))) rfl flat5 (E.cell (fun f => f) hlo)) ?_
        refine WpL_val rfl rfl (by decide) (r_assign (v := (.int .i64 ((i : Nat) : Int))) rfl) ?_
        refine WpL_val rfl rfl (by decide) (r_assign (v := (.int .u8 ((q : Nat) : Int))) rfl) ?_
        refine WpL_nil ?_
        refine Wp_seq ?_
        refine Wp_seq_region ?_
        refine WpL_val rfl rfl (by decide) (r_move (v := (.int .i64 ((i : Nat) : Int))) rfl) ?_
        obtain ⟨e10, he10⟩ : ∃ e, (decide ((((i : Nat) : Int) : Int) = 9)) = e := ⟨_, rfl⟩
        refine WpL_val rfl rfl (by decide) ((r_eql (k := .i64) (a := ((i : Nat) : Int)) (b := 9) rfl rfl).trans (by rw [he10]; try rfl)) ?_
        refine WpL_val rfl rfl (by decide) (r_move (v := (.bool e10)) rfl) ?_
        refine WpL_guard_any (oj := _) (gv := (.bool e10)) (u := (bif e10 then (.int .u8 ((q : Nat) : Int)) else undef)) rfl rfl (by decide) (by decide) rfl (by cases e10 <;> first | exact Or.inr ⟨Or.inl rfl, rfl⟩ | exact Or.inr ⟨Or.inr rfl, rfl⟩ | exact Or.inl ⟨rfl, r_move (v := (.int .u8 ((q : Nat) : Int))) rfl⟩) ?_
        obtain ⟨e11, he11⟩ : ∃ e, (decide ((1 : Int) < ((q : Nat) : Int))) = e := ⟨_, rfl⟩
        refine WpL_guard_any (oj := _) (gv := (.bool e10)) (u := (bif e10 then (.bool e11) else undef)) rfl rfl (by decide) (by decide) rfl (by cases e10 <;> first | exact Or.inr ⟨Or.inl rfl, rfl⟩ | exact Or.inr ⟨Or.inr rfl, rfl⟩ | exact Or.inl ⟨rfl, (r_gtr (k := .u8) (a := ((q : Nat) : Int)) (b := 1) rfl rfl).trans (by rw [he11]; try rfl)⟩) ?_
        obtain ⟨e12, he12⟩ : ∃ e, (e10 && e11) = e := ⟨_, rfl⟩
        refine WpL_val rfl rfl (by decide) (r_pick (b := e10) (v := .bool e12) rfl (by rw [← he12]; cases e10 <;> rfl)) ?_
        refine WpL_val rfl rfl (by decide) (r_move (v := (.bool e12)) rfl) ?_
        refine WpL_guard_any (oj := _) (gv := (.bool e12)) (u := (bif e12 then undef else (.int .i64 ((i : Nat) : Int)))) rfl rfl (by decide) (by decide) rfl (by cases e12 <;> first | exact Or.inr ⟨Or.inl rfl, rfl⟩ | exact Or.inr ⟨Or.inr rfl, rfl⟩ | exact Or.inl ⟨rfl, r_move (v := (.int .i64 ((i : Nat) : Int))) rfl⟩) ?_
        obtain ⟨e13, he13⟩ : ∃ e, (decide ((9 : Int) < ((i : Nat) : Int))) = e := ⟨_, rfl⟩
        refine WpL_guard_any (oj := _) (gv := (.bool e12)) (u := (bif e12 then undef else (.bool e13))) rfl rfl (by decide) (by decide) rfl (by cases e12 <;> first | exact Or.inr ⟨Or.inl rfl, rfl⟩ | exact Or.inr ⟨Or.inr rfl, rfl⟩ | exact Or.inl ⟨rfl, (r_gtr (k := .i64) (a := ((i : Nat) : Int)) (b := 9) rfl rfl).trans (by rw [he13]; try rfl)⟩) ?_
        obtain ⟨e14, he14⟩ : ∃ e, (e12 || e13) = e := ⟨_, rfl⟩
        refine WpL_val rfl rfl (by decide) (r_pick (b := e12) (v := .bool e14) rfl (by rw [← he14]; cases e12 <;> rfl)) ?_
        refine WpL_nil ?_
        subst he14
        subst he13
        subst he12
        subst he11
        subst he10
        have hc15 : ((((decide ((((i : Nat) : Int) : Int) = 9)) && (decide ((1 : Int) < ((q : Nat) : Int)))) || (decide ((9 : Int) < ((i : Nat) : Int))))) = false := by simp only [Bool.or_eq_false_iff, Bool.and_eq_false_iff, decide_eq_false_iff_not]; rcases Nat.lt_or_ge i 9 with h9 | h9; omega; have := hi9 (by omega); omega
        refine Wp_cond_false (congrArg Value.bool hc15) ?_
        refine Wp_skip ?_
        refine thn_normal ?_
        refine Wp_seq_region ?_
        refine WpL_val rfl rfl (by decide) (r_move (v := (.int .u64 ((y : Nat) : Int))) rfl) ?_
        refine WpL_val rfl rfl (by decide) (r_move (v := (.int .u8 ((q : Nat) : Int))) rfl) ?_
        refine WpL_val rfl rfl (by decide) (r_bits (k := .u8) (a := ((q : Nat) : Int)) (b := 127) (v := .int .u8 ((q % 128 : Nat) : Int)) rfl rfl (by simp) (and8 _ (by omega))) ?_
        refine WpL_val rfl rfl (by decide) (r_convInt (k := .u8) (k' := .u64) (n := ((q % 128 : Nat) : Int)) (c := ((q % 128 : Nat) : Int)) ⟨_, Try.underlying5⟩ Try.underlying110 rfl ((wU64 (by omega)).trans (by omega))) ?_
        refine WpL_val rfl rfl (by decide) (r_move (v := (.int .i64 ((i : Nat) : Int))) rfl) ?_
        refine WpL_val rfl rfl (by decide) (r_mul (k := .i64) (a := 7) (b := ((i : Nat) : Int)) (c := ((7 * i : Nat) : Int)) rfl rfl ((wI64 (by omega)).trans (by omega))) ?_
        refine WpL_val rfl rfl (by decide) (r_shl (k := .u64) (a := ((q % 128 : Nat) : Int)) (b := ((7 * i : Nat) : Int)) (c := (((q % 128) * 2 ^ (7 * i) : Nat) : Int)) (k' := .i64) rfl rfl (by omega) (shl64 _ _ (by omega) (by rw [pow7]; omega))) ?_
        refine WpL_val rfl rfl (by decide) (r_bits (k := .u64) (a := ((y : Nat) : Int)) (b := (((q % 128) * 2 ^ (7 * i) : Nat) : Int)) (v := .int .u64 (((q % 128) * 2 ^ (7 * i) + y : Nat) : Int)) rfl rfl (by simp) (or64 _ _ _ (by rw [pow7]; exact hyl) (by rw [pow7]; omega))) ?_
        refine WpL_val rfl rfl (by decide) (r_assign (v := (.int .u64 (((q % 128) * 2 ^ (7 * i) + y : Nat) : Int))) rfl) ?_
        refine WpL_nil ?_
        refine Wp_seq ?_
        refine Wp_seq_region ?_
        refine WpL_val rfl rfl (by decide) (r_move (v := (.int .u8 ((q : Nat) : Int))) rfl) ?_
        refine WpL_val rfl rfl (by decide) (r_geq (k := .u8) (a := ((q : Nat) : Int)) (b := 128) rfl rfl) ?_
        refine WpL_nil ?_
        have hfin : (q % 128) * 2 ^ (7 * i) + y = x := by rw [pow7, Nat.mod_eq_of_lt kq]; exact hxe
        rw [hfin]
        have hc16 : (decide ((128 : Int) ≤ ((q : Nat) : Int))) = false := decide_eq_false (by omega)
        refine Wp_cond_false (congrArg Value.bool hc16) ?_
        refine Wp_skip ?_
        refine thn_normal ?_
        refine Wp_seq ?_
        refine Wp_seq_region ?_
        refine WpL_val rfl rfl (by decide) (r_move (v := (.int .u8 ((q : Nat) : Int))) rfl) ?_
        obtain ⟨e17, he17⟩ : ∃ e, (decide ((((q : Nat) : Int) : Int) = 0)) = e := ⟨_, rfl⟩
        refine WpL_val rfl rfl (by decide) ((r_eql (k := .u8) (a := ((q : Nat) : Int)) (b := 0) rfl rfl).trans (by rw [he17]; try rfl)) ?_
        refine WpL_val rfl rfl (by decide) (r_move (v := (.bool e17)) rfl) ?_
        refine WpL_guard_any (oj := _) (gv := (.bool e17)) (u := (bif e17 then (.int .i64 ((i : Nat) : Int)) else undef)) rfl rfl (by decide) (by decide) rfl (by cases e17 <;> first | exact Or.inr ⟨Or.inl rfl, rfl⟩ | exact Or.inr ⟨Or.inr rfl, rfl⟩ | exact Or.inl ⟨rfl, r_move (v := (.int .i64 ((i : Nat) : Int))) rfl⟩) ?_
        obtain ⟨e18, he18⟩ : ∃ e, (decide ((0 : Int) < ((i : Nat) : Int))) = e := ⟨_, rfl⟩
        refine WpL_guard_any (oj := _) (gv := (.bool e17)) (u := (bif e17 then (.bool e18) else undef)) rfl rfl (by decide) (by decide) rfl (by cases e17 <;> first | exact Or.inr ⟨Or.inl rfl, rfl⟩ | exact Or.inr ⟨Or.inr rfl, rfl⟩ | exact Or.inl ⟨rfl, (r_gtr (k := .i64) (a := ((i : Nat) : Int)) (b := 0) rfl rfl).trans (by rw [he18]; try rfl)⟩) ?_
        obtain ⟨e19, he19⟩ : ∃ e, (e17 && e18) = e := ⟨_, rfl⟩
        refine WpL_val rfl rfl (by decide) (r_pick (b := e17) (v := .bool e19) rfl (by rw [← he19]; cases e17 <;> rfl)) ?_
        refine WpL_val rfl rfl (by decide) (r_move (v := (.bool e19)) rfl) ?_
        refine WpL_guard_any (oj := _) (gv := (.bool e19)) (u := (bif e19 then undef else (.int .u64 ((x : Nat) : Int)))) rfl rfl (by decide) (by decide) rfl (by cases e19 <;> first | exact Or.inr ⟨Or.inl rfl, rfl⟩ | exact Or.inr ⟨Or.inr rfl, rfl⟩ | exact Or.inl ⟨rfl, r_move (v := (.int .u64 ((x : Nat) : Int))) rfl⟩) ?_
        obtain ⟨e20, he20⟩ : ∃ e, (decide ((9223372036854775808 : Int) < ((x : Nat) : Int))) = e := ⟨_, rfl⟩
        refine WpL_guard_any (oj := _) (gv := (.bool e19)) (u := (bif e19 then undef else (.bool e20))) rfl rfl (by decide) (by decide) rfl (by cases e19 <;> first | exact Or.inr ⟨Or.inl rfl, rfl⟩ | exact Or.inr ⟨Or.inr rfl, rfl⟩ | exact Or.inl ⟨rfl, (r_gtr (k := .u64) (a := ((x : Nat) : Int)) (b := 9223372036854775808) rfl rfl).trans (by rw [he20]; try rfl)⟩) ?_
        obtain ⟨e21, he21⟩ : ∃ e, (e19 || e20) = e := ⟨_, rfl⟩
        refine WpL_val rfl rfl (by decide) (r_pick (b := e19) (v := .bool e21) rfl (by rw [← he21]; cases e19 <;> rfl)) ?_
        refine WpL_nil ?_
        subst he21
        subst he20
        subst he19
        subst he18
        subst he17
        have hc22 : ((((decide ((((q : Nat) : Int) : Int) = 0)) && (decide ((0 : Int) < ((i : Nat) : Int)))) || (decide ((9223372036854775808 : Int) < ((x : Nat) : Int))))) = false := by simp only [Bool.or_eq_false_iff, Bool.and_eq_false_iff, decide_eq_false_iff_not]; omega
        refine Wp_cond_false (congrArg Value.bool hc22) ?_
        refine Wp_skip ?_
        refine thn_normal ?_
        refine Wp_seq_region ?_
        refine WpL_val rfl rfl (by decide) (r_move (v := (.int .u64 ((x : Nat) : Int))) rfl) ?_
        refine WpL_val rfl rfl (by decide) (r_sub (k := .u64) (a := ((x : Nat) : Int)) (b := 1) (c := (((x : Nat) : Int) - 1) % 18446744073709551616) rfl rfl (wU64m _)) ?_
        refine WpL_val rfl rfl (by decide) (r_convInt (k := .u64) (k' := .i64) (n := (((x : Nat) : Int) - 1) % 18446744073709551616) (c := ((x : Nat) : Int) - 1) ⟨_, Try.underlying110⟩ Try.underlying3 rfl (wI64back x hx)) ?_
        refine WpL_val rfl rfl (by decide) (r_move (v := (.int .i64 ((i : Nat) : Int))) rfl) ?_
        refine WpL_val rfl rfl (by decide) (r_add (k := .i64) (a := ((i : Nat) : Int)) (b := 1) (c := ((i : Nat) : Int) + 1) rfl rfl (wI64 (by omega))) ?_
        refine WpL_val rfl rfl (by decide) (r_assign (v := (.int .i64 (((x : Nat) : Int) - 1))) rfl) ?_
        refine WpL_val rfl rfl (by decide) (r_assign (v := (.int .i64 (((i : Nat) : Int) + 1))) rfl) ?_
        refine WpL_nil ?_
        refine Wp_ret ?_
        refine inB_ret ?_
        refine thn_ret ?_
        refine thn_ret ?_
        refine inB_ret ?_
        refine thn_ret ?_
        refine fin_tmp2 Try.results84 (v := (.int .i64 (((x : Nat) : Int) - 1))) (v' := (.int .i64 (((i : Nat) : Int) + 1))) rfl rfl ?_
        have hli : (encN x).length = i + 1 := by rw [hp]; simp [hpl]
        exact ⟨by rw [hli]; rfl, E⟩
    · have khlt := hlt
      replace hlt := of_decide_eq_false hlt
      exact absurd hlt (by omega)
end Go.Proofs
namespace Go.Proofs
open Go Go.Eng Go.Sort
set_option maxRecDepth 100000
theorem growi_c (w0 : World) (n : Nat) (hn : n ≤ 8796093022208) :
    Ret Try.prog 113 #[.slice none 0 0, .int .i64 ((n : Nat) : Int)] w0 fun r w => (∃ a c, r = .slice a 0 c) ∧ w.ownsRow w0.heap.size TDI 1 r 0 [] ∧ Ext w0 w := by
  refine Ret_of Try.func113 rfl Try.ntmps113 (Nat.le_of_ble_eq_true rfl) ?_
  have E : Chg none1 w0 w0 := Chg.refl _ _
  refine Wp_seq_region ?_
  refine WpL_val rfl rfl (by decide) (r_assign (v := (.slice none 0 0)) rfl) ?_
  refine WpL_nil ?_
  refine Wp_seq ?_
  refine Wp_seq_region ?_
  refine WpL_val rfl rfl (by decide) (r_move (v := (.int .i64 ((n : Nat) : Int))) rfl) ?_
  refine WpL_val rfl rfl (by decide) (r_lss (k := .i64) (a := ((n : Nat) : Int)) (b := 0) rfl rfl) ?_
  refine WpL_nil ?_
  have hc1 : (decide ((((n : Nat) : Int) : Int) < 0)) = false := decide_eq_false (by omega)
  refine Wp_cond_false (congrArg Value.bool hc1) ?_
  refine Wp_skip ?_
  refine thn_normal ?_
  refine Wp_seq ?_
  refine Wp_seq_region ?_
  refine WpL_val rfl rfl (by decide) (r_move (v := (.int .i64 ((n : Nat) : Int))) rfl) ?_
  refine WpL_val rfl rfl (by decide) (r_move (v := (.slice none 0 0)) rfl) ?_
  refine WpL_val rfl rfl (by decide) (r_capSlice (n := 0) (cap := 0) Try.underlying22 rfl) ?_
  refine WpL_val rfl rfl (by decide) (r_move (v := (.slice none 0 0)) rfl) ?_
  refine WpL_val rfl rfl (by decide) (r_lenSlice (ad := none) (n := 0) (cap := 0) Try.underlying22 rfl) ?_
  refine WpL_val rfl rfl (by decide) (r_sub (k := .i64) (a := 0) (b := 0) (c := 0) rfl rfl (by decide)) ?_
  refine WpL_val rfl rfl (by decide) (r_sub (k := .i64) (a := ((n : Nat) : Int)) (b := 0) (c := ((n : Nat) : Int)) rfl rfl ((wI64 (by omega)).trans (by omega))) ?_
  refine WpL_val rfl rfl (by decide) (r_assign (v := (.int .i64 ((n : Nat) : Int))) rfl) ?_
  refine WpL_nil ?_
  refine Wp_seq_region ?_
  refine WpL_val rfl rfl (by decide) (r_move (v := (.int .i64 ((n : Nat) : Int))) rfl) ?_
  refine WpL_val rfl rfl (by decide) (r_gtr (k := .i64) (a := ((n : Nat) : Int)) (b := 0) rfl rfl) ?_
  refine WpL_nil ?_
  refine Wp_cond (b := decide ((0 : Int) < ((n : Nat) : Int))) rfl (fun hp => ?_) (fun hp => ?_)
  · have khp := hp
    replace hp := of_decide_eq_true hp
    refine Wp_region ?_
    refine WpL_val rfl rfl (by decide) (r_move (v := (.slice none 0 0)) rfl) ?_
    refine WpL_val rfl rfl (by decide) (r_move (v := (.slice none 0 0)) rfl) ?_
    refine WpL_val rfl rfl (by decide) (r_capSlice (n := 0) (cap := 0) Try.underlying22 rfl) ?_
    obtain ⟨a1, ha1⟩ : ∃ a' : Option Addr, (if 0 = 0 then none else Option.map (fun q : Addr => q.add (0 * 1)) none) = a' := ⟨_, rfl⟩
    refine WpL_val rfl rfl (by decide) (r_sliceHi (a := none) (len := 0) (cap := 0) (hi := 0) (l := 0) Try.underlying22 siz3 rfl rfl (by omega) (by omega) ha1) ?_
    refine WpL_val rfl rfl (by decide) (r_move (v := (.int .i64 ((n : Nat) : Int))) rfl) ?_
    simp at ha1
    subst ha1
    refine s_appendZ (base := w0.heap.size) (n := n) (size := 1) (bytes := 8) (by decide) Try.underlying22 Try.underlying3 siz3 byt3 zer3 rfl (by decide) rfl rfl (by omega) (by omega) (by omega) ?_
    intro cc w9 X9 O9 H9
    replace E := E.ext X9
    refine WpL_val rfl rfl (by decide) (r_move (v := (.slice none 0 0)) rfl) ?_
    refine WpL_val rfl rfl (by decide) (r_lenSlice (ad := none) (n := 0) (cap := 0) Try.underlying22 rfl) ?_
    obtain ⟨a2, ha2⟩ : ∃ a' : Option Addr, (if cc = 0 then (some ⟨w0.heap.size, 0, none⟩) else Option.map (fun q : Addr => q.add (0 * 1)) (some ⟨w0.heap.size, 0, none⟩)) = a' := ⟨_, rfl⟩
    refine WpL_val rfl rfl (by decide) (r_sliceHi (a := (some ⟨w0.heap.size, 0, none⟩)) (len := n) (cap := cc) (hi := 0) (l := 0) Try.underlying22 siz3 rfl rfl (by omega) (by omega) ha2) ?_
    have ha3 : a2 = some ⟨w0.heap.size, 0, none⟩ := by rw [← ha2, if_neg (by omega)]; simp [Addr.add_lit]
    subst ha3
    refine WpL_val rfl rfl (by decide) (r_assign (v := (.slice (some ⟨w0.heap.size, 0, none⟩) 0 cc)) rfl) ?_
    refine WpL_nil ?_
    refine thn_normal ?_
    refine Wp_seq_region ?_
    refine WpL_val rfl rfl (by decide) (r_move (v := (.slice (some ⟨w0.heap.size, 0, none⟩) 0 cc)) rfl) ?_
    refine WpL_val rfl rfl (by decide) (r_assign (v := (.slice (some ⟨w0.heap.size, 0, none⟩) 0 cc)) rfl) ?_
    refine WpL_nil ?_
    refine Wp_ret ?_
    refine fin_tmp Try.results113 (v := (.slice (some ⟨w0.heap.size, 0, none⟩) 0 cc)) rfl ?_
    exact ⟨⟨_, _, rfl⟩, O9, E⟩
  · have khp := hp
    replace hp := of_decide_eq_false hp
    refine Wp_skip ?_
    refine thn_normal ?_
    refine Wp_seq_region ?_
    refine WpL_val rfl rfl (by decide) (r_move (v := (.slice none 0 0)) rfl) ?_
    refine WpL_val rfl rfl (by decide) (r_assign (v := (.slice none 0 0)) rfl) ?_
    refine WpL_nil ?_
    refine Wp_ret ?_
    refine fin_tmp Try.results113 (v := (.slice none 0 0)) rfl ?_
    exact ⟨⟨none, 0, rfl⟩, World.ownsRow_nil _ _ _ _, E⟩
theorem ilens_take {ll : List (List Int)} {k : Nat} {l : List Int} (h : ll[k]? = some l) : (ll.take (k + 1)).flatten = (ll.take k).flatten ++ l := by
  rw [List.take_add_one, h]; simp
theorem ilens_le (ll : List (List Int)) (k : Nat) : (ll.take k).flatten.length ≤ ll.flatten.length := by
  have h : ll.flatten = (ll.take k).flatten ++ (ll.drop k).flatten := by rw [← List.flatten_append, List.take_append_drop]
  rw [h, List.length_append]; omega
theorem ints_one (l : List Int) : ∀ x ∈ l.map (Value.int .i64), x.oneCell' = true := by
  intro x hx
  obtain ⟨y, _, rfl⟩ := List.mem_map.1 hx
  rfl
set_option maxHeartbeats 1000000 in
theorem concati_c (w0 : World) (v : Value) (ll : List (List Int)) (h : IntssAt w0 v ll) (hl : ll.flatten.length ≤ 8796093022208) :
    Ret Try.prog 83 #[v] w0 fun r w => (∃ a c, r = .slice a ll.flatten.length c) ∧ w.ownsRow w0.heap.size TDI 1 r ll.flatten.length (ll.flatten.map (Value.int .i64)) ∧ Ext w0 w := by
  obtain ⟨a, c, rfl, _, hle⟩ := h.form
  obtain ⟨base, hbase⟩ : ∃ base, base = w0.heap.size := ⟨_, rfl⟩
  rw [← hbase]
  refine Ret_of Try.func83 rfl Try.ntmps83 (Nat.le_of_ble_eq_true rfl) ?_
  have E : Chg none1 w0 w0 := Chg.refl _ _
  refine Wp_seq_region ?_
  refine WpL_val rfl rfl (by decide) (r_assign (v := (.slice none 0 0)) rfl) ?_
  refine WpL_nil ?_
  refine Wp_seq_region ?_
  refine WpL_val rfl rfl (by decide) (r_assign (v := (.int .i64 0)) rfl) ?_
  refine WpL_nil ?_
  refine Wp_seq ?_
  refine Wp_seq_region ?_
  refine WpL_val rfl rfl (by decide) (r_move (v := (.slice a ll.length c)) rfl) ?_
  refine WpL_val rfl rfl (by decide) (r_lenSlice (ad := a) (n := ll.length) (cap := c) Try.underlying23 rfl) ?_
  refine WpL_val rfl rfl (by decide) (r_move (v := (.int .i64 0)) rfl) ?_
  refine WpL_nil ?_
  refine Wp_block ?_
  refine Wp_loop (fun nn_ σ W1 => ∃ (k : Nat) (n : Nat), (∃ jj_, σ = upds jj_ [(0, (.slice a ll.length c)), (9, (.slice a ll.length c)), (10, (.int .i64 ((ll.length : Nat) : Int))), (11, (.int .i64 ((k : Nat) : Int))), (3, (.int .i64 ((n : Nat) : Int)))]) ∧ Chg none1 w0 W1 ∧ (k ≤ ll.length) ∧ (n = (ll.take k).flatten.length) ∧ nn_ = ll.length - k) (n := ll.length - 0) ?_ ?_
  · exact ⟨0, 0, Fits.out ⟨rfl, rfl, rfl, rfl, rfl, trivial⟩, E, Nat.zero_le _, rfl, rfl⟩
  · clear E
    rintro _ _ W1 ⟨k, n, ⟨j1, rfl⟩, E, hk, hn, rfl⟩
    refine Wp_seq_region ?_
    refine WpL_val rfl rfl (by decide) (r_lss (k := .i64) (a := ((k : Nat) : Int)) (b := ((ll.length : Nat) : Int)) rfl rfl) ?_
    refine WpL_nil ?_
    refine Wp_seq ?_
    refine Wp_cond (b := decide ((((k : Nat) : Int) : Int) < ((ll.length : Nat) : Int))) rfl (fun hlt => ?_) (fun hlt => ?_)
    · have khlt := hlt
      replace hlt := of_decide_eq_true hlt
      obtain ⟨l, hx⟩ := get_of_lt (l := ll) (i := k) (by omega)
      obtain ⟨b, o, rfl, hcl⟩ := intss_cells h (by omega)
      obtain ⟨ra, rc, hcell, hsp⟩ := hcl k l hx
      have hn1 := ilens_le ll (k + 1)
      rw [ilens_take hx, List.length_append] at hn1
      refine Wp_skip ?_
      refine thn_normal ?_
      refine Wp_seq ?_
      refine Wp_block ?_
      refine Wp_seq_region ?_
      refine WpL_val rfl rfl (by decide) (r_indexSlice (b := b) (o := o) (len := ll.length) (cap := c) (i := k) (o' := o + k) rfl rfl rfl Try.underlying23 siz22 (by omega) (by omega)) ?_
      refine WpL_val rfl rfl (by decide) (r_load (v := (.slice ra l.length rc)) rfl flat22 (E.cell (fun f => f) hcell)) ?_
      refine WpL_val rfl rfl (by decide) (r_assign (v := (.slice ra l.length rc)) rfl) ?_
      refine WpL_nil ?_
      refine Wp_seq_region ?_
      refine WpL_val rfl rfl (by decide) (r_move (v := (.int .i64 ((n : Nat) : Int))) rfl) ?_
      refine WpL_val rfl rfl (by decide) (r_move (v := (.slice ra l.length rc)) rfl) ?_
      refine WpL_val rfl rfl (by decide) (r_lenSlice (ad := ra) (n := l.length) (cap := rc) Try.underlying22 rfl) ?_
      refine WpL_val rfl rfl (by decide) (r_add (k := .i64) (a := ((n : Nat) : Int)) (b := ((l.length : Nat) : Int)) (c := ((n + l.length : Nat) : Int)) rfl rfl ((wI64 (by omega)).trans (by omega))) ?_
      refine WpL_val rfl rfl (by decide) (r_assign (v := (.int .i64 ((n + l.length : Nat) : Int))) rfl) ?_
      refine WpL_nil ?_
      refine Wp_seq_region ?_
      refine WpL_val rfl rfl (by decide) (r_move (v := (.int .i64 ((n + l.length : Nat) : Int))) rfl) ?_
      refine WpL_val rfl rfl (by decide) (r_lss (k := .i64) (a := ((n + l.length : Nat) : Int)) (b := 0) rfl rfl) ?_
      refine WpL_nil ?_
      have hc3 : (decide ((((n + l.length : Nat) : Int) : Int) < 0)) = false := decide_eq_false (by omega)
      refine Wp_cond_false (congrArg Value.bool hc3) ?_
      refine Wp_skip ?_
      refine inB_normal ?_
      refine thn_normal ?_
      refine Wp_region ?_
      refine WpL_val rfl rfl (by decide) (r_add (k := .i64) (a := ((k : Nat) : Int)) (b := 1) (c := ((k : Nat) : Int) + 1) rfl rfl (wI64 (by omega))) ?_
      refine WpL_val rfl rfl (by decide) (r_move (v := (.int .i64 (((k : Nat) : Int) + 1))) rfl) ?_
      refine WpL_nil ?_
      refine thn_normal ?_
      exact ⟨ll.length - (k + 1), by omega, k + 1, n + l.length, Fits.out ⟨rfl, rfl, rfl, rfl, rfl, trivial⟩, E, (by omega), (by rw [ilens_take hx, List.length_append, hn]), rfl⟩
    · have khlt := hlt
      replace hlt := of_decide_eq_false hlt
      have hkk : k = ll.length := by omega
      have hn2 := ilens_le ll k
      have hs0 := E.size
      refine Wp_exit ?_
      refine thn_exit ?_
      refine thn_exit ?_
      refine inB_here ?_
      refine thn_normal ?_
      refine Wp_seq_region ?_
      refine WpL_val rfl rfl (by decide) (r_move (v := (.int .i64 ((n : Nat) : Int))) rfl) ?_
      refine WpL_enter rfl rfl (by decide) (r_callF (vs := [(.slice none 0 0), (.int .i64 ((n : Nat) : Int))]) Try.func113 nm113 bd113 rfl) (growi_c _ n (by omega)) ?_
      rintro _ w9 ⟨⟨ga, gc, rfl⟩, O9, X9⟩
      replace E := E.ext X9
      have hO9 : w9.ownsRow base TDI 1 (.slice ga 0 gc) 0 [] := own_low O9 (by omega)
      refine WpL_val rfl rfl (by decide) (r_assign (v := (.slice ga 0 gc)) rfl) ?_
      refine WpL_nil ?_
      refine Wp_seq ?_
      refine Wp_seq_region ?_
      refine WpL_val rfl rfl (by decide) (r_move (v := (.slice a ll.length c)) rfl) ?_
      refine WpL_val rfl rfl (by decide) (r_lenSlice (ad := a) (n := ll.length) (cap := c) Try.underlying23 rfl) ?_
      refine WpL_val rfl rfl (by decide) (r_move (v := (.int .i64 0)) rfl) ?_
      refine WpL_nil ?_
      refine Wp_block ?_
      refine Wp_loop (fun nn_ σ W4 => ∃ (i : Nat) (la : Option Addr) (lc : Nat) (m : Nat), (∃ jj_, σ = upds jj_ [(25, (.slice a ll.length c)), (26, (.int .i64 ((ll.length : Nat) : Int))), (27, (.int .i64 ((i : Nat) : Int))), (6, (.slice la m lc))]) ∧ Chg none1 w0 W4 ∧ (i ≤ ll.length) ∧ (m = (ll.take i).flatten.length) ∧ (W4.ownsRow base TDI 1 (.slice la m lc) m (((ll.take i).flatten).map (Value.int .i64))) ∧ (base ≤ W4.heap.size) ∧ nn_ = ll.length - i) (n := ll.length - 0) ?_ ?_
      · exact ⟨0, ga, gc, 0, Fits.out ⟨rfl, rfl, rfl, rfl, trivial⟩, E, Nat.zero_le _, rfl, hO9, (by have := E.size; omega), rfl⟩
      · clear E
        rintro _ _ W4 ⟨i, la, lc, m, ⟨j4, rfl⟩, E, hi, hm, hown, hbs, rfl⟩
        refine Wp_seq_region ?_
        refine WpL_val rfl rfl (by decide) (r_lss (k := .i64) (a := ((i : Nat) : Int)) (b := ((ll.length : Nat) : Int)) rfl rfl) ?_
        refine WpL_nil ?_
        refine Wp_seq ?_
        refine Wp_cond (b := decide ((((i : Nat) : Int) : Int) < ((ll.length : Nat) : Int))) rfl (fun hlt2 => ?_) (fun hlt2 => ?_)
        · have khlt2 := hlt2
          replace hlt2 := of_decide_eq_true hlt2
          obtain ⟨l, hx⟩ := get_of_lt (l := ll) (i := i) (by omega)
          obtain ⟨b, o, rfl, hcl⟩ := intss_cells h (by omega)
          obtain ⟨ra, rc, hcell, hsp⟩ := hcl i l hx
          have hn1 := ilens_le ll (i + 1)
          rw [ilens_take hx, List.length_append] at hn1
          have hmc : m ≤ lc := own_le hown
          rcases Bool.eq_false_or_eq_true (decide (l.length = 0)) with hz | hz
          · have khz := hz
            replace khz := of_decide_eq_true khz
            refine Wp_skip ?_
            refine thn_normal ?_
            refine Wp_seq ?_
            refine Wp_block ?_
            refine Wp_seq_region ?_
            refine WpL_val rfl rfl (by decide) (r_indexSlice (b := b) (o := o) (len := ll.length) (cap := c) (i := i) (o' := o + i) rfl rfl rfl Try.underlying23 siz22 (by omega) (by omega)) ?_
            refine WpL_val rfl rfl (by decide) (r_load (v := (.slice ra l.length rc)) rfl flat22 (E.cell (fun f => f) hcell)) ?_
            refine WpL_val rfl rfl (by decide) (r_assign (v := (.slice ra l.length rc)) rfl) ?_
            refine WpL_nil ?_
            refine Wp_region ?_
            refine WpL_val rfl rfl (by decide) (r_move (v := (.slice la m lc)) rfl) ?_
            refine WpL_val rfl rfl (by decide) (r_move (v := (.slice ra l.length rc)) rfl) ?_
            refine WpL_val rfl rfl (by decide) (r_append0 Try.underlying22 siz3 (a' := ra) (c' := rc) rfl hmc (by show Value.slice ra l.length rc = _; rw [khz])) ?_
            refine WpL_val rfl rfl (by decide) (r_assign (v := (.slice la m lc)) rfl) ?_
            refine WpL_nil ?_
            refine inB_normal ?_
            refine thn_normal ?_
            refine Wp_region ?_
            refine WpL_val rfl rfl (by decide) (r_add (k := .i64) (a := ((i : Nat) : Int)) (b := 1) (c := ((i : Nat) : Int) + 1) rfl rfl (wI64 (by omega))) ?_
            refine WpL_val rfl rfl (by decide) (r_move (v := (.int .i64 (((i : Nat) : Int) + 1))) rfl) ?_
            refine WpL_nil ?_
            refine thn_normal ?_
            have hl0 : l = [] := List.eq_nil_of_length_eq_zero khz
            exact ⟨ll.length - (i + 1), by omega, i + 1, la, lc, m, Fits.out ⟨rfl, rfl, rfl, rfl, trivial⟩, E, (by omega), (by rw [ilens_take hx, hl0, List.append_nil, hm]), (by rw [ilens_take hx, hl0, List.append_nil]; exact hown), hbs, rfl⟩
          · have khz := hz
            replace khz := of_decide_eq_false khz
            obtain ⟨rb, ro, rfl, hrc⟩ := ints_cells hsp (by omega)
            have hrc2 : CellsAt w0 rb ro (l.map (Value.int .i64)) := fun j u hu => by rw [List.getElem?_map, Option.map_eq_some_iff] at hu; obtain ⟨y, hy, rfl⟩ := hu; exact hrc j y hy
            refine Wp_skip ?_
            refine thn_normal ?_
            refine Wp_seq ?_
            refine Wp_block ?_
            refine Wp_seq_region ?_
            refine WpL_val rfl rfl (by decide) (r_indexSlice (b := b) (o := o) (len := ll.length) (cap := c) (i := i) (o' := o + i) rfl rfl rfl Try.underlying23 siz22 (by omega) (by omega)) ?_
            refine WpL_val rfl rfl (by decide) (r_load (v := (.slice (some ⟨rb, ro, none⟩) l.length rc)) rfl flat22 (E.cell (fun f => f) hcell)) ?_
            refine WpL_val rfl rfl (by decide) (r_assign (v := (.slice (some ⟨rb, ro, none⟩) l.length rc)) rfl) ?_
            refine WpL_nil ?_
            refine Wp_region ?_
            refine WpL_val rfl rfl (by decide) (r_move (v := (.slice la m lc)) rfl) ?_
            refine WpL_val rfl rfl (by decide) (r_move (v := (.slice (some ⟨rb, ro, none⟩) l.length rc)) rfl) ?_
            refine s_append (base := base) (n := m) (m := l.length) (xs := (((ll.take i).flatten).map (Value.int .i64))) (news := l.map (Value.int .i64)) (size := 1) (bytes := 8) (v := (.slice la m lc)) (by decide) Try.underlying22 siz3 byt3 zer3 rfl (by decide) rfl hown rfl (by simp) (hrc2.ext E) (ints_one l) (by unfold maxLen; omega) (by omega) (hbs) ?_
            intro v9 w29 Ov9 Cv9 Dv9
            replace E := E.step Cv9 (fun x hx h => absurd (hown.lt x h).1 (by omega))
            obtain ⟨la2, lc2, rfl⟩ := own_form Ov9
            refine WpL_val rfl rfl (by decide) (r_assign (v := (.slice la2 (m + l.length) lc2)) rfl) ?_
            refine WpL_nil ?_
            refine inB_normal ?_
            refine thn_normal ?_
            refine Wp_region ?_
            refine WpL_val rfl rfl (by decide) (r_add (k := .i64) (a := ((i : Nat) : Int)) (b := 1) (c := ((i : Nat) : Int) + 1) rfl rfl (wI64 (by omega))) ?_
            refine WpL_val rfl rfl (by decide) (r_move (v := (.int .i64 (((i : Nat) : Int) + 1))) rfl) ?_
            refine WpL_nil ?_
            refine thn_normal ?_
            exact ⟨ll.length - (i + 1), by omega, i + 1, la2, lc2, m + l.length, Fits.out ⟨rfl, rfl, rfl, rfl, trivial⟩, E, (by omega), (by rw [ilens_take hx, List.length_append, hm]), (by rw [ilens_take hx, List.map_append]; exact Ov9), Nat.le_trans hbs Cv9.size, rfl⟩
        · have khlt2 := hlt2
          replace hlt2 := of_decide_eq_false hlt2
          have hii : i = ll.length := by omega
          refine Wp_exit ?_
          refine thn_exit ?_
          refine thn_exit ?_
          refine inB_here ?_
          refine thn_normal ?_
          refine Wp_seq_region ?_
          refine WpL_val rfl rfl (by decide) (r_move (v := (.slice la m lc)) rfl) ?_
          refine WpL_val rfl rfl (by decide) (r_assign (v := (.slice la m lc)) rfl) ?_
          refine WpL_nil ?_
          refine Wp_ret ?_
          refine fin_tmp Try.results83 (v := (.slice la m lc)) rfl ?_
          rw [hii, List.take_length] at hown hm
          subst hm
          exact ⟨⟨la, lc, rfl⟩, hown, E⟩
theorem intss_blk {w : World} {b T n : Nat} {vs : List Value} {ll : List (List Int)} (hB : Blk w b vs.toArray T) (hl : vs.length = ll.length) (hn : vs.length = n) (hm : n ≤ 1000000) (h : ∀ (i : Nat) u l, vs[i]? = some u → ll[i]? = some l → IntsAt w u l) : IntssAt w (.slice (some ⟨b, 0, none⟩) n n) ll := by
  refine ⟨vs, ?_, hl, h⟩
  subst hn
  have := slat_of_blk (w := w) (b := b) (t := T) (k := 1) (cap := vs.length) (rows := vs.map fun x => [x]) (by rw [show (vs.map fun x => [x]).flatten = vs by simp [List.flatten_eq_flatMap, List.flatMap_map]]; exact hB) (by intro r hr; simp only [List.mem_map] at hr; obtain ⟨x, _, rfl⟩ := hr; rfl) (by simp; omega) (by simp)
  simpa using this
def intsT (t : Tab) : List Int := [t.start, ((t.cols : Nat) : Int), ((t.bs.length : Nat) : Int), ((t.ow.length : Nat) : Int)] ++ (t.acc ++ (natV t.bs ++ (t.ow ++ t.nx)))
def encI1 (n : Int) : List Nat := encN (n + 1).toNat
def bytesT (t : Tab) : List Nat := (intsT t).flatMap encI1
theorem encI1_len {n : Int} (h : n ≤ 9223372036854775807) : (encI1 n).length ≤ 10 := encN_len 9 _ (by rw [show (128 : Nat) ^ (9 + 1) = 1180591620717411303424 by decide]; omega)
theorem intsT_ok {t : Tab} (hg : GoodT t) (hW : ∀ x ∈ t.acc, x ≤ 9223372036854775807) : ∀ x ∈ intsT t, -1 ≤ x ∧ x ≤ 9223372036854775807 := by
  have g1 := hg.n1; have g2 := hg.n2; have g3 := hg.c1; have g4 := hg.c2; have g5 := hg.ol; have g6 := hg.nl; have g8 := hg.st
  intro x hx
  simp only [intsT, List.mem_append, List.mem_cons, List.not_mem_nil, or_false] at hx
  rcases hx with (rfl | rfl | rfl | rfl) | h | h | h | h
  · omega
  · omega
  · omega
  · omega
  · exact ⟨hg.am x h, hW x h⟩
  · obtain ⟨b, hb, rfl⟩ := List.mem_map.1 h
    have := hg.bm b hb
    omega
  · obtain ⟨i, hi⟩ := List.getElem?_of_mem h
    obtain ⟨y, hy⟩ := get_of_lt (l := t.nx) (i := i) (by have := lt_of_get hi; omega)
    have := hg.sl i x y hi hy
    omega
  · obtain ⟨i, hi⟩ := List.getElem?_of_mem h
    obtain ⟨y, hy⟩ := get_of_lt (l := t.ow) (i := i) (by have := lt_of_get hi; omega)
    have := hg.sl i y x hy hi
    omega
theorem intsT_len {t : Tab} (hg : GoodT t) : (intsT t).length ≤ 7000 := by
  have g1 := hg.n1; have g2 := hg.n2; have g5 := hg.ol; have g6 := hg.nl; have g7 := hg.al
  simp only [intsT, List.length_append, natV_len, List.length_cons, List.length_nil]
  omega
def partsT (t : Tab) : List (List Int) := [[t.start, ((t.cols : Nat) : Int), ((t.bs.length : Nat) : Int), ((t.ow.length : Nat) : Int)], t.acc, natV t.bs, t.ow, t.nx]
theorem partsT_flat (t : Tab) : (partsT t).flatten = intsT t := by simp [partsT, intsT]
theorem concatT_c (w0 : World) (v : Value) (t : Tab) (h : IntssAt w0 v (partsT t)) (hl : (intsT t).length ≤ 8796093022208) :
    Ret Try.prog 83 #[v] w0 fun r w => (∃ a c, r = .slice a (intsT t).length c ∧ IntsAt w (.slice a (intsT t).length c) (intsT t)) ∧ Ext w0 w := by
  have h1 := concati_c w0 v (partsT t) h (by rw [partsT_flat]; exact hl)
  rw [partsT_flat] at h1
  refine h1.mono ?_
  rintro r w ⟨⟨a, c, rfl⟩, O, e⟩
  exact ⟨⟨a, c, rfl, own_intsD O rfl⟩, e⟩
theorem intss5 {w : World} {a b c d e : Value} {la lb lc ld le : List Int} (h1 : IntsAt w a la) (h2 : IntsAt w b lb) (h3 : IntsAt w c lc) (h4 : IntsAt w d ld) (h5 : IntsAt w e le) : ∀ (i : Nat) u l, [a, b, c, d, e][i]? = some u → [la, lb, lc, ld, le][i]? = some l → IntsAt w u l := by
  intro i u l hu hl
  match i, hu, hl with
  | 0, hu, hl => simp at hu hl; subst hu; subst hl; exact h1
  | 1, hu, hl => simp at hu hl; subst hu; subst hl; exact h2
  | 2, hu, hl => simp at hu hl; subst hu; subst hl; exact h3
  | 3, hu, hl => simp at hu hl; subst hu; subst hl; exact h4
  | 4, hu, hl => simp at hu hl; subst hu; subst hl; exact h5
  | i + 5, hu, hl => simp at hu
abbrev u8V (x : Nat) : Value := .int .u8 ((x : Nat) : Int)
set_option maxHeartbeats 2000000 in
theorem bytes_c (w0 : World) (t : Tab) (vs : List Value) (h : TabAt w0 t vs) (hg : GoodT t) (hW : ∀ x ∈ t.acc, x ≤ 9223372036854775807) :
    Ret Try.prog 42 #[.agg vs.toArray] w0 fun r w => (∃ a c, r = .tuple #[.slice a (bytesT t).length c, .int .i64 0] ∧ ByAt w (.slice a (bytesT t).length c) (bytesT t)) ∧ Ext w0 w := by
  have h' := h
  obtain ⟨aa, ac, ba, bc, oa, oc, na, nc, rfl, ha, hb, ho, hn⟩ := h'
  have hok := intsT_ok hg hW
  have hlen := intsT_len hg
  have g2 := hg.n2; have g5 := hg.ol; have g6 := hg.nl; have g7 := hg.al
  refine Ret_of Try.func42 rfl Try.ntmps42 (Nat.le_of_ble_eq_true rfl) ?_
  have E : Chg none1 w0 w0 := Chg.refl _ _
  refine Wp_seq_region ?_
  refine s_box (v := (.agg #[(.int .i64 t.start), (.int .i64 ((t.cols : Nat) : Int)), (.slice aa t.acc.length ac), (.slice ba t.bs.length bc), (.slice oa t.ow.length oc), (.slice na t.nx.length nc)])) (c := #[(.int .i64 t.start), (.int .i64 ((t.cols : Nat) : Int)), (.slice aa t.acc.length ac), (.slice ba t.bs.length bc), (.slice oa t.ow.length oc), (.slice na t.nx.length nc)]) (by decide) rfl rfl ?_
  intro bt wt Nt
  have Ft := Nt.ge E
  replace E := E.ext Nt.ext
  have Bt := Nt.blk
  refine WpL_val rfl rfl (by decide) (r_assign (v := (.slice none 0 0)) rfl) ?_
  refine WpL_val rfl rfl (by decide) (r_assign (v := (.int .i64 0)) rfl) ?_
  refine WpL_nil ?_
  refine Wp_seq ?_
  refine Wp_seq_region ?_
  refine WpL_val rfl rfl (by decide) (r_loadAgg (vs := [(.int .i64 t.start), (.int .i64 ((t.cols : Nat) : Int)), (.slice aa t.acc.length ac), (.slice ba t.bs.length bc), (.slice oa t.ow.length oc), (.slice na t.nx.length nc)]) rfl agg58 siz58 rfl (Bt.cells rfl)) ?_
  refine WpL_enter rfl rfl (by decide) (r_callF (vs := [(.agg #[(.int .i64 t.start), (.int .i64 ((t.cols : Nat) : Int)), (.slice aa t.acc.length ac), (.slice ba t.bs.length bc), (.slice oa t.ow.length oc), (.slice na t.nx.length nc)])]) Try.func44 nm44 bd44 rfl) (tcheck_c _ t _ (h.ext E) hg) ?_
  rintro _ w9 ⟨rfl, X9⟩
  replace Bt := X9.keep Bt
  replace E := E.ext X9
  have hll : [t.start, ((t.cols : Nat) : Int), ((t.bs.length : Nat) : Int), ((t.ow.length : Nat) : Int)].length = 4 := rfl
  refine WpL_val rfl rfl (by decide) (r_assign (v := (.int .i64 0)) rfl) ?_
  refine WpL_nil ?_
  refine Wp_seq_region ?_
  refine WpL_val rfl rfl (by decide) (r_move (v := (.int .i64 0)) rfl) ?_
  refine WpL_val rfl rfl (by decide) (r_neq (k := .i64) (a := 0) (b := 0) rfl rfl) ?_
  refine WpL_nil ?_
  refine Wp_cond_false rfl ?_
  refine Wp_skip ?_
  refine thn_normal ?_
  refine Wp_seq_region ?_
  refine WpL_val rfl rfl (by decide) (r_assign (v := (.slice none 0 0)) rfl) ?_
  refine WpL_nil ?_
  refine Wp_seq ?_
  refine Wp_seq_region ?_
  refine WpL_val rfl rfl (by decide) (r_fieldAddr (b := bt) (o := 0) (o' := 0) rfl Try.underlying58 rfl siz3 rfl) ?_
  refine WpL_val rfl rfl (by decide) (r_load (v := (.int .i64 t.start)) rfl flat3 (Bt.cell rfl)) ?_
  refine WpL_val rfl rfl (by decide) (r_fieldAddr (b := bt) (o := 0) (o' := 1) rfl Try.underlying58 rfl siz3 rfl) ?_
  refine WpL_val rfl rfl (by decide) (r_load (v := (.int .i64 ((t.cols : Nat) : Int))) rfl flat3 (Bt.cell rfl)) ?_
  refine WpL_val rfl rfl (by decide) (r_fieldAddr (b := bt) (o := 0) (o' := 3) rfl Try.underlying58 rfl siz22 rfl) ?_
  refine WpL_val rfl rfl (by decide) (r_load (v := (.slice ba t.bs.length bc)) rfl flat22 (Bt.cell rfl)) ?_
  refine WpL_val rfl rfl (by decide) (r_lenSlice (ad := ba) (n := t.bs.length) (cap := bc) Try.underlying22 rfl) ?_
  refine WpL_val rfl rfl (by decide) (r_fieldAddr (b := bt) (o := 0) (o' := 4) rfl Try.underlying58 rfl siz22 rfl) ?_
  refine WpL_val rfl rfl (by decide) (r_load (v := (.slice oa t.ow.length oc)) rfl flat22 (Bt.cell rfl)) ?_
  refine WpL_val rfl rfl (by decide) (r_lenSlice (ad := oa) (n := t.ow.length) (cap := oc) Try.underlying22 rfl) ?_
  refine s_buildSlice (ps := [(0, (.int .i64 t.start)), (1, (.int .i64 ((t.cols : Nat) : Int))), (2, (.int .i64 ((t.bs.length : Nat) : Int))), (3, (.int .i64 ((t.ow.length : Nat) : Int)))]) (c := #[(.int .i64 t.start), (.int .i64 ((t.cols : Nat) : Int)), (.int .i64 ((t.bs.length : Nat) : Int)), (.int .i64 ((t.ow.length : Nat) : Int))]) (by decide) rfl Try.underlying22 siz3 zer3 (by decide) (by decide) (by kernel_rfl) ?_
  intro bp wp Np
  have Fp := Np.ge E
  have Op_bt := Np.lt Bt
  replace Bt := Np.keep Bt
  replace E := E.ext Np.ext
  have Bp := Np.blk
  refine WpL_val rfl rfl (by decide) (r_fieldAddr (b := bt) (o := 0) (o' := 2) rfl Try.underlying58 rfl siz22 rfl) ?_
  refine WpL_val rfl rfl (by decide) (r_load (v := (.slice aa t.acc.length ac)) rfl flat22 (Bt.cell rfl)) ?_
  refine WpL_val rfl rfl (by decide) (r_fieldAddr (b := bt) (o := 0) (o' := 3) rfl Try.underlying58 rfl siz22 rfl) ?_
  refine WpL_val rfl rfl (by decide) (r_load (v := (.slice ba t.bs.length bc)) rfl flat22 (Bt.cell rfl)) ?_
  refine WpL_val rfl rfl (by decide) (r_fieldAddr (b := bt) (o := 0) (o' := 4) rfl Try.underlying58 rfl siz22 rfl) ?_
  refine WpL_val rfl rfl (by decide) (r_load (v := (.slice oa t.ow.length oc)) rfl flat22 (Bt.cell rfl)) ?_
  refine WpL_val rfl rfl (by decide) (r_fieldAddr (b := bt) (o := 0) (o' := 5) rfl Try.underlying58 rfl siz22 rfl) ?_
  refine WpL_val rfl rfl (by decide) (r_load (v := (.slice na t.nx.length nc)) rfl flat22 (Bt.cell rfl)) ?_
  refine s_buildSlice (ps := [(0, (.slice (some ⟨bp, 0, none⟩) 4 4)), (1, (.slice aa t.acc.length ac)), (2, (.slice ba t.bs.length bc)), (3, (.slice oa t.ow.length oc)), (4, (.slice na t.nx.length nc))]) (c := #[(.slice (some ⟨bp, 0, none⟩) 4 4), (.slice aa t.acc.length ac), (.slice ba t.bs.length bc), (.slice oa t.ow.length oc), (.slice na t.nx.length nc)]) (by decide) rfl Try.underlying23 siz22 zer22 (by decide) (by decide) (by kernel_rfl) ?_
  intro bq wq Nq
  have Fq := Nq.ge E
  have Oq_bt := Nq.lt Bt
  have Oq_bp := Nq.lt Bp
  replace Bt := Nq.keep Bt
  replace Bp := Nq.keep Bp
  replace E := E.ext Nq.ext
  have Bq := Nq.blk
  refine WpL_enter rfl rfl (by decide) (r_callF (vs := [(.slice (some ⟨bq, 0, none⟩) 5 5)]) Try.func83 nm83 bd83 rfl) (concatT_c _ _ t (intss_blk Bq rfl rfl (by omega) (intss5 (ints_own (l := [t.start, ((t.cols : Nat) : Int), ((t.bs.length : Nat) : Int), ((t.ow.length : Nat) : Int)]) (rest := []) Bp (by omega) (by omega)) (ha.ext E) (hb.ext E) (ho.ext E) (hn.ext E))) (by omega)) ?_
  rintro _ w19 ⟨⟨ja, jc, rfl, hJ⟩, X19⟩
  replace Bt := X19.keep Bt
  replace Bp := X19.keep Bp
  replace Bq := X19.keep Bq
  replace E := E.ext X19
  obtain ⟨n1, hn1⟩ : ∃ n1, n1 = w19.heap.size := ⟨_, rfl⟩
  have hn10 : w0.heap.size ≤ n1 := by rw [hn1]; exact E.size
  obtain ⟨m, hm⟩ : ∃ m, m = (intsT t).length := ⟨_, rfl⟩
  rw [← hm] at hJ ⊢
  have E1 : Chg none1 w19 w19 := Chg.refl _ _
  refine WpL_val rfl rfl (by decide) (r_lenSlice (ad := ja) (n := m) (cap := jc) Try.underlying22 rfl) ?_
  refine WpL_val rfl rfl (by decide) (r_move (v := (.int .i64 0)) rfl) ?_
  refine WpL_nil ?_
  refine Wp_block ?_
  refine Wp_loop (fun nn_ σ W1 => ∃ (k : Nat) (oa2 : Option Addr) (oc2 : Nat) (out : List Nat) (n : Nat), (∃ jj_, σ = upds jj_ [(34, (.slice ja m jc)), (35, (.int .i64 ((m : Nat) : Int))), (36, (.int .i64 ((k : Nat) : Int))), (5, (.slice oa2 n oc2))]) ∧ Chg none1 w0 W1 ∧ Chg none1 w19 W1 ∧ (k ≤ m) ∧ (n = out.length) ∧ (out = ((intsT t).take k).flatMap encI1) ∧ (n ≤ k * 10) ∧ (W1.ownsRow n1 TU8 1 (.slice oa2 n oc2) n (out.map u8V)) ∧ (n1 ≤ W1.heap.size) ∧ nn_ = m - k) (n := m - 0) ?_ ?_
  · exact ⟨0, none, 0, [], 0, Fits.out ⟨rfl, rfl, rfl, rfl, trivial⟩, E, E1, Nat.zero_le _, rfl, rfl, Nat.zero_le _, World.ownsRow_nil _ _ _ _, (by omega), rfl⟩
  · clear E E1
    rintro _ _ W1 ⟨k, oa2, oc2, out, n, ⟨j1, rfl⟩, E, E1, hk, hn2, hout, hol, hO, hsz, rfl⟩
    refine Wp_seq_region ?_
    refine WpL_val rfl rfl (by decide) (r_lss (k := .i64) (a := ((k : Nat) : Int)) (b := ((m : Nat) : Int)) rfl rfl) ?_
    refine WpL_nil ?_
    refine Wp_seq ?_
    refine Wp_cond (b := decide ((((k : Nat) : Int) : Int) < ((m : Nat) : Int))) rfl (fun hlt => ?_) (fun hlt => ?_)
    · have khlt := hlt
      replace hlt := of_decide_eq_true hlt
      obtain ⟨x, hx⟩ := get_of_lt (l := intsT t) (i := k) (by omega)
      obtain ⟨jb, jo, rfl, hjc⟩ := ints_cells hJ (by omega)
      have hxo := hok x (List.mem_of_getElem? hx)
      refine Wp_skip ?_
      refine thn_normal ?_
      refine Wp_seq ?_
      refine Wp_block ?_
      refine Wp_seq_region ?_
      refine WpL_val rfl rfl (by decide) (r_indexSlice (b := jb) (o := jo) (len := m) (cap := jc) (i := k) (o' := jo + k) rfl rfl rfl Try.underlying22 siz3 (by omega) (by omega)) ?_
      refine WpL_val rfl rfl (by decide) (r_load (v := (.int .i64 x)) rfl flat3 (E1.cell (fun f => f) (hjc k x hx))) ?_
      obtain ⟨y0, hy0⟩ : ∃ y0 : Nat, y0 = (x + 1).toNat := ⟨_, rfl⟩
      refine WpL_val rfl rfl (by decide) (r_assign (v := (.int .i64 x)) rfl) ?_
      refine WpL_nil ?_
      refine Wp_seq_region ?_
      refine WpL_val rfl rfl (by decide) (r_move (v := (.int .i64 x)) rfl) ?_
      refine WpL_val rfl rfl (by decide) (r_convInt (k := .i64) (k' := .u64) (n := x) (c := x % 18446744073709551616) ⟨_, Try.underlying3⟩ Try.underlying110 rfl (wU64m _)) ?_
      refine WpL_val rfl rfl (by decide) (r_add (k := .u64) (a := x % 18446744073709551616) (b := 1) (c := ((y0 : Nat) : Int)) rfl rfl ((wU64m _).trans (by omega))) ?_
      refine WpL_val rfl rfl (by decide) (r_assign (v := (.int .u64 ((y0 : Nat) : Int))) rfl) ?_
      refine WpL_nil ?_
      refine Wp_seq ?_
      refine Wp_block ?_
      refine Wp_loop (fun nn_ σ W3 => ∃ (oa3 : Option Addr) (oc3 : Nat) (out2 : List Nat) (n3 : Nat) (y : Nat), (∃ jj_, σ = upds jj_ [(34, (.slice (some ⟨jb, jo, none⟩) m jc)), (35, (.int .i64 ((m : Nat) : Int))), (36, (.int .i64 ((k : Nat) : Int))), (5, (.slice oa3 n3 oc3)), (8, (.int .u64 ((y : Nat) : Int)))]) ∧ Chg none1 w0 W3 ∧ Chg none1 w19 W3 ∧ (n3 = out2.length) ∧ (out2 ++ encN y = out ++ encN y0) ∧ (y ≤ y0) ∧ (W3.ownsRow n1 TU8 1 (.slice oa3 n3 oc3) n3 (out2.map u8V)) ∧ (n1 ≤ W3.heap.size) ∧ nn_ = y + 1) (n := y0 + 1) ?_ ?_
      · exact ⟨oa2, oc2, out, n, y0, Fits.out ⟨rfl, rfl, rfl, rfl, rfl, trivial⟩, E, E1, hn2, rfl, Nat.le_refl _, hO, hsz, rfl⟩
      · clear E E1
        rintro _ _ W3 ⟨oa3, oc3, out2, n3, y, ⟨j3, rfl⟩, E, E1, hn3, hout2, hy, hO2, hsz2, rfl⟩
        have hly := congrArg List.length hout2
        rw [List.length_append, List.length_append] at hly
        have hl10 : (encN y0).length ≤ 10 := by have h9 := encI1_len hxo.2; unfold encI1 at h9; rwa [← hy0] at h9
        have hypos := encN_pos y
        refine Wp_seq ?_
        refine Wp_seq_region ?_
        refine WpL_val rfl rfl (by decide) (r_move (v := (.int .u64 ((y : Nat) : Int))) rfl) ?_
        refine WpL_val rfl rfl (by decide) (r_geq (k := .u64) (a := ((y : Nat) : Int)) (b := 128) rfl rfl) ?_
        refine WpL_nil ?_
        refine Wp_cond (b := decide ((128 : Int) ≤ ((y : Nat) : Int))) rfl (fun hbig => ?_) (fun hbig => ?_)
        · have khbig := hbig
          replace hbig := of_decide_eq_true hbig
          have hkb : 128 ≤ y := by omega
          rw [encN_big hkb] at hout2
          refine Wp_skip ?_
          refine thn_normal ?_
          refine Wp_block ?_
          refine Wp_seq_region ?_
          refine WpL_val rfl rfl (by decide) (r_move (v := (.slice oa3 n3 oc3)) rfl) ?_
          refine WpL_val rfl rfl (by decide) (r_move (v := (.int .u64 ((y : Nat) : Int))) rfl) ?_
          refine WpL_val rfl rfl (by decide) (r_rem (k := .u64) (a := ((y : Nat) : Int)) (b := 128) (c := ((y % 128 : Nat) : Int)) rfl rfl (by omega) rfl) ?_
          refine WpL_val rfl rfl (by decide) (r_convInt (k := .u64) (k' := .u8) (n := ((y % 128 : Nat) : Int)) (c := ((y % 128 : Nat) : Int)) ⟨_, Try.underlying110⟩ Try.underlying5 rfl ((wU8m _).trans (by omega))) ?_
          refine WpL_val rfl rfl (by decide) (r_add (k := .u8) (a := ((y % 128 : Nat) : Int)) (b := 128) (c := ((y % 128 + 128 : Nat) : Int)) rfl rfl ((wU8m _).trans (by omega))) ?_
          refine s_buildSlice (ps := [(0, (.int .u8 ((y % 128 + 128 : Nat) : Int)))]) (c := #[(.int .u8 ((y % 128 + 128 : Nat) : Int))]) (by decide) rfl Try.underlying62 siz5 zer5 (by decide) (by decide) (by kernel_rfl) ?_
          intro br wr Nr
          have Fr := Nr.ge E
          have Fr_E1 := Nr.ge E1
          replace E := E.ext Nr.ext
          have Br := Nr.blk
          replace E1 := E1.ext Nr.ext
          have hO2r := own_ext hO2 Nr.ext
          refine s_append (base := n1) (n := n3) (m := 1) (xs := (out2.map u8V)) (news := [(.int .u8 ((y % 128 + 128 : Nat) : Int))]) (size := 1) (bytes := 1) (v := (.slice oa3 n3 oc3)) (by decide) Try.underlying62 siz5 byt5 zer5 rfl (by decide) rfl hO2r rfl (rfl) (Br.cells rfl) (by simp [Value.oneCell']) (by unfold maxLen; omega) (by omega) ((by have := Nr.ext.size; omega)) ?_
          intro v7 w59 Ov7 Cv7 Dv7
          replace E := E.step Cv7 (fun x hx h => absurd (hO2r.lt x h).1 (by omega))
          replace E1 := E1.step Cv7 (fun x hx h => absurd (hO2r.lt x h).1 (by omega))
          obtain ⟨oa4, oc4, rfl⟩ := own_form Ov7
          refine WpL_val rfl rfl (by decide) (r_assign (v := (.slice oa4 (n3 + 1) oc4)) rfl) ?_
          refine WpL_nil ?_
          refine Wp_region ?_
          refine WpL_val rfl rfl (by decide) (r_move (v := (.int .u64 ((y : Nat) : Int))) rfl) ?_
          refine WpL_val rfl rfl (by decide) (r_quo (k := .u64) (a := ((y : Nat) : Int)) (b := 128) (c := ((y / 128 : Nat) : Int)) rfl rfl (by decide) (by rw [Int.tdiv_eq_ediv_of_nonneg (by omega), wU64m]; omega)) ?_
          refine WpL_val rfl rfl (by decide) (r_assign (v := (.int .u64 ((y / 128 : Nat) : Int))) rfl) ?_
          refine WpL_nil ?_
          refine inB_normal ?_
          refine thn_normal ?_
          exact ⟨(y / 128) + 1, by omega, oa4, oc4, out2 ++ [y % 128 + 128], n3 + 1, y / 128, Fits.out ⟨rfl, rfl, rfl, rfl, rfl, trivial⟩, E, E1, (by simp [hn3]), (by rw [← hout2, List.append_assoc]; rfl), (by omega), (by rw [List.map_append]; exact Ov7), Nat.le_trans hsz2 (Nat.le_trans Nr.ext.size Cv7.size), rfl⟩
        · have khbig := hbig
          replace hbig := of_decide_eq_false hbig
          have hkb : y < 128 := by omega
          rw [encN_small hkb] at hout2 hypos hly
          refine Wp_exit ?_
          refine thn_exit ?_
          refine thn_exit ?_
          refine inB_here ?_
          refine thn_normal ?_
          refine Wp_region ?_
          refine WpL_val rfl rfl (by decide) (r_move (v := (.slice oa3 n3 oc3)) rfl) ?_
          refine WpL_val rfl rfl (by decide) (r_move (v := (.int .u64 ((y : Nat) : Int))) rfl) ?_
          refine WpL_val rfl rfl (by decide) (r_convInt (k := .u64) (k' := .u8) (n := ((y : Nat) : Int)) (c := ((y : Nat) : Int)) ⟨_, Try.underlying110⟩ Try.underlying5 rfl ((wU8m _).trans (by omega))) ?_
          refine s_buildSlice (ps := [(0, (.int .u8 ((y : Nat) : Int)))]) (c := #[(.int .u8 ((y : Nat) : Int))]) (by decide) rfl Try.underlying62 siz5 zer5 (by decide) (by decide) (by kernel_rfl) ?_
          intro br wr Nr
          have Fr := Nr.ge E
          have Fr_E1 := Nr.ge E1
          replace E := E.ext Nr.ext
          have Br := Nr.blk
          replace E1 := E1.ext Nr.ext
          have hO2r := own_ext hO2 Nr.ext
          have hl1 : [y].length = 1 := rfl
          refine s_append (base := n1) (n := n3) (m := 1) (xs := (out2.map u8V)) (news := [(.int .u8 ((y : Nat) : Int))]) (size := 1) (bytes := 1) (v := (.slice oa3 n3 oc3)) (by decide) Try.underlying62 siz5 byt5 zer5 rfl (by decide) rfl hO2r rfl (rfl) (Br.cells rfl) (by simp [Value.oneCell']) (by unfold maxLen; omega) (by omega) ((by have := Nr.ext.size; omega)) ?_
          intro v8 w69 Ov8 Cv8 Dv8
          replace E := E.step Cv8 (fun x hx h => absurd (hO2r.lt x h).1 (by omega))
          replace E1 := E1.step Cv8 (fun x hx h => absurd (hO2r.lt x h).1 (by omega))
          obtain ⟨oa4, oc4, rfl⟩ := own_form Ov8
          refine WpL_val rfl rfl (by decide) (r_assign (v := (.slice oa4 (n3 + 1) oc4)) rfl) ?_
          refine WpL_nil ?_
          refine inB_normal ?_
          refine thn_normal ?_
          refine Wp_region ?_
          refine WpL_val rfl rfl (by decide) (r_add (k := .i64) (a := ((k : Nat) : Int)) (b := 1) (c := ((k : Nat) : Int) + 1) rfl rfl (wI64 (by omega))) ?_
          refine WpL_val rfl rfl (by decide) (r_move (v := (.int .i64 (((k : Nat) : Int) + 1))) rfl) ?_
          refine WpL_nil ?_
          refine thn_normal ?_
          exact ⟨m - (k + 1), by omega, k + 1, oa4, oc4, out2 ++ [y], n3 + 1, Fits.out ⟨rfl, rfl, rfl, rfl, trivial⟩, E, E1, (by omega), (by simp [hn3]), (by rw [hout2, take_snoc' hx, List.flatMap_append, hout]; unfold encI1; simp [hy0, encI1]), (by omega), (by rw [List.map_append]; exact Ov8), Nat.le_trans hsz2 (Nat.le_trans Nr.ext.size Cv8.size), rfl⟩
    · have khlt := hlt
      replace hlt := of_decide_eq_false hlt
      have hkm : k = m := by omega
      rw [hkm, hm, List.take_length] at hout
      refine Wp_exit ?_
      refine thn_exit ?_
      refine thn_exit ?_
      refine inB_here ?_
      refine thn_normal ?_
      refine Wp_seq_region ?_
      refine WpL_val rfl rfl (by decide) (r_move (v := (.slice oa2 n oc2)) rfl) ?_
      refine WpL_val rfl rfl (by decide) (r_assign (v := (.slice oa2 n oc2)) rfl) ?_
      refine WpL_val rfl rfl (by decide) (r_assign (v := (.int .i64 0)) rfl) ?_
      refine WpL_nil ?_
      refine Wp_ret ?_
      refine fin_tmp2 Try.results42 (v := (.slice oa2 n oc2)) (v' := (.int .i64 0)) rfl rfl ?_
      have hn9 : n = (bytesT t).length := by rw [hn2, hout]; rfl
      rw [← hn9]
      exact ⟨⟨oa2, oc2, rfl, by have h9 := by_own hO hn2; rwa [hout] at h9⟩, E⟩
end Go.Proofs
