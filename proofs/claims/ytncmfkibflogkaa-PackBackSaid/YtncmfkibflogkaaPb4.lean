/- Contracts and plain lemmas, part 4. -/
import Derived.Tactics
import Derived.Deep.Quiet
import Derived.Laws.AppendOwn
import Derived.KernelRfl
import Derived.Laws.Entries
import Derived.Laws.Build
import Derived.Below
import Derived.RowKit3
import Derived.StillTail
import Derived.Sort.Grow
import Derived.Deep.Draws
import Derived.Test.YtncmfkibflogkaaChecked
import Derived.Laws.StructEq
import Derived.Laws.MakeOwn
import Derived.MapKept
import Derived.Laws.BytesArg
import Derived.Laws.CopyRow
import Derived.DeepKeys3
import Derived.OpenShut
import Derived.ChangeSlices
import Derived.Test.YtncmfkibflogkaaPb3
namespace Go.Proofs
open Go Go.Eng
set_option maxRecDepth 100000
theorem half_shr (x : Nat) : (((x : Nat) : Int)).fdiv (2 ^ (min (1 : Int).toNat IntKind.u64.bits)) = ((x / 2 : Nat) : Int) := by
  have : min (1 : Int).toNat IntKind.u64.bits = 1 := by decide
  rw [this, Int.fdiv_eq_ediv_of_nonneg _ (by decide)]
  omega
set_option maxHeartbeats 8000000 in
theorem symMerge_c : ∀ (z : Nat) (w0 : World) (g c n T : Nat) (l : List Int) (rest : List Value) (fv : Value) (cf : Int → Int → Int) (a m b : Nat), b - a ≤ z → Blk w0 g (l.map (Value.int .i64) ++ rest).toArray T → l.length = n → a < m → m < b → b ≤ n → n ≤ 1000000 →
    (∀ (w : World) (x y : Int), Chg (fun q => q = g) w0 w → x ∈ l → y ∈ l → CallV Try.prog fv #[.int .i64 x, .int .i64 y] w fun r w' => r = .int .i64 (cf x y) ∧ Ext w w') →
    Ret Try.prog 125 #[.slice (some ⟨g, 0, none⟩) n c, .int .i64 ((a : Nat) : Int), .int .i64 ((m : Nat) : Int), .int .i64 ((b : Nat) : Int), fv] w0 fun _ w => ∃ l', List.Perm l' l ∧ Blk w g (l'.map (Value.int .i64) ++ rest).toArray T ∧ Chg (fun q => q = g) w0 w := by
  intro z
  induction z with
  | zero => intro w0 g c n T l rest fv cf a m b hz hB hn ham hmb; omega
  | succ z ih =>
  intro w0 g c n T l rest fv cf a m b hz hB hn ham hmb hbn hsz hf
  refine Ret_of Try.func125 rfl Try.ntmps125 (Nat.le_of_ble_eq_true rfl) ?_
  have E : Chg (fun q => q = g) w0 w0 := Chg.refl _ _
  refine Wp_seq ?_
  refine Wp_seq_region ?_
  refine WpL_val rfl rfl (by decide) (r_move (v := (.int .i64 ((m : Nat) : Int))) rfl) ?_
  refine WpL_val rfl rfl (by decide) (r_move (v := (.int .i64 ((a : Nat) : Int))) rfl) ?_
  refine WpL_val rfl rfl (by decide) (r_sub (k := .i64) (a := ((m : Nat) : Int)) (b := ((a : Nat) : Int)) (c := (((m - a : Nat) : Nat) : Int)) rfl rfl ((wI64 (by omega)).trans (by omega))) ?_
  refine WpL_val rfl rfl (by decide) (r_eql (k := .i64) (a := (((m - a : Nat) : Nat) : Int)) (b := 1) rfl rfl) ?_
  refine WpL_nil ?_
  refine Wp_cond (b := decide (((((m - a : Nat) : Nat) : Int) : Int) = 1)) rfl (fun h1 => ?_) (fun h1 => ?_)
  · have kh1 := h1
    replace h1 := of_decide_eq_true h1
    refine Wp_seq_region ?_
    refine WpL_val rfl rfl (by decide) (r_move (v := (.int .i64 ((m : Nat) : Int))) rfl) ?_
    refine WpL_val rfl rfl (by decide) (r_assign (v := (.int .i64 ((m : Nat) : Int))) rfl) ?_
    refine WpL_nil ?_
    refine Wp_seq_region ?_
    refine WpL_val rfl rfl (by decide) (r_move (v := (.int .i64 ((b : Nat) : Int))) rfl) ?_
    refine WpL_val rfl rfl (by decide) (r_assign (v := (.int .i64 ((b : Nat) : Int))) rfl) ?_
    refine WpL_nil ?_
    refine Wp_seq ?_
    refine Wp_block ?_
    refine Wp_loop (fun nn_ σ W2 => ∃ (i j : Nat), (∃ jj_, σ = upds jj_ [(0, (.slice (some ⟨g, 0, none⟩) n c)), (1, (.int .i64 ((a : Nat) : Int))), (4, fv), (10, (.int .i64 ((i : Nat) : Int))), (11, (.int .i64 ((j : Nat) : Int)))]) ∧ Chg (fun q => q = g) w0 W2 ∧ Blk W2 g ((l.map (Value.int .i64) ++ rest).toArray) T ∧ (m ≤ i ∧ i ≤ j ∧ j ≤ b) ∧ nn_ = j - i + 1) (n := b - m + 1) ?_ ?_
    · exact ⟨m, b, Fits.out ⟨rfl, rfl, rfl, rfl, rfl, trivial⟩, E, hB, ⟨by omega, by omega, by omega⟩, rfl⟩
    · clear E hB
      rintro _ _ W2 ⟨i, j, ⟨j2, rfl⟩, E, hB, hi, rfl⟩
      refine Wp_seq ?_
      refine Wp_seq_region ?_
      refine WpL_val rfl rfl (by decide) (r_move (v := (.int .i64 ((i : Nat) : Int))) rfl) ?_
      refine WpL_val rfl rfl (by decide) (r_move (v := (.int .i64 ((j : Nat) : Int))) rfl) ?_
      refine WpL_val rfl rfl (by decide) (r_lss (k := .i64) (a := ((i : Nat) : Int)) (b := ((j : Nat) : Int)) rfl rfl) ?_
      refine WpL_nil ?_
      refine Wp_cond (b := decide ((((i : Nat) : Int) : Int) < ((j : Nat) : Int))) rfl (fun hlt => ?_) (fun hlt => ?_)
      · have khlt := hlt
        replace hlt := of_decide_eq_true hlt
        refine Wp_skip ?_
        refine thn_normal ?_
        refine Wp_block ?_
        refine Wp_seq_region ?_
        refine WpL_val rfl rfl (by decide) (r_move (v := (.int .i64 ((i : Nat) : Int))) rfl) ?_
        refine WpL_val rfl rfl (by decide) (r_move (v := (.int .i64 ((j : Nat) : Int))) rfl) ?_
        refine WpL_val rfl rfl (by decide) (r_add (k := .i64) (a := ((i : Nat) : Int)) (b := ((j : Nat) : Int)) (c := (((i + j : Nat) : Nat) : Int)) rfl rfl ((wI64 (by omega)).trans (by omega))) ?_
        refine WpL_val rfl rfl (by decide) (r_convInt (k := .i64) (k' := .u64) (n := (((i + j : Nat) : Nat) : Int)) (c := (((i + j : Nat) : Nat) : Int)) ⟨_, Try.underlying3⟩ Try.underlying106 rfl (wU64 (by omega))) ?_
        refine WpL_val rfl rfl (by decide) (r_shr (k := .u64) (a := (((i + j : Nat) : Nat) : Int)) (b := 1) (c := ((((i + j) / 2 : Nat) : Nat) : Int)) (k' := .u64) rfl rfl (by omega) (half_shr _)) ?_
        refine WpL_val rfl rfl (by decide) (r_convInt (k := .u64) (k' := .i64) (n := ((((i + j) / 2 : Nat) : Nat) : Int)) (c := ((((i + j) / 2 : Nat) : Nat) : Int)) ⟨_, Try.underlying106⟩ Try.underlying3 rfl (wI64 (by omega))) ?_
        refine WpL_val rfl rfl (by decide) (r_assign (v := (.int .i64 ((((i + j) / 2 : Nat) : Nat) : Int))) rfl) ?_
        refine WpL_nil ?_
        obtain ⟨x, hx⟩ := get_of_lt (l := l) (i := (i + j) / 2) (by omega)
        obtain ⟨y, hy⟩ := get_of_lt (l := l) (i := a) (by omega)
        refine Wp_seq ?_
        obtain ⟨Fs4, hFs4⟩ : ∃ Fs : List Fact, Fs = [.eq fv, .eq (.slice (some ⟨g, 0, none⟩) n c), .eq (.int .i64 ((((i + j) / 2 : Nat) : Nat) : Int)), .eq (.pointer (some ⟨g, 0 + ((i + j) / 2), none⟩)), .eq (.int .i64 x), .eq (.slice (some ⟨g, 0, none⟩) n c), .eq (.int .i64 ((a : Nat) : Int)), .eq (.pointer (some ⟨g, 0 + a, none⟩)), .eq (.int .i64 y), .eq (.int .i64 (cf x y)), .eq (.bool (decide (cf x y < 0)))] := ⟨_, rfl⟩
        refine Wp_dag [40, 41, 42, 43, 44, 45, 46, 47, 48, 49, 50] [[], [], [], [1, 2], [3], [], [], [5, 6], [7], [0, 4, 8], [9]] Fs4 hFs4 mixed (by kernel_rfl) (by kernel_rfl) ?_ ?_
        · intro wd X0
          refine DagSteps.cons (fun s' w' X U H => Or.inl ⟨?_, ?_⟩) ?_
          · exact Guarded_none rfl
          · exact Does_val (r_move (v := fv) (U 4 rfl)) (Ext.refl _) rfl
          refine DagSteps.cons (fun s' w' X U H => Or.inl ⟨?_, ?_⟩) ?_
          · exact Guarded_none rfl
          · exact Does_val (r_move (v := (.slice (some ⟨g, 0, none⟩) n c)) (U 0 rfl)) (Ext.refl _) rfl
          refine DagSteps.cons (fun s' w' X U H => Or.inl ⟨?_, ?_⟩) ?_
          · exact Guarded_none rfl
          · exact Does_val (r_move (v := (.int .i64 ((((i + j) / 2 : Nat) : Nat) : Int))) (U 12 rfl)) (Ext.refl _) rfl
          refine DagSteps.cons (fun s' w' X U H => Or.inl ⟨?_, ?_⟩) ?_
          · exact Guarded_none rfl
          · have e41 : s' 41 = (.slice (some ⟨g, 0, none⟩) n c) := H 1 rfl 41 (.eq (.slice (some ⟨g, 0, none⟩) n c)) rfl (by rw [hFs4]; rfl)
            have e42 : s' 42 = (.int .i64 ((((i + j) / 2 : Nat) : Nat) : Int)) := H 2 rfl 42 (.eq (.int .i64 ((((i + j) / 2 : Nat) : Nat) : Int))) rfl (by rw [hFs4]; rfl)
            exact Does_val (r_indexSlice (b := g) (o := 0) (len := n) (cap := c) (i := (i + j) / 2) (o' := 0 + ((i + j) / 2)) e41 e42 (by omega) Try.underlying22 siz3 (by omega) (by omega)) (Ext.refl _) rfl
          refine DagSteps.cons (fun s' w' X U H => Or.inl ⟨?_, ?_⟩) ?_
          · exact Guarded_none rfl
          · have e43 : s' 43 = (.pointer (some ⟨g, 0 + ((i + j) / 2), none⟩)) := H 3 rfl 43 (.eq (.pointer (some ⟨g, 0 + ((i + j) / 2), none⟩))) rfl (by rw [hFs4]; rfl)
            exact Does_val (r_load (v := (.int .i64 x)) e43 flat3 ((by rw [Nat.zero_add]; exact ints_get ((X0.trans X).keep hB) hx))) (Ext.refl _) rfl
          refine DagSteps.cons (fun s' w' X U H => Or.inl ⟨?_, ?_⟩) ?_
          · exact Guarded_none rfl
          · exact Does_val (r_move (v := (.slice (some ⟨g, 0, none⟩) n c)) (U 0 rfl)) (Ext.refl _) rfl
          refine DagSteps.cons (fun s' w' X U H => Or.inl ⟨?_, ?_⟩) ?_
          · exact Guarded_none rfl
          · exact Does_val (r_move (v := (.int .i64 ((a : Nat) : Int))) (U 1 rfl)) (Ext.refl _) rfl
          refine DagSteps.cons (fun s' w' X U H => Or.inl ⟨?_, ?_⟩) ?_
          · exact Guarded_none rfl
          · have e45 : s' 45 = (.slice (some ⟨g, 0, none⟩) n c) := H 5 rfl 45 (.eq (.slice (some ⟨g, 0, none⟩) n c)) rfl (by rw [hFs4]; rfl)
            have e46 : s' 46 = (.int .i64 ((a : Nat) : Int)) := H 6 rfl 46 (.eq (.int .i64 ((a : Nat) : Int))) rfl (by rw [hFs4]; rfl)
            exact Does_val (r_indexSlice (b := g) (o := 0) (len := n) (cap := c) (i := a) (o' := 0 + a) e45 e46 (by omega) Try.underlying22 siz3 (by omega) (by omega)) (Ext.refl _) rfl
          refine DagSteps.cons (fun s' w' X U H => Or.inl ⟨?_, ?_⟩) ?_
          · exact Guarded_none rfl
          · have e47 : s' 47 = (.pointer (some ⟨g, 0 + a, none⟩)) := H 7 rfl 47 (.eq (.pointer (some ⟨g, 0 + a, none⟩))) rfl (by rw [hFs4]; rfl)
            exact Does_val (r_load (v := (.int .i64 y)) e47 flat3 ((by rw [Nat.zero_add]; exact ints_get ((X0.trans X).keep hB) hy))) (Ext.refl _) rfl
          refine DagSteps.cons (fun s' w' X U H => Or.inl ⟨?_, ?_⟩) ?_
          · exact Guarded_none rfl
          · have e44 : s' 44 = (.int .i64 x) := H 4 rfl 44 (.eq (.int .i64 x)) rfl (by rw [hFs4]; rfl)
            have e48 : s' 48 = (.int .i64 y) := H 8 rfl 48 (.eq (.int .i64 y)) rfl (by rw [hFs4]; rfl)
            have e40 : s' 40 = fv := H 0 rfl 40 (.eq fv) rfl (by rw [hFs4]; rfl)
            exact Does_callV e40 (lst2 e44 e48) (hf _ x y (E.ext (X0.trans X)) (List.mem_of_getElem? hx) (List.mem_of_getElem? hy))
          refine DagSteps.cons (fun s' w' X U H => Or.inl ⟨?_, ?_⟩) ?_
          · exact Guarded_none rfl
          · have e49 : s' 49 = (.int .i64 (cf x y)) := H 9 rfl 49 (.eq (.int .i64 (cf x y))) rfl (by rw [hFs4]; rfl)
            exact Does_val (r_lss (k := .i64) (a := cf x y) (b := 0) e49 rfl) (Ext.refl _) rfl
          exact DagSteps.nil
        · intro s' w4 X4 U H
          obtain ⟨j4, rfl⟩ := Fits.out (σ := s') (l := [(0, (.slice (some ⟨g, 0, none⟩) n c)), (1, (.int .i64 ((a : Nat) : Int))), (4, fv), (10, (.int .i64 ((i : Nat) : Int))), (11, (.int .i64 ((j : Nat) : Int))), (12, (.int .i64 ((((i + j) / 2 : Nat) : Nat) : Int))), (50, (.bool (decide (cf x y < 0))))]) ⟨U 0 rfl, U 1 rfl, U 4 rfl, U 10 rfl, U 11 rfl, U 12 rfl, (show s' 50 = (.bool (decide (cf x y < 0))) from H 10 50 (.eq (.bool (decide (cf x y < 0)))) rfl (by rw [hFs4]; rfl)), trivial⟩
          clear U H
          replace hB := X4.keep hB
          replace E := E.ext X4
          refine thn_normal ?_
          refine Wp_cond (b := decide (cf x y < 0)) rfl (fun hc => ?_) (fun hc => ?_)
          · have khc := hc
            replace hc := of_decide_eq_true hc
            refine Wp_region ?_
            refine WpL_val rfl rfl (by decide) (r_move (v := (.int .i64 ((((i + j) / 2 : Nat) : Nat) : Int))) rfl) ?_
            refine WpL_val rfl rfl (by decide) (r_add (k := .i64) (a := ((((i + j) / 2 : Nat) : Nat) : Int)) (b := 1) (c := ((((i + j) / 2 : Nat) : Nat) : Int) + 1) rfl rfl (wI64 (by omega))) ?_
            refine WpL_val rfl rfl (by decide) (r_assign (v := (.int .i64 (((((i + j) / 2 : Nat) : Nat) : Int) + 1))) rfl) ?_
            refine WpL_nil ?_
            refine inB_normal ?_
            refine thn_normal ?_
            exact ⟨j - ((i + j) / 2 + 1) + 1, by omega, (i + j) / 2 + 1, j, Fits.out ⟨rfl, rfl, rfl, rfl, rfl, trivial⟩, E, hB, ⟨by omega, by omega, by omega⟩, rfl⟩
          · have khc := hc
            replace hc := of_decide_eq_false hc
            refine Wp_region ?_
            refine WpL_val rfl rfl (by decide) (r_move (v := (.int .i64 ((((i + j) / 2 : Nat) : Nat) : Int))) rfl) ?_
            refine WpL_val rfl rfl (by decide) (r_assign (v := (.int .i64 ((((i + j) / 2 : Nat) : Nat) : Int))) rfl) ?_
            refine WpL_nil ?_
            refine inB_normal ?_
            refine thn_normal ?_
            exact ⟨((i + j) / 2) - i + 1, by omega, i, (i + j) / 2, Fits.out ⟨rfl, rfl, rfl, rfl, rfl, trivial⟩, E, hB, ⟨by omega, by omega, by omega⟩, rfl⟩
      · have khlt := hlt
        replace hlt := of_decide_eq_false hlt
        refine Wp_exit ?_
        refine thn_exit ?_
        refine thn_exit ?_
        refine inB_here ?_
        refine thn_normal ?_
        refine Wp_seq ?_
        refine Wp_seq_region ?_
        refine WpL_val rfl rfl (by decide) (r_move (v := (.int .i64 ((a : Nat) : Int))) rfl) ?_
        refine WpL_val rfl rfl (by decide) (r_assign (v := (.int .i64 ((a : Nat) : Int))) rfl) ?_
        refine WpL_nil ?_
        refine Wp_block ?_
        refine Wp_loop (fun nn_ σ W6 => ∃ (k : Nat) (cu : List Int), (∃ jj_, σ = upds jj_ [(0, (.slice (some ⟨g, 0, none⟩) n c)), (10, (.int .i64 ((i : Nat) : Int))), (13, (.int .i64 ((k : Nat) : Int)))]) ∧ Chg (fun q => q = g) w0 W6 ∧ Blk W6 g ((cu.map (Value.int .i64) ++ rest).toArray) T ∧ (a ≤ k ∧ k ≤ i - 1) ∧ (List.Perm cu l) ∧ nn_ = i - k) (n := i - a) ?_ ?_
        · exact ⟨a, l, Fits.out ⟨rfl, rfl, rfl, trivial⟩, E, hB, ⟨by omega, by omega⟩, List.Perm.refl _, rfl⟩
        · clear E hB
          rintro _ _ W6 ⟨k, cu, ⟨j6, rfl⟩, E, hB, hk, hp, rfl⟩
          refine Wp_seq ?_
          refine Wp_seq_region ?_
          refine WpL_val rfl rfl (by decide) (r_move (v := (.int .i64 ((k : Nat) : Int))) rfl) ?_
          refine WpL_val rfl rfl (by decide) (r_move (v := (.int .i64 ((i : Nat) : Int))) rfl) ?_
          refine WpL_val rfl rfl (by decide) (r_sub (k := .i64) (a := ((i : Nat) : Int)) (b := 1) (c := (((i - 1 : Nat) : Nat) : Int)) rfl rfl ((wI64 (by omega)).trans (by omega))) ?_
          refine WpL_val rfl rfl (by decide) (r_lss (k := .i64) (a := ((k : Nat) : Int)) (b := (((i - 1 : Nat) : Nat) : Int)) rfl rfl) ?_
          refine WpL_nil ?_
          refine Wp_cond (b := decide ((((k : Nat) : Int) : Int) < (((i - 1 : Nat) : Nat) : Int))) rfl (fun hltk => ?_) (fun hltk => ?_)
          · have khltk := hltk
            replace hltk := of_decide_eq_true hltk
            have hcl : cu.length = n := by rw [hp.length_eq, hn]
            obtain ⟨x, hx⟩ := get_of_lt (l := cu) (i := k) (by omega)
            obtain ⟨y, hy⟩ := get_of_lt (l := cu) (i := k + 1) (by omega)
            refine Wp_skip ?_
            refine thn_normal ?_
            refine Wp_seq ?_
            refine Wp_block ?_
            obtain ⟨Fs8, hFs8⟩ : ∃ Fs : List (FactT ((fun q => q = g))), Fs = [.eq (.slice (some ⟨g, 0, none⟩) n c), .eq (.int .i64 ((k : Nat) : Int)), .eq (.slice (some ⟨g, 0, none⟩) n c), .eq (.int .i64 ((k : Nat) : Int)), .eq (.int .i64 (((k : Nat) : Int) + 1)), .eq (.slice (some ⟨g, 0, none⟩) n c), .eq (.int .i64 ((k : Nat) : Int)), .eq (.int .i64 (((k : Nat) : Int) + 1)), .eq (.pointer (some ⟨g, 0 + (k + 1), none⟩)), .eq (.int .i64 y), .eq (.slice (some ⟨g, 0, none⟩) n c), .eq (.int .i64 ((k : Nat) : Int)), .eq (.pointer (some ⟨g, 0 + k, none⟩)), .eq (.int .i64 x), .eq (.pointer (some ⟨g, 0 + k, none⟩)), .own (fun _ w => Blk w g ((cu.set k y).map (Value.int .i64) ++ rest).toArray T) (fun _ _ _ e h => Ext.keep e h)] := ⟨_, rfl⟩
            refine Wp_dagT ((fun q => q = g)) 16 15 [61, 62, 63, 64, 65, 66, 67, 68, 69, 70, 71, 72, 73, 74, 75, 235] [[], [], [], [], [3], [], [], [6], [5, 7], [8], [], [], [10, 11], [12], [0, 1, 5, 6, 7, 8, 9, 13], [0, 1, 5, 6, 7, 8, 9, 13, 14]] Fs8 hFs8 rfl mixed (by kernel_rfl) (by kernel_rfl) (by kernel_rfl) ?_ ?_
            · intro wd X0
              refine DagStepsT.cons (fun s' w' X U H => ?_) ?_
              · exact DoesT_val (r_move (v := (.slice (some ⟨g, 0, none⟩) n c)) (U 0 rfl)) (Chg.refl _ _) rfl
              refine DagStepsT.cons (fun s' w' X U H => ?_) ?_
              · exact DoesT_val (r_move (v := (.int .i64 ((k : Nat) : Int))) (U 13 rfl)) (Chg.refl _ _) rfl
              refine DagStepsT.cons (fun s' w' X U H => ?_) ?_
              · exact DoesT_val (r_move (v := (.slice (some ⟨g, 0, none⟩) n c)) (U 0 rfl)) (Chg.refl _ _) rfl
              refine DagStepsT.cons (fun s' w' X U H => ?_) ?_
              · exact DoesT_val (r_move (v := (.int .i64 ((k : Nat) : Int))) (U 13 rfl)) (Chg.refl _ _) rfl
              refine DagStepsT.cons (fun s' w' X U H => ?_) ?_
              · have e64 : s' 64 = (.int .i64 ((k : Nat) : Int)) := H 3 rfl 64 (.eq (.int .i64 ((k : Nat) : Int))) rfl (by rw [hFs8]; rfl)
                exact DoesT_val (r_add (k := .i64) (a := ((k : Nat) : Int)) (b := 1) (c := ((k : Nat) : Int) + 1) e64 rfl (wI64 (by omega))) (Chg.refl _ _) rfl
              refine DagStepsT.cons (fun s' w' X U H => ?_) ?_
              · exact DoesT_val (r_move (v := (.slice (some ⟨g, 0, none⟩) n c)) (U 0 rfl)) (Chg.refl _ _) rfl
              refine DagStepsT.cons (fun s' w' X U H => ?_) ?_
              · exact DoesT_val (r_move (v := (.int .i64 ((k : Nat) : Int))) (U 13 rfl)) (Chg.refl _ _) rfl
              refine DagStepsT.cons (fun s' w' X U H => ?_) ?_
              · have e67 : s' 67 = (.int .i64 ((k : Nat) : Int)) := H 6 rfl 67 (.eq (.int .i64 ((k : Nat) : Int))) rfl (by rw [hFs8]; rfl)
                exact DoesT_val (r_add (k := .i64) (a := ((k : Nat) : Int)) (b := 1) (c := ((k : Nat) : Int) + 1) e67 rfl (wI64 (by omega))) (Chg.refl _ _) rfl
              refine DagStepsT.cons (fun s' w' X U H => ?_) ?_
              · have e66 : s' 66 = (.slice (some ⟨g, 0, none⟩) n c) := H 5 rfl 66 (.eq (.slice (some ⟨g, 0, none⟩) n c)) rfl (by rw [hFs8]; rfl)
                have e68 : s' 68 = (.int .i64 (((k : Nat) : Int) + 1)) := H 7 rfl 68 (.eq (.int .i64 (((k : Nat) : Int) + 1))) rfl (by rw [hFs8]; rfl)
                exact DoesT_val (r_indexSlice (b := g) (o := 0) (len := n) (cap := c) (i := k + 1) (o' := 0 + (k + 1)) e66 e68 (by omega) Try.underlying22 siz3 (by omega) (by omega)) (Chg.refl _ _) rfl
              refine DagStepsT.cons (fun s' w' X U H => ?_) ?_
              · have e69 : s' 69 = (.pointer (some ⟨g, 0 + (k + 1), none⟩)) := H 8 rfl 69 (.eq (.pointer (some ⟨g, 0 + (k + 1), none⟩))) rfl (by rw [hFs8]; rfl)
                exact DoesT_val (r_load (v := (.int .i64 y)) e69 flat3 (by rw [Nat.zero_add]; exact (Chg.keep X (fun f => f) (X0.keep hB) |> fun h => ints_get h hy))) (Chg.refl _ _) rfl
              refine DagStepsT.cons (fun s' w' X U H => ?_) ?_
              · exact DoesT_val (r_move (v := (.slice (some ⟨g, 0, none⟩) n c)) (U 0 rfl)) (Chg.refl _ _) rfl
              refine DagStepsT.cons (fun s' w' X U H => ?_) ?_
              · exact DoesT_val (r_move (v := (.int .i64 ((k : Nat) : Int))) (U 13 rfl)) (Chg.refl _ _) rfl
              refine DagStepsT.cons (fun s' w' X U H => ?_) ?_
              · have e71 : s' 71 = (.slice (some ⟨g, 0, none⟩) n c) := H 10 rfl 71 (.eq (.slice (some ⟨g, 0, none⟩) n c)) rfl (by rw [hFs8]; rfl)
                have e72 : s' 72 = (.int .i64 ((k : Nat) : Int)) := H 11 rfl 72 (.eq (.int .i64 ((k : Nat) : Int))) rfl (by rw [hFs8]; rfl)
                exact DoesT_val (r_indexSlice (b := g) (o := 0) (len := n) (cap := c) (i := k) (o' := 0 + k) e71 e72 (by omega) Try.underlying22 siz3 (by omega) (by omega)) (Chg.refl _ _) rfl
              refine DagStepsT.cons (fun s' w' X U H => ?_) ?_
              · have e73 : s' 73 = (.pointer (some ⟨g, 0 + k, none⟩)) := H 12 rfl 73 (.eq (.pointer (some ⟨g, 0 + k, none⟩))) rfl (by rw [hFs8]; rfl)
                exact DoesT_val (r_load (v := (.int .i64 x)) e73 flat3 (by rw [Nat.zero_add]; exact (Chg.keep X (fun f => f) (X0.keep hB) |> fun h => ints_get h hx))) (Chg.refl _ _) rfl
              refine DagStepsT.cons (fun s' w' X U H => ?_) ?_
              · have e61 : s' 61 = (.slice (some ⟨g, 0, none⟩) n c) := H 0 rfl 61 (.eq (.slice (some ⟨g, 0, none⟩) n c)) rfl (by rw [hFs8]; rfl)
                have e62 : s' 62 = (.int .i64 ((k : Nat) : Int)) := H 1 rfl 62 (.eq (.int .i64 ((k : Nat) : Int))) rfl (by rw [hFs8]; rfl)
                exact DoesT_val (r_indexSlice (b := g) (o := 0) (len := n) (cap := c) (i := k) (o' := 0 + k) e61 e62 (by omega) Try.underlying22 siz3 (by omega) (by omega)) (Chg.refl _ _) rfl
              refine DagStepsT.cons (fun s' w' X U H => ?_) ?_
              · have e75 : s' 75 = (.pointer (some ⟨g, 0 + k, none⟩)) := H 14 rfl 75 (.eq (.pointer (some ⟨g, 0 + k, none⟩))) rfl (by rw [hFs8]; rfl)
                have e70 : s' 70 = (.int .i64 y) := H 9 rfl 70 (.eq (.int .i64 y)) rfl (by rw [hFs8]; rfl)
                exact DoesT_store e75 e70 rfl siz3 (Chg.keep X (fun f => f) (X0.keep hB)) (by simp; omega) rfl (fun w9 h => by have h2 := h.blk; rw [Nat.zero_add, ints_set (by omega) y] at h2; exact h2)
              exact DagStepsT.nil
            · intro s' wd8 w8 X0 X8 U H
              have e63 : s' 63 = (.slice (some ⟨g, 0, none⟩) n c) := H 2 63 (.eq (.slice (some ⟨g, 0, none⟩) n c)) rfl (by rw [hFs8]; rfl)
              have e65 : s' 65 = (.int .i64 (((k : Nat) : Int) + 1)) := H 4 65 (.eq (.int .i64 (((k : Nat) : Int) + 1))) rfl (by rw [hFs8]; rfl)
              have e74 : s' 74 = (.int .i64 x) := H 13 74 (.eq (.int .i64 x)) rfl (by rw [hFs8]; rfl)
              obtain hB := (show (.own (fun _ w => Blk w g ((cu.set k y).map (Value.int .i64) ++ rest).toArray T) (fun _ _ _ e h => Ext.keep e h) : FactT ((fun q => q = g))).In (s' 235) w8 from H 15 235 (.own (fun _ w => Blk w g ((cu.set k y).map (Value.int .i64) ++ rest).toArray T) (fun _ _ _ e h => Ext.keep e h)) rfl (by rw [hFs8]; rfl))
              obtain ⟨j8, rfl⟩ := Fits.out (σ := s') (l := [(0, (.slice (some ⟨g, 0, none⟩) n c)), (10, (.int .i64 ((i : Nat) : Int))), (13, (.int .i64 ((k : Nat) : Int))), (63, (.slice (some ⟨g, 0, none⟩) n c)), (65, (.int .i64 (((k : Nat) : Int) + 1))), (74, (.int .i64 x))]) ⟨U 0 rfl, U 10 rfl, U 13 rfl, e63, e65, e74, trivial⟩
              clear U H
              replace E := (E.ext X0).step X8 (fun q _ h => h)
              refine WpL_val rfl rfl (by decide) (r_indexSlice (b := g) (o := 0) (len := n) (cap := c) (i := k + 1) (o' := 0 + (k + 1)) rfl rfl (by omega) Try.underlying22 siz3 (by omega) (by omega)) ?_
              refine s_store (b := g) (o := 0 + (k + 1)) (c' := (((cu.set k y).set (k + 1) x).map (Value.int .i64) ++ rest).toArray) (v := (.int .i64 x)) rfl rfl rfl siz3 hB (by simp; omega) (by rw [Nat.zero_add]; exact ints_set (by simp; omega) x) ?_
              intro w9 S9
              replace E := S9.step E (by first | exact Or.inl (by omega) | exact Or.inr rfl | exact Or.inr (by assumption) | exact Or.inr (by simp) | exact Or.inr (by omega) | exact Or.inr (by dsimp only; omega))
              replace hB := S9.blk
              refine WpL_nil ?_
              refine inB_normal ?_
              refine thn_normal ?_
              refine Wp_region ?_
              refine WpL_val rfl rfl (by decide) (r_move (v := (.int .i64 ((k : Nat) : Int))) rfl) ?_
              refine WpL_val rfl rfl (by decide) (r_add (k := .i64) (a := ((k : Nat) : Int)) (b := 1) (c := ((k : Nat) : Int) + 1) rfl rfl (wI64 (by omega))) ?_
              refine WpL_val rfl rfl (by decide) (r_assign (v := (.int .i64 (((k : Nat) : Int) + 1))) rfl) ?_
              refine WpL_nil ?_
              refine thn_normal ?_
              exact ⟨i - (k + 1), by omega, k + 1, (cu.set k y).set (k + 1) x, Fits.out ⟨rfl, rfl, rfl, trivial⟩, E, hB, ⟨by omega, by omega⟩, (swap_perm hx hy (by omega)).trans hp, rfl⟩
          · have khltk := hltk
            replace hltk := of_decide_eq_false hltk
            refine Wp_exit ?_
            refine thn_exit ?_
            refine thn_exit ?_
            refine inB_here ?_
            refine thn_normal ?_
            refine Wp_ret ?_
            refine thn_ret ?_
            refine fin_noneR Try.results125 ?_
            exact ⟨cu, hp, hB, E⟩
  · have kh1 := h1
    replace h1 := of_decide_eq_false h1
    refine Wp_skip ?_
    refine thn_normal ?_
    refine Wp_seq ?_
    refine Wp_seq_region ?_
    refine WpL_val rfl rfl (by decide) (r_move (v := (.int .i64 ((b : Nat) : Int))) rfl) ?_
    refine WpL_val rfl rfl (by decide) (r_move (v := (.int .i64 ((m : Nat) : Int))) rfl) ?_
    refine WpL_val rfl rfl (by decide) (r_sub (k := .i64) (a := ((b : Nat) : Int)) (b := ((m : Nat) : Int)) (c := (((b - m : Nat) : Nat) : Int)) rfl rfl ((wI64 (by omega)).trans (by omega))) ?_
    refine WpL_val rfl rfl (by decide) (r_eql (k := .i64) (a := (((b - m : Nat) : Nat) : Int)) (b := 1) rfl rfl) ?_
    refine WpL_nil ?_
    refine Wp_cond (b := decide (((((b - m : Nat) : Nat) : Int) : Int) = 1)) rfl (fun h2 => ?_) (fun h2 => ?_)
    · have kh2 := h2
      replace h2 := of_decide_eq_true h2
      refine Wp_seq_region ?_
      refine WpL_val rfl rfl (by decide) (r_move (v := (.int .i64 ((a : Nat) : Int))) rfl) ?_
      refine WpL_val rfl rfl (by decide) (r_assign (v := (.int .i64 ((a : Nat) : Int))) rfl) ?_
      refine WpL_nil ?_
      refine Wp_seq_region ?_
      refine WpL_val rfl rfl (by decide) (r_move (v := (.int .i64 ((m : Nat) : Int))) rfl) ?_
      refine WpL_val rfl rfl (by decide) (r_assign (v := (.int .i64 ((m : Nat) : Int))) rfl) ?_
      refine WpL_nil ?_
      refine Wp_seq ?_
      refine Wp_block ?_
      refine Wp_loop (fun nn_ σ W11 => ∃ (i2 j2 : Nat), (∃ jj_, σ = upds jj_ [(0, (.slice (some ⟨g, 0, none⟩) n c)), (2, (.int .i64 ((m : Nat) : Int))), (4, fv), (14, (.int .i64 ((i2 : Nat) : Int))), (15, (.int .i64 ((j2 : Nat) : Int)))]) ∧ Chg (fun q => q = g) w0 W11 ∧ Blk W11 g ((l.map (Value.int .i64) ++ rest).toArray) T ∧ (a ≤ i2 ∧ i2 ≤ j2 ∧ j2 ≤ m) ∧ nn_ = j2 - i2 + 1) (n := m - a + 1) ?_ ?_
      · exact ⟨a, m, Fits.out ⟨rfl, rfl, rfl, rfl, rfl, trivial⟩, E, hB, ⟨by omega, by omega, by omega⟩, rfl⟩
      · clear E hB
        rintro _ _ W11 ⟨i2, j2, ⟨j11, rfl⟩, E, hB, hi, rfl⟩
        refine Wp_seq ?_
        refine Wp_seq_region ?_
        refine WpL_val rfl rfl (by decide) (r_move (v := (.int .i64 ((i2 : Nat) : Int))) rfl) ?_
        refine WpL_val rfl rfl (by decide) (r_move (v := (.int .i64 ((j2 : Nat) : Int))) rfl) ?_
        refine WpL_val rfl rfl (by decide) (r_lss (k := .i64) (a := ((i2 : Nat) : Int)) (b := ((j2 : Nat) : Int)) rfl rfl) ?_
        refine WpL_nil ?_
        refine Wp_cond (b := decide ((((i2 : Nat) : Int) : Int) < ((j2 : Nat) : Int))) rfl (fun hlt => ?_) (fun hlt => ?_)
        · have khlt := hlt
          replace hlt := of_decide_eq_true hlt
          refine Wp_skip ?_
          refine thn_normal ?_
          refine Wp_block ?_
          refine Wp_seq_region ?_
          refine WpL_val rfl rfl (by decide) (r_move (v := (.int .i64 ((i2 : Nat) : Int))) rfl) ?_
          refine WpL_val rfl rfl (by decide) (r_move (v := (.int .i64 ((j2 : Nat) : Int))) rfl) ?_
          refine WpL_val rfl rfl (by decide) (r_add (k := .i64) (a := ((i2 : Nat) : Int)) (b := ((j2 : Nat) : Int)) (c := (((i2 + j2 : Nat) : Nat) : Int)) rfl rfl ((wI64 (by omega)).trans (by omega))) ?_
          refine WpL_val rfl rfl (by decide) (r_convInt (k := .i64) (k' := .u64) (n := (((i2 + j2 : Nat) : Nat) : Int)) (c := (((i2 + j2 : Nat) : Nat) : Int)) ⟨_, Try.underlying3⟩ Try.underlying106 rfl (wU64 (by omega))) ?_
          refine WpL_val rfl rfl (by decide) (r_shr (k := .u64) (a := (((i2 + j2 : Nat) : Nat) : Int)) (b := 1) (c := ((((i2 + j2) / 2 : Nat) : Nat) : Int)) (k' := .u64) rfl rfl (by omega) (half_shr _)) ?_
          refine WpL_val rfl rfl (by decide) (r_convInt (k := .u64) (k' := .i64) (n := ((((i2 + j2) / 2 : Nat) : Nat) : Int)) (c := ((((i2 + j2) / 2 : Nat) : Nat) : Int)) ⟨_, Try.underlying106⟩ Try.underlying3 rfl (wI64 (by omega))) ?_
          refine WpL_val rfl rfl (by decide) (r_assign (v := (.int .i64 ((((i2 + j2) / 2 : Nat) : Nat) : Int))) rfl) ?_
          refine WpL_nil ?_
          obtain ⟨x, hx⟩ := get_of_lt (l := l) (i := m) (by omega)
          obtain ⟨y, hy⟩ := get_of_lt (l := l) (i := (i2 + j2) / 2) (by omega)
          refine Wp_seq ?_
          obtain ⟨Fs13, hFs13⟩ : ∃ Fs : List Fact, Fs = [.eq fv, .eq (.slice (some ⟨g, 0, none⟩) n c), .eq (.int .i64 ((m : Nat) : Int)), .eq (.pointer (some ⟨g, 0 + m, none⟩)), .eq (.int .i64 x), .eq (.slice (some ⟨g, 0, none⟩) n c), .eq (.int .i64 ((((i2 + j2) / 2 : Nat) : Nat) : Int)), .eq (.pointer (some ⟨g, 0 + ((i2 + j2) / 2), none⟩)), .eq (.int .i64 y), .eq (.int .i64 (cf x y)), .eq (.bool (decide (cf x y < 0))), .eq (.bool (!(decide (cf x y < 0))))] := ⟨_, rfl⟩
          refine Wp_dag [92, 93, 94, 95, 96, 97, 98, 99, 100, 101, 102, 103] [[], [], [], [1, 2], [3], [], [], [5, 6], [7], [0, 4, 8], [9], [10]] Fs13 hFs13 mixed (by kernel_rfl) (by kernel_rfl) ?_ ?_
          · intro wd X0
            refine DagSteps.cons (fun s' w' X U H => Or.inl ⟨?_, ?_⟩) ?_
            · exact Guarded_none rfl
            · exact Does_val (r_move (v := fv) (U 4 rfl)) (Ext.refl _) rfl
            refine DagSteps.cons (fun s' w' X U H => Or.inl ⟨?_, ?_⟩) ?_
            · exact Guarded_none rfl
            · exact Does_val (r_move (v := (.slice (some ⟨g, 0, none⟩) n c)) (U 0 rfl)) (Ext.refl _) rfl
            refine DagSteps.cons (fun s' w' X U H => Or.inl ⟨?_, ?_⟩) ?_
            · exact Guarded_none rfl
            · exact Does_val (r_move (v := (.int .i64 ((m : Nat) : Int))) (U 2 rfl)) (Ext.refl _) rfl
            refine DagSteps.cons (fun s' w' X U H => Or.inl ⟨?_, ?_⟩) ?_
            · exact Guarded_none rfl
            · have e93 : s' 93 = (.slice (some ⟨g, 0, none⟩) n c) := H 1 rfl 93 (.eq (.slice (some ⟨g, 0, none⟩) n c)) rfl (by rw [hFs13]; rfl)
              have e94 : s' 94 = (.int .i64 ((m : Nat) : Int)) := H 2 rfl 94 (.eq (.int .i64 ((m : Nat) : Int))) rfl (by rw [hFs13]; rfl)
              exact Does_val (r_indexSlice (b := g) (o := 0) (len := n) (cap := c) (i := m) (o' := 0 + m) e93 e94 (by omega) Try.underlying22 siz3 (by omega) (by omega)) (Ext.refl _) rfl
            refine DagSteps.cons (fun s' w' X U H => Or.inl ⟨?_, ?_⟩) ?_
            · exact Guarded_none rfl
            · have e95 : s' 95 = (.pointer (some ⟨g, 0 + m, none⟩)) := H 3 rfl 95 (.eq (.pointer (some ⟨g, 0 + m, none⟩))) rfl (by rw [hFs13]; rfl)
              exact Does_val (r_load (v := (.int .i64 x)) e95 flat3 ((by rw [Nat.zero_add]; exact ints_get ((X0.trans X).keep hB) hx))) (Ext.refl _) rfl
            refine DagSteps.cons (fun s' w' X U H => Or.inl ⟨?_, ?_⟩) ?_
            · exact Guarded_none rfl
            · exact Does_val (r_move (v := (.slice (some ⟨g, 0, none⟩) n c)) (U 0 rfl)) (Ext.refl _) rfl
            refine DagSteps.cons (fun s' w' X U H => Or.inl ⟨?_, ?_⟩) ?_
            · exact Guarded_none rfl
            · exact Does_val (r_move (v := (.int .i64 ((((i2 + j2) / 2 : Nat) : Nat) : Int))) (U 16 rfl)) (Ext.refl _) rfl
            refine DagSteps.cons (fun s' w' X U H => Or.inl ⟨?_, ?_⟩) ?_
            · exact Guarded_none rfl
            · have e97 : s' 97 = (.slice (some ⟨g, 0, none⟩) n c) := H 5 rfl 97 (.eq (.slice (some ⟨g, 0, none⟩) n c)) rfl (by rw [hFs13]; rfl)
              have e98 : s' 98 = (.int .i64 ((((i2 + j2) / 2 : Nat) : Nat) : Int)) := H 6 rfl 98 (.eq (.int .i64 ((((i2 + j2) / 2 : Nat) : Nat) : Int))) rfl (by rw [hFs13]; rfl)
              exact Does_val (r_indexSlice (b := g) (o := 0) (len := n) (cap := c) (i := (i2 + j2) / 2) (o' := 0 + ((i2 + j2) / 2)) e97 e98 (by omega) Try.underlying22 siz3 (by omega) (by omega)) (Ext.refl _) rfl
            refine DagSteps.cons (fun s' w' X U H => Or.inl ⟨?_, ?_⟩) ?_
            · exact Guarded_none rfl
            · have e99 : s' 99 = (.pointer (some ⟨g, 0 + ((i2 + j2) / 2), none⟩)) := H 7 rfl 99 (.eq (.pointer (some ⟨g, 0 + ((i2 + j2) / 2), none⟩))) rfl (by rw [hFs13]; rfl)
              exact Does_val (r_load (v := (.int .i64 y)) e99 flat3 ((by rw [Nat.zero_add]; exact ints_get ((X0.trans X).keep hB) hy))) (Ext.refl _) rfl
            refine DagSteps.cons (fun s' w' X U H => Or.inl ⟨?_, ?_⟩) ?_
            · exact Guarded_none rfl
            · have e96 : s' 96 = (.int .i64 x) := H 4 rfl 96 (.eq (.int .i64 x)) rfl (by rw [hFs13]; rfl)
              have e100 : s' 100 = (.int .i64 y) := H 8 rfl 100 (.eq (.int .i64 y)) rfl (by rw [hFs13]; rfl)
              have e92 : s' 92 = fv := H 0 rfl 92 (.eq fv) rfl (by rw [hFs13]; rfl)
              exact Does_callV e92 (lst2 e96 e100) (hf _ x y (E.ext (X0.trans X)) (List.mem_of_getElem? hx) (List.mem_of_getElem? hy))
            refine DagSteps.cons (fun s' w' X U H => Or.inl ⟨?_, ?_⟩) ?_
            · exact Guarded_none rfl
            · have e101 : s' 101 = (.int .i64 (cf x y)) := H 9 rfl 101 (.eq (.int .i64 (cf x y))) rfl (by rw [hFs13]; rfl)
              exact Does_val (r_lss (k := .i64) (a := cf x y) (b := 0) e101 rfl) (Ext.refl _) rfl
            refine DagSteps.cons (fun s' w' X U H => Or.inl ⟨?_, ?_⟩) ?_
            · exact Guarded_none rfl
            · have e102 : s' 102 = (.bool (decide (cf x y < 0))) := H 10 rfl 102 (.eq (.bool (decide (cf x y < 0)))) rfl (by rw [hFs13]; rfl)
              exact Does_val (r_not (b := decide (cf x y < 0)) e102) (Ext.refl _) rfl
            exact DagSteps.nil
          · intro s' w13 X13 U H
            obtain ⟨j13, rfl⟩ := Fits.out (σ := s') (l := [(0, (.slice (some ⟨g, 0, none⟩) n c)), (2, (.int .i64 ((m : Nat) : Int))), (4, fv), (14, (.int .i64 ((i2 : Nat) : Int))), (15, (.int .i64 ((j2 : Nat) : Int))), (16, (.int .i64 ((((i2 + j2) / 2 : Nat) : Nat) : Int))), (103, (.bool (!(decide (cf x y < 0)))))]) ⟨U 0 rfl, U 2 rfl, U 4 rfl, U 14 rfl, U 15 rfl, U 16 rfl, (show s' 103 = (.bool (!(decide (cf x y < 0)))) from H 11 103 (.eq (.bool (!(decide (cf x y < 0))))) rfl (by rw [hFs13]; rfl)), trivial⟩
            clear U H
            replace hB := X13.keep hB
            replace E := E.ext X13
            refine thn_normal ?_
            refine Wp_cond (b := !(decide (cf x y < 0))) rfl (fun hc => ?_) (fun hc => ?_)
            · have khc := hc
              replace hc := by simpa using hc
              refine Wp_region ?_
              refine WpL_val rfl rfl (by decide) (r_move (v := (.int .i64 ((((i2 + j2) / 2 : Nat) : Nat) : Int))) rfl) ?_
              refine WpL_val rfl rfl (by decide) (r_add (k := .i64) (a := ((((i2 + j2) / 2 : Nat) : Nat) : Int)) (b := 1) (c := ((((i2 + j2) / 2 : Nat) : Nat) : Int) + 1) rfl rfl (wI64 (by omega))) ?_
              refine WpL_val rfl rfl (by decide) (r_assign (v := (.int .i64 (((((i2 + j2) / 2 : Nat) : Nat) : Int) + 1))) rfl) ?_
              refine WpL_nil ?_
              refine inB_normal ?_
              refine thn_normal ?_
              exact ⟨j2 - ((i2 + j2) / 2 + 1) + 1, by omega, (i2 + j2) / 2 + 1, j2, Fits.out ⟨rfl, rfl, rfl, rfl, rfl, trivial⟩, E, hB, ⟨by omega, by omega, by omega⟩, rfl⟩
            · have khc := hc
              replace hc := by simpa using hc
              refine Wp_region ?_
              refine WpL_val rfl rfl (by decide) (r_move (v := (.int .i64 ((((i2 + j2) / 2 : Nat) : Nat) : Int))) rfl) ?_
              refine WpL_val rfl rfl (by decide) (r_assign (v := (.int .i64 ((((i2 + j2) / 2 : Nat) : Nat) : Int))) rfl) ?_
              refine WpL_nil ?_
              refine inB_normal ?_
              refine thn_normal ?_
              exact ⟨((i2 + j2) / 2) - i2 + 1, by omega, i2, (i2 + j2) / 2, Fits.out ⟨rfl, rfl, rfl, rfl, rfl, trivial⟩, E, hB, ⟨by omega, by omega, by omega⟩, rfl⟩
        · have khlt := hlt
          replace hlt := of_decide_eq_false hlt
          have hij2 : i2 = j2 := by omega
          refine Wp_exit ?_
          refine thn_exit ?_
          refine thn_exit ?_
          refine inB_here ?_
          refine thn_normal ?_
          refine Wp_seq ?_
          refine Wp_seq_region ?_
          refine WpL_val rfl rfl (by decide) (r_move (v := (.int .i64 ((m : Nat) : Int))) rfl) ?_
          refine WpL_val rfl rfl (by decide) (r_assign (v := (.int .i64 ((m : Nat) : Int))) rfl) ?_
          refine WpL_nil ?_
          refine Wp_block ?_
          refine Wp_loop (fun nn_ σ W15 => ∃ (k : Nat) (cu : List Int), (∃ jj_, σ = upds jj_ [(0, (.slice (some ⟨g, 0, none⟩) n c)), (14, (.int .i64 ((i2 : Nat) : Int))), (17, (.int .i64 ((k : Nat) : Int)))]) ∧ Chg (fun q => q = g) w0 W15 ∧ Blk W15 g ((cu.map (Value.int .i64) ++ rest).toArray) T ∧ (i2 ≤ k ∧ k ≤ m) ∧ (List.Perm cu l) ∧ nn_ = k - i2) (n := m - i2) ?_ ?_
          · exact ⟨m, l, Fits.out ⟨rfl, rfl, rfl, trivial⟩, E, hB, ⟨by omega, by omega⟩, List.Perm.refl _, rfl⟩
          · clear E hB
            rintro _ _ W15 ⟨k, cu, ⟨j15, rfl⟩, E, hB, hk, hp, rfl⟩
            refine Wp_seq ?_
            refine Wp_seq_region ?_
            refine WpL_val rfl rfl (by decide) (r_move (v := (.int .i64 ((k : Nat) : Int))) rfl) ?_
            refine WpL_val rfl rfl (by decide) (r_move (v := (.int .i64 ((i2 : Nat) : Int))) rfl) ?_
            refine WpL_val rfl rfl (by decide) (r_gtr (k := .i64) (a := ((k : Nat) : Int)) (b := ((i2 : Nat) : Int)) rfl rfl) ?_
            refine WpL_nil ?_
            refine Wp_cond (b := decide ((((i2 : Nat) : Int) : Int) < ((k : Nat) : Int))) rfl (fun hgtk => ?_) (fun hgtk => ?_)
            · have khgtk := hgtk
              replace hgtk := of_decide_eq_true hgtk
              have hcl : cu.length = n := by rw [hp.length_eq, hn]
              obtain ⟨x, hx⟩ := get_of_lt (l := cu) (i := k) (by omega)
              obtain ⟨y, hy⟩ := get_of_lt (l := cu) (i := k - 1) (by omega)
              refine Wp_skip ?_
              refine thn_normal ?_
              refine Wp_seq ?_
              refine Wp_block ?_
              obtain ⟨Fs17, hFs17⟩ : ∃ Fs : List (FactT ((fun q => q = g))), Fs = [.eq (.slice (some ⟨g, 0, none⟩) n c), .eq (.int .i64 ((k : Nat) : Int)), .eq (.slice (some ⟨g, 0, none⟩) n c), .eq (.int .i64 ((k : Nat) : Int)), .eq (.int .i64 (((k : Nat) : Int) - 1)), .eq (.slice (some ⟨g, 0, none⟩) n c), .eq (.int .i64 ((k : Nat) : Int)), .eq (.int .i64 (((k : Nat) : Int) - 1)), .eq (.pointer (some ⟨g, 0 + (k - 1), none⟩)), .eq (.int .i64 y), .eq (.slice (some ⟨g, 0, none⟩) n c), .eq (.int .i64 ((k : Nat) : Int)), .eq (.pointer (some ⟨g, 0 + k, none⟩)), .eq (.int .i64 x), .eq (.pointer (some ⟨g, 0 + k, none⟩)), .own (fun _ w => Blk w g ((cu.set k y).map (Value.int .i64) ++ rest).toArray T) (fun _ _ _ e h => Ext.keep e h)] := ⟨_, rfl⟩
              refine Wp_dagT ((fun q => q = g)) 16 15 [113, 114, 115, 116, 117, 118, 119, 120, 121, 122, 123, 124, 125, 126, 127, 235] [[], [], [], [], [3], [], [], [6], [5, 7], [8], [], [], [10, 11], [12], [0, 1, 5, 6, 7, 8, 9, 13], [0, 1, 5, 6, 7, 8, 9, 13, 14]] Fs17 hFs17 rfl mixed (by kernel_rfl) (by kernel_rfl) (by kernel_rfl) ?_ ?_
              · intro wd X0
                refine DagStepsT.cons (fun s' w' X U H => ?_) ?_
                · exact DoesT_val (r_move (v := (.slice (some ⟨g, 0, none⟩) n c)) (U 0 rfl)) (Chg.refl _ _) rfl
                refine DagStepsT.cons (fun s' w' X U H => ?_) ?_
                · exact DoesT_val (r_move (v := (.int .i64 ((k : Nat) : Int))) (U 17 rfl)) (Chg.refl _ _) rfl
                refine DagStepsT.cons (fun s' w' X U H => ?_) ?_
                · exact DoesT_val (r_move (v := (.slice (some ⟨g, 0, none⟩) n c)) (U 0 rfl)) (Chg.refl _ _) rfl
                refine DagStepsT.cons (fun s' w' X U H => ?_) ?_
                · exact DoesT_val (r_move (v := (.int .i64 ((k : Nat) : Int))) (U 17 rfl)) (Chg.refl _ _) rfl
                refine DagStepsT.cons (fun s' w' X U H => ?_) ?_
                · have e116 : s' 116 = (.int .i64 ((k : Nat) : Int)) := H 3 rfl 116 (.eq (.int .i64 ((k : Nat) : Int))) rfl (by rw [hFs17]; rfl)
                  exact DoesT_val (r_sub (k := .i64) (a := ((k : Nat) : Int)) (b := 1) (c := ((k : Nat) : Int) - 1) e116 rfl (wI64 (by omega))) (Chg.refl _ _) rfl
                refine DagStepsT.cons (fun s' w' X U H => ?_) ?_
                · exact DoesT_val (r_move (v := (.slice (some ⟨g, 0, none⟩) n c)) (U 0 rfl)) (Chg.refl _ _) rfl
                refine DagStepsT.cons (fun s' w' X U H => ?_) ?_
                · exact DoesT_val (r_move (v := (.int .i64 ((k : Nat) : Int))) (U 17 rfl)) (Chg.refl _ _) rfl
                refine DagStepsT.cons (fun s' w' X U H => ?_) ?_
                · have e119 : s' 119 = (.int .i64 ((k : Nat) : Int)) := H 6 rfl 119 (.eq (.int .i64 ((k : Nat) : Int))) rfl (by rw [hFs17]; rfl)
                  exact DoesT_val (r_sub (k := .i64) (a := ((k : Nat) : Int)) (b := 1) (c := ((k : Nat) : Int) - 1) e119 rfl (wI64 (by omega))) (Chg.refl _ _) rfl
                refine DagStepsT.cons (fun s' w' X U H => ?_) ?_
                · have e118 : s' 118 = (.slice (some ⟨g, 0, none⟩) n c) := H 5 rfl 118 (.eq (.slice (some ⟨g, 0, none⟩) n c)) rfl (by rw [hFs17]; rfl)
                  have e120 : s' 120 = (.int .i64 (((k : Nat) : Int) - 1)) := H 7 rfl 120 (.eq (.int .i64 (((k : Nat) : Int) - 1))) rfl (by rw [hFs17]; rfl)
                  exact DoesT_val (r_indexSlice (b := g) (o := 0) (len := n) (cap := c) (i := k - 1) (o' := 0 + (k - 1)) e118 e120 (by omega) Try.underlying22 siz3 (by omega) (by omega)) (Chg.refl _ _) rfl
                refine DagStepsT.cons (fun s' w' X U H => ?_) ?_
                · have e121 : s' 121 = (.pointer (some ⟨g, 0 + (k - 1), none⟩)) := H 8 rfl 121 (.eq (.pointer (some ⟨g, 0 + (k - 1), none⟩))) rfl (by rw [hFs17]; rfl)
                  exact DoesT_val (r_load (v := (.int .i64 y)) e121 flat3 (by rw [Nat.zero_add]; exact (Chg.keep X (fun f => f) (X0.keep hB) |> fun h => ints_get h hy))) (Chg.refl _ _) rfl
                refine DagStepsT.cons (fun s' w' X U H => ?_) ?_
                · exact DoesT_val (r_move (v := (.slice (some ⟨g, 0, none⟩) n c)) (U 0 rfl)) (Chg.refl _ _) rfl
                refine DagStepsT.cons (fun s' w' X U H => ?_) ?_
                · exact DoesT_val (r_move (v := (.int .i64 ((k : Nat) : Int))) (U 17 rfl)) (Chg.refl _ _) rfl
                refine DagStepsT.cons (fun s' w' X U H => ?_) ?_
                · have e123 : s' 123 = (.slice (some ⟨g, 0, none⟩) n c) := H 10 rfl 123 (.eq (.slice (some ⟨g, 0, none⟩) n c)) rfl (by rw [hFs17]; rfl)
                  have e124 : s' 124 = (.int .i64 ((k : Nat) : Int)) := H 11 rfl 124 (.eq (.int .i64 ((k : Nat) : Int))) rfl (by rw [hFs17]; rfl)
                  exact DoesT_val (r_indexSlice (b := g) (o := 0) (len := n) (cap := c) (i := k) (o' := 0 + k) e123 e124 (by omega) Try.underlying22 siz3 (by omega) (by omega)) (Chg.refl _ _) rfl
                refine DagStepsT.cons (fun s' w' X U H => ?_) ?_
                · have e125 : s' 125 = (.pointer (some ⟨g, 0 + k, none⟩)) := H 12 rfl 125 (.eq (.pointer (some ⟨g, 0 + k, none⟩))) rfl (by rw [hFs17]; rfl)
                  exact DoesT_val (r_load (v := (.int .i64 x)) e125 flat3 (by rw [Nat.zero_add]; exact (Chg.keep X (fun f => f) (X0.keep hB) |> fun h => ints_get h hx))) (Chg.refl _ _) rfl
                refine DagStepsT.cons (fun s' w' X U H => ?_) ?_
                · have e113 : s' 113 = (.slice (some ⟨g, 0, none⟩) n c) := H 0 rfl 113 (.eq (.slice (some ⟨g, 0, none⟩) n c)) rfl (by rw [hFs17]; rfl)
                  have e114 : s' 114 = (.int .i64 ((k : Nat) : Int)) := H 1 rfl 114 (.eq (.int .i64 ((k : Nat) : Int))) rfl (by rw [hFs17]; rfl)
                  exact DoesT_val (r_indexSlice (b := g) (o := 0) (len := n) (cap := c) (i := k) (o' := 0 + k) e113 e114 (by omega) Try.underlying22 siz3 (by omega) (by omega)) (Chg.refl _ _) rfl
                refine DagStepsT.cons (fun s' w' X U H => ?_) ?_
                · have e127 : s' 127 = (.pointer (some ⟨g, 0 + k, none⟩)) := H 14 rfl 127 (.eq (.pointer (some ⟨g, 0 + k, none⟩))) rfl (by rw [hFs17]; rfl)
                  have e122 : s' 122 = (.int .i64 y) := H 9 rfl 122 (.eq (.int .i64 y)) rfl (by rw [hFs17]; rfl)
                  exact DoesT_store e127 e122 rfl siz3 (Chg.keep X (fun f => f) (X0.keep hB)) (by simp; omega) rfl (fun w9 h => by have h2 := h.blk; rw [Nat.zero_add, ints_set (by omega) y] at h2; exact h2)
                exact DagStepsT.nil
              · intro s' wd17 w17 X0 X17 U H
                have e115 : s' 115 = (.slice (some ⟨g, 0, none⟩) n c) := H 2 115 (.eq (.slice (some ⟨g, 0, none⟩) n c)) rfl (by rw [hFs17]; rfl)
                have e117 : s' 117 = (.int .i64 (((k : Nat) : Int) - 1)) := H 4 117 (.eq (.int .i64 (((k : Nat) : Int) - 1))) rfl (by rw [hFs17]; rfl)
                have e126 : s' 126 = (.int .i64 x) := H 13 126 (.eq (.int .i64 x)) rfl (by rw [hFs17]; rfl)
                obtain hB := (show (.own (fun _ w => Blk w g ((cu.set k y).map (Value.int .i64) ++ rest).toArray T) (fun _ _ _ e h => Ext.keep e h) : FactT ((fun q => q = g))).In (s' 235) w17 from H 15 235 (.own (fun _ w => Blk w g ((cu.set k y).map (Value.int .i64) ++ rest).toArray T) (fun _ _ _ e h => Ext.keep e h)) rfl (by rw [hFs17]; rfl))
                obtain ⟨j17, rfl⟩ := Fits.out (σ := s') (l := [(0, (.slice (some ⟨g, 0, none⟩) n c)), (14, (.int .i64 ((i2 : Nat) : Int))), (17, (.int .i64 ((k : Nat) : Int))), (115, (.slice (some ⟨g, 0, none⟩) n c)), (117, (.int .i64 (((k : Nat) : Int) - 1))), (126, (.int .i64 x))]) ⟨U 0 rfl, U 14 rfl, U 17 rfl, e115, e117, e126, trivial⟩
                clear U H
                replace E := (E.ext X0).step X17 (fun q _ h => h)
                refine WpL_val rfl rfl (by decide) (r_indexSlice (b := g) (o := 0) (len := n) (cap := c) (i := k - 1) (o' := 0 + (k - 1)) rfl rfl (by omega) Try.underlying22 siz3 (by omega) (by omega)) ?_
                refine s_store (b := g) (o := 0 + (k - 1)) (c' := (((cu.set k y).set (k - 1) x).map (Value.int .i64) ++ rest).toArray) (v := (.int .i64 x)) rfl rfl rfl siz3 hB (by simp; omega) (by rw [Nat.zero_add]; exact ints_set (by simp; omega) x) ?_
                intro w18 S18
                replace E := S18.step E (by first | exact Or.inl (by omega) | exact Or.inr rfl | exact Or.inr (by assumption) | exact Or.inr (by simp) | exact Or.inr (by omega) | exact Or.inr (by dsimp only; omega))
                replace hB := S18.blk
                refine WpL_nil ?_
                refine inB_normal ?_
                refine thn_normal ?_
                refine Wp_region ?_
                refine WpL_val rfl rfl (by decide) (r_move (v := (.int .i64 ((k : Nat) : Int))) rfl) ?_
                refine WpL_val rfl rfl (by decide) (r_sub (k := .i64) (a := ((k : Nat) : Int)) (b := 1) (c := (((k - 1 : Nat) : Nat) : Int)) rfl rfl ((wI64 (by omega)).trans (by omega))) ?_
                refine WpL_val rfl rfl (by decide) (r_assign (v := (.int .i64 (((k - 1 : Nat) : Nat) : Int))) rfl) ?_
                refine WpL_nil ?_
                refine thn_normal ?_
                exact ⟨(k - 1) - i2, by omega, k - 1, (cu.set k y).set (k - 1) x, Fits.out ⟨rfl, rfl, rfl, trivial⟩, E, hB, ⟨by omega, by omega⟩, (swap_perm hx hy (by omega)).trans hp, rfl⟩
            · have khgtk := hgtk
              replace hgtk := of_decide_eq_false hgtk
              refine Wp_exit ?_
              refine thn_exit ?_
              refine thn_exit ?_
              refine inB_here ?_
              refine thn_normal ?_
              refine Wp_ret ?_
              refine thn_ret ?_
              refine fin_noneR Try.results125 ?_
              exact ⟨cu, hp, hB, E⟩
    · have kh2 := h2
      replace h2 := of_decide_eq_false h2
      refine Wp_skip ?_
      refine thn_normal ?_
      refine Wp_seq_region ?_
      refine WpL_val rfl rfl (by decide) (r_move (v := (.int .i64 ((a : Nat) : Int))) rfl) ?_
      refine WpL_val rfl rfl (by decide) (r_move (v := (.int .i64 ((b : Nat) : Int))) rfl) ?_
      refine WpL_val rfl rfl (by decide) (r_add (k := .i64) (a := ((a : Nat) : Int)) (b := ((b : Nat) : Int)) (c := (((a + b : Nat) : Nat) : Int)) rfl rfl ((wI64 (by omega)).trans (by omega))) ?_
      refine WpL_val rfl rfl (by decide) (r_convInt (k := .i64) (k' := .u64) (n := (((a + b : Nat) : Nat) : Int)) (c := (((a + b : Nat) : Nat) : Int)) ⟨_, Try.underlying3⟩ Try.underlying106 rfl (wU64 (by omega))) ?_
      refine WpL_val rfl rfl (by decide) (r_shr (k := .u64) (a := (((a + b : Nat) : Nat) : Int)) (b := 1) (c := ((((a + b) / 2 : Nat) : Nat) : Int)) (k' := .u64) rfl rfl (by omega) (half_shr _)) ?_
      refine WpL_val rfl rfl (by decide) (r_convInt (k := .u64) (k' := .i64) (n := ((((a + b) / 2 : Nat) : Nat) : Int)) (c := ((((a + b) / 2 : Nat) : Nat) : Int)) ⟨_, Try.underlying106⟩ Try.underlying3 rfl (wI64 (by omega))) ?_
      refine WpL_val rfl rfl (by decide) (r_assign (v := (.int .i64 ((((a + b) / 2 : Nat) : Nat) : Int))) rfl) ?_
      refine WpL_nil ?_
      refine Wp_seq_region ?_
      refine WpL_val rfl rfl (by decide) (r_move (v := (.int .i64 ((((a + b) / 2 : Nat) : Nat) : Int))) rfl) ?_
      refine WpL_val rfl rfl (by decide) (r_move (v := (.int .i64 ((m : Nat) : Int))) rfl) ?_
      refine WpL_val rfl rfl (by decide) (r_add (k := .i64) (a := ((((a + b) / 2 : Nat) : Nat) : Int)) (b := ((m : Nat) : Int)) (c := ((((a + b) / 2 + m : Nat) : Nat) : Int)) rfl rfl ((wI64 (by omega)).trans (by omega))) ?_
      refine WpL_val rfl rfl (by decide) (r_assign (v := (.int .i64 ((((a + b) / 2 + m : Nat) : Nat) : Int))) rfl) ?_
      refine WpL_nil ?_
      refine Wp_seq_region ?_
      refine WpL_val rfl rfl (by decide) (r_assign (v := (.int .i64 0)) rfl) ?_
      refine WpL_val rfl rfl (by decide) (r_assign (v := (.int .i64 0)) rfl) ?_
      refine WpL_nil ?_
      refine Wp_cut (fun σ W19 => ∃ (s0 r0 : Nat), (∃ jj_, σ = upds jj_ [(0, (.slice (some ⟨g, 0, none⟩) n c)), (1, (.int .i64 ((a : Nat) : Int))), (2, (.int .i64 ((m : Nat) : Int))), (3, (.int .i64 ((b : Nat) : Int))), (4, fv), (18, (.int .i64 ((((a + b) / 2 : Nat) : Nat) : Int))), (19, (.int .i64 ((((a + b) / 2 + m : Nat) : Nat) : Int))), (20, (.int .i64 ((s0 : Nat) : Int))), (21, (.int .i64 ((r0 : Nat) : Int)))]) ∧ Chg (fun q => q = g) w0 W19 ∧ Blk W19 g ((l.map (Value.int .i64) ++ rest).toArray) T ∧ (a ≤ s0 ∧ s0 ≤ r0 ∧ r0 ≤ m ∧ r0 ≤ (a + b) / 2 ∧ (a + b) / 2 + m ≤ s0 + b)) ?_ ?_
      · skip
        refine Wp_seq_region ?_
        refine WpL_val rfl rfl (by decide) (r_move (v := (.int .i64 ((m : Nat) : Int))) rfl) ?_
        refine WpL_val rfl rfl (by decide) (r_move (v := (.int .i64 ((((a + b) / 2 : Nat) : Nat) : Int))) rfl) ?_
        refine WpL_val rfl rfl (by decide) (r_gtr (k := .i64) (a := ((m : Nat) : Int)) (b := ((((a + b) / 2 : Nat) : Nat) : Int)) rfl rfl) ?_
        refine WpL_nil ?_
        refine Wp_cond (b := decide ((((((a + b) / 2 : Nat) : Nat) : Int) : Int) < ((m : Nat) : Int))) rfl (fun hmm => ?_) (fun hmm => ?_)
        · have khmm := hmm
          replace hmm := of_decide_eq_true hmm
          refine Wp_seq_region ?_
          refine WpL_val rfl rfl (by decide) (r_move (v := (.int .i64 ((((a + b) / 2 + m : Nat) : Nat) : Int))) rfl) ?_
          refine WpL_val rfl rfl (by decide) (r_move (v := (.int .i64 ((b : Nat) : Int))) rfl) ?_
          refine WpL_val rfl rfl (by decide) (r_sub (k := .i64) (a := ((((a + b) / 2 + m : Nat) : Nat) : Int)) (b := ((b : Nat) : Int)) (c := ((((a + b) / 2 + m - b : Nat) : Nat) : Int)) rfl rfl ((wI64 (by omega)).trans (by omega))) ?_
          refine WpL_val rfl rfl (by decide) (r_assign (v := (.int .i64 ((((a + b) / 2 + m - b : Nat) : Nat) : Int))) rfl) ?_
          refine WpL_nil ?_
          refine Wp_region ?_
          refine WpL_val rfl rfl (by decide) (r_move (v := (.int .i64 ((((a + b) / 2 : Nat) : Nat) : Int))) rfl) ?_
          refine WpL_val rfl rfl (by decide) (r_assign (v := (.int .i64 ((((a + b) / 2 : Nat) : Nat) : Int))) rfl) ?_
          refine WpL_nil ?_
          refine thn_normal ?_
          exact ⟨(a + b) / 2 + m - b, (a + b) / 2, Fits.out ⟨rfl, rfl, rfl, rfl, rfl, rfl, rfl, rfl, rfl, trivial⟩, E, hB, ⟨by omega, by omega, by omega, by omega, by omega⟩⟩
        · have khmm := hmm
          replace hmm := of_decide_eq_false hmm
          refine Wp_seq_region ?_
          refine WpL_val rfl rfl (by decide) (r_move (v := (.int .i64 ((a : Nat) : Int))) rfl) ?_
          refine WpL_val rfl rfl (by decide) (r_assign (v := (.int .i64 ((a : Nat) : Int))) rfl) ?_
          refine WpL_nil ?_
          refine Wp_region ?_
          refine WpL_val rfl rfl (by decide) (r_move (v := (.int .i64 ((m : Nat) : Int))) rfl) ?_
          refine WpL_val rfl rfl (by decide) (r_assign (v := (.int .i64 ((m : Nat) : Int))) rfl) ?_
          refine WpL_nil ?_
          refine thn_normal ?_
          exact ⟨a, m, Fits.out ⟨rfl, rfl, rfl, rfl, rfl, rfl, rfl, rfl, rfl, trivial⟩, E, hB, ⟨by omega, by omega, by omega, by omega, by omega⟩⟩
      · clear E hB
        rintro _ W19 ⟨s0, r0, ⟨j19, rfl⟩, E, hB, hs0⟩
        refine Wp_seq_region ?_
        refine WpL_val rfl rfl (by decide) (r_move (v := (.int .i64 ((((a + b) / 2 + m : Nat) : Nat) : Int))) rfl) ?_
        refine WpL_val rfl rfl (by decide) (r_sub (k := .i64) (a := ((((a + b) / 2 + m : Nat) : Nat) : Int)) (b := 1) (c := ((((a + b) / 2 + m - 1 : Nat) : Nat) : Int)) rfl rfl ((wI64 (by omega)).trans (by omega))) ?_
        refine WpL_val rfl rfl (by decide) (r_assign (v := (.int .i64 ((((a + b) / 2 + m - 1 : Nat) : Nat) : Int))) rfl) ?_
        refine WpL_nil ?_
        refine Wp_seq ?_
        refine Wp_block ?_
        refine Wp_loop (fun nn_ σ W21 => ∃ (i3 j3 : Nat), (∃ jj_, σ = upds jj_ [(0, (.slice (some ⟨g, 0, none⟩) n c)), (1, (.int .i64 ((a : Nat) : Int))), (2, (.int .i64 ((m : Nat) : Int))), (3, (.int .i64 ((b : Nat) : Int))), (4, fv), (18, (.int .i64 ((((a + b) / 2 : Nat) : Nat) : Int))), (19, (.int .i64 ((((a + b) / 2 + m : Nat) : Nat) : Int))), (22, (.int .i64 ((((a + b) / 2 + m - 1 : Nat) : Nat) : Int))), (20, (.int .i64 ((i3 : Nat) : Int))), (21, (.int .i64 ((j3 : Nat) : Int)))]) ∧ Chg (fun q => q = g) w0 W21 ∧ Blk W21 g ((l.map (Value.int .i64) ++ rest).toArray) T ∧ (s0 ≤ i3 ∧ i3 ≤ j3 ∧ j3 ≤ r0) ∧ nn_ = j3 - i3 + 1) (n := r0 - s0 + 1) ?_ ?_
        · exact ⟨s0, r0, Fits.out ⟨rfl, rfl, rfl, rfl, rfl, rfl, rfl, rfl, rfl, rfl, trivial⟩, E, hB, ⟨by omega, by omega, by omega⟩, rfl⟩
        · clear E hB
          rintro _ _ W21 ⟨i3, j3, ⟨j21, rfl⟩, E, hB, hi3, rfl⟩
          refine Wp_seq ?_
          refine Wp_seq_region ?_
          refine WpL_val rfl rfl (by decide) (r_move (v := (.int .i64 ((i3 : Nat) : Int))) rfl) ?_
          refine WpL_val rfl rfl (by decide) (r_move (v := (.int .i64 ((j3 : Nat) : Int))) rfl) ?_
          refine WpL_val rfl rfl (by decide) (r_lss (k := .i64) (a := ((i3 : Nat) : Int)) (b := ((j3 : Nat) : Int)) rfl rfl) ?_
          refine WpL_nil ?_
          refine Wp_cond (b := decide ((((i3 : Nat) : Int) : Int) < ((j3 : Nat) : Int))) rfl (fun hlt3 => ?_) (fun hlt3 => ?_)
          · have khlt3 := hlt3
            replace hlt3 := of_decide_eq_true hlt3
            refine Wp_skip ?_
            refine thn_normal ?_
            refine Wp_block ?_
            refine Wp_seq_region ?_
            refine WpL_val rfl rfl (by decide) (r_move (v := (.int .i64 ((i3 : Nat) : Int))) rfl) ?_
            refine WpL_val rfl rfl (by decide) (r_move (v := (.int .i64 ((j3 : Nat) : Int))) rfl) ?_
            refine WpL_val rfl rfl (by decide) (r_add (k := .i64) (a := ((i3 : Nat) : Int)) (b := ((j3 : Nat) : Int)) (c := (((i3 + j3 : Nat) : Nat) : Int)) rfl rfl ((wI64 (by omega)).trans (by omega))) ?_
            refine WpL_val rfl rfl (by decide) (r_convInt (k := .i64) (k' := .u64) (n := (((i3 + j3 : Nat) : Nat) : Int)) (c := (((i3 + j3 : Nat) : Nat) : Int)) ⟨_, Try.underlying3⟩ Try.underlying106 rfl (wU64 (by omega))) ?_
            refine WpL_val rfl rfl (by decide) (r_shr (k := .u64) (a := (((i3 + j3 : Nat) : Nat) : Int)) (b := 1) (c := ((((i3 + j3) / 2 : Nat) : Nat) : Int)) (k' := .u64) rfl rfl (by omega) (half_shr _)) ?_
            refine WpL_val rfl rfl (by decide) (r_convInt (k := .u64) (k' := .i64) (n := ((((i3 + j3) / 2 : Nat) : Nat) : Int)) (c := ((((i3 + j3) / 2 : Nat) : Nat) : Int)) ⟨_, Try.underlying106⟩ Try.underlying3 rfl (wI64 (by omega))) ?_
            refine WpL_val rfl rfl (by decide) (r_assign (v := (.int .i64 ((((i3 + j3) / 2 : Nat) : Nat) : Int))) rfl) ?_
            refine WpL_nil ?_
            obtain ⟨x, hx⟩ := get_of_lt (l := l) (i := (a + b) / 2 + m - 1 - (i3 + j3) / 2) (by omega)
            obtain ⟨y, hy⟩ := get_of_lt (l := l) (i := (i3 + j3) / 2) (by omega)
            refine Wp_seq ?_
            obtain ⟨Fs23, hFs23⟩ : ∃ Fs : List Fact, Fs = [.eq fv, .eq (.slice (some ⟨g, 0, none⟩) n c), .eq (.int .i64 ((((a + b) / 2 + m - 1 : Nat) : Nat) : Int)), .eq (.int .i64 ((((i3 + j3) / 2 : Nat) : Nat) : Int)), .eq (.int .i64 (((((a + b) / 2 + m - 1 : Nat) : Nat) : Int) - ((((i3 + j3) / 2 : Nat) : Nat) : Int))), .eq (.pointer (some ⟨g, 0 + ((a + b) / 2 + m - 1 - (i3 + j3) / 2), none⟩)), .eq (.int .i64 x), .eq (.slice (some ⟨g, 0, none⟩) n c), .eq (.int .i64 ((((i3 + j3) / 2 : Nat) : Nat) : Int)), .eq (.pointer (some ⟨g, 0 + ((i3 + j3) / 2), none⟩)), .eq (.int .i64 y), .eq (.int .i64 (cf x y)), .eq (.bool (decide (cf x y < 0))), .eq (.bool (!(decide (cf x y < 0))))] := ⟨_, rfl⟩
            refine Wp_dag [158, 159, 160, 161, 162, 163, 164, 165, 166, 167, 168, 169, 170, 171] [[], [], [], [], [2, 3], [1, 4], [5], [], [], [7, 8], [9], [0, 6, 10], [11], [12]] Fs23 hFs23 mixed (by kernel_rfl) (by kernel_rfl) ?_ ?_
            · intro wd X0
              refine DagSteps.cons (fun s' w' X U H => Or.inl ⟨?_, ?_⟩) ?_
              · exact Guarded_none rfl
              · exact Does_val (r_move (v := fv) (U 4 rfl)) (Ext.refl _) rfl
              refine DagSteps.cons (fun s' w' X U H => Or.inl ⟨?_, ?_⟩) ?_
              · exact Guarded_none rfl
              · exact Does_val (r_move (v := (.slice (some ⟨g, 0, none⟩) n c)) (U 0 rfl)) (Ext.refl _) rfl
              refine DagSteps.cons (fun s' w' X U H => Or.inl ⟨?_, ?_⟩) ?_
              · exact Guarded_none rfl
              · exact Does_val (r_move (v := (.int .i64 ((((a + b) / 2 + m - 1 : Nat) : Nat) : Int))) (U 22 rfl)) (Ext.refl _) rfl
              refine DagSteps.cons (fun s' w' X U H => Or.inl ⟨?_, ?_⟩) ?_
              · exact Guarded_none rfl
              · exact Does_val (r_move (v := (.int .i64 ((((i3 + j3) / 2 : Nat) : Nat) : Int))) (U 23 rfl)) (Ext.refl _) rfl
              refine DagSteps.cons (fun s' w' X U H => Or.inl ⟨?_, ?_⟩) ?_
              · exact Guarded_none rfl
              · have e160 : s' 160 = (.int .i64 ((((a + b) / 2 + m - 1 : Nat) : Nat) : Int)) := H 2 rfl 160 (.eq (.int .i64 ((((a + b) / 2 + m - 1 : Nat) : Nat) : Int))) rfl (by rw [hFs23]; rfl)
                have e161 : s' 161 = (.int .i64 ((((i3 + j3) / 2 : Nat) : Nat) : Int)) := H 3 rfl 161 (.eq (.int .i64 ((((i3 + j3) / 2 : Nat) : Nat) : Int))) rfl (by rw [hFs23]; rfl)
                exact Does_val (r_sub (k := .i64) (a := ((((a + b) / 2 + m - 1 : Nat) : Nat) : Int)) (b := ((((i3 + j3) / 2 : Nat) : Nat) : Int)) (c := ((((a + b) / 2 + m - 1 : Nat) : Nat) : Int) - ((((i3 + j3) / 2 : Nat) : Nat) : Int)) e160 e161 (wI64 (by omega))) (Ext.refl _) rfl
              refine DagSteps.cons (fun s' w' X U H => Or.inl ⟨?_, ?_⟩) ?_
              · exact Guarded_none rfl
              · have e159 : s' 159 = (.slice (some ⟨g, 0, none⟩) n c) := H 1 rfl 159 (.eq (.slice (some ⟨g, 0, none⟩) n c)) rfl (by rw [hFs23]; rfl)
                have e162 : s' 162 = (.int .i64 (((((a + b) / 2 + m - 1 : Nat) : Nat) : Int) - ((((i3 + j3) / 2 : Nat) : Nat) : Int))) := H 4 rfl 162 (.eq (.int .i64 (((((a + b) / 2 + m - 1 : Nat) : Nat) : Int) - ((((i3 + j3) / 2 : Nat) : Nat) : Int)))) rfl (by rw [hFs23]; rfl)
                exact Does_val (r_indexSlice (b := g) (o := 0) (len := n) (cap := c) (i := (a + b) / 2 + m - 1 - (i3 + j3) / 2) (o' := 0 + ((a + b) / 2 + m - 1 - (i3 + j3) / 2)) e159 e162 (by omega) Try.underlying22 siz3 (by omega) (by omega)) (Ext.refl _) rfl
              refine DagSteps.cons (fun s' w' X U H => Or.inl ⟨?_, ?_⟩) ?_
              · exact Guarded_none rfl
              · have e163 : s' 163 = (.pointer (some ⟨g, 0 + ((a + b) / 2 + m - 1 - (i3 + j3) / 2), none⟩)) := H 5 rfl 163 (.eq (.pointer (some ⟨g, 0 + ((a + b) / 2 + m - 1 - (i3 + j3) / 2), none⟩))) rfl (by rw [hFs23]; rfl)
                exact Does_val (r_load (v := (.int .i64 x)) e163 flat3 ((by rw [Nat.zero_add]; exact ints_get ((X0.trans X).keep hB) hx))) (Ext.refl _) rfl
              refine DagSteps.cons (fun s' w' X U H => Or.inl ⟨?_, ?_⟩) ?_
              · exact Guarded_none rfl
              · exact Does_val (r_move (v := (.slice (some ⟨g, 0, none⟩) n c)) (U 0 rfl)) (Ext.refl _) rfl
              refine DagSteps.cons (fun s' w' X U H => Or.inl ⟨?_, ?_⟩) ?_
              · exact Guarded_none rfl
              · exact Does_val (r_move (v := (.int .i64 ((((i3 + j3) / 2 : Nat) : Nat) : Int))) (U 23 rfl)) (Ext.refl _) rfl
              refine DagSteps.cons (fun s' w' X U H => Or.inl ⟨?_, ?_⟩) ?_
              · exact Guarded_none rfl
              · have e165 : s' 165 = (.slice (some ⟨g, 0, none⟩) n c) := H 7 rfl 165 (.eq (.slice (some ⟨g, 0, none⟩) n c)) rfl (by rw [hFs23]; rfl)
                have e166 : s' 166 = (.int .i64 ((((i3 + j3) / 2 : Nat) : Nat) : Int)) := H 8 rfl 166 (.eq (.int .i64 ((((i3 + j3) / 2 : Nat) : Nat) : Int))) rfl (by rw [hFs23]; rfl)
                exact Does_val (r_indexSlice (b := g) (o := 0) (len := n) (cap := c) (i := (i3 + j3) / 2) (o' := 0 + ((i3 + j3) / 2)) e165 e166 (by omega) Try.underlying22 siz3 (by omega) (by omega)) (Ext.refl _) rfl
              refine DagSteps.cons (fun s' w' X U H => Or.inl ⟨?_, ?_⟩) ?_
              · exact Guarded_none rfl
              · have e167 : s' 167 = (.pointer (some ⟨g, 0 + ((i3 + j3) / 2), none⟩)) := H 9 rfl 167 (.eq (.pointer (some ⟨g, 0 + ((i3 + j3) / 2), none⟩))) rfl (by rw [hFs23]; rfl)
                exact Does_val (r_load (v := (.int .i64 y)) e167 flat3 ((by rw [Nat.zero_add]; exact ints_get ((X0.trans X).keep hB) hy))) (Ext.refl _) rfl
              refine DagSteps.cons (fun s' w' X U H => Or.inl ⟨?_, ?_⟩) ?_
              · exact Guarded_none rfl
              · have e164 : s' 164 = (.int .i64 x) := H 6 rfl 164 (.eq (.int .i64 x)) rfl (by rw [hFs23]; rfl)
                have e168 : s' 168 = (.int .i64 y) := H 10 rfl 168 (.eq (.int .i64 y)) rfl (by rw [hFs23]; rfl)
                have e158 : s' 158 = fv := H 0 rfl 158 (.eq fv) rfl (by rw [hFs23]; rfl)
                exact Does_callV e158 (lst2 e164 e168) (hf _ x y (E.ext (X0.trans X)) (List.mem_of_getElem? hx) (List.mem_of_getElem? hy))
              refine DagSteps.cons (fun s' w' X U H => Or.inl ⟨?_, ?_⟩) ?_
              · exact Guarded_none rfl
              · have e169 : s' 169 = (.int .i64 (cf x y)) := H 11 rfl 169 (.eq (.int .i64 (cf x y))) rfl (by rw [hFs23]; rfl)
                exact Does_val (r_lss (k := .i64) (a := cf x y) (b := 0) e169 rfl) (Ext.refl _) rfl
              refine DagSteps.cons (fun s' w' X U H => Or.inl ⟨?_, ?_⟩) ?_
              · exact Guarded_none rfl
              · have e170 : s' 170 = (.bool (decide (cf x y < 0))) := H 12 rfl 170 (.eq (.bool (decide (cf x y < 0)))) rfl (by rw [hFs23]; rfl)
                exact Does_val (r_not (b := decide (cf x y < 0)) e170) (Ext.refl _) rfl
              exact DagSteps.nil
            · intro s' w23 X23 U H
              obtain ⟨j23, rfl⟩ := Fits.out (σ := s') (l := [(0, (.slice (some ⟨g, 0, none⟩) n c)), (1, (.int .i64 ((a : Nat) : Int))), (2, (.int .i64 ((m : Nat) : Int))), (3, (.int .i64 ((b : Nat) : Int))), (4, fv), (18, (.int .i64 ((((a + b) / 2 : Nat) : Nat) : Int))), (19, (.int .i64 ((((a + b) / 2 + m : Nat) : Nat) : Int))), (20, (.int .i64 ((i3 : Nat) : Int))), (21, (.int .i64 ((j3 : Nat) : Int))), (22, (.int .i64 ((((a + b) / 2 + m - 1 : Nat) : Nat) : Int))), (23, (.int .i64 ((((i3 + j3) / 2 : Nat) : Nat) : Int))), (171, (.bool (!(decide (cf x y < 0)))))]) ⟨U 0 rfl, U 1 rfl, U 2 rfl, U 3 rfl, U 4 rfl, U 18 rfl, U 19 rfl, U 20 rfl, U 21 rfl, U 22 rfl, U 23 rfl, (show s' 171 = (.bool (!(decide (cf x y < 0)))) from H 13 171 (.eq (.bool (!(decide (cf x y < 0))))) rfl (by rw [hFs23]; rfl)), trivial⟩
              clear U H
              replace hB := X23.keep hB
              replace E := E.ext X23
              refine thn_normal ?_
              refine Wp_cond (b := !(decide (cf x y < 0))) rfl (fun hc => ?_) (fun hc => ?_)
              · have khc := hc
                replace hc := by simpa using hc
                refine Wp_region ?_
                refine WpL_val rfl rfl (by decide) (r_move (v := (.int .i64 ((((i3 + j3) / 2 : Nat) : Nat) : Int))) rfl) ?_
                refine WpL_val rfl rfl (by decide) (r_add (k := .i64) (a := ((((i3 + j3) / 2 : Nat) : Nat) : Int)) (b := 1) (c := ((((i3 + j3) / 2 : Nat) : Nat) : Int) + 1) rfl rfl (wI64 (by omega))) ?_
                refine WpL_val rfl rfl (by decide) (r_assign (v := (.int .i64 (((((i3 + j3) / 2 : Nat) : Nat) : Int) + 1))) rfl) ?_
                refine WpL_nil ?_
                refine inB_normal ?_
                refine thn_normal ?_
                exact ⟨j3 - ((i3 + j3) / 2 + 1) + 1, by omega, (i3 + j3) / 2 + 1, j3, Fits.out ⟨rfl, rfl, rfl, rfl, rfl, rfl, rfl, rfl, rfl, rfl, trivial⟩, E, hB, ⟨by omega, by omega, by omega⟩, rfl⟩
              · have khc := hc
                replace hc := by simpa using hc
                refine Wp_region ?_
                refine WpL_val rfl rfl (by decide) (r_move (v := (.int .i64 ((((i3 + j3) / 2 : Nat) : Nat) : Int))) rfl) ?_
                refine WpL_val rfl rfl (by decide) (r_assign (v := (.int .i64 ((((i3 + j3) / 2 : Nat) : Nat) : Int))) rfl) ?_
                refine WpL_nil ?_
                refine inB_normal ?_
                refine thn_normal ?_
                exact ⟨((i3 + j3) / 2) - i3 + 1, by omega, i3, (i3 + j3) / 2, Fits.out ⟨rfl, rfl, rfl, rfl, rfl, rfl, rfl, rfl, rfl, rfl, trivial⟩, E, hB, ⟨by omega, by omega, by omega⟩, rfl⟩
          · have khlt3 := hlt3
            replace hlt3 := of_decide_eq_false hlt3
            refine Wp_exit ?_
            refine thn_exit ?_
            refine thn_exit ?_
            refine inB_here ?_
            refine thn_normal ?_
            refine Wp_seq_region ?_
            refine WpL_val rfl rfl (by decide) (r_move (v := (.int .i64 ((((a + b) / 2 + m : Nat) : Nat) : Int))) rfl) ?_
            refine WpL_val rfl rfl (by decide) (r_move (v := (.int .i64 ((i3 : Nat) : Int))) rfl) ?_
            refine WpL_val rfl rfl (by decide) (r_sub (k := .i64) (a := ((((a + b) / 2 + m : Nat) : Nat) : Int)) (b := ((i3 : Nat) : Int)) (c := ((((a + b) / 2 + m - i3 : Nat) : Nat) : Int)) rfl rfl ((wI64 (by omega)).trans (by omega))) ?_
            refine WpL_val rfl rfl (by decide) (r_assign (v := (.int .i64 ((((a + b) / 2 + m - i3 : Nat) : Nat) : Int))) rfl) ?_
            refine WpL_nil ?_
            refine Wp_cut (fun σ W25 => ∃ (cu : List Int), (∃ jj_, σ = upds jj_ [(0, (.slice (some ⟨g, 0, none⟩) n c)), (1, (.int .i64 ((a : Nat) : Int))), (3, (.int .i64 ((b : Nat) : Int))), (4, fv), (18, (.int .i64 ((((a + b) / 2 : Nat) : Nat) : Int))), (20, (.int .i64 ((i3 : Nat) : Int))), (24, (.int .i64 ((((a + b) / 2 + m - i3 : Nat) : Nat) : Int)))]) ∧ Chg (fun q => q = g) w0 W25 ∧ (List.Perm cu l) ∧ (Blk W25 g (cu.map (Value.int .i64) ++ rest).toArray T)) ?_ ?_
            · skip
              refine Wp_seq_region ?_
              refine WpL_val rfl rfl (by decide) (r_move (v := (.int .i64 ((i3 : Nat) : Int))) rfl) ?_
              refine WpL_val rfl rfl (by decide) (r_move (v := (.int .i64 ((m : Nat) : Int))) rfl) ?_
              obtain ⟨e26, he26⟩ : ∃ e, (decide ((((i3 : Nat) : Int) : Int) < ((m : Nat) : Int))) = e := ⟨_, rfl⟩
              refine WpL_val rfl rfl (by decide) ((r_lss (k := .i64) (a := ((i3 : Nat) : Int)) (b := ((m : Nat) : Int)) rfl rfl).trans (by rw [he26]; try rfl)) ?_
              refine WpL_val rfl rfl (by decide) (r_move (v := (.bool e26)) rfl) ?_
              refine WpL_guard_any (oj := _) (gv := (.bool e26)) (u := (bif e26 then (.int .i64 ((m : Nat) : Int)) else undef)) rfl rfl (by decide) (by decide) rfl (by cases e26 <;> first | exact Or.inr ⟨Or.inl rfl, rfl⟩ | exact Or.inr ⟨Or.inr rfl, rfl⟩ | exact Or.inl ⟨rfl, r_move (v := (.int .i64 ((m : Nat) : Int))) rfl⟩) ?_
              refine WpL_guard_any (oj := _) (gv := (.bool e26)) (u := (bif e26 then (.int .i64 ((((a + b) / 2 + m - i3 : Nat) : Nat) : Int)) else undef)) rfl rfl (by decide) (by decide) rfl (by cases e26 <;> first | exact Or.inr ⟨Or.inl rfl, rfl⟩ | exact Or.inr ⟨Or.inr rfl, rfl⟩ | exact Or.inl ⟨rfl, r_move (v := (.int .i64 ((((a + b) / 2 + m - i3 : Nat) : Nat) : Int))) rfl⟩) ?_
              obtain ⟨e27, he27⟩ : ∃ e, (decide ((((m : Nat) : Int) : Int) < ((((a + b) / 2 + m - i3 : Nat) : Nat) : Int))) = e := ⟨_, rfl⟩
              refine WpL_guard_any (oj := _) (gv := (.bool e26)) (u := (bif e26 then (.bool e27) else undef)) rfl rfl (by decide) (by decide) rfl (by cases e26 <;> first | exact Or.inr ⟨Or.inl rfl, rfl⟩ | exact Or.inr ⟨Or.inr rfl, rfl⟩ | exact Or.inl ⟨rfl, (r_lss (k := .i64) (a := ((m : Nat) : Int)) (b := ((((a + b) / 2 + m - i3 : Nat) : Nat) : Int)) rfl rfl).trans (by rw [he27]; try rfl)⟩) ?_
              obtain ⟨e28, he28⟩ : ∃ e, (e26 && e27) = e := ⟨_, rfl⟩
              refine WpL_val rfl rfl (by decide) (r_pick (b := e26) (v := .bool e28) rfl (by rw [← he28]; cases e26 <;> rfl)) ?_
              refine WpL_nil ?_
              subst he28
              subst he27
              subst he26
              refine Wp_cond (b := ((decide ((((i3 : Nat) : Int) : Int) < ((m : Nat) : Int))) && (decide ((((m : Nat) : Int) : Int) < ((((a + b) / 2 + m - i3 : Nat) : Nat) : Int))))) rfl (fun hr1 => ?_) (fun hr1 => ?_)
              · have khr1 := hr1
                simp only [Bool.and_eq_true, decide_eq_true_eq] at hr1
                refine Wp_region ?_
                refine WpL_val rfl rfl (by decide) (r_move (v := (.slice (some ⟨g, 0, none⟩) n c)) rfl) ?_
                refine WpL_val rfl rfl (by decide) (r_move (v := (.int .i64 ((i3 : Nat) : Int))) rfl) ?_
                refine WpL_val rfl rfl (by decide) (r_move (v := (.int .i64 ((m : Nat) : Int))) rfl) ?_
                refine WpL_val rfl rfl (by decide) (r_move (v := (.int .i64 ((((a + b) / 2 + m - i3 : Nat) : Nat) : Int))) rfl) ?_
                refine WpL_val rfl rfl (by decide) (r_move (v := fv) rfl) ?_
                refine WpL_enter rfl rfl (by decide) (r_callF (vs := [(.slice (some ⟨g, 0, none⟩) n c), (.int .i64 ((i3 : Nat) : Int)), (.int .i64 ((m : Nat) : Int)), (.int .i64 ((((a + b) / 2 + m - i3 : Nat) : Nat) : Int)), fv]) Try.func127 nm127 bd127 rfl) (rotate_c _ g c n T l rest fv i3 m ((a + b) / 2 + m - i3) hB hn (by omega) (by omega) (by omega) hsz) ?_
                rintro _ w9 ⟨l', hp', hG', C9⟩
                replace E := E.step C9 (fun q _ h => h)
                refine WpL_nil ?_
                refine thn_normal ?_
                exact ⟨l', Fits.out ⟨rfl, rfl, rfl, rfl, rfl, rfl, rfl, trivial⟩, E, hp', hG'⟩
              · have khr1 := hr1
                refine Wp_skip ?_
                refine thn_normal ?_
                exact ⟨l, Fits.out ⟨rfl, rfl, rfl, rfl, rfl, rfl, rfl, trivial⟩, E, List.Perm.refl _, hB⟩
            · clear E
              rintro _ W25 ⟨cu, ⟨j25, rfl⟩, E, hp, hG⟩
              refine Wp_cut (fun σ W30 => ∃ (cu2 : List Int), (∃ jj_, σ = upds jj_ [(0, (.slice (some ⟨g, 0, none⟩) n c)), (3, (.int .i64 ((b : Nat) : Int))), (4, fv), (18, (.int .i64 ((((a + b) / 2 : Nat) : Nat) : Int))), (24, (.int .i64 ((((a + b) / 2 + m - i3 : Nat) : Nat) : Int)))]) ∧ Chg (fun q => q = g) w0 W30 ∧ (List.Perm cu2 l) ∧ (Blk W30 g (cu2.map (Value.int .i64) ++ rest).toArray T)) ?_ ?_
              · skip
                refine Wp_seq_region ?_
                refine WpL_val rfl rfl (by decide) (r_move (v := (.int .i64 ((a : Nat) : Int))) rfl) ?_
                refine WpL_val rfl rfl (by decide) (r_move (v := (.int .i64 ((i3 : Nat) : Int))) rfl) ?_
                obtain ⟨e31, he31⟩ : ∃ e, (decide ((((a : Nat) : Int) : Int) < ((i3 : Nat) : Int))) = e := ⟨_, rfl⟩
                refine WpL_val rfl rfl (by decide) ((r_lss (k := .i64) (a := ((a : Nat) : Int)) (b := ((i3 : Nat) : Int)) rfl rfl).trans (by rw [he31]; try rfl)) ?_
                refine WpL_val rfl rfl (by decide) (r_move (v := (.bool e31)) rfl) ?_
                refine WpL_guard_any (oj := _) (gv := (.bool e31)) (u := (bif e31 then (.int .i64 ((i3 : Nat) : Int)) else undef)) rfl rfl (by decide) (by decide) rfl (by cases e31 <;> first | exact Or.inr ⟨Or.inl rfl, rfl⟩ | exact Or.inr ⟨Or.inr rfl, rfl⟩ | exact Or.inl ⟨rfl, r_move (v := (.int .i64 ((i3 : Nat) : Int))) rfl⟩) ?_
                refine WpL_guard_any (oj := _) (gv := (.bool e31)) (u := (bif e31 then (.int .i64 ((((a + b) / 2 : Nat) : Nat) : Int)) else undef)) rfl rfl (by decide) (by decide) rfl (by cases e31 <;> first | exact Or.inr ⟨Or.inl rfl, rfl⟩ | exact Or.inr ⟨Or.inr rfl, rfl⟩ | exact Or.inl ⟨rfl, r_move (v := (.int .i64 ((((a + b) / 2 : Nat) : Nat) : Int))) rfl⟩) ?_
                obtain ⟨e32, he32⟩ : ∃ e, (decide ((((i3 : Nat) : Int) : Int) < ((((a + b) / 2 : Nat) : Nat) : Int))) = e := ⟨_, rfl⟩
                refine WpL_guard_any (oj := _) (gv := (.bool e31)) (u := (bif e31 then (.bool e32) else undef)) rfl rfl (by decide) (by decide) rfl (by cases e31 <;> first | exact Or.inr ⟨Or.inl rfl, rfl⟩ | exact Or.inr ⟨Or.inr rfl, rfl⟩ | exact Or.inl ⟨rfl, (r_lss (k := .i64) (a := ((i3 : Nat) : Int)) (b := ((((a + b) / 2 : Nat) : Nat) : Int)) rfl rfl).trans (by rw [he32]; try rfl)⟩) ?_
                obtain ⟨e33, he33⟩ : ∃ e, (e31 && e32) = e := ⟨_, rfl⟩
                refine WpL_val rfl rfl (by decide) (r_pick (b := e31) (v := .bool e33) rfl (by rw [← he33]; cases e31 <;> rfl)) ?_
                refine WpL_nil ?_
                subst he33
                subst he32
                subst he31
                refine Wp_cond (b := ((decide ((((a : Nat) : Int) : Int) < ((i3 : Nat) : Int))) && (decide ((((i3 : Nat) : Int) : Int) < ((((a + b) / 2 : Nat) : Nat) : Int))))) rfl (fun hr2 => ?_) (fun hr2 => ?_)
                · have khr2 := hr2
                  simp only [Bool.and_eq_true, decide_eq_true_eq] at hr2
                  refine Wp_region ?_
                  refine WpL_val rfl rfl (by decide) (r_move (v := (.slice (some ⟨g, 0, none⟩) n c)) rfl) ?_
                  refine WpL_val rfl rfl (by decide) (r_move (v := (.int .i64 ((a : Nat) : Int))) rfl) ?_
                  refine WpL_val rfl rfl (by decide) (r_move (v := (.int .i64 ((i3 : Nat) : Int))) rfl) ?_
                  refine WpL_val rfl rfl (by decide) (r_move (v := (.int .i64 ((((a + b) / 2 : Nat) : Nat) : Int))) rfl) ?_
                  refine WpL_val rfl rfl (by decide) (r_move (v := fv) rfl) ?_
                  refine WpL_enter rfl rfl (by decide) (r_callF (vs := [(.slice (some ⟨g, 0, none⟩) n c), (.int .i64 ((a : Nat) : Int)), (.int .i64 ((i3 : Nat) : Int)), (.int .i64 ((((a + b) / 2 : Nat) : Nat) : Int)), fv]) Try.func125 nm125 bd125 rfl) (ih _ g c n T cu rest fv cf a i3 ((a + b) / 2) (by omega) hG (by rw [hp.length_eq, hn]) (by omega) (by omega) (by omega) hsz (fun w x y h hx hy => hf w x y (Chg.trans E h) (hp.mem_iff.1 hx) (hp.mem_iff.1 hy))) ?_
                  rintro _ w19 ⟨l', hp', hG', C19⟩
                  replace E := E.step C19 (fun q _ h => h)
                  refine WpL_nil ?_
                  refine thn_normal ?_
                  exact ⟨l', Fits.out ⟨rfl, rfl, rfl, rfl, rfl, trivial⟩, E, hp'.trans hp, hG'⟩
                · have khr2 := hr2
                  refine Wp_skip ?_
                  refine thn_normal ?_
                  exact ⟨cu, Fits.out ⟨rfl, rfl, rfl, rfl, rfl, trivial⟩, E, hp, hG⟩
              · clear E
                rintro _ W30 ⟨cu2, ⟨j30, rfl⟩, E, hp2, hG2⟩
                refine Wp_seq_region ?_
                refine WpL_val rfl rfl (by decide) (r_move (v := (.int .i64 ((((a + b) / 2 : Nat) : Nat) : Int))) rfl) ?_
                refine WpL_val rfl rfl (by decide) (r_move (v := (.int .i64 ((((a + b) / 2 + m - i3 : Nat) : Nat) : Int))) rfl) ?_
                obtain ⟨e35, he35⟩ : ∃ e, (decide ((((((a + b) / 2 : Nat) : Nat) : Int) : Int) < ((((a + b) / 2 + m - i3 : Nat) : Nat) : Int))) = e := ⟨_, rfl⟩
                refine WpL_val rfl rfl (by decide) ((r_lss (k := .i64) (a := ((((a + b) / 2 : Nat) : Nat) : Int)) (b := ((((a + b) / 2 + m - i3 : Nat) : Nat) : Int)) rfl rfl).trans (by rw [he35]; try rfl)) ?_
                refine WpL_val rfl rfl (by decide) (r_move (v := (.bool e35)) rfl) ?_
                refine WpL_guard_any (oj := _) (gv := (.bool e35)) (u := (bif e35 then (.int .i64 ((((a + b) / 2 + m - i3 : Nat) : Nat) : Int)) else undef)) rfl rfl (by decide) (by decide) rfl (by cases e35 <;> first | exact Or.inr ⟨Or.inl rfl, rfl⟩ | exact Or.inr ⟨Or.inr rfl, rfl⟩ | exact Or.inl ⟨rfl, r_move (v := (.int .i64 ((((a + b) / 2 + m - i3 : Nat) : Nat) : Int))) rfl⟩) ?_
                refine WpL_guard_any (oj := _) (gv := (.bool e35)) (u := (bif e35 then (.int .i64 ((b : Nat) : Int)) else undef)) rfl rfl (by decide) (by decide) rfl (by cases e35 <;> first | exact Or.inr ⟨Or.inl rfl, rfl⟩ | exact Or.inr ⟨Or.inr rfl, rfl⟩ | exact Or.inl ⟨rfl, r_move (v := (.int .i64 ((b : Nat) : Int))) rfl⟩) ?_
                obtain ⟨e36, he36⟩ : ∃ e, (decide ((((((a + b) / 2 + m - i3 : Nat) : Nat) : Int) : Int) < ((b : Nat) : Int))) = e := ⟨_, rfl⟩
                refine WpL_guard_any (oj := _) (gv := (.bool e35)) (u := (bif e35 then (.bool e36) else undef)) rfl rfl (by decide) (by decide) rfl (by cases e35 <;> first | exact Or.inr ⟨Or.inl rfl, rfl⟩ | exact Or.inr ⟨Or.inr rfl, rfl⟩ | exact Or.inl ⟨rfl, (r_lss (k := .i64) (a := ((((a + b) / 2 + m - i3 : Nat) : Nat) : Int)) (b := ((b : Nat) : Int)) rfl rfl).trans (by rw [he36]; try rfl)⟩) ?_
                obtain ⟨e37, he37⟩ : ∃ e, (e35 && e36) = e := ⟨_, rfl⟩
                refine WpL_val rfl rfl (by decide) (r_pick (b := e35) (v := .bool e37) rfl (by rw [← he37]; cases e35 <;> rfl)) ?_
                refine WpL_nil ?_
                subst he37
                subst he36
                subst he35
                refine Wp_cond (b := ((decide ((((((a + b) / 2 : Nat) : Nat) : Int) : Int) < ((((a + b) / 2 + m - i3 : Nat) : Nat) : Int))) && (decide ((((((a + b) / 2 + m - i3 : Nat) : Nat) : Int) : Int) < ((b : Nat) : Int))))) rfl (fun hr3 => ?_) (fun hr3 => ?_)
                · have khr3 := hr3
                  simp only [Bool.and_eq_true, decide_eq_true_eq] at hr3
                  refine Wp_region ?_
                  refine WpL_val rfl rfl (by decide) (r_move (v := (.slice (some ⟨g, 0, none⟩) n c)) rfl) ?_
                  refine WpL_val rfl rfl (by decide) (r_move (v := (.int .i64 ((((a + b) / 2 : Nat) : Nat) : Int))) rfl) ?_
                  refine WpL_val rfl rfl (by decide) (r_move (v := (.int .i64 ((((a + b) / 2 + m - i3 : Nat) : Nat) : Int))) rfl) ?_
                  refine WpL_val rfl rfl (by decide) (r_move (v := (.int .i64 ((b : Nat) : Int))) rfl) ?_
                  refine WpL_val rfl rfl (by decide) (r_move (v := fv) rfl) ?_
                  refine WpL_enter rfl rfl (by decide) (r_callF (vs := [(.slice (some ⟨g, 0, none⟩) n c), (.int .i64 ((((a + b) / 2 : Nat) : Nat) : Int)), (.int .i64 ((((a + b) / 2 + m - i3 : Nat) : Nat) : Int)), (.int .i64 ((b : Nat) : Int)), fv]) Try.func125 nm125 bd125 rfl) (ih _ g c n T cu2 rest fv cf ((a + b) / 2) ((a + b) / 2 + m - i3) b (by omega) hG2 (by rw [hp2.length_eq, hn]) (by omega) (by omega) (by omega) hsz (fun w x y h hx hy => hf w x y (Chg.trans E h) (hp2.mem_iff.1 hx) (hp2.mem_iff.1 hy))) ?_
                  rintro _ w29 ⟨l', hp', hG', C29⟩
                  replace E := E.step C29 (fun q _ h => h)
                  refine WpL_nil ?_
                  refine fin_none Try.results125 ?_
                  exact ⟨l', hp'.trans hp2, hG', E⟩
                · have khr3 := hr3
                  refine Wp_skip ?_
                  refine fin_none Try.results125 ?_
                  exact ⟨cu2, hp2, hG2, E⟩
end Go.Proofs
namespace Go.Proofs
open Go Go.Eng
set_option maxRecDepth 100000
set_option maxHeartbeats 4000000 in
theorem stable_c (w0 : World) (g c n T : Nat) (l : List Int) (rest : List Value) (fv : Value) (cf : Int → Int → Int) (hB : Blk w0 g (l.map (Value.int .i64) ++ rest).toArray T) (hn : l.length = n) (hsz : n ≤ 100000)
    (hf : ∀ (w : World) (x y : Int), Chg (fun q => q = g) w0 w → x ∈ l → y ∈ l → CallV Try.prog fv #[.int .i64 x, .int .i64 y] w fun r w' => r = .int .i64 (cf x y) ∧ Ext w w') :
    Ret Try.prog 76 #[.slice (some ⟨g, 0, none⟩) n c, fv] w0 fun _ w => ∃ l', List.Perm l' l ∧ Blk w g (l'.map (Value.int .i64) ++ rest).toArray T ∧ Chg (fun q => q = g) w0 w := by
  have hin : Ret Try.prog 111 #[.slice (some ⟨g, 0, none⟩) n c, .int .i64 ((n : Nat) : Int), fv] w0 fun _ w => ∃ l', List.Perm l' l ∧ Blk w g (l'.map (Value.int .i64) ++ rest).toArray T ∧ Chg (fun q => q = g) w0 w := by
    refine Ret_of Try.func111 rfl Try.ntmps111 (Nat.le_of_ble_eq_true rfl) ?_
    have E : Chg (fun q => q = g) w0 w0 := Chg.refl _ _
    refine Wp_seq_region ?_
    refine WpL_val rfl rfl (by decide) (r_assign (v := (.int .i64 20)) rfl) ?_
    refine WpL_nil ?_
    refine Wp_seq_region ?_
    refine WpL_val rfl rfl (by decide) (r_move (v := (.int .i64 20)) rfl) ?_
    refine WpL_val rfl rfl (by decide) (r_assign (v := (.int .i64 0)) rfl) ?_
    refine WpL_val rfl rfl (by decide) (r_assign (v := (.int .i64 20)) rfl) ?_
    refine WpL_nil ?_
    refine Wp_seq ?_
    refine Wp_block ?_
    refine Wp_loop (fun nn_ σ W1 => ∃ (p q : Nat) (cu : List Int), (∃ jj_, σ = upds jj_ [(0, (.slice (some ⟨g, 0, none⟩) n c)), (1, (.int .i64 ((n : Nat) : Int))), (2, fv), (6, (.int .i64 20)), (7, (.int .i64 ((p : Nat) : Int))), (8, (.int .i64 ((q : Nat) : Int)))]) ∧ Chg (fun q => q = g) w0 W1 ∧ (q = p + 20) ∧ (p ≤ n) ∧ (List.Perm cu l) ∧ (Blk W1 g (cu.map (Value.int .i64) ++ rest).toArray T) ∧ nn_ = n - p) (n := n - 0) ?_ ?_
    · exact ⟨0, 20, l, Fits.out ⟨rfl, rfl, rfl, rfl, rfl, rfl, trivial⟩, E, rfl, Nat.zero_le _, List.Perm.refl _, hB, rfl⟩
    · clear E
      rintro _ _ W1 ⟨p, q, cu, ⟨j1, rfl⟩, E, hq, hpn, hp, hG, rfl⟩
      refine Wp_seq ?_
      refine Wp_seq_region ?_
      refine WpL_val rfl rfl (by decide) (r_move (v := (.int .i64 ((q : Nat) : Int))) rfl) ?_
      refine WpL_val rfl rfl (by decide) (r_move (v := (.int .i64 ((n : Nat) : Int))) rfl) ?_
      refine WpL_val rfl rfl (by decide) (r_leq (k := .i64) (a := ((q : Nat) : Int)) (b := ((n : Nat) : Int)) rfl rfl) ?_
      refine WpL_nil ?_
      refine Wp_cond (b := decide ((((q : Nat) : Int) : Int) ≤ ((n : Nat) : Int))) rfl (fun hle => ?_) (fun hle => ?_)
      · have khle := hle
        replace hle := of_decide_eq_true hle
        refine Wp_skip ?_
        refine thn_normal ?_
        refine Wp_block ?_
        refine Wp_seq_region ?_
        refine WpL_val rfl rfl (by decide) (r_move (v := (.slice (some ⟨g, 0, none⟩) n c)) rfl) ?_
        refine WpL_val rfl rfl (by decide) (r_move (v := (.int .i64 ((p : Nat) : Int))) rfl) ?_
        refine WpL_val rfl rfl (by decide) (r_move (v := (.int .i64 ((q : Nat) : Int))) rfl) ?_
        refine WpL_val rfl rfl (by decide) (r_move (v := fv) rfl) ?_
        refine WpL_enter rfl rfl (by decide) (r_callF (vs := [(.slice (some ⟨g, 0, none⟩) n c), (.int .i64 ((p : Nat) : Int)), (.int .i64 ((q : Nat) : Int)), fv]) Try.func124 nm124 bd124 rfl) (isort_c _ g c n T cu rest fv cf p q hG (by rw [hp.length_eq, hn]) (by omega) (by omega) (by omega) (fun w x y hE hx hy => hf w x y (E.trans hE) (hp.mem_iff.1 hx) (hp.mem_iff.1 hy))) ?_
        rintro _ w9 ⟨l', hp', hG', C9⟩
        replace E := E.step C9 (fun q _ h => h)
        refine WpL_nil ?_
        refine Wp_seq_region ?_
        refine WpL_val rfl rfl (by decide) (r_move (v := (.int .i64 ((q : Nat) : Int))) rfl) ?_
        refine WpL_val rfl rfl (by decide) (r_assign (v := (.int .i64 ((q : Nat) : Int))) rfl) ?_
        refine WpL_nil ?_
        refine Wp_region ?_
        refine WpL_val rfl rfl (by decide) (r_move (v := (.int .i64 ((q : Nat) : Int))) rfl) ?_
        refine WpL_val rfl rfl (by decide) (r_move (v := (.int .i64 20)) rfl) ?_
        refine WpL_val rfl rfl (by decide) (r_add (k := .i64) (a := ((q : Nat) : Int)) (b := 20) (c := (((q + 20 : Nat) : Nat) : Int)) rfl rfl ((wI64 (by omega)).trans (by omega))) ?_
        refine WpL_val rfl rfl (by decide) (r_assign (v := (.int .i64 (((q + 20 : Nat) : Nat) : Int))) rfl) ?_
        refine WpL_nil ?_
        refine inB_normal ?_
        refine thn_normal ?_
        exact ⟨n - q, by omega, q, q + 20, l', Fits.out ⟨rfl, rfl, rfl, rfl, rfl, rfl, trivial⟩, E, rfl, (by omega), hp'.trans hp, hG', rfl⟩
      · have khle := hle
        replace hle := of_decide_eq_false hle
        refine Wp_exit ?_
        refine thn_exit ?_
        refine thn_exit ?_
        refine inB_here ?_
        refine thn_normal ?_
        refine Wp_seq_region ?_
        refine WpL_val rfl rfl (by decide) (r_move (v := (.slice (some ⟨g, 0, none⟩) n c)) rfl) ?_
        refine WpL_val rfl rfl (by decide) (r_move (v := (.int .i64 ((p : Nat) : Int))) rfl) ?_
        refine WpL_val rfl rfl (by decide) (r_move (v := (.int .i64 ((n : Nat) : Int))) rfl) ?_
        refine WpL_val rfl rfl (by decide) (r_move (v := fv) rfl) ?_
        refine WpL_enter rfl rfl (by decide) (r_callF (vs := [(.slice (some ⟨g, 0, none⟩) n c), (.int .i64 ((p : Nat) : Int)), (.int .i64 ((n : Nat) : Int)), fv]) Try.func124 nm124 bd124 rfl) (isort_c _ g c n T cu rest fv cf p n hG (by rw [hp.length_eq, hn]) (by omega) (Nat.le_refl _) (by omega) (fun w x y hE hx hy => hf w x y (E.trans hE) (hp.mem_iff.1 hx) (hp.mem_iff.1 hy))) ?_
        rintro _ w19 ⟨l1, hp1, hG1, C19⟩
        replace E := E.step C19 (fun q _ h => h)
        refine WpL_nil ?_
        refine Wp_block ?_
        refine Wp_loop (fun nn_ σ W3 => ∃ (s : Nat) (cu : List Int), (∃ jj_, σ = upds jj_ [(0, (.slice (some ⟨g, 0, none⟩) n c)), (1, (.int .i64 ((n : Nat) : Int))), (2, fv), (6, (.int .i64 ((s : Nat) : Int)))]) ∧ Chg (fun q => q = g) w0 W3 ∧ (20 ≤ s) ∧ (List.Perm cu l) ∧ (Blk W3 g (cu.map (Value.int .i64) ++ rest).toArray T) ∧ nn_ = n - s) (n := n - 20) ?_ ?_
        · exact ⟨20, l1, Fits.out ⟨rfl, rfl, rfl, rfl, trivial⟩, E, Nat.le_refl _, hp1.trans hp, hG1, rfl⟩
        · clear E
          rintro _ _ W3 ⟨s, cu, ⟨j3, rfl⟩, E, hs, hp, hG, rfl⟩
          refine Wp_seq ?_
          refine Wp_seq_region ?_
          refine WpL_val rfl rfl (by decide) (r_move (v := (.int .i64 ((s : Nat) : Int))) rfl) ?_
          refine WpL_val rfl rfl (by decide) (r_move (v := (.int .i64 ((n : Nat) : Int))) rfl) ?_
          refine WpL_val rfl rfl (by decide) (r_lss (k := .i64) (a := ((s : Nat) : Int)) (b := ((n : Nat) : Int)) rfl rfl) ?_
          refine WpL_nil ?_
          refine Wp_cond (b := decide ((((s : Nat) : Int) : Int) < ((n : Nat) : Int))) rfl (fun hlt => ?_) (fun hlt => ?_)
          · have khlt := hlt
            replace hlt := of_decide_eq_true hlt
            refine Wp_skip ?_
            refine thn_normal ?_
            refine Wp_block ?_
            refine Wp_seq_region ?_
            refine WpL_val rfl rfl (by decide) (r_move (v := (.int .i64 ((s : Nat) : Int))) rfl) ?_
            refine WpL_val rfl rfl (by decide) (r_mul (k := .i64) (a := 2) (b := ((s : Nat) : Int)) (c := (((2 * s : Nat) : Nat) : Int)) rfl rfl ((wI64 (by omega)).trans (by omega))) ?_
            refine WpL_val rfl rfl (by decide) (r_assign (v := (.int .i64 0)) rfl) ?_
            refine WpL_val rfl rfl (by decide) (r_assign (v := (.int .i64 (((2 * s : Nat) : Nat) : Int))) rfl) ?_
            refine WpL_nil ?_
            refine Wp_seq ?_
            refine Wp_block ?_
            refine Wp_loop (fun nn_ σ W5 => ∃ (p2 q2 : Nat) (cu2 : List Int), (∃ jj_, σ = upds jj_ [(0, (.slice (some ⟨g, 0, none⟩) n c)), (1, (.int .i64 ((n : Nat) : Int))), (2, fv), (6, (.int .i64 ((s : Nat) : Int))), (7, (.int .i64 ((p2 : Nat) : Int))), (8, (.int .i64 ((q2 : Nat) : Int)))]) ∧ Chg (fun q => q = g) w0 W5 ∧ (q2 = p2 + 2 * s) ∧ (p2 ≤ n) ∧ (List.Perm cu2 l) ∧ (Blk W5 g (cu2.map (Value.int .i64) ++ rest).toArray T) ∧ nn_ = n - p2) (n := n - 0) ?_ ?_
            · exact ⟨0, 2 * s, cu, Fits.out ⟨rfl, rfl, rfl, rfl, rfl, rfl, trivial⟩, E, (by omega), Nat.zero_le _, hp, hG, rfl⟩
            · clear E
              rintro _ _ W5 ⟨p2, q2, cu2, ⟨j5, rfl⟩, E, hq, hpn, hp2, hG2, rfl⟩
              refine Wp_seq ?_
              refine Wp_seq_region ?_
              refine WpL_val rfl rfl (by decide) (r_move (v := (.int .i64 ((q2 : Nat) : Int))) rfl) ?_
              refine WpL_val rfl rfl (by decide) (r_move (v := (.int .i64 ((n : Nat) : Int))) rfl) ?_
              refine WpL_val rfl rfl (by decide) (r_leq (k := .i64) (a := ((q2 : Nat) : Int)) (b := ((n : Nat) : Int)) rfl rfl) ?_
              refine WpL_nil ?_
              refine Wp_cond (b := decide ((((q2 : Nat) : Int) : Int) ≤ ((n : Nat) : Int))) rfl (fun hle2 => ?_) (fun hle2 => ?_)
              · have khle2 := hle2
                replace hle2 := of_decide_eq_true hle2
                refine Wp_skip ?_
                refine thn_normal ?_
                refine Wp_block ?_
                refine Wp_seq_region ?_
                refine WpL_val rfl rfl (by decide) (r_move (v := (.slice (some ⟨g, 0, none⟩) n c)) rfl) ?_
                refine WpL_val rfl rfl (by decide) (r_move (v := (.int .i64 ((p2 : Nat) : Int))) rfl) ?_
                refine WpL_val rfl rfl (by decide) (r_move (v := (.int .i64 ((p2 : Nat) : Int))) rfl) ?_
                refine WpL_val rfl rfl (by decide) (r_move (v := (.int .i64 ((s : Nat) : Int))) rfl) ?_
                refine WpL_val rfl rfl (by decide) (r_add (k := .i64) (a := ((p2 : Nat) : Int)) (b := ((s : Nat) : Int)) (c := (((p2 + s : Nat) : Nat) : Int)) rfl rfl ((wI64 (by omega)).trans (by omega))) ?_
                refine WpL_val rfl rfl (by decide) (r_move (v := (.int .i64 ((q2 : Nat) : Int))) rfl) ?_
                refine WpL_val rfl rfl (by decide) (r_move (v := fv) rfl) ?_
                refine WpL_enter rfl rfl (by decide) (r_callF (vs := [(.slice (some ⟨g, 0, none⟩) n c), (.int .i64 ((p2 : Nat) : Int)), (.int .i64 (((p2 + s : Nat) : Nat) : Int)), (.int .i64 ((q2 : Nat) : Int)), fv]) Try.func125 nm125 bd125 rfl) (symMerge_c n _ g c n T cu2 rest fv cf p2 (p2 + s) q2 (by omega) hG2 (by rw [hp2.length_eq, hn]) (by omega) (by omega) (by omega) (by omega) (fun w x y hE hx hy => hf w x y (E.trans hE) (hp2.mem_iff.1 hx) (hp2.mem_iff.1 hy))) ?_
                rintro _ w29 ⟨l', hp', hG', C29⟩
                replace E := E.step C29 (fun q _ h => h)
                refine WpL_nil ?_
                refine Wp_seq_region ?_
                refine WpL_val rfl rfl (by decide) (r_move (v := (.int .i64 ((q2 : Nat) : Int))) rfl) ?_
                refine WpL_val rfl rfl (by decide) (r_assign (v := (.int .i64 ((q2 : Nat) : Int))) rfl) ?_
                refine WpL_nil ?_
                refine Wp_region ?_
                refine WpL_val rfl rfl (by decide) (r_move (v := (.int .i64 ((q2 : Nat) : Int))) rfl) ?_
                refine WpL_val rfl rfl (by decide) (r_move (v := (.int .i64 ((s : Nat) : Int))) rfl) ?_
                refine WpL_val rfl rfl (by decide) (r_mul (k := .i64) (a := 2) (b := ((s : Nat) : Int)) (c := (((2 * s : Nat) : Nat) : Int)) rfl rfl ((wI64 (by omega)).trans (by omega))) ?_
                refine WpL_val rfl rfl (by decide) (r_add (k := .i64) (a := ((q2 : Nat) : Int)) (b := (((2 * s : Nat) : Nat) : Int)) (c := (((q2 + 2 * s : Nat) : Nat) : Int)) rfl rfl ((wI64 (by omega)).trans (by omega))) ?_
                refine WpL_val rfl rfl (by decide) (r_assign (v := (.int .i64 (((q2 + 2 * s : Nat) : Nat) : Int))) rfl) ?_
                refine WpL_nil ?_
                refine inB_normal ?_
                refine thn_normal ?_
                exact ⟨n - q2, by omega, q2, q2 + 2 * s, l', Fits.out ⟨rfl, rfl, rfl, rfl, rfl, rfl, trivial⟩, E, rfl, (by omega), hp'.trans hp2, hG', rfl⟩
              · have khle2 := hle2
                replace hle2 := of_decide_eq_false hle2
                refine Wp_exit ?_
                refine thn_exit ?_
                refine thn_exit ?_
                refine inB_here ?_
                refine thn_normal ?_
                refine Wp_seq ?_
                refine Wp_seq_region ?_
                refine WpL_val rfl rfl (by decide) (r_move (v := (.int .i64 ((p2 : Nat) : Int))) rfl) ?_
                refine WpL_val rfl rfl (by decide) (r_move (v := (.int .i64 ((s : Nat) : Int))) rfl) ?_
                refine WpL_val rfl rfl (by decide) (r_add (k := .i64) (a := ((p2 : Nat) : Int)) (b := ((s : Nat) : Int)) (c := (((p2 + s : Nat) : Nat) : Int)) rfl rfl ((wI64 (by omega)).trans (by omega))) ?_
                refine WpL_val rfl rfl (by decide) (r_assign (v := (.int .i64 (((p2 + s : Nat) : Nat) : Int))) rfl) ?_
                refine WpL_nil ?_
                refine Wp_seq_region ?_
                refine WpL_val rfl rfl (by decide) (r_move (v := (.int .i64 (((p2 + s : Nat) : Nat) : Int))) rfl) ?_
                refine WpL_val rfl rfl (by decide) (r_move (v := (.int .i64 ((n : Nat) : Int))) rfl) ?_
                refine WpL_val rfl rfl (by decide) (r_lss (k := .i64) (a := (((p2 + s : Nat) : Nat) : Int)) (b := ((n : Nat) : Int)) rfl rfl) ?_
                refine WpL_nil ?_
                refine Wp_cond (b := decide (((((p2 + s : Nat) : Nat) : Int) : Int) < ((n : Nat) : Int))) rfl (fun hm => ?_) (fun hm => ?_)
                · have khm := hm
                  replace hm := of_decide_eq_true hm
                  refine Wp_region ?_
                  refine WpL_val rfl rfl (by decide) (r_move (v := (.slice (some ⟨g, 0, none⟩) n c)) rfl) ?_
                  refine WpL_val rfl rfl (by decide) (r_move (v := (.int .i64 ((p2 : Nat) : Int))) rfl) ?_
                  refine WpL_val rfl rfl (by decide) (r_move (v := (.int .i64 (((p2 + s : Nat) : Nat) : Int))) rfl) ?_
                  refine WpL_val rfl rfl (by decide) (r_move (v := (.int .i64 ((n : Nat) : Int))) rfl) ?_
                  refine WpL_val rfl rfl (by decide) (r_move (v := fv) rfl) ?_
                  refine WpL_enter rfl rfl (by decide) (r_callF (vs := [(.slice (some ⟨g, 0, none⟩) n c), (.int .i64 ((p2 : Nat) : Int)), (.int .i64 (((p2 + s : Nat) : Nat) : Int)), (.int .i64 ((n : Nat) : Int)), fv]) Try.func125 nm125 bd125 rfl) (symMerge_c n _ g c n T cu2 rest fv cf p2 (p2 + s) n (by omega) hG2 (by rw [hp2.length_eq, hn]) (by omega) (by omega) (by omega) (by omega) (fun w x y hE hx hy => hf w x y (E.trans hE) (hp2.mem_iff.1 hx) (hp2.mem_iff.1 hy))) ?_
                  rintro _ w39 ⟨l', hp', hG', C39⟩
                  replace E := E.step C39 (fun q _ h => h)
                  refine WpL_nil ?_
                  refine thn_normal ?_
                  refine Wp_region ?_
                  refine WpL_val rfl rfl (by decide) (r_move (v := (.int .i64 ((s : Nat) : Int))) rfl) ?_
                  refine WpL_val rfl rfl (by decide) (r_mul (k := .i64) (a := ((s : Nat) : Int)) (b := 2) (c := (((s * 2 : Nat) : Nat) : Int)) rfl rfl ((wI64 (by omega)).trans (by omega))) ?_
                  refine WpL_val rfl rfl (by decide) (r_assign (v := (.int .i64 (((s * 2 : Nat) : Nat) : Int))) rfl) ?_
                  refine WpL_nil ?_
                  refine inB_normal ?_
                  refine thn_normal ?_
                  exact ⟨n - (s * 2), by omega, s * 2, l', Fits.out ⟨rfl, rfl, rfl, rfl, trivial⟩, E, (by omega), hp'.trans hp2, hG', rfl⟩
                · have khm := hm
                  replace hm := of_decide_eq_false hm
                  refine Wp_skip ?_
                  refine thn_normal ?_
                  refine Wp_region ?_
                  refine WpL_val rfl rfl (by decide) (r_move (v := (.int .i64 ((s : Nat) : Int))) rfl) ?_
                  refine WpL_val rfl rfl (by decide) (r_mul (k := .i64) (a := ((s : Nat) : Int)) (b := 2) (c := (((s * 2 : Nat) : Nat) : Int)) rfl rfl ((wI64 (by omega)).trans (by omega))) ?_
                  refine WpL_val rfl rfl (by decide) (r_assign (v := (.int .i64 (((s * 2 : Nat) : Nat) : Int))) rfl) ?_
                  refine WpL_nil ?_
                  refine inB_normal ?_
                  refine thn_normal ?_
                  exact ⟨n - (s * 2), by omega, s * 2, cu2, Fits.out ⟨rfl, rfl, rfl, rfl, trivial⟩, E, (by omega), hp2, hG2, rfl⟩
          · have khlt := hlt
            replace hlt := of_decide_eq_false hlt
            refine Wp_exit ?_
            refine thn_exit ?_
            refine thn_exit ?_
            refine inB_here ?_
            refine fin_none Try.results111 ?_
            exact ⟨cu, hp, hG, E⟩
  refine Ret_of Try.func76 rfl Try.ntmps76 (Nat.le_of_ble_eq_true rfl) ?_
  have E : Chg (fun q => q = g) w0 w0 := Chg.refl _ _
  refine Wp_region ?_
  refine WpL_val rfl rfl (by decide) (r_move (v := (.slice (some ⟨g, 0, none⟩) n c)) rfl) ?_
  refine WpL_val rfl rfl (by decide) (r_move (v := (.slice (some ⟨g, 0, none⟩) n c)) rfl) ?_
  refine WpL_val rfl rfl (by decide) (r_lenSlice (ad := some ⟨g, 0, none⟩) (n := n) (cap := c) Try.underlying22 rfl) ?_
  refine WpL_val rfl rfl (by decide) (r_move (v := fv) rfl) ?_
  refine WpL_enter rfl rfl (by decide) (r_callF (vs := [(.slice (some ⟨g, 0, none⟩) n c), (.int .i64 ((n : Nat) : Int)), fv]) Try.func111 nm111 bd111 rfl) (hin) ?_
  rintro _ w9 ⟨l', hp, hB9, C9⟩
  replace E := E.step C9 (fun q _ h => h)
  refine WpL_nil ?_
  refine fin_none Try.results76 ?_
  exact ⟨l', hp, hB9, C9⟩
end Go.Proofs
namespace Go.Proofs
open Go Go.Eng
theorem sortOk_any {n : Nat} (h : n ≤ 100000) : SortOk n := fun w0 g c T l rest fv cf hB hn hf => stable_c w0 g c n T l rest fv cf hB hn h hf
end Go.Proofs
namespace Go.Proofs
open Go Go.Eng
--BEGIN
def toD (d : Dfa) (s : Int) (x : Nat) : Int := if s < 0 then -1 else (d.next.getD s.toNat []).getD x (-1)
def atD (d : Dfa) (s : Int) : Int := if s < 0 then -1 else d.accept.getD s.toNat (-1)
def beh (d : Dfa) (s : Int) : List Nat → Int
  | [] => atD d s
  | x :: w => beh d (toD d s x) w
def inW (c : Nat) (w : List Nat) : Prop := ∀ x ∈ w, x < c
theorem inW.tail {c x : Nat} {w : List Nat} (h : inW c (x :: w)) : inW c w := fun y hy => h y (List.mem_cons_of_mem _ hy)
theorem inW.head {c x : Nat} {w : List Nat} (h : inW c (x :: w)) : x < c := h x List.mem_cons_self
theorem inW.cons {c x : Nat} {w : List Nat} (hx : x < c) (h : inW c w) : inW c (x :: w) := fun y hy => by
  rcases List.mem_cons.1 hy with rfl | h1
  · exact hx
  · exact h y h1
theorem inW.nil (c : Nat) : inW c [] := fun x h => by cases h
structure OkD (n c : Nat) (d : Dfa) : Prop where
  nl : d.next.length = n
  al : d.accept.length = n
  st : 0 ≤ d.start ∧ d.start < n
  acc : ∀ x ∈ d.accept, -1 ≤ x
  row : ∀ r ∈ d.next, r.length = c ∧ ∀ x ∈ r, -1 ≤ x ∧ x < n
def liveD (c : Nat) (d : Dfa) (s : Int) : Prop := ∃ w, inW c w ∧ 0 ≤ beh d s w
def eqvD (c : Nat) (d : Dfa) (s t : Int) : Prop := ∀ w, inW c w → beh d s w = beh d t w
theorem toD_neg {d : Dfa} {s : Int} (h : s < 0) (x : Nat) : toD d s x = -1 := by unfold toD; rw [if_pos h]
theorem beh_neg {d : Dfa} : ∀ {w : List Nat} {s : Int}, s < 0 → beh d s w = -1
  | [], s, h => by unfold beh atD; rw [if_pos h]
  | x :: w, s, h => by unfold beh; rw [toD_neg h]; exact beh_neg (by decide)
theorem toD_get {d : Dfa} {s x : Nat} {r : List Int} {t : Int} (h : d.next[s]? = some r) (ht : r[x]? = some t) : toD d ((s : Nat) : Int) x = t := by
  unfold toD
  rw [if_neg (by omega), Int.toNat_natCast, List.getD_eq_getElem?_getD, List.getD_eq_getElem?_getD, h, Option.getD_some, ht, Option.getD_some]
theorem atD_get {d : Dfa} {s : Nat} {t : Int} (h : d.accept[s]? = some t) : atD d ((s : Nat) : Int) = t := by
  unfold atD
  rw [if_neg (by omega), Int.toNat_natCast, List.getD_eq_getElem?_getD, h, Option.getD_some]
theorem OkD.to {n c : Nat} {d : Dfa} (h : OkD n c d) {s : Int} {x : Nat} : -1 ≤ toD d s x ∧ toD d s x < n := by
  have hn := h.st
  unfold toD
  split
  · omega
  · rw [List.getD_eq_getElem?_getD, List.getD_eq_getElem?_getD]
    cases h1 : d.next[s.toNat]? with
    | none => simp; omega
    | some r =>
      simp only [Option.getD_some]
      cases h2 : r[x]? with
      | none => simp; omega
      | some t => exact (h.row r (List.mem_of_getElem? h1)).2 t (List.mem_of_getElem? h2)
theorem OkD.at' {n c : Nat} {d : Dfa} (h : OkD n c d) {s : Int} : -1 ≤ atD d s := by
  unfold atD
  split
  · omega
  · rw [List.getD_eq_getElem?_getD]
    cases h1 : d.accept[s.toNat]? with
    | none => simp
    | some t => exact h.acc t (List.mem_of_getElem? h1)
theorem OkD.beh {n c : Nat} {d : Dfa} (h : OkD n c d) : ∀ {w : List Nat} {s : Int}, -1 ≤ beh d s w
  | [], _ => h.at'
  | _ :: w, _ => OkD.beh h (w := w)
theorem OkD.dead {n c : Nat} {d : Dfa} (h : OkD n c d) {s : Int} (hl : ¬ liveD c d s) {w : List Nat} (hw : inW c w) : Go.Proofs.beh d s w = -1 := by
  have h1 := h.beh (w := w) (s := s)
  rcases Int.lt_or_le (Go.Proofs.beh d s w) 0 with h2 | h2
  · omega
  · exact absurd ⟨w, hw, h2⟩ hl
theorem not_live_neg {c : Nat} {d : Dfa} {s : Int} (h : s < 0) : ¬ liveD c d s := fun ⟨w, _, h1⟩ => by rw [beh_neg h] at h1; omega
theorem eqvD.to {c x : Nat} {d : Dfa} {s t : Int} (h : eqvD c d s t) (hx : x < c) : eqvD c d (toD d s x) (toD d t x) := fun w hw => h (x :: w) (inW.cons hx hw)
theorem eqvD.live {c : Nat} {d : Dfa} {s t : Int} (h : eqvD c d s t) (hl : liveD c d s) : liveD c d t := by
  obtain ⟨w, hw, h1⟩ := hl
  exact ⟨w, hw, by rw [← h w hw]; exact h1⟩
theorem flat_get {c : Nat} : ∀ {L : List (List Int)} {i x : Nat} {r : List Int}, (∀ r ∈ L, r.length = c) → L[i]? = some r → x < c → L.flatten[i * c + x]? = r[x]?
  | [], _, _, _, _, h, _ => by simp at h
  | q :: L, 0, x, r, h, hi, hx => by
    simp at hi
    subst hi
    rw [List.flatten_cons, Nat.zero_mul, Nat.zero_add, List.getElem?_append_left (by rw [h q List.mem_cons_self]; exact hx)]
  | q :: L, i + 1, x, r, h, hi, hx => by
    have hq := h q List.mem_cons_self
    rw [List.flatten_cons, List.getElem?_append_right (by rw [hq, Nat.add_mul]; omega), hq, show (i + 1) * c + x - c = i * c + x by rw [Nat.add_mul]; omega]
    exact flat_get (fun r hr => h r (List.mem_cons_of_mem _ hr)) (by simpa using hi) hx
theorem flat_len {c : Nat} : ∀ {L : List (List Int)}, (∀ r ∈ L, r.length = c) → L.flatten.length = L.length * c
  | [], _ => by simp
  | q :: L, h => by
    rw [List.flatten_cons, List.length_append, h q List.mem_cons_self, flat_len fun r hr => h r (List.mem_cons_of_mem _ hr), List.length_cons, Nat.add_mul]; omega
def mxL (l : List Int) : Int := l.foldl max 0
theorem mxL_snoc (l : List Int) (x : Int) : mxL (l ++ [x]) = max (mxL l) x := by unfold mxL; rw [List.foldl_append]; rfl
theorem mxL_le : ∀ (m : List Int) (z : Int), z ≤ m.foldl max z
  | [], _ => Int.le_refl _
  | x :: m, z => by
    have := mxL_le m (max z x)
    simp only [List.foldl_cons]
    omega
theorem mxL_mono {l : List Int} (m : List Int) : mxL l ≤ mxL (l ++ m) := by
  unfold mxL
  rw [List.foldl_append]
  exact mxL_le m _
theorem mxL_take {l : List Int} {i j : Nat} (h : i ≤ j) : mxL (l.take i) ≤ mxL (l.take j) := by
  have e : l.take j = l.take i ++ (l.take j).drop i := by
    have := List.take_append_drop i (l.take j)
    rw [List.take_take, Nat.min_eq_left h] at this
    exact this.symm
  rw [e]
  exact mxL_mono _
/-- An automaton whose states are numbered in the order in which they are met. -/
structure Bfs (n c : Nat) (C : Dfa) : Prop where
  ok : OkD n c C
  st : C.start = 0
  ord : ∀ (k : Nat) (x : Int), C.next.flatten[k]? = some x → x ≤ mxL (C.next.flatten.take k) + 1
  rch : ∀ i : Nat, i < n → ((i : Nat) : Int) ≤ mxL (C.next.flatten.take (i * c))
  fin : mxL C.next.flatten = n - 1
/-- The canonical automaton of a behaviour. -/
def CanOf (c : Nat) (f : List Nat → Int) (C : Dfa) : Prop := ∃ m, Bfs m c C ∧ (∀ w, inW c w → beh C 0 w = f w) ∧ (∀ s t : Int, 0 ≤ s → s < m → 0 ≤ t → t < m → eqvD c C s t → s = t) ∧ ∀ (s : Int) (x : Nat), x < c → 0 ≤ toD C s x → liveD c C (toD C s x)
theorem ent_to {n c i x : Nat} {C : Dfa} (h : OkD n c C) (hi : i < n) (hx : x < c) : C.next.flatten[i * c + x]? = some (toD C ((i : Nat) : Int) x) := by
  have hr : C.next[i]? = some (C.next[i]'(by rw [h.nl]; exact hi)) := List.getElem?_eq_getElem _
  have hrow := h.row _ (List.mem_of_getElem? hr)
  rw [flat_get (fun r hr => (h.row r hr).1) hr hx]
  have ht : (C.next[i]'(by rw [h.nl]; exact hi))[x]? = some ((C.next[i]'(by rw [h.nl]; exact hi))[x]'(by rw [hrow.1]; exact hx)) := List.getElem?_eq_getElem _
  rw [ht, toD_get hr ht]
theorem take_get_snoc {l : List Int} {k : Nat} {x : Int} (h : l[k]? = some x) : l.take (k + 1) = l.take k ++ [x] := by rw [List.take_add_one, h]; rfl
theorem CanOf.steps {c n m : Nat} {A B : Dfa} (hA : Bfs n c A) (hB : Bfs m c B) (h0 : ∀ w, inW c w → beh A 0 w = beh B 0 w)
    (rA : ∀ s t : Int, 0 ≤ s → s < n → 0 ≤ t → t < n → eqvD c A s t → s = t) (rB : ∀ s t : Int, 0 ≤ s → s < m → 0 ≤ t → t < m → eqvD c B s t → s = t)
    (lA : ∀ (s : Int) (x : Nat), x < c → 0 ≤ toD A s x → liveD c A (toD A s x)) (lB : ∀ (s : Int) (x : Nat), x < c → 0 ≤ toD B s x → liveD c B (toD B s x)) :
    ∀ k, k ≤ n * c → k ≤ m * c → A.next.flatten.take k = B.next.flatten.take k ∧ ∀ j : Int, 0 ≤ j → j ≤ mxL (A.next.flatten.take k) → ∀ w, inW c w → beh A j w = beh B j w := by
  intro k
  induction k with
  | zero =>
    intro _ _
    refine ⟨by simp, fun j h1 h2 w hw => ?_⟩
    have : j = 0 := by simp [mxL] at h2; omega
    rw [this]; exact h0 w hw
  | succ k ih =>
    intro hn hm
    obtain ⟨e1, e2⟩ := ih (by omega) (by omega)
    have hc : 0 < c := by
      rcases Nat.eq_zero_or_pos c with h | h
      · subst h; omega
      · exact h
    obtain ⟨i, x, rfl, hx⟩ : ∃ i x, k = i * c + x ∧ x < c := ⟨k / c, k % c, by rw [Nat.mul_comm]; exact (Nat.div_add_mod k c).symm, Nat.mod_lt _ hc⟩
    have hin : i < n := by
      apply Classical.byContradiction
      intro h
      have : n * c ≤ i * c := Nat.mul_le_mul_right c (by omega)
      omega
    have him : i < m := by
      apply Classical.byContradiction
      intro h
      have : m * c ≤ i * c := Nat.mul_le_mul_right c (by omega)
      omega
    have hi := hA.rch i hin
    have hmono : mxL (A.next.flatten.take (i * c)) ≤ mxL (A.next.flatten.take (i * c + x)) := mxL_take (by omega)
    have hbi := e2 ((i : Nat) : Int) (by omega) (by omega)
    have a1 := ent_to hA.ok hin hx
    have b1 := ent_to hB.ok him hx
    obtain ⟨s, hs⟩ : ∃ s, toD A ((i : Nat) : Int) x = s := ⟨_, rfl⟩
    obtain ⟨t, ht⟩ : ∃ t, toD B ((i : Nat) : Int) x = t := ⟨_, rfl⟩
    rw [hs] at a1
    rw [ht] at b1
    have hbeh : ∀ w, inW c w → beh A s w = beh B t w := fun w hw => by
      have := hbi (x :: w) (inW.cons hx hw)
      simp only [beh, hs, ht] at this
      exact this
    have oA := hA.ord _ _ a1
    have oB := hB.ord _ _ b1
    rw [← e1] at oB
    have bA := hA.ok.to (s := ((i : Nat) : Int)) (x := x)
    have bB := hB.ok.to (s := ((i : Nat) : Int)) (x := x)
    rw [hs] at bA
    rw [ht] at bB
    have hst : s = t := by
      rcases Int.lt_or_le s 0 with h1 | h1
      · rcases Int.lt_or_le t 0 with h2 | h2
        · omega
        · exfalso
          have := lB ((i : Nat) : Int) x hx (by rw [ht]; exact h2)
          rw [ht] at this
          obtain ⟨w, hw, h3⟩ := this
          rw [← hbeh w hw, beh_neg h1] at h3
          omega
      · rcases Int.lt_or_le t 0 with h2 | h2
        · exfalso
          have := lA ((i : Nat) : Int) x hx (by rw [hs]; exact h1)
          rw [hs] at this
          obtain ⟨w, hw, h3⟩ := this
          rw [hbeh w hw, beh_neg h2] at h3
          omega
        · rcases Int.lt_or_le (mxL (A.next.flatten.take (i * c + x))) s with h3 | h3
          · rcases Int.lt_or_le (mxL (A.next.flatten.take (i * c + x))) t with h4 | h4
            · omega
            · -- B's is old: then A's is the same old one
              have h5 : ∀ w, inW c w → beh A s w = beh A t w := fun w hw => (hbeh w hw).trans (e2 t h2 h4 w hw).symm
              have h6 : mxL (A.next.flatten.take (i * c + x)) ≤ n - 1 := by
                rw [← hA.fin]
                have := mxL_take (l := A.next.flatten) (i := i * c + x) (j := max (i * c + x) A.next.flatten.length) (by omega)
                rwa [List.take_of_length_le (show A.next.flatten.length ≤ max (i * c + x) A.next.flatten.length by omega)] at this
              exact rA s t h1 bA.2 h2 (by omega) h5
          · have h5 : ∀ w, inW c w → beh B t w = beh B s w := fun w hw => (hbeh w hw).symm.trans (e2 s h1 h3 w hw)
            have h6 : mxL (A.next.flatten.take (i * c + x)) ≤ m - 1 := by
              rw [← hB.fin, e1]
              have := mxL_take (l := B.next.flatten) (i := i * c + x) (j := max (i * c + x) B.next.flatten.length) (by omega)
              rwa [List.take_of_length_le (show B.next.flatten.length ≤ max (i * c + x) B.next.flatten.length by omega)] at this
            exact (rB t s h2 bB.2 h1 (by omega) h5).symm
    subst hst
    refine ⟨by rw [take_get_snoc a1, take_get_snoc b1, e1], fun j h1 h2 w hw => ?_⟩
    rw [take_get_snoc a1, mxL_snoc] at h2
    rcases Int.lt_or_le (mxL (A.next.flatten.take (i * c + x))) j with h3 | h3
    · have : j = s := by omega
      rw [this]; exact hbeh w hw
    · exact e2 j h1 h3 w hw
/-- What is made of representatives is canonical. -/
theorem canOf_states {n m c : Nat} {d C : Dfa} {st : List Int} (ok : OkD n c d) (b : Bfs m c C) (hl : st.length = m) (h0 : st[0]? = some d.start)
    (hinj : ∀ (i j : Nat) s t, st[i]? = some s → st[j]? = some t → eqvD c d s t → i = j)
    (hacc : ∀ (i : Nat) s, st[i]? = some s → atD C ((i : Nat) : Int) = atD d s)
    (hnext : ∀ (i x : Nat) s, st[i]? = some s → x < c → (toD C ((i : Nat) : Int) x = -1 ∧ ¬ liveD c d (toD d s x)) ∨ ∃ (j : Nat) (t : Int), toD C ((i : Nat) : Int) x = ((j : Nat) : Int) ∧ st[j]? = some t ∧ eqvD c d t (toD d s x) ∧ liveD c d t) : CanOf c (beh d d.start) C := by
  have hb : ∀ (w : List Nat) (i : Nat) s, inW c w → st[i]? = some s → beh C ((i : Nat) : Int) w = beh d s w := by
    intro w
    induction w with
    | nil => exact fun i s _ hs => hacc i s hs
    | cons x w ih =>
      intro i s hw hs
      simp only [beh]
      rcases hnext i x s hs hw.head with ⟨h1, h2⟩ | ⟨j, t, h1, h2, h3, _⟩
      · rw [h1, beh_neg (by decide), ok.dead h2 hw.tail]
      · rw [h1, ih j t hw.tail h2, h3 w hw.tail]
  have hget : ∀ s : Int, 0 ≤ s → s < m → ∃ (i : Nat) (t : Int), s = ((i : Nat) : Int) ∧ st[i]? = some t := fun s h1 h2 => by
    obtain ⟨i, rfl⟩ := Int.eq_ofNat_of_zero_le h1
    exact ⟨i, st[i]'(by omega), rfl, List.getElem?_eq_getElem _⟩
  refine ⟨m, b, fun w hw => hb w 0 d.start hw h0, ?_, ?_⟩
  · intro s t s0 s1 t0 t1 he
    obtain ⟨i, p, rfl, hp⟩ := hget s s0 s1
    obtain ⟨j, q, rfl, hq⟩ := hget t t0 t1
    have := hinj i j p q hp hq fun w hw => by rw [← hb w i p hw hp, ← hb w j q hw hq]; exact he w hw
    omega
  · intro s x hx h1
    rcases Int.lt_or_le s 0 with h2 | h2
    · rw [toD_neg h2] at h1; omega
    · rcases Int.lt_or_le s m with h3 | h3
      · obtain ⟨i, p, rfl, hp⟩ := hget s h2 h3
        rcases hnext i x p hp hx with ⟨h4, _⟩ | ⟨j, t, h4, h5, _, w, hw, h7⟩
        · omega
        · exact ⟨w, hw, by rw [h4, hb w j t hw h5]; exact h7⟩
      · exfalso
        unfold toD at h1
        have e : C.next[s.toNat]? = none := List.getElem?_eq_none (by rw [b.ok.nl]; omega)
        rw [if_neg (by omega)] at h1
        simp [List.getD_eq_getElem?_getD, e] at h1
--END
end Go.Proofs
namespace Go.Proofs
open Go Go.Eng Go.Sort
--BEGIN
theorem nodup_leN : ∀ {l m : List Nat}, l.Nodup → (∀ x ∈ l, x ∈ m) → l.length ≤ m.length
  | [], _, _, _ => Nat.zero_le _
  | x :: l, m, hd, h => by
    have hd' := List.nodup_cons.1 hd
    have hx := h x List.mem_cons_self
    have h1 := nodup_leN (l := l) (m := m.erase x) hd'.2 fun y hy => (List.mem_erase_of_ne (show y ≠ x from fun e => hd'.1 (by rw [← e]; exact hy))).2 (h y (List.mem_cons_of_mem _ hy))
    rw [List.length_erase_of_mem hx] at h1
    have := List.length_pos_of_mem hx
    simp only [List.length_cons]
    omega
/-- States numbered by their keys (none: a state without a key), the numbers in the order of the keys' first place. -/
structure Num (keys : List (Option (List Int))) (ks : List (List Int)) (out : List Int) : Prop where
  len : out.length = keys.length
  nd : ks.Nodup
  non : ∀ (s : Nat), keys[s]? = some none → out[s]? = some (-1)
  som : ∀ (s : Nat) k, keys[s]? = some (some k) → ∃ j : Nat, out[s]? = some ((j : Nat) : Int) ∧ ks[j]? = some k
  all : ∀ k ∈ ks, some k ∈ keys
theorem Num.start : Num [] [] [] := ⟨rfl, List.nodup_nil, fun s h => by simp at h, fun s k h => by simp at h, fun k h => by cases h⟩
theorem snoc_get {α : Type} {l : List α} {a x : α} {i : Nat} (h : (l ++ [a])[i]? = some x) : l[i]? = some x ∨ (i = l.length ∧ x = a) := by
  rcases Nat.lt_or_ge i l.length with h1 | h1
  · left; rwa [List.getElem?_append_left h1] at h
  · right
    rw [List.getElem?_append_right h1] at h
    have h2 := lt_of_get h
    simp at h2
    rw [show i - l.length = 0 by omega] at h
    simp at h
    exact ⟨by omega, h.symm⟩
theorem Num.none {keys : List (Option (List Int))} {ks : List (List Int)} {out : List Int} (h : Num keys ks out) : Num (keys ++ [Option.none]) ks (out ++ [-1]) := by
  refine ⟨by simp [h.len], h.nd, fun s hs => ?_, fun s k hs => ?_, fun k hk => List.mem_append_left _ (h.all k hk)⟩
  · rcases snoc_get hs with h1 | ⟨h1, _⟩
    · have := h.non s h1
      rwa [List.getElem?_append_left (lt_of_get this)]
    · rw [h1, List.getElem?_append_right (by rw [h.len]; exact Nat.le_refl _), h.len, Nat.sub_self]; rfl
  · rcases snoc_get hs with h1 | ⟨_, h2⟩
    · obtain ⟨j, h3, h4⟩ := h.som s k h1
      exact ⟨j, by rw [List.getElem?_append_left (lt_of_get h3)]; exact h3, h4⟩
    · cases h2
theorem Num.new {keys : List (Option (List Int))} {ks : List (List Int)} {out : List Int} {k : List Int} (h : Num keys ks out) (hk : k ∉ ks) : Num (keys ++ [some k]) (ks ++ [k]) (out ++ [((ks.length : Nat) : Int)]) := by
  refine ⟨by simp [h.len], ?_, fun s hs => ?_, fun s q hs => ?_, fun q hq => ?_⟩
  · rw [List.nodup_append]
    exact ⟨h.nd, by simp, fun a ha b hb => by rw [List.mem_singleton] at hb; subst hb; exact fun e => hk (e ▸ ha)⟩
  · rcases snoc_get hs with h1 | ⟨_, h2⟩
    · have := h.non s h1
      rwa [List.getElem?_append_left (lt_of_get this)]
    · cases h2
  · rcases snoc_get hs with h1 | ⟨h1, h2⟩
    · obtain ⟨i, h3, h4⟩ := h.som s q h1
      exact ⟨i, by rw [List.getElem?_append_left (lt_of_get h3)]; exact h3, by rw [List.getElem?_append_left (lt_of_get h4)]; exact h4⟩
    · cases h2
      exact ⟨ks.length, by rw [h1, List.getElem?_append_right (by rw [h.len]; exact Nat.le_refl _), h.len, Nat.sub_self]; rfl, by simp⟩
  · rcases List.mem_append.1 hq with h1 | h1
    · exact List.mem_append_left _ (h.all q h1)
    · rw [List.mem_singleton] at h1; subst h1; simp
theorem Num.eq_iff {keys : List (Option (List Int))} {ks : List (List Int)} {out : List Int} (h : Num keys ks out) {s t : Nat} {k q : List Int} (hs : keys[s]? = some (some k)) (ht : keys[t]? = some (some q)) : out[s]? = out[t]? ↔ k = q := by
  obtain ⟨i, h1, h2⟩ := h.som s k hs
  obtain ⟨j, h3, h4⟩ := h.som t q ht
  rw [h1, h3]
  constructor
  · intro e
    have : i = j := by simp at e; omega
    subst this
    rw [h2] at h4
    exact Option.some.inj h4
  · intro e
    subst e
    have hi := lt_of_get h2
    have hj := lt_of_get h4
    rw [List.getElem?_eq_getElem hi] at h2
    rw [List.getElem?_eq_getElem hj] at h4
    have e2 := (Option.some.inj h2).trans (Option.some.inj h4).symm
    have : i = j := by
      rcases Nat.lt_trichotomy i j with h5 | h5 | h5
      · exact absurd e2 (List.pairwise_iff_getElem.1 h.nd i j hi hj h5)
      · exact h5
      · exact absurd e2.symm (List.pairwise_iff_getElem.1 h.nd j i hj hi h5)
    rw [this]
def ptD (p : List Int) (s : Int) : Int := if s < 0 then -1 else p.getD s.toNat (-1)
theorem ptD_get {p : List Int} {s : Nat} {x : Int} (h : p[s]? = some x) : ptD p ((s : Nat) : Int) = x := by
  unfold ptD
  rw [if_neg (by omega), Int.toNat_natCast, List.getD_eq_getElem?_getD, h, Option.getD_some]
theorem ptD_neg {p : List Int} {s : Int} (h : s < 0) : ptD p s = -1 := by unfold ptD; rw [if_pos h]
/-- A numbering of the states that keeps equivalent ones together and tells results apart. -/
structure Refd (n c : Nat) (d : Dfa) (p : List Int) (cnt : Nat) : Prop where
  len : p.length = n
  dead : ∀ s : Nat, s < n → ¬ liveD c d s → p[s]? = some (-1)
  liv : ∀ s : Nat, s < n → liveD c d s → ∃ j : Nat, p[s]? = some ((j : Nat) : Int) ∧ j < cnt
  onto : ∀ j : Nat, j < cnt → ∃ s : Nat, s < n ∧ liveD c d s ∧ p[s]? = some ((j : Nat) : Int)
  acc : ∀ s t : Nat, s < n → t < n → liveD c d s → liveD c d t → p[s]? = p[t]? → atD d s = atD d t
  eqv : ∀ s t : Nat, s < n → t < n → liveD c d s → liveD c d t → eqvD c d s t → p[s]? = p[t]?
theorem Refd.ptLive {n c cnt : Nat} {d : Dfa} {p : List Int} (h : Refd n c d p cnt) {s : Int} (hs : -1 ≤ s ∧ s < n) : (0 ≤ ptD p s ↔ liveD c d s) ∧ -1 ≤ ptD p s := by
  rcases Int.lt_or_le s 0 with h1 | h1
  · rw [ptD_neg h1]
    exact ⟨⟨fun h => absurd h (by decide), fun h => absurd h (not_live_neg h1)⟩, Int.le_refl _⟩
  · obtain ⟨k, rfl⟩ := Int.eq_ofNat_of_zero_le h1
    by_cases hl : liveD c d ((k : Nat) : Int)
    · obtain ⟨j, h2, _⟩ := h.liv k (by omega) hl
      rw [ptD_get h2]
      exact ⟨⟨fun _ => hl, fun _ => by omega⟩, by omega⟩
    · rw [ptD_get (h.dead k (by omega) hl)]
      exact ⟨⟨fun h => absurd h (by decide), fun h => absurd h hl⟩, Int.le_refl _⟩
theorem Refd.ptEqv {n c cnt : Nat} {d : Dfa} {p : List Int} (h : Refd n c d p cnt) {s t : Int} (hs : -1 ≤ s ∧ s < n) (ht : -1 ≤ t ∧ t < n) (he : eqvD c d s t) : ptD p s = ptD p t := by
  obtain ⟨a1, a2⟩ := h.ptLive hs
  obtain ⟨b1, b2⟩ := h.ptLive ht
  by_cases hl : liveD c d s
  · have hl2 := he.live hl
    have s0 : 0 ≤ s := by rcases Int.lt_or_le s 0 with h1 | h1; exact absurd hl (not_live_neg h1); exact h1
    have t0 : 0 ≤ t := by rcases Int.lt_or_le t 0 with h1 | h1; exact absurd hl2 (not_live_neg h1); exact h1
    obtain ⟨i, rfl⟩ := Int.eq_ofNat_of_zero_le s0
    obtain ⟨j, rfl⟩ := Int.eq_ofNat_of_zero_le t0
    have h3 := h.eqv i j (by omega) (by omega) hl hl2 he
    obtain ⟨a, h4, _⟩ := h.liv i (by omega) hl
    rw [ptD_get h4, ptD_get (h3 ▸ h4)]
  · have hl2 : ¬ liveD c d t := fun h2 => hl (eqvD.live (fun w hw => (he w hw).symm) h2)
    have h3 : ¬ 0 ≤ ptD p s := fun h => hl (a1.1 h)
    have h4 : ¬ 0 ≤ ptD p t := fun h => hl2 (b1.1 h)
    omega
/-- The keys of the next numbering. -/
def nextKey (c : Nat) (d : Dfa) (p : List Int) (s : Nat) : List Int := ptD p s :: (List.range c).map fun x => ptD p (toD d s x)
theorem nextKey_eq {c : Nat} {d : Dfa} {p : List Int} {s t : Nat} : nextKey c d p s = nextKey c d p t ↔ ptD p s = ptD p t ∧ ∀ x, x < c → ptD p (toD d s x) = ptD p (toD d t x) := by
  unfold nextKey
  rw [List.cons.injEq]
  constructor
  · rintro ⟨h1, h2⟩
    refine ⟨h1, fun x hx => ?_⟩
    have := congrArg (fun l => l[x]?) h2
    simpa [hx] using this
  · rintro ⟨h1, h2⟩
    exact ⟨h1, List.map_congr_left fun x hx => h2 x (List.mem_range.1 hx)⟩
/-- What a numbering by keys is, if the keys are those of results or of an older numbering. -/
theorem Refd.of_num {n c : Nat} {d : Dfa} {keys : List (Option (List Int))} {ks : List (List Int)} {q : List Int} (hN : Num keys ks q) (hl : keys.length = n) (hd : ∀ s : Nat, s < n → ¬ liveD c d s → keys[s]? = some none) {key : Nat → List Int} (hk : ∀ s : Nat, s < n → liveD c d s → keys[s]? = some (some (key s)))
    (ha : ∀ s t : Nat, s < n → t < n → liveD c d s → liveD c d t → key s = key t → atD d s = atD d t) (he : ∀ s t : Nat, s < n → t < n → liveD c d s → liveD c d t → eqvD c d s t → key s = key t) : Refd n c d q ks.length := by
  refine ⟨by rw [hN.len, hl], fun s hs h => hN.non s (hd s hs h), fun s hs h => ?_, fun j hj => ?_, fun s t hs ht l1 l2 h => ?_, fun s t hs ht l1 l2 h => ?_⟩
  · obtain ⟨j, h1, h2⟩ := hN.som s _ (hk s hs h)
    exact ⟨j, h1, lt_of_get h2⟩
  · obtain ⟨k, hk'⟩ := get_of_lt hj
    obtain ⟨s, hs⟩ := List.getElem?_of_mem (hN.all k (List.mem_of_getElem? hk'))
    have hsn : s < n := by rw [← hl]; exact lt_of_get hs
    have hlv : liveD c d s := Classical.byContradiction fun h => by rw [hd s hsn h] at hs; cases hs
    obtain ⟨i, h1, h2⟩ := hN.som s k hs
    refine ⟨s, hsn, hlv, ?_⟩
    have hi := lt_of_get h2
    rw [List.getElem?_eq_getElem hi] at h2
    rw [List.getElem?_eq_getElem hj] at hk'
    have e2 := (Option.some.inj h2).trans (Option.some.inj hk').symm
    have : i = j := by
      rcases Nat.lt_trichotomy i j with h5 | h5 | h5
      · exact absurd e2 (List.pairwise_iff_getElem.1 hN.nd i j hi hj h5)
      · exact h5
      · exact absurd e2.symm (List.pairwise_iff_getElem.1 hN.nd j i hj hi h5)
    rw [← this]; exact h1
  · exact ha s t hs ht l1 l2 ((hN.eq_iff (hk s hs l1) (hk t ht l2)).1 h)
  · exact (hN.eq_iff (hk s hs l1) (hk t ht l2)).2 (he s t hs ht l1 l2 h)
structure PartsOf (n c : Nat) (d : Dfa) (q : List Int) : Prop where
  len : q.length = n
  live : ∀ s : Int, -1 ≤ s ∧ s < n → (0 ≤ ptD q s ↔ liveD c d s) ∧ -1 ≤ ptD q s ∧ ptD q s < n
  iff : ∀ s t : Int, -1 ≤ s ∧ s < n → -1 ≤ t ∧ t < n → (ptD q s = ptD q t ↔ eqvD c d s t)
/-- If a finer numbering has no more numbers, it has none that are new. -/
theorem Refd.same {n c cnt : Nat} {d : Dfa} {p q : List Int} (hp : Refd n c d p cnt) (hq : Refd n c d q cnt) (hf : ∀ s t : Nat, s < n → t < n → liveD c d s → liveD c d t → q[s]? = q[t]? → p[s]? = p[t]?) :
    ∀ s t : Nat, s < n → t < n → liveD c d s → liveD c d t → p[s]? = p[t]? → q[s]? = q[t]? := by
  intro s t hs ht l1 l2 hpp
  apply Classical.byContradiction
  intro hne
  obtain ⟨a, ha, hac⟩ := hq.liv s hs l1
  obtain ⟨b, hb, hbc⟩ := hq.liv t ht l2
  have hab : a ≠ b := fun e => hne (by rw [ha, hb, e])
  -- each number of q other than b goes to a number of p; all are met
  have hmap : ∀ j : Nat, ∃ i : Nat, j < cnt → (i < cnt ∧ ∀ u : Nat, u < n → liveD c d u → q[u]? = some ((j : Nat) : Int) → p[u]? = some ((i : Nat) : Int)) := by
    intro j
    by_cases hj : j < cnt
    · obtain ⟨u, hu, lu, hqu⟩ := hq.onto j hj
      obtain ⟨i, hi, hic⟩ := hp.liv u hu lu
      refine ⟨i, fun _ => ⟨hic, fun v hv lv hqv => ?_⟩⟩
      rw [← hf u v hu hv lu lv (by rw [hqu, hqv])]; exact hi
    · exact ⟨0, fun h => absurd h hj⟩
  obtain ⟨f, hfm⟩ := Classical.axiomOfChoice hmap
  have hle := nodup_leN (l := List.range cnt) (m := ((List.range cnt).erase b).map f) List.nodup_range fun i hi => by
    rw [List.mem_range] at hi
    obtain ⟨u, hu, lu, hpu⟩ := hp.onto i hi
    obtain ⟨j, hj, hjc⟩ := hq.liv u hu lu
    have h1 := (hfm j hjc).2 u hu lu hj
    rw [hpu] at h1
    have hji : f j = i := by simp at h1; omega
    by_cases hjb : j = b
    · -- then a serves
      subst hjb
      have h2 := (hfm a hac).2 s hs l1 ha
      have h3 := (hfm j hjc).2 t ht l2 hb
      have h4 : f a = f j := by rw [hpp, h3] at h2; simp at h2; omega
      refine List.mem_map.2 ⟨a, (List.mem_erase_of_ne hab).2 (List.mem_range.2 hac), by rw [h4, hji]⟩
    · exact List.mem_map.2 ⟨j, (List.mem_erase_of_ne hjb).2 (List.mem_range.2 hjc), hji⟩
  rw [List.length_map, List.length_erase_of_mem (List.mem_range.2 hbc), List.length_range] at hle
  omega
end Go.Proofs
namespace Go.Proofs
open Go Go.Eng Go.Sort
--BEGIN
structure IntoP (n c : Nat) (d : Dfa) (into : List (List Int)) (s k : Nat) : Prop where
  len : into.length = n
  snd : ∀ (t : Nat) l, into[t]? = some l → ∀ x ∈ l, 0 ≤ x ∧ x < n ∧ ∃ y, y < c ∧ toD d x y = ((t : Nat) : Int)
  cmp : ∀ s' y : Nat, y < c → (s' < s ∨ (s' = s ∧ y < k)) → 0 ≤ toD d ((s' : Nat) : Int) y → ∃ l, into[(toD d ((s' : Nat) : Int) y).toNat]? = some l ∧ ((s' : Nat) : Int) ∈ l
  sht : ∀ l ∈ into, l.length ≤ s * c + k
theorem IntoP.start (n c : Nat) (d : Dfa) : IntoP n c d (List.replicate n []) 0 0 := by
  have hv : ∀ (t : Nat) l, (List.replicate n ([] : List Int))[t]? = some l → l = [] := fun t l h => (List.mem_replicate.1 (List.mem_of_getElem? h)).2
  exact ⟨by simp, fun t l h x hx => (by rw [hv t l h] at hx; cases hx), fun s' y _ h => by omega, fun l hl => by rw [(List.mem_replicate.1 hl).2]; exact Nat.zero_le _⟩
theorem IntoP.row {n c s k : Nat} {d : Dfa} {into : List (List Int)} (h : IntoP n c d into s k) (hk : k = c) : IntoP n c d into (s + 1) 0 := by
  subst hk
  exact ⟨h.len, h.snd, fun s' y hy h1 h2 => h.cmp s' y hy (by omega) h2, fun l hl => by have := h.sht l hl; rw [Nat.add_mul]; omega⟩
theorem IntoP.skip {n c s k : Nat} {d : Dfa} {into : List (List Int)} (h : IntoP n c d into s k) (ht : toD d ((s : Nat) : Int) k < 0) : IntoP n c d into s (k + 1) := by
  refine ⟨h.len, h.snd, fun s' y hy h1 h2 => ?_, fun l hl => by have := h.sht l hl; omega⟩
  by_cases he : s' = s ∧ y = k
  · obtain ⟨rfl, rfl⟩ := he; omega
  · exact h.cmp s' y hy (by omega) h2
theorem IntoP.add {n c s k t : Nat} {d : Dfa} {into : List (List Int)} {l : List Int} (h : IntoP n c d into s k) (hs : s < n) (hk : k < c) (ht : toD d ((s : Nat) : Int) k = ((t : Nat) : Int)) (hl : into[t]? = some l) : IntoP n c d (into.set t (l ++ [((s : Nat) : Int)])) s (k + 1) := by
  have htl := lt_of_get hl
  have hset : ∀ (i : Nat) q, (into.set t (l ++ [((s : Nat) : Int)]))[i]? = some q → (i = t ∧ q = l ++ [((s : Nat) : Int)]) ∨ (i ≠ t ∧ into[i]? = some q) := by
    intro i q hq
    rw [List.getElem?_set] at hq
    split at hq
    · rename_i he
      exact .inl ⟨he.symm, (Option.some.inj hq).symm⟩
    · rename_i he
      exact .inr ⟨fun e => he e.symm, hq⟩
  refine ⟨by simp [h.len], fun i q hq x hx => ?_, fun s' y hy h1 h2 => ?_, fun q hq => ?_⟩
  · rcases hset i q hq with ⟨rfl, rfl⟩ | ⟨_, h3⟩
    · rcases List.mem_append.1 hx with h4 | h4
      · exact h.snd i l hl x h4
      · rw [List.mem_singleton] at h4
        subst h4
        exact ⟨by omega, by omega, k, hk, ht⟩
    · exact h.snd i q h3 x hx
  · have hold : (∃ q, into[(toD d ((s' : Nat) : Int) y).toNat]? = some q ∧ ((s' : Nat) : Int) ∈ q) → ∃ q, (into.set t (l ++ [((s : Nat) : Int)]))[(toD d ((s' : Nat) : Int) y).toNat]? = some q ∧ ((s' : Nat) : Int) ∈ q := by
      rintro ⟨q, h3, h4⟩
      by_cases he : (toD d ((s' : Nat) : Int) y).toNat = t
      · rw [he] at h3 ⊢
        rw [hl] at h3; cases h3
        exact ⟨_, by rw [List.getElem?_set, if_pos rfl, if_pos htl], List.mem_append_left _ h4⟩
      · exact ⟨q, by rw [List.getElem?_set, if_neg (fun e => he e.symm)]; exact h3, h4⟩
    by_cases he : s' = s ∧ y = k
    · obtain ⟨rfl, rfl⟩ := he
      rw [ht, Int.toNat_natCast]
      exact ⟨_, by rw [List.getElem?_set, if_pos rfl, if_pos htl], by simp⟩
    · exact hold (h.cmp s' y hy (by omega) h2)
  · obtain ⟨i, hi⟩ := List.getElem?_of_mem hq
    rcases hset i q hi with ⟨_, rfl⟩ | ⟨_, h3⟩
    · have := h.sht l (List.mem_of_getElem? hl)
      simp; omega
    · have := h.sht q (List.mem_of_getElem? h3); omega
/-- What is marked and what is still to be done. -/
structure LiveP (n c : Nat) (d : Dfa) (M : List Bool) (work : List Int) (k : Nat) : Prop where
  len : M.length = n
  wrk : ∀ x ∈ work, ∃ i : Nat, x = ((i : Nat) : Int) ∧ M[i]? = some true
  snd : ∀ i : Nat, M[i]? = some true → liveD c d ((i : Nat) : Int)
  acc : ∀ i : Nat, i < k → 0 ≤ atD d ((i : Nat) : Int) → M[i]? = some true
  cnt : work.length + M.countP (fun b => !b) ≤ n
theorem LiveP.start (n c : Nat) (d : Dfa) : LiveP n c d (List.replicate n false) [] 0 := by
  refine ⟨by simp, fun x h => (by cases h), fun i h => ?_, fun i h => by omega, ?_⟩
  · have := (List.mem_replicate.1 (List.mem_of_getElem? h)).2; cases this
  · simp [List.countP_replicate]
theorem count_set {M : List Bool} {i : Nat} (h : M[i]? = some false) : (M.set i true).countP (fun b => !b) + 1 = M.countP fun b => !b := by
  have hi := lt_of_get h
  have e : M = M.take i ++ false :: M.drop (i + 1) := by
    have h1 : M.drop i = false :: M.drop (i + 1) := by
      rw [List.drop_eq_getElem_cons hi]; rw [List.getElem?_eq_getElem hi] at h; rw [Option.some.inj h]
    rw [← h1, List.take_append_drop]
  have e2 : M.set i true = M.take i ++ true :: M.drop (i + 1) := by rw [List.set_eq_take_append_cons_drop, if_pos hi]
  rw [e2]
  conv => rhs; rw [e]
  rw [List.countP_append, List.countP_append, List.countP_cons, List.countP_cons]
  simp
  omega
theorem LiveP.next {n c k : Nat} {d : Dfa} {M : List Bool} {work : List Int} (h : LiveP n c d M work k) (ha : 0 ≤ atD d ((k : Nat) : Int) → M[k]? = some true) : LiveP n c d M work (k + 1) :=
  ⟨h.len, h.wrk, h.snd, fun i hi h1 => by rcases Nat.lt_or_ge i k with h2 | h2; exact h.acc i h2 h1; obtain rfl : i = k := (by omega); exact ha h1, h.cnt⟩
/-- All that leads to what is marked is marked, but for what is still to be done. -/
def ClosP (into : List (List Int)) (M : List Bool) (work : List Int) : Prop := ∀ t : Nat, M[t]? = some true → ((t : Nat) : Int) ∈ work ∨ ∀ l, into[t]? = some l → ∀ x ∈ l, M[x.toNat]? = some true
/-- The same while the lists of one state are gone through: its first k are marked. -/
def ClosQ (into : List (List Int)) (M : List Bool) (work : List Int) (u : Nat) (lu : List Int) (k : Nat) : Prop :=
  (∀ t : Nat, M[t]? = some true → t ≠ u → ((t : Nat) : Int) ∈ work ∨ ∀ l, into[t]? = some l → ∀ x ∈ l, M[x.toNat]? = some true) ∧ ∀ x ∈ lu.take k, M[x.toNat]? = some true
theorem ClosP.open {into : List (List Int)} {M : List Bool} {work : List Int} {u : Nat} (h : ClosP into M (work ++ [((u : Nat) : Int)])) (lu : List Int) : ClosQ into M work u lu 0 := by
  refine ⟨fun t ht hne => ?_, fun x hx => by simp at hx⟩
  rcases h t ht with h1 | h1
  · rcases List.mem_append.1 h1 with h2 | h2
    · exact .inl h2
    · rw [List.mem_singleton] at h2; omega
  · exact .inr h1
theorem ClosQ.seen {into : List (List Int)} {M : List Bool} {work : List Int} {u k : Nat} {lu : List Int} {x : Int} (h : ClosQ into M work u lu k) (hx : lu[k]? = some x) (hM : M[x.toNat]? = some true) : ClosQ into M work u lu (k + 1) := by
  refine ⟨h.1, fun y hy => ?_⟩
  rw [List.take_add_one, hx] at hy
  rcases List.mem_append.1 hy with h1 | h1
  · exact h.2 y h1
  · simp at h1; subst h1; exact hM
theorem ClosQ.done {into : List (List Int)} {M : List Bool} {work : List Int} {u k : Nat} {lu : List Int} (h : ClosQ into M work u lu k) (hl : into[u]? = some lu) (hk : k = lu.length) : ClosP into M work := by
  intro t ht
  by_cases he : t = u
  · subst he
    right
    intro l hl2 x hx
    rw [hl] at hl2
    cases hl2
    exact h.2 x (by rw [hk, List.take_length]; exact hx)
  · exact h.1 t ht he
structure LiveOf (n c : Nat) (d : Dfa) (M : List Bool) : Prop where
  len : M.length = n
  iff : ∀ s : Nat, s < n → (M[s]? = some true ↔ liveD c d ((s : Nat) : Int))
end Go.Proofs
namespace Go.Proofs
open Go Go.Eng
set_option maxRecDepth 100000
theorem errs_idx_c (w0 : World) (v fv : Value) (l : List (Int)) (p : Int → Bool) (hs : IntsAt w0 v l) (hf : ∀ (w : World) (x : Int), Ext w0 w → x ∈ l → CallV Try.prog fv #[.int .i64 x] w fun r w' => r = .bool (p x) ∧ Ext w w') :
    Ret Try.prog 91 #[v, fv] w0 fun r w => r = .int .i64 (idx p l) ∧ Ext w0 w := by
  obtain ⟨a, c, rfl⟩ := SlAt.form hs
  have hlen : l.length ≤ 9223372036854775807 := by simpa using SlAt.le hs
  simp only [List.length_map] at hs ⊢
  refine Ret_of Try.func91 rfl Try.ntmps91 (Nat.le_of_ble_eq_true rfl) ?_
  have E : Chg none1 w0 w0 := Chg.refl _ _
  refine Wp_seq_region ?_
  refine WpL_val rfl rfl (by decide) (r_assign (v := (.int .i64 0)) rfl) ?_
  refine WpL_nil ?_
  refine Wp_seq ?_
  refine Wp_seq_region ?_
  refine WpL_val rfl rfl (by decide) (r_move (v := (.slice a l.length c)) rfl) ?_
  refine WpL_val rfl rfl (by decide) (r_lenSlice (ad := a) (n := l.length) (cap := c) Try.underlying85 rfl) ?_
  refine WpL_val rfl rfl (by decide) (r_move (v := (.int .i64 0)) rfl) ?_
  refine WpL_nil ?_
  refine Wp_block ?_
  refine Wp_loop (fun nn_ σ W1 => ∃ (k : Nat), (∃ jj_, σ = upds jj_ [(0, (.slice a l.length c)), (1, fv), (7, (.int .i64 ((l.length : Nat) : Int))), (8, (.int .i64 ((k : Nat) : Int)))]) ∧ Chg none1 w0 W1 ∧ (k ≤ l.length) ∧ (∀ (i : Nat) (y : Int), i < k → l[i]? = some y → p y = false) ∧ nn_ = l.length - k) (n := l.length - 0) ?_ ?_
  · exact ⟨0, Fits.out ⟨rfl, rfl, rfl, rfl, trivial⟩, E, Nat.zero_le _, (fun i y h => absurd h (Nat.not_lt_zero _)), rfl⟩
  · clear E
    rintro _ _ W1 ⟨k, ⟨j1, rfl⟩, E, hk, hno, rfl⟩
    refine Wp_seq_region ?_
    refine WpL_val rfl rfl (by decide) (r_lss (k := .i64) (a := ((k : Nat) : Int)) (b := ((l.length : Nat) : Int)) rfl rfl) ?_
    refine WpL_nil ?_
    refine Wp_seq ?_
    refine Wp_cond (b := decide ((((k : Nat) : Int) : Int) < ((l.length : Nat) : Int))) rfl (fun hlt => ?_) (fun hlt => ?_)
    · have khlt := hlt
      replace hlt := of_decide_eq_true hlt
      obtain ⟨x, hx⟩ := get_of_lt (l := l) (i := k) (by omega)
      obtain ⟨b, o, rfl, hcells⟩ := ints_cells hs (by omega)
      refine Wp_skip ?_
      refine thn_normal ?_
      refine Wp_seq ?_
      refine Wp_block ?_
      refine Wp_seq_region ?_
      refine WpL_val rfl rfl (by decide) (r_move (v := (.int .i64 ((k : Nat) : Int))) rfl) ?_
      refine WpL_val rfl rfl (by decide) (r_assign (v := (.int .i64 ((k : Nat) : Int))) rfl) ?_
      refine WpL_nil ?_
      refine Wp_seq_region ?_
      refine WpL_val rfl rfl (by decide) (r_move (v := fv) rfl) ?_
      refine WpL_val rfl rfl (by decide) (r_move (v := (.slice (some ⟨b, o, none⟩) l.length c)) rfl) ?_
      refine WpL_val rfl rfl (by decide) (r_move (v := (.int .i64 ((k : Nat) : Int))) rfl) ?_
      refine WpL_val rfl rfl (by decide) (r_indexSlice (b := b) (o := o) (len := l.length) (cap := c) (i := k) (o' := o + k) rfl rfl rfl Try.underlying85 siz26 (by omega) (by omega)) ?_
      refine WpL_val rfl rfl (by decide) (r_load (v := (.int .i64 x)) rfl flat26 (E.cell (fun f => f) (hcells k x hx))) ?_
      refine WpL_callV (fv := fv) (vs := [(.int .i64 x)]) (by decide) rfl rfl (hf _ x E (List.mem_of_getElem? hx)) ?_
      rintro _ w9 ⟨rfl, X9⟩
      replace E := E.ext X9
      refine WpL_nil ?_
      refine Wp_cond (b := p x) rfl (fun hp => ?_) (fun hp => ?_)
      · have khp := hp
        refine Wp_seq_region ?_
        refine WpL_val rfl rfl (by decide) (r_move (v := (.int .i64 ((k : Nat) : Int))) rfl) ?_
        refine WpL_val rfl rfl (by decide) (r_assign (v := (.int .i64 ((k : Nat) : Int))) rfl) ?_
        refine WpL_nil ?_
        refine Wp_ret ?_
        refine inB_ret ?_
        refine thn_ret ?_
        refine thn_ret ?_
        refine inB_ret ?_
        refine thn_ret ?_
        refine fin_tmp Try.results91 (v := (.int .i64 ((k : Nat) : Int))) rfl ?_
        exact ⟨int_eq (idx_hit hx hp hno).symm, E⟩
      · have khp := hp
        refine Wp_skip ?_
        refine inB_normal ?_
        refine thn_normal ?_
        refine Wp_region ?_
        refine WpL_val rfl rfl (by decide) (r_add (k := .i64) (a := ((k : Nat) : Int)) (b := 1) (c := ((k : Nat) : Int) + 1) rfl rfl (wI64 (by omega))) ?_
        refine WpL_val rfl rfl (by decide) (r_move (v := (.int .i64 (((k : Nat) : Int) + 1))) rfl) ?_
        refine WpL_nil ?_
        refine thn_normal ?_
        exact ⟨l.length - (k + 1), by omega, k + 1, Fits.out ⟨rfl, rfl, rfl, rfl, trivial⟩, E, (by omega), below_next hx hp hno, rfl⟩
    · have khlt := hlt
      replace hlt := of_decide_eq_false hlt
      have hkk : k = l.length := by omega
      refine Wp_exit ?_
      refine thn_exit ?_
      refine thn_exit ?_
      refine inB_here ?_
      refine thn_normal ?_
      refine Wp_seq_region ?_
      refine WpL_val rfl rfl (by decide) (r_assign (v := (.int .i64 (-1))) rfl) ?_
      refine WpL_nil ?_
      refine Wp_ret ?_
      refine fin_tmp Try.results91 (v := (.int .i64 (-1))) rfl ?_
      exact ⟨int_eq (idx_miss fun i y hy => hno i y (by have := lt_of_get hy; omega) hy).symm, E⟩
theorem errs_has_c (w0 : World) (v fv : Value) (l : List (Int)) (p : Int → Bool) (hs : IntsAt w0 v l) (hf : ∀ (w : World) (x : Int), Ext w0 w → x ∈ l → CallV Try.prog fv #[.int .i64 x] w fun r w' => r = .bool (p x) ∧ Ext w w') :
    Ret Try.prog 60 #[v, fv] w0 fun r w => r = .bool (l.any p) ∧ Ext w0 w := by
  refine Ret_of Try.func60 rfl Try.ntmps60 (Nat.le_of_ble_eq_true rfl) ?_
  have E : Chg none1 w0 w0 := Chg.refl _ _
  refine Wp_seq_region ?_
  refine WpL_val rfl rfl (by decide) (r_assign (v := (.bool false)) rfl) ?_
  refine WpL_nil ?_
  refine Wp_seq_region ?_
  refine WpL_val rfl rfl (by decide) (r_move (v := v) rfl) ?_
  refine WpL_val rfl rfl (by decide) (r_move (v := fv) rfl) ?_
  refine WpL_enter rfl rfl (by decide) (r_callF (vs := [v, fv]) Try.func91 nm91 bd91 rfl) (errs_idx_c _ v fv l p hs hf) ?_
  rintro _ w9 ⟨rfl, X9⟩
  replace E := E.ext X9
  refine WpL_val rfl rfl (by decide) (r_geq (k := .i64) (a := idx p l) (b := 0) rfl rfl) ?_
  refine WpL_val rfl rfl (by decide) (r_assign (v := (.bool (decide ((0 : Int) ≤ idx p l)))) rfl) ?_
  refine WpL_nil ?_
  refine Wp_ret ?_
  refine fin_tmp Try.results60 (v := (.bool (decide ((0 : Int) ≤ idx p l)))) rfl ?_
  exact ⟨bool_eq (idx_any p l), E⟩
theorem good1_c (e : Int) (w0 : World) : Ret Try.prog 61 #[.int .i64 e] w0 fun u w => u = .bool (decide (e ≠ 0)) ∧ Ext w0 w := by
  refine Ret_of Try.func61 rfl Try.ntmps61 (Nat.le_of_ble_eq_true rfl) ?_
  have E : Chg none1 w0 w0 := Chg.refl _ _
  refine Wp_seq_region ?_
  refine WpL_val rfl rfl (by decide) (r_assign (v := (.bool false)) rfl) ?_
  refine WpL_nil ?_
  refine Wp_seq_region ?_
  refine WpL_val rfl rfl (by decide) (r_move (v := (.int .i64 e)) rfl) ?_
  refine WpL_val rfl rfl (by decide) (r_neq (k := .i64) (a := e) (b := 0) rfl rfl) ?_
  refine WpL_val rfl rfl (by decide) (r_assign (v := (.bool (decide ((e : Int) ≠ 0)))) rfl) ?_
  refine WpL_nil ?_
  refine Wp_ret ?_
  refine fin_tmp Try.results61 (v := (.bool (decide ((e : Int) ≠ 0)))) rfl ?_
  exact ⟨rfl, E⟩
theorem good_c (w0 : World) (v : Value) (l : List Int) (hs : IntsAt w0 v l) :
    Ret Try.prog 24 #[v] w0 fun u w => u = .bool (!(l.any fun e => decide (e ≠ 0))) ∧ Ext w0 w := by
  refine Ret_of Try.func24 rfl Try.ntmps24 (Nat.le_of_ble_eq_true rfl) ?_
  have E : Chg none1 w0 w0 := Chg.refl _ _
  refine Wp_seq_region ?_
  refine WpL_val rfl rfl (by decide) (r_assign (v := (.bool false)) rfl) ?_
  refine WpL_nil ?_
  refine Wp_seq_region ?_
  refine WpL_val rfl rfl (by decide) (r_move (v := v) rfl) ?_
  refine WpL_enter rfl rfl (by decide) (r_callF (vs := [v, (.func (.func 61) #[] #[])]) Try.func60 nm60 bd60 rfl) (errs_has_c _ v _ l (fun e => decide (e ≠ 0)) hs (fun w x hE _ => CallV.mk (first := #[]) (cap := #[]) Try.func61 nm61 bd61 rfl (good1_c x w))) ?_
  rintro _ w9 ⟨rfl, X9⟩
  replace E := E.ext X9
  refine WpL_val rfl rfl (by decide) (r_not (b := (l.any fun e => decide (e ≠ 0))) rfl) ?_
  refine WpL_val rfl rfl (by decide) (r_assign (v := (.bool (!(l.any fun e => decide (e ≠ 0))))) rfl) ?_
  refine WpL_nil ?_
  refine Wp_ret ?_
  refine fin_tmp Try.results24 (v := (.bool (!(l.any fun e => decide (e ≠ 0))))) rfl ?_
  exact ⟨rfl, E⟩
end Go.Proofs
namespace Go.Proofs
open Go Go.Eng
set_option maxRecDepth 100000
abbrev Sp := Int × Int
def vSp (s : Sp) : Prop := 0 ≤ s.1 ∧ s.1 ≤ s.2 ∧ s.2 ≤ 1114111
structure Canon (l : List Sp) : Prop where
  ok : ∀ s ∈ l, vSp s
  gap : l.Pairwise fun s t => s.2 + 2 ≤ t.1
theorem inS_iff {l : List Sp} {r : Int} : inS l r = true ↔ ∃ s ∈ l, s.1 ≤ r ∧ r ≤ s.2 := by
  unfold inS
  simp [List.any_eq_true]
theorem inS_cons (s : Sp) (l : List Sp) (r : Int) : inS (s :: l) r = ((decide (s.1 ≤ r) && decide (r ≤ s.2)) || inS l r) := rfl
theorem inS_append (a b : List Sp) (r : Int) : inS (a ++ b) r = (inS a r || inS b r) := by
  unfold inS; rw [List.any_append]
theorem inS_nil (r : Int) : inS [] r = false := rfl
theorem inS_perm {a b : List Sp} (h : a.Perm b) (r : Int) : inS a r = inS b r := by
  rw [Bool.eq_iff_iff, inS_iff, inS_iff]
  exact ⟨fun ⟨s, hs, q⟩ => ⟨s, h.mem_iff.1 hs, q⟩, fun ⟨s, hs, q⟩ => ⟨s, h.mem_iff.2 hs, q⟩⟩
theorem Canon.nil : Canon [] := ⟨fun _ h => (by cases h), List.Pairwise.nil⟩
theorem Canon.one {s : Sp} (h : vSp s) : Canon [s] := ⟨fun t ht => by rw [List.mem_singleton] at ht; subst ht; exact h, List.pairwise_singleton _ _⟩
theorem Canon.tail {s : Sp} {l : List Sp} (h : Canon (s :: l)) : Canon l := ⟨fun t ht => h.ok t (List.mem_cons_of_mem _ ht), (List.pairwise_cons.1 h.gap).2⟩
theorem Canon.head {s : Sp} {l : List Sp} (h : Canon (s :: l)) : vSp s := h.ok s List.mem_cons_self
theorem Canon.cons {s : Sp} {l : List Sp} (h1 : vSp s) (h2 : ∀ t ∈ l, s.2 + 2 ≤ t.1) (h3 : Canon l) : Canon (s :: l) :=
  ⟨fun t ht => by rcases List.mem_cons.1 ht with rfl | ht; exact h1; exact h3.ok t ht, List.pairwise_cons.2 ⟨h2, h3.gap⟩⟩
def jstep (out : List Sp) (s : Sp) : List Sp := match out.getLast? with
  | some c => if s.1 ≤ c.2 + 1 then out.dropLast ++ [(c.1, max c.2 s.2)] else out ++ [s]
  | none => [s]
def joinF (l : List Sp) : List Sp := l.foldl jstep []
theorem jstep_snoc (o : List Sp) (c s : Sp) : jstep (o ++ [c]) s = if s.1 ≤ c.2 + 1 then o ++ [(c.1, max c.2 s.2)] else o ++ [c] ++ [s] := by
  unfold jstep; simp
theorem jstep_nil (s : Sp) : jstep [] s = [s] := rfl
structure JInv (out l : List Sp) (m : Int) : Prop where
  can : Canon out
  low : ∀ s ∈ out, s.1 ≤ m
  mem : ∀ r, inS out r = inS l r
  len : out.length ≤ l.length
theorem snoc_cases {α : Type} (l : List α) : l = [] ∨ ∃ o c, l = o ++ [c] := by
  rcases List.eq_nil_or_concat l with h | ⟨o, c, h⟩
  · exact .inl h
  · exact .inr ⟨o, c, by simpa using h⟩
theorem canon_snoc {o : List Sp} {c : Sp} : Canon (o ++ [c]) ↔ Canon o ∧ vSp c ∧ ∀ t ∈ o, t.2 + 2 ≤ c.1 := by
  constructor
  · intro h
    have h1 := List.pairwise_append.1 h.gap
    exact ⟨⟨fun t ht => h.ok t (by simp [ht]), h1.1⟩, h.ok c (by simp), fun t ht => h1.2.2 t ht c (by simp)⟩
  · rintro ⟨h1, h2, h3⟩
    refine ⟨fun t ht => ?_, List.pairwise_append.2 ⟨h1.gap, List.pairwise_singleton _ _, fun t ht u hu => ?_⟩⟩
    · rcases List.mem_append.1 ht with ht | ht
      · exact h1.ok t ht
      · rw [List.mem_singleton] at ht; subst ht; exact h2
    · rw [List.mem_singleton] at hu; subst hu; exact h3 t ht
theorem jstep_inv {out l : List Sp} {m : Int} {s : Sp} (h : JInv out l m) (hs : vSp s) (hm : m ≤ s.1) : JInv (jstep out s) (l ++ [s]) s.1 := by
  rcases snoc_cases out with rfl | ⟨o, c, rfl⟩
  · rw [jstep_nil]
    refine ⟨Canon.one hs, fun t ht => by rw [List.mem_singleton] at ht; subst ht; exact Int.le_refl _, fun r => ?_, by simp⟩
    rw [inS_append, ← h.mem r]; rfl
  · obtain ⟨h1, h2, h3⟩ := canon_snoc.1 h.can
    have hc := h.low c (by simp)
    unfold vSp at h2 hs
    rw [jstep_snoc]
    split
    · rename_i h4
      have hmx : max c.2 s.2 = c.2 ∨ max c.2 s.2 = s.2 := by omega
      have hge : c.2 ≤ max c.2 s.2 ∧ s.2 ≤ max c.2 s.2 := by omega
      refine ⟨canon_snoc.2 ⟨h1, ⟨h2.1, by simp only; omega, by simp only; omega⟩, h3⟩, fun t ht => ?_, fun r => ?_, ?_⟩
      · rcases List.mem_append.1 ht with ht | ht
        · have := h.low t (by simp [ht]); omega
        · rw [List.mem_singleton] at ht; subst ht; simp only; omega
      · have hr := h.mem r
        rw [inS_append] at hr
        rw [inS_append, inS_append, ← hr]
        have e : inS [(c.1, max c.2 s.2)] r = (inS [c] r || inS [s] r) := by
          rw [Bool.eq_iff_iff]
          simp only [inS_cons, inS_nil, Bool.or_false, Bool.or_eq_true, Bool.and_eq_true, decide_eq_true_eq]
          constructor
          · intro ⟨q1, q2⟩; omega
          · rintro (⟨q1, q2⟩ | ⟨q1, q2⟩) <;> omega
        rw [e, Bool.or_assoc]
      · have := h.len; simp at this ⊢; omega
    · rename_i h4
      refine ⟨canon_snoc.2 ⟨h.can, hs, fun t ht => ?_⟩, fun t ht => ?_, fun r => ?_, ?_⟩
      · rcases List.mem_append.1 ht with ht | ht
        · have := h3 t ht; omega
        · rw [List.mem_singleton] at ht; subst ht; omega
      · rcases List.mem_append.1 ht with ht | ht
        · have := h.low t ht; omega
        · rw [List.mem_singleton] at ht; subst ht; exact Int.le_refl _
      · rw [inS_append _ [s], inS_append l, h.mem r]
      · have := h.len; simp at this ⊢; omega
theorem foldl_inv : ∀ (r : List Sp) {out l : List Sp} {m : Int}, JInv out l m → (∀ s ∈ r, vSp s ∧ m ≤ s.1) → r.Pairwise (fun s t => s.1 ≤ t.1) → ∃ m', JInv (r.foldl jstep out) (l ++ r) m'
  | [], out, l, m, h, _, _ => ⟨m, by simpa using h⟩
  | s :: r, out, l, m, h, hv, hp => by
    have h1 := hv s List.mem_cons_self
    have h2 := List.pairwise_cons.1 hp
    obtain ⟨m', h3⟩ := foldl_inv r (jstep_inv h h1.1 h1.2) (fun t ht => ⟨(hv t (List.mem_cons_of_mem _ ht)).1, h2.1 t ht⟩) h2.2
    exact ⟨m', by simpa using h3⟩
theorem joinF_all {l : List Sp} (hv : ∀ s ∈ l, vSp s) (hp : l.Pairwise (fun s t => s.1 ≤ t.1)) : Canon (joinF l) ∧ (∀ r, inS (joinF l) r = inS l r) ∧ (joinF l).length ≤ l.length := by
  obtain ⟨m, h⟩ := foldl_inv l (out := []) (l := []) (m := 0) ⟨Canon.nil, fun _ h => by (cases h), fun _ => rfl, Nat.le_refl _⟩ (fun s hs => ⟨hv s hs, (hv s hs).1⟩) hp
  exact ⟨h.can, h.mem, h.len⟩
/-- What joining makes of a list, in whatever order the spans come: by sorting. -/
def JoinOf (l out : List Sp) : Prop := ∃ l', l'.Perm l ∧ l'.Pairwise (fun s t => s.1 ≤ t.1) ∧ out = joinF l'
theorem JoinOf.all {l out : List Sp} (h : JoinOf l out) (hv : ∀ s ∈ l, vSp s) : Canon out ∧ (∀ r, inS out r = inS l r) ∧ out.length ≤ l.length := by
  obtain ⟨l', h1, h2, rfl⟩ := h
  have h3 := joinF_all (fun s hs => hv s (h1.mem_iff.1 hs)) h2
  exact ⟨h3.1, fun r => (h3.2.1 r).trans (inS_perm h1 r), by rw [← h1.length_eq]; exact h3.2.2⟩
end Go.Proofs
namespace Go.Proofs
open Go Go.Eng
set_option maxRecDepth 100000
theorem own_low {w : World} {base base' e size n : Nat} {v : Value} {xs : List Value} (h : w.ownsRow base e size v n xs) (hb : base' ≤ base) : w.ownsRow base' e size v n xs := by
  obtain ⟨h1, h2⟩ := h
  refine ⟨h1, h2.imp id ?_⟩
  rintro ⟨g, cap, cur, a, b, r⟩
  exact ⟨g, cap, cur, a, Nat.le_trans hb b, r⟩
theorem own_le {w : World} {base e size n c : Nat} {a : Option Addr} {xs : List Value} (h : w.ownsRow base e size (.slice a n c) n xs) : n ≤ c := by
  rcases h.2 with ⟨h1, h2⟩ | ⟨g, cap, cur, hv, _, _, hnc, _⟩
  · omega
  · simp only [Value.slice.injEq] at hv
    obtain ⟨_, _, rfl⟩ := hv
    exact hnc
theorem s_appendZ {P : Program} {N : Nat} {Q : Post} {σ : Env} {w : World} {K : Env → World → Prop} {ops : Array Oper} {rest : List Oper} {d : Nat} {ty : TypeId} {pos : String} {af : Array Edge} {t ti : TypeId} {s x : Operand} {ik : IntKind}
    {base e size bytes n : Nat} {z : Value} (hN : d < N) (hu : P.underlying t = some (.slice e)) (hti : P.underlying ti = some (.int ik)) (hsz : Siz P e size) (hby : Byt P e bytes) (hz : Zer P e z) (hzs : z.cells.size = size) (h0 : 0 < size)
    (hs : ev σ s = .slice none 0 0) (hx : ev σ x = .int .i64 ((n : Nat) : Int)) (hn : 0 < n) (hbytes : n * bytes ≤ 140737488355328 ∧ n ≤ 8796093022208) (hbase : base ≤ w.heap.size)
    (k : ∀ cc w', Ext w w' → w'.ownsRow base e size (.slice (some ⟨w.heap.size, 0, none⟩) 0 cc) 0 [] → n ≤ cc → WpL P N ops K Q rest (upd σ d (.slice (some ⟨w.heap.size, 0, none⟩) n cc)) w') :
    WpL P N ops K Q (⟨some d, .call ⟨.builtin .append, #[s, x], #[t, ti]⟩, ty, pos, af, none⟩ :: rest) σ w := by
  unfold Siz at hsz; unfold Byt at hby; unfold Zer at hz
  cases hi : P.info? e with
  | none => rw [hi] at hsz; simp at hsz
  | some i =>
  rw [hi] at hsz hby hz
  simp at hsz hby hz
  subst hsz; subst hby
  have hge := grownCap_ge w n 0 e
  have hcm := grownCap_le_maxLen w n 0 e (by simp only [maxLen]; omega)
  refine WpL_val (v := .slice (some ⟨w.heap.size, 0, none⟩) n (grownCap w n 0 e)) (w' := w.drew.alloc (.cells (Builtin.zeroCells z.cells n ++ Builtin.zeroCells z.cells (grownCap w n 0 e - n)) e)) rfl rfl hN ?_ (k _ _ ?_ ?_ hge)
  · have hn0 : n ≠ 0 := by omega
    have h1 : IntKind.i64.wrap ((n : Nat) : Int) = n := wI64 (by omega)
    have h2 : ¬ ((n : Int) < 0) := by omega
    have h3 : ¬ ((281474976710656 : Int) < (n : Int) * (i.bytes : Int)) := by
      have : ((n * i.bytes : Nat) : Int) = (n : Int) * (i.bytes : Int) := by simp
      omega
    have h4 : ¬ (9223372036854775807 < (n : Int)) := by omega
    have h5 : ¬ (281474976710656 < Builtin.nextslicecap n 0 * i.bytes) := by rw [nextslicecap_zero hn]; omega
    have h6 : ¬ (n * i.size = 0) := fun h => by rcases Nat.mul_eq_zero.1 h with h | h <;> omega
    have h7 : i.size ≠ 0 := by omega
    simp [execOp, resolve, invoke, builtin, hs, hx, Builtin.append_, run_underlying hu, run_underlying hti, sizeOf, typeInfo, zeroValue, hi, hz, hn0, h1, h2, h3, h4, h5, h7, asInt, asIntOf, Question.forced, run_firstCells_none, newRow, grownCap]
    exact fun h => absurd h h6
  · exact ⟨rfl, rfl, rfl, Nat.le_succ _, by simp, fun b hb _ => heap_alloc_old w.drew _ b hb⟩
  · refine ⟨by simp, .inr ⟨w.heap.size, _, _, rfl, hbase, heap_alloc_new w.drew _, Nat.zero_le _, hcm, ?_, by simp⟩⟩
    simp only [Array.size_append, size_zeroCells, hzs, ← Nat.add_mul]
    congr 1
    omega
theorem r_capSlice {P : Program} {σ : Env} {w : World} {dst : Option Tmp} {ty : TypeId} {pos : String} {af : Array Edge} {g : Option (Nat × Bool)} {t e : TypeId} {x : Operand} {ad : Option Addr} {n cap : Nat} (hu : P.underlying t = some (.slice e)) (hx : ev σ x = .slice ad n cap) :
    (execOp (ev σ) ⟨dst, .call ⟨.builtin .cap, #[x], #[t]⟩, ty, pos, af, g⟩).run P w = .ok (.value (.int .i64 cap)) w := by
  simp only [execOp, resolve, List.map_toArray, List.map_cons, List.map_nil, hx]
  simp [invoke, builtin, Builtin.cap_, run_underlying hu, goInt]
def SpssAt (w : World) (v : Value) (ll : List (List Sp)) : Prop := ∃ vs : List Value, SlAt w 1 v (vs.map fun x => [x]) ∧ vs.length = ll.length ∧ ∀ (i : Nat) (u : Value) (l : List Sp), vs[i]? = some u → ll[i]? = some l → SpansAt w u l
theorem SpssAt.ext {w w' : World} {v : Value} {ll : List (List Sp)} (h : SpssAt w v ll) (e : Ext w w') : SpssAt w' v ll := by
  obtain ⟨vs, h1, h2, h3⟩ := h
  exact ⟨vs, h1.ext e, h2, fun i u l hu hl => (h3 i u l hu hl).ext e⟩
theorem SpssAt.form {w : World} {v : Value} {ll : List (List Sp)} (h : SpssAt w v ll) : ∃ a c, v = .slice a ll.length c ∧ ll.length ≤ c ∧ ll.length ≤ 9223372036854775807 := by
  obtain ⟨vs, h1, h2, _⟩ := h
  obtain ⟨a, c, rfl⟩ := h1.form
  have := h1.cap
  have := h1.le
  simp only [List.length_map] at *
  rw [h2] at *
  exact ⟨a, c, rfl, by omega, by omega⟩
end Go.Proofs
namespace Go.Eng
open Go
section
variable {κ ν : Type} [DecidableEq κ]
def getM : List (κ × ν) → κ → Option ν
  | [], _ => none
  | p :: r, k => if p.1 = k then some p.2 else getM r k
def putM : List (κ × ν) → κ → ν → List (κ × ν)
  | [], k, v => [(k, v)]
  | p :: r, k, v => if p.1 = k then (k, v) :: r else p :: putM r k v
def findM (eV : ν → Value) : List (κ × ν) → κ → Nat → Option (Nat × Value)
  | [], _, _ => none
  | p :: r, k, i => if p.1 = k then some (i, eV p.2) else findM eV r k (i + 1)
theorem findM_some {eV : ν → Value} : ∀ {es : List (κ × ν)} {k : κ} {i : Nat} {v : ν}, getM es k = some v → ∃ j, findM eV es k i = some (i + j, eV v) ∧ es[j]? = some (k, v) ∧ ∀ u, putM es k u = es.set j (k, u)
  | [], _, _, _, h => by cases h
  | p :: r, k, i, v, h => by
    unfold getM at h
    unfold findM
    split at h
    · rename_i he
      cases h
      rw [if_pos he]
      exact ⟨0, rfl, by obtain ⟨a, b⟩ := p; simp at he; subst he; rfl, fun u => by unfold putM; rw [if_pos he]; rfl⟩
    · rename_i hne
      rw [if_neg hne]
      obtain ⟨j, h1, h2, h3⟩ := findM_some (eV := eV) (i := i + 1) h
      exact ⟨j + 1, by rw [h1]; congr 2; omega, by simpa using h2, fun u => by unfold putM; rw [if_neg hne, h3 u]; rfl⟩
theorem putM_none : ∀ {es : List (κ × ν)} {k : κ} (v : ν), getM es k = none → putM es k v = es ++ [(k, v)]
  | [], _, _, _ => rfl
  | p :: r, k, v, h => by
    unfold getM at h
    unfold putM
    split at h
    · cases h
    · rename_i hne; rw [if_neg hne, putM_none v h]; rfl
theorem getM_isSome {es : List (κ × ν)} {k : κ} : (getM es k).isSome = true ↔ k ∈ es.map (·.1) := by
  induction es with
  | nil => simp [getM]
  | cons p r ih =>
    unfold getM
    by_cases h : p.1 = k
    · simp [h]
    · rw [if_neg h, ih]
      simp [Ne.symm h]
def KeysOk (es : List (κ × ν)) : Prop := (es.map (·.1)).Nodup
omit [DecidableEq κ] in
theorem KeysOk.nil : KeysOk ([] : List (κ × ν)) := List.nodup_nil
theorem KeysOk.put {es : List (κ × ν)} (h : KeysOk es) (k : κ) (v : ν) : KeysOk (putM es k v) := by
  cases hg : getM es k with
  | none =>
    rw [putM_none v hg]
    unfold KeysOk
    rw [List.map_append, List.nodup_append]
    refine ⟨h, by simp, fun a ha b hb => ?_⟩
    simp at hb
    subst hb
    intro he
    subst he
    have := getM_isSome.2 ha
    rw [hg] at this; cases this
  | some u =>
    obtain ⟨j, _, h2, h3⟩ := findM_some (eV := fun _ => undef) (i := 0) hg
    rw [h3 v]
    unfold KeysOk
    have : (es.set j (k, v)).map (·.1) = es.map (·.1) := by
      apply List.ext_getElem?
      intro i
      rw [List.getElem?_map, List.getElem?_map, List.getElem?_set]
      by_cases hi : j = i
      · subst hi
        have hlt := lt_of_get h2
        rw [if_pos rfl, if_pos hlt, h2]; rfl
      · simp [hi]
    rw [this]; exact h
end
/-- A map in memory: its entries in the order in which the keys came. -/
def ents {κ ν : Type} (ek : κ → Value) (eV : ν → Value) (es : List (κ × ν)) : List MapEntry := es.zipIdx.map fun p => { key := ek p.1.1, val := eV p.1.2, born := p.2 }
def MapAt {κ ν : Type} (w : World) (b : Nat) (ek : κ → Value) (eV : ν → Value) (es : List (κ × ν)) : Prop := w.heap[b]? = some (.map (ents ek eV es).toArray es.length)
section
variable {κ ν : Type} {ek : κ → Value} {eV : ν → Value} {es : List (κ × ν)} {w w' : World} {b : Nat}
theorem MapAt.lt (h : MapAt w b ek eV es) : b < w.heap.size := (Array.getElem?_eq_some_iff.1 h).1
end
/-- A new object that is no row of cells. -/
structure NewO (w w' : World) (b : Nat) (o : Obj) : Prop where
  at' : w'.heap[b]? = some o
  ext : Ext w w'
  eq : b = w.heap.size
  size : w'.heap.size = w.heap.size + 1
theorem NewO.mk' (w : World) (o : Obj) : NewO w { w with heap := w.heap.push o } w.heap.size o :=
  ⟨by simp, ⟨rfl, rfl, rfl, Nat.le_refl _, by simp, fun x hx _ => by simp [Array.getElem?_push, Nat.ne_of_lt hx]⟩, rfl, by simp⟩
section
variable {w w' : World} {b : Nat} {o : Obj}
theorem NewO.keep (h : NewO w w' b o) {b' : Nat} {c' : Array Value} {t' : TypeId} (hb : Blk w b' c' t') : Blk w' b' c' t' := h.ext.keep hb
theorem NewO.lt (h : NewO w w' b o) {b' : Nat} {c' : Array Value} {t' : TypeId} (hb : Blk w b' c' t') : b' < b := by rw [h.eq]; exact hb.lt
theorem NewO.ge (h : NewO w w' b o) {w0 : World} {M : Nat → Prop} (e : Chg M w0 w) : w0.heap.size ≤ b := by rw [h.eq]; exact e.size
variable {κ ν : Type} {ek : κ → Value} {eV : ν → Value} {es : List (κ × ν)} {b' : Nat}
end
/-- An object that is no row of cells is replaced. -/
structure PutO (w w' : World) (b : Nat) (o : Obj) : Prop where
  at' : w'.heap[b]? = some o
  chg : Chg (fun x => x = b) w w'
  size : w'.heap.size = w.heap.size
theorem PutO.mk' {w : World} {b : Nat} (o : Obj) (hb : b < w.heap.size) : PutO w { w with heap := w.heap.setIfInBounds b o } b o :=
  ⟨by simp [hb], ⟨rfl, rfl, rfl, Nat.le_refl _, by simp, fun x hx hne => by simp [Array.getElem?_setIfInBounds, Ne.symm hne]⟩, by simp⟩
section
variable {w w' : World} {b : Nat} {o : Obj}
theorem PutO.keep (h : PutO w w' b o) {b' : Nat} {c' : Array Value} {t' : TypeId} (hne : b' ≠ b) (hb : Blk w b' c' t') : Blk w' b' c' t' := h.chg.keep hne hb
theorem PutO.step (h : PutO w w' b o) {w0 : World} {M : Nat → Prop} (e : Chg M w0 w) (hb : w0.heap.size ≤ b ∨ M b) : Chg M w0 w' :=
  e.step h.chg fun x hx hm => by subst hm; rcases hb with hb | hb; omega; exact hb
variable {κ ν : Type} {ek : κ → Value} {eV : ν → Value} {es : List (κ × ν)} {b' : Nat}
end
def IterAt (w : World) (it b n : Nat) (seen : List Nat) : Prop := w.heap[it]? = some (.mapIter (some b) n seen.toArray n)
theorem IterAt.lt {w : World} {it b n : Nat} {seen : List Nat} (h : IterAt w it b n seen) : it < w.heap.size := (Array.getElem?_eq_some_iff.1 h).1
theorem IterAt.chg {M : Nat → Prop} {w w' : World} {it b n : Nat} {seen : List Nat} (h : IterAt w it b n seen) (c : Chg M w w') (hm : ¬ M it) : IterAt w' it b n seen := (c.blk it h.lt hm).trans h
theorem IterAt.ext {w w' : World} {it b n : Nat} {seen : List Nat} (h : IterAt w it b n seen) (c : Ext w w') : IterAt w' it b n seen := h.chg c fun f => f
end Go.Eng
namespace Go.Proofs
open Go Go.Eng Go.Sort
section
variable {P : Program} {N : Nat} {Q : Post} {σ : Env} {w : World} {K : Env → World → Prop} {ops : Array Oper} {rest : List Oper} {d : Nat} {ty : TypeId} {pos : String} {af : Array Edge} {t : TypeId} {x y : Operand}
theorem s_make {e bytes n : Nat} {z : Value} (hN : d < N) (hu : P.underlying t = some (.slice e)) (hsz : Siz P e 1) (hby : Byt P e bytes) (hz : Zer P e z) (hz1 : z.cells = #[z]) (hx : ev σ x = .int .i64 ((n : Nat) : Int)) (hy : ev σ y = .int .i64 ((n : Nat) : Int)) (hb : n * bytes ≤ 140737488355328) (hn : n ≤ 140737488355328)
    (k : ∀ b w', New w w' b (List.replicate n z).toArray e → WpL P N ops K Q rest (upd σ d (.slice (some ⟨b, 0, none⟩) n n)) w') : WpL P N ops K Q (⟨some d, .makeSlice t x y, ty, pos, af, none⟩ :: rest) σ w := by
  refine WpL_val (v := .slice (some ⟨w.heap.size, 0, none⟩) n n) (w' := { w with heap := w.heap.push (.cells (List.replicate n z).toArray e (0, 0)) }) rfl rfl hN ?_ (k _ _ (New.mk' w _ e))
  unfold Siz at hsz; unfold Byt at hby; unfold Zer at hz
  cases hi : P.info? e with
  | none => rw [hi] at hsz; simp at hsz
  | some i =>
  rw [hi] at hsz hby hz
  simp at hsz hby hz
  have h := run_make (P := P) w t e i _ hu hi hz .i64 .i64 ((n : Nat) : Int) ((n : Nat) : Int) (by omega) (Int.le_refl _) (by rw [hby]; have : ((bytes : Nat) : Int) * ((n : Nat) : Int) = (((n * bytes : Nat) : Nat) : Int) := (by rw [Int.natCast_mul, Int.mul_comm]); rw [this]; omega) (by omega)
  have hc : madeCells z.cells (n * i.size) = (List.replicate n z).toArray := by
    rw [hsz, Nat.mul_one, hz1]
    apply Array.ext'
    simp only [madeCells]
    apply List.ext_getElem?
    intro j
    simp only [Array.toList_map, List.getElem?_map, List.getElem?_replicate]
    rcases Nat.lt_or_ge j n with hj | hj
    · have h1 : (Array.range n).toList[j]? = some j := by simp [hj]
      rw [h1, if_pos hj]
      simp [Nat.mod_one]
    · have h1 : (Array.range n).toList[j]? = none := by simp; omega
      rw [h1, if_neg (by omega)]; rfl
  simp only [Int.toNat_natCast, hc] at h
  simp only [execOp, hx, hy, Sem.run_bind, h, Result.andThen_ok]
  rfl
end
def appF (base e size n : Nat) (xs : List Value) (old : Value) (hs : Nat) : Fct := fun v w => (∃ a c, v = .slice a n c) ∧ w.ownsRow base e size v n xs ∧ ∀ k, v.ownBlock = some k → old.ownBlock = some k ∨ hs ≤ k
theorem appF_ext (base e size n : Nat) (xs : List Value) (old : Value) (hs : Nat) : ∀ v w w', Ext w w' → appF base e size n xs old hs v w → appF base e size n xs old hs v w' := by
  rintro v w w' e ⟨h1, h2, h3⟩
  exact ⟨h1, own_ext h2 e, h3⟩
/-- The append to a slice of one's own, in a region that draws its order. -/
theorem DoesT_append {P : Program} {N : Nat} {σ : Env} {w : World} {dst : Option Tmp} {ty : TypeId} {pos : String} {af : Array Edge} {g : Option (Nat × Bool)} {M : Nat → Prop} {t : TypeId} {s x : Operand} {base e size bytes n m c bx ox hs : Nat} {z v : Value} {xs news : List Value} (hu : P.underlying t = some (.slice e)) (hsz : Siz P e size) (hby : Byt P e bytes) (hz : Zer P e z) (hzs : z.cells.size = size) (h0 : 0 < size)
    (he : ev σ s = v) (hown : w.ownsRow base e size v n xs) (hx : ev σ x = .slice (some ⟨bx, ox, none⟩) m c) (hl : news.length = m * size) (hnews : CellsAt w bx ox news) (h1 : ∀ u ∈ news, u.oneCell' = true)
    (h63 : n + m ≤ maxLen) (hbytes : (n + m) * bytes ≤ 140737488355328) (hbase : base ≤ w.heap.size) (hM : ∀ y, v.ownBlock = some y → M y) (hhs : hs ≤ w.heap.size) :
    DoesT M P N ⟨dst, .call ⟨.builtin .append, #[s, x], #[t, t]⟩, ty, pos, af, g⟩ (appF base e size (n + m) (xs ++ news) v hs) σ w := by
  unfold Siz at hsz; unfold Byt at hby; unfold Zer at hz
  cases hi : P.info? e with
  | none => rw [hi] at hsz; simp at hsz
  | some i =>
  rw [hi] at hsz hby hz
  simp at hsz hby hz
  have hcells : ∀ j u, news[j]? = some u → w.cell? ((⟨bx, ox, none⟩ : Addr).add j) = some u := fun j u hj => by rw [Addr.add_lit]; exact hnews j u hj
  obtain ⟨v', w', hr, h2, h3, _⟩ := run_append_own (P := P) w base t ty e i z size bytes hu hi hz hsz hby hzs h0 v n xs hown ⟨bx, ox, none⟩ m c news hl hcells h1 h63 hbytes hbase
  have hC : Chg (fun x => v.ownBlock = some x) w w' := ⟨h3.os, h3.tape, h3.output, append_drawn (P := P) hu hi hz hsz hby hown hl hcells h1 h63 hbytes hr, h3.size, fun b hb hn => h3.block b hb (fun h => hn h.symm)⟩
  have hW := append_where (P := P) hu hi hz hsz hby hzs h0 hown hl hcells h1 h63 hbytes hr
  refine DoesT_val (v := v') (w' := w') (by simp [execOp, resolve, invoke, builtin, he, hx, hr]) (hC.mono fun y _ hy => hM y hy) ⟨own_form h2, h2, fun k hk => ?_⟩
  rcases hW k hk with h4 | h4
  · exact .inl h4
  · exact .inr (Nat.le_trans hhs h4)
/-- A slice of one new element, whose cells are known. -/
def litF (e : Nat) (c : Array Value) (hs : Nat) : Fct := fun v w => ∃ b, v = .slice (some ⟨b, 0, none⟩) 1 1 ∧ Blk w b c e ∧ hs ≤ b
theorem DoesT_lit {P : Program} {N : Nat} {σ : Env} {w : World} {dst : Option Tmp} {ty : TypeId} {pos : String} {af : Array Edge} {g : Option (Nat × Bool)} {M : Nat → Prop} {t e n hs : Nat} {x : Operand} {v z : Value} {c : Array Value} (hu : P.underlying t = some (.slice e)) (hsz : Siz P e n) (hz : Zer P e z) (hx : ev σ x = v)
    (hl : ¬ (1 * n > 2 ^ 24)) (h0 : 1 * n ≠ 0) (hc : Instr.fill (fun i => some (i * n, n)) ((Array.range (1 * n)).map (z.cells[· % z.cells.size]!)) [(0, v)] = some c) (hhs : hs ≤ w.heap.size) :
    DoesT M P N ⟨dst, .buildSlice t 1 #[(0, x)], ty, pos, af, g⟩ (litF e c hs) σ w := by
  have hn := New.mk' w c e
  exact DoesT_val (run_buildSlice (parts := [(0, x)]) (ps := [(0, v)]) (by simp only [List.map, hx]) hu hsz hz hl h0 hc) (Ext.chg hn.ext) ⟨_, rfl, hn.blk, hhs⟩
structure LSt (To e sz : Nat) (w : World) (base : Nat) (vo : Value) (vs : List Value) (ns : List (Nat × List Value)) : Prop where
  o : w.ownsRow base To 1 vo ns.length vs
  len : vs.length = ns.length
  inn : ∀ (i : Nat) v p, vs[i]? = some v → ns[i]? = some p → w.ownsRow base e sz v p.1 p.2
  apo : ∀ (i : Nat) v b, vs[i]? = some v → v.ownBlock = some b → vo.ownBlock ≠ some b
theorem LSt.start (To e sz : Nat) (w : World) (base : Nat) : LSt To e sz w base (.slice none 0 0) [] [] :=
  ⟨World.ownsRow_nil _ _ _ _, rfl, fun i v p h => by simp at h, fun i v b h => by simp at h⟩
theorem LSt.chg {M : Nat → Prop} {To e sz base : Nat} {w w' : World} {vo : Value} {vs : List Value} {ns : List (Nat × List Value)} (h : LSt To e sz w base vo vs ns) (c : Chg M w w') (hM : ∀ b, base ≤ b → b < w.heap.size → ¬ M b) : LSt To e sz w' base vo vs ns :=
  ⟨own_chg h.o c fun k hk => hM k (h.o.lt k hk).1 (h.o.lt k hk).2, h.len, fun i v l hv hl => own_chg (h.inn i v l hv hl) c fun k hk => hM k ((h.inn i v l hv hl).lt k hk).1 ((h.inn i v l hv hl).lt k hk).2, h.apo⟩
theorem LSt.ext {To e sz base : Nat} {w w' : World} {vo : Value} {vs : List Value} {ns : List (Nat × List Value)} (h : LSt To e sz w base vo vs ns) (c : Ext w w') : LSt To e sz w' base vo vs ns := h.chg c fun _ _ _ f => f
theorem LSt.on {To e sz base n : Nat} {w : World} {vo : Value} {vs : List Value} {ns : List (Nat × List Value)} (h : LSt To e sz w base vo vs ns) (hn : n = ns.length) : w.ownsRow base To 1 vo n vs := by subst hn; exact h.o
/-- A slice that was made later is appended. -/
theorem LSt.push {To e sz base bu n m : Nat} {w w' : World} {vo v' u : Value} {vs us : List Value} {ns : List (Nat × List Value)} (h : LSt To e sz w base vo vs ns) (hn : n = ns.length) (hu : w.ownsRow bu e sz u m us) (hb : base ≤ bu) (hbu : ∀ k, vo.ownBlock = some k → k < bu)
    (Ov : w'.ownsRow base To 1 v' (n + 1) (vs ++ [u])) (Cv : Chg (fun x => vo.ownBlock = some x) w w') (Wv : ∀ k, v'.ownBlock = some k → vo.ownBlock = some k ∨ w.heap.size ≤ k) : LSt To e sz w' base v' (vs ++ [u]) (ns ++ [(m, us)]) := by
  have hold : ∀ (i : Nat) v, (vs ++ [u])[i]? = some v → vs[i]? = some v ∨ (i = vs.length ∧ v = u) := by
    intro i v hv
    rcases Nat.lt_or_ge i vs.length with h1 | h1
    · left; rwa [List.getElem?_append_left h1] at hv
    · right
      rw [List.getElem?_append_right h1] at hv
      have h2 := lt_of_get hv
      simp at h2
      obtain rfl : i = vs.length := by omega
      simp at hv
      exact ⟨rfl, hv.symm⟩
  have hun : ∀ b, u.ownBlock = some b → vo.ownBlock ≠ some b := fun b hb' e' => by
    have h1 := hbu b e'
    have h2 := (hu.lt b hb').1
    omega
  refine ⟨by rw [List.length_append, ← hn]; exact Ov, by simp [h.len], ?_, ?_⟩
  · intro i v p hv hp
    rcases hold i v hv with h1 | ⟨h1, rfl⟩
    · rw [List.getElem?_append_left (by have := lt_of_get h1; have := h.len; omega)] at hp
      exact own_chg (h.inn i v p h1 hp) Cv fun k hk => h.apo i v k h1 hk
    · rw [h1, h.len] at hp
      simp at hp
      subst hp
      exact own_low (own_chg hu Cv fun k hk => hun k hk) hb
  · intro i v b hv hb1 hb2
    rcases hold i v hv with h1 | ⟨_, rfl⟩
    · rcases Wv b hb2 with h2 | h2
      · exact h.apo i v b h1 hb1 h2
      · obtain ⟨p, hp⟩ := get_of_lt (l := ns) (i := i) (by have := lt_of_get h1; have := h.len; omega)
        have := ((h.inn i v p h1 hp).lt b hb1).2
        omega
    · rcases Wv b hb2 with h2 | h2
      · exact hun b hb1 h2
      · have := (hu.lt b hb1).2; omega
theorem own_writeG {w w' : World} {base e size n cap g i : Nat} {xs : List Value} {cur : Array Value} {v : Value} (h : w.ownsRow base e size (.slice (some ⟨g, 0, none⟩) n cap) n xs) (hB : Blk w g cur e) (hi : i < n * size) (hB' : Blk w' g (cur.setIfInBounds i v) e) : w'.ownsRow base e size (.slice (some ⟨g, 0, none⟩) n cap) n (xs.set i v) := by
  rcases h.2 with ⟨h1, _⟩ | ⟨g', cap', cur', hv, hbg, hg, hnc, hcm, hcs, htake⟩
  · simp at h1
  · simp only [Value.slice.injEq, Option.some.injEq, Addr.mk.injEq, and_true] at hv
    obtain ⟨rfl, _, rfl⟩ := hv
    unfold Blk at hB hB'
    rw [hB] at hg
    simp only [Option.some.injEq, Obj.cells.injEq, and_true] at hg
    obtain ⟨rfl, _⟩ := hg
    refine ⟨by simpa using h.1, .inr ⟨g, cap, _, rfl, hbg, hB', hnc, hcm, by simpa using hcs, ?_⟩⟩
    rw [← htake, Array.toList_setIfInBounds, List.take_set]
/-- The same, and no two members share a block: a member may grow. -/
structure GSt (To e sz : Nat) (w : World) (base : Nat) (vo : Value) (vs : List Value) (ns : List (Nat × List Value)) : Prop where
  l : LSt To e sz w base vo vs ns
  ap : ∀ (i j : Nat) v u b, vs[i]? = some v → vs[j]? = some u → v.ownBlock = some b → u.ownBlock = some b → i = j
theorem GSt.chg {M : Nat → Prop} {To e sz base : Nat} {w w' : World} {vo : Value} {vs : List Value} {ns : List (Nat × List Value)} (h : GSt To e sz w base vo vs ns) (c : Chg M w w') (hM : ∀ b, base ≤ b → b < w.heap.size → ¬ M b) : GSt To e sz w' base vo vs ns := ⟨h.l.chg c hM, h.ap⟩
theorem GSt.ext {To e sz base : Nat} {w w' : World} {vo : Value} {vs : List Value} {ns : List (Nat × List Value)} (h : GSt To e sz w base vo vs ns) (c : Ext w w') : GSt To e sz w' base vo vs ns := ⟨h.l.ext c, h.ap⟩
/-- One member grows, and its new slice is stored in the outer one. -/
theorem GSt.grow {To e sz : Nat} {w w' w2 : World} {base g cap k n m m' : Nat} {v v' : Value} {vs : List Value} {ns : List (Nat × List Value)} {xs xs' : List Value} {cur : Array Value} (h : GSt To e sz w base (.slice (some ⟨g, 0, none⟩) n cap) vs ns) (hn : n = ns.length) (hv : vs[k]? = some v) (hp : ns[k]? = some (m, xs))
    (Ov : w'.ownsRow base e sz v' m' xs') (Cv : Chg (fun x => v.ownBlock = some x) w w') (Wv : ∀ k, v'.ownBlock = some k → v.ownBlock = some k ∨ w.heap.size ≤ k)
    (hB : Blk w' g cur To) (P2 : Put w' w2 g (cur.setIfInBounds k v') To) : GSt To e sz w2 base (.slice (some ⟨g, 0, none⟩) n cap) (vs.set k v') (ns.set k (m', xs')) := by
  have hkl := lt_of_get hv
  have hgv : v.ownBlock ≠ some g := fun e => h.l.apo k v g hv e rfl
  have hgl := (h.l.o.lt g rfl).2
  have hv'g : v'.ownBlock ≠ some g := fun e => by rcases Wv g e with h1 | h1; exact hgv h1; omega
  have ho1 : w'.ownsRow base To 1 (.slice (some ⟨g, 0, none⟩) n cap) ns.length vs := own_chg h.l.o Cv fun q hq => by cases hq; exact hgv
  rw [← hn] at ho1
  have ho2 := own_writeG ho1 hB (i := k) (by have := h.l.len; omega) P2.blk
  have hset : ∀ (i : Nat) u, (vs.set k v')[i]? = some u → (i = k ∧ u = v') ∨ (i ≠ k ∧ vs[i]? = some u) := by
    intro i u hu
    rw [List.getElem?_set] at hu
    split at hu
    · rename_i he
      exact .inl ⟨he.symm, (Option.some.inj hu).symm⟩
    · rename_i he
      exact .inr ⟨fun e => he e.symm, hu⟩
  have hsome : ∀ (i : Nat) u, vs[i]? = some u → ∃ q, ns[i]? = some q := fun i u hu => get_of_lt (by have := lt_of_get hu; have := h.l.len; omega)
  have hne : ∀ (i : Nat) u b, i ≠ k → vs[i]? = some u → u.ownBlock = some b → v.ownBlock ≠ some b ∧ v'.ownBlock ≠ some b ∧ b ≠ g := by
    intro i u b hi hu hb
    have h1 : v.ownBlock ≠ some b := fun e => hi (h.ap i k u v b hu hv hb e)
    refine ⟨h1, fun e => ?_, fun e => h.l.apo i u b hu hb (by rw [e]; rfl)⟩
    rcases Wv b e with h2 | h2
    · exact h1 h2
    · obtain ⟨q, hq⟩ := hsome i u hu
      have := ((h.l.inn i u q hu hq).lt b hb).2
      omega
  refine ⟨⟨by rw [List.length_set, ← hn]; exact ho2, by simp [h.l.len], ?_, ?_⟩, ?_⟩
  · intro i u q hu hq
    rcases hset i u hu with ⟨rfl, rfl⟩ | ⟨h1, h2⟩
    · rw [List.getElem?_set, if_pos rfl, if_pos (by have := h.l.len; omega)] at hq
      have hq' := Option.some.inj hq
      subst hq'
      exact own_chg Ov P2.chg fun b hb e => hv'g (e ▸ hb)
    · rw [List.getElem?_set, if_neg (fun e => h1 e.symm)] at hq
      exact own_chg (own_chg (h.l.inn i u q h2 hq) Cv fun b hb => (hne i u b h1 h2 hb).1) P2.chg fun b hb e => (hne i u b h1 h2 hb).2.2 e
  · intro i u b hu hb
    rcases hset i u hu with ⟨rfl, rfl⟩ | ⟨h1, h2⟩
    · intro e; cases e; exact hv'g hb
    · exact h.l.apo i u b h2 hb
  · intro i j u z b hu hz hb hb'
    rcases hset i u hu with ⟨rfl, rfl⟩ | ⟨h1, h2⟩ <;> rcases hset j z hz with ⟨rfl, rfl⟩ | ⟨h3, h4⟩
    · rfl
    · exact absurd hb (hne j z b h3 h4 hb').2.1
    · exact absurd hb' (hne i u b h1 h2 hb).2.1
    · exact h.ap i j u z b h2 h4 hb hb'
end Go.Proofs
namespace Go.Proofs
open Go Go.Eng Go.Sort
set_option maxRecDepth 100000
abbrev TDI : Nat := 3
abbrev TDIs : Nat := 22
def iRow (l : List Int) : Nat × List Value := (l.length, l.map (Value.int .i64))
theorem ints_flatD (l : List Int) : (l.map intV).flatten = l.map (Value.int .i64) := by
  induction l with
  | nil => rfl
  | cons x l ih => simp [intV]; simpa [intV] using ih
theorem own_intsD {w : World} {base n : Nat} {v : Value} {l : List Int} (h : w.ownsRow base TDI 1 v n (l.map (Value.int .i64))) (hn : n = l.length) : IntsAt w v l := by
  rw [← ints_flatD] at h
  exact own_slat h (by intro x hx; simp only [List.mem_map] at hx; obtain ⟨p, _, rfl⟩ := hx; rfl) (by simp [hn]) (by decide)
end Go.Proofs
namespace Go.Proofs
open Go Go.Eng Go.Sort
abbrev TU8 : Nat := 5
theorem wU8m (n : Int) : IntKind.u8.wrap n = n % 256 := by
  simp only [IntKind.wrap, IntKind.bits, IntKind.signed, Bool.true_and, Bool.false_and, decide_eq_true_eq, ge_iff_le, Int.reducePow, Nat.reduceSub, Bool.false_eq_true, if_false]
end Go.Proofs
namespace Go.Proofs
open Go Go.Eng Go.Sort
set_option maxRecDepth 100000
def keysOf (M : List Bool) (keyf : Nat → List Int) (n : Nat) : List (Option (List Int)) := (List.range n).map fun s => if M[s]? = some true then some (keyf s) else none
theorem ints_setD {L : List Int} {k : Nat} (x : Int) : ((L.map (Value.int .i64)).toArray).setIfInBounds (0 + k) (.int .i64 x) = ((L.set k x).map (Value.int .i64)).toArray := by
  apply Array.ext'
  rw [Array.toList_setIfInBounds, Nat.zero_add, ← List.map_set]
theorem take_set_succ {L : List Int} {s : Nat} {x : Int} (hs : s < L.length) : (L.set s x).take (s + 1) = L.take s ++ [x] := by
  rw [List.take_add_one, List.getElem?_set, if_pos rfl, if_pos hs, List.take_set_of_le (Nat.le_refl s)]; rfl
end Go.Proofs
namespace Go.Proofs
open Go Go.Eng Go.Sort
set_option maxRecDepth 100000
theorem keysOf_get {M : List Bool} {keyf : Nat → List Int} {n s : Nat} (hs : s < n) : (keysOf M keyf n)[s]? = some (if M[s]? = some true then some (keyf s) else none) := by
  unfold keysOf
  rw [List.getElem?_map, List.getElem?_range hs]; rfl
theorem refd_num {n c : Nat} {d : Dfa} {M : List Bool} {keyf : Nat → List Int} {ks : List (List Int)} {q : List Int} (hM : LiveOf n c d M) (hN : Num (keysOf M keyf n) ks q)
    (ha : ∀ s t : Nat, s < n → t < n → liveD c d s → liveD c d t → keyf s = keyf t → atD d s = atD d t) (he : ∀ s t : Nat, s < n → t < n → liveD c d s → liveD c d t → eqvD c d s t → keyf s = keyf t) : Refd n c d q ks.length :=
  Refd.of_num hN (by unfold keysOf; simp) (fun s hs h => by rw [keysOf_get hs, if_neg fun h1 => h ((hM.iff s hs).1 h1)]) (fun s hs h => by rw [keysOf_get hs, if_pos ((hM.iff s hs).2 h)]) ha he
theorem Refd.next {n c cnt : Nat} {d : Dfa} {p q : List Int} {M : List Bool} {ks : List (List Int)} (ok : OkD n c d) (hM : LiveOf n c d M) (hp : Refd n c d p cnt) (hN : Num (keysOf M (nextKey c d p) n) ks q) : Refd n c d q ks.length := by
  refine refd_num hM hN (fun s t hs ht l1 l2 h => ?_) fun s t hs ht l1 l2 h => ?_
  · have h1 := (nextKey_eq.1 h).1
    obtain ⟨a, h2, _⟩ := hp.liv s hs l1
    obtain ⟨b, h3, _⟩ := hp.liv t ht l2
    rw [ptD_get h2, ptD_get h3] at h1
    exact hp.acc s t hs ht l1 l2 (by rw [h2, h3, h1])
  · refine nextKey_eq.2 ⟨hp.ptEqv (by omega) (by omega) h, fun x hx => hp.ptEqv ok.to ok.to (h.to hx)⟩
end Go.Proofs
namespace Go.Proofs
open Go Go.Eng Go.Sort
def EntP (d : Dfa) (p : List Int) (st : List Int) (s : Int) (x : Nat) (y : Int) : Prop := (y = -1 ∧ ptD p (toD d s x) < 0) ∨ ∃ (j : Nat) (t : Int), y = ((j : Nat) : Int) ∧ st[j]? = some t ∧ ptD p t = ptD p (toD d s x) ∧ 0 ≤ ptD p t
theorem EntP.mono {d : Dfa} {p st : List Int} {s y : Int} {x : Nat} (h : EntP d p st s x y) (u : List Int) : EntP d p (st ++ u) s x y := by
  rcases h with h | ⟨j, t, h1, h2, h3⟩
  · exact .inl h
  · exact .inr ⟨j, t, h1, by rw [List.getElem?_append_left (lt_of_get h2)]; exact h2, h3⟩
structure CanP (n c : Nat) (d : Dfa) (p : List Int) (rows : List (List Int)) (row st : List Int) : Prop where
  s0 : st[0]? = some d.start
  sl : ∀ s ∈ st, 0 ≤ s ∧ s < n ∧ 0 ≤ ptD p s
  inj : ∀ (i j : Nat) s t, st[i]? = some s → st[j]? = some t → ptD p s = ptD p t → i = j
  len : ∀ r ∈ rows, r.length = c
  ent : ∀ (i x : Nat) r y s, rows[i]? = some r → r[x]? = some y → st[i]? = some s → EntP d p st s x y
  cur : ∀ (x : Nat) y s, row[x]? = some y → st[rows.length]? = some s → EntP d p st s x y
  ord : ∀ (k : Nat) y, (rows.flatten ++ row)[k]? = some y → y ≤ mxL ((rows.flatten ++ row).take k) + 1
  mx : mxL (rows.flatten ++ row) + 1 = st.length
  rch : ∀ i : Nat, i < rows.length → ((i : Nat) : Int) ≤ mxL (rows.take i).flatten
theorem CanP.start {n c : Nat} {d : Dfa} {p : List Int} (hs : 0 ≤ d.start ∧ d.start < n) (hp : 0 ≤ ptD p d.start) : CanP n c d p [] [] [d.start] := by
  refine ⟨rfl, fun s h => by rw [List.mem_singleton] at h; subst h; exact ⟨hs.1, hs.2, hp⟩, fun i j s t h1 h2 _ => ?_, fun r h => absurd h List.not_mem_nil, fun i x r y s h => by simp at h, fun x y s h => by simp at h, fun k y h => by simp at h, by simp [mxL], fun i h => by simp at h⟩
  have a := lt_of_get h1
  have b := lt_of_get h2
  simp at a b
  omega
theorem ord_snoc {F : List Int} {y : Int} (h : ∀ (k : Nat) z, F[k]? = some z → z ≤ mxL (F.take k) + 1) (hy : y ≤ mxL F + 1) : ∀ (k : Nat) z, (F ++ [y])[k]? = some z → z ≤ mxL ((F ++ [y]).take k) + 1 := by
  intro k z hz
  rcases snoc_get hz with h1 | ⟨h1, h2⟩
  · rw [List.take_append_of_le_length (by have := lt_of_get h1; omega)]
    exact h k z h1
  · rw [h1, h2, List.take_append_of_le_length (Nat.le_refl _), List.take_length]
    exact hy
theorem CanP.add {n c : Nat} {d : Dfa} {p : List Int} {rows : List (List Int)} {row st : List Int} {s y : Int} (h : CanP n c d p rows row st) (hs : st[rows.length]? = some s) (hE : EntP d p st s row.length y) : CanP n c d p rows (row ++ [y]) st := by
  have hy : y ≤ mxL (rows.flatten ++ row) := by
    have hm := h.mx
    have hl := List.length_pos_of_mem (List.mem_of_getElem? h.s0)
    rcases hE with ⟨h1, _⟩ | ⟨j, t, h1, h2, _⟩
    · omega
    · have := lt_of_get h2; omega
  refine ⟨h.s0, h.sl, h.inj, h.len, h.ent, fun x z q hx hq => ?_, ?_, ?_, h.rch⟩
  · rcases snoc_get hx with h1 | ⟨h1, h2⟩
    · exact h.cur x z q h1 hq
    · rw [hs] at hq; cases hq
      rw [h1, h2]; exact hE
  · rw [← List.append_assoc]; exact ord_snoc h.ord (by omega)
  · rw [← List.append_assoc, mxL_snoc]; have := h.mx; omega
theorem CanP.new {n c : Nat} {d : Dfa} {p : List Int} {rows : List (List Int)} {row st : List Int} {s : Int} (h : CanP n c d p rows row st) (hs : st[rows.length]? = some s) (ht : 0 ≤ toD d s row.length ∧ toD d s row.length < n) (hp : 0 ≤ ptD p (toD d s row.length)) (hnew : ∀ t ∈ st, ptD p t ≠ ptD p (toD d s row.length)) :
    CanP n c d p rows (row ++ [((st.length : Nat) : Int)]) (st ++ [toD d s row.length]) := by
  have hsl := lt_of_get hs
  have hE : EntP d p (st ++ [toD d s row.length]) s row.length ((st.length : Nat) : Int) := .inr ⟨st.length, _, rfl, by rw [List.getElem?_append_right (Nat.le_refl _), Nat.sub_self]; rfl, rfl, hp⟩
  refine ⟨by rw [List.getElem?_append_left (lt_of_get h.s0)]; exact h.s0, fun q hq => ?_, fun i j q r hi hj he => ?_, h.len, fun i x r y q hr hy hq => ?_, fun x z q hx hq => ?_, ?_, ?_, h.rch⟩
  · rcases List.mem_append.1 hq with h1 | h1
    · exact h.sl q h1
    · rw [List.mem_singleton] at h1; subst h1; exact ⟨ht.1, ht.2, hp⟩
  · rcases snoc_get hi with h1 | ⟨h1, h2⟩ <;> rcases snoc_get hj with h3 | ⟨h3, h4⟩
    · exact h.inj i j q r h1 h3 he
    · exact absurd (by rw [he, h4]) (hnew q (List.mem_of_getElem? h1))
    · exact absurd (by rw [← he, h2]) (hnew r (List.mem_of_getElem? h3))
    · omega
  · rcases snoc_get hq with h1 | ⟨h1, _⟩
    · exact (h.ent i x r y q hr hy h1).mono _
    · have := lt_of_get hr; omega
  · have hq2 : q = s := by
      rw [List.getElem?_append_left hsl, hs] at hq
      exact (Option.some.inj hq).symm
    subst hq2
    rcases snoc_get hx with h1 | ⟨h1, h2⟩
    · exact (h.cur x z q h1 hs).mono _
    · rw [h1, h2]; exact hE
  · rw [← List.append_assoc]; exact ord_snoc h.ord (by have := h.mx; omega)
  · rw [← List.append_assoc, mxL_snoc]; have := h.mx; simp; omega
theorem CanP.row {n c : Nat} {d : Dfa} {p : List Int} {rows : List (List Int)} {row st : List Int} (h : CanP n c d p rows row st) (hl : row.length = c) (hr : ((rows.length : Nat) : Int) ≤ mxL rows.flatten) : CanP n c d p (rows ++ [row]) [] st := by
  have hf : (rows ++ [row]).flatten ++ [] = rows.flatten ++ row := by simp
  refine ⟨h.s0, h.sl, h.inj, fun r hm => ?_, fun i x r y s h1 h2 h3 => ?_, fun x y s h1 => by simp at h1, by rw [hf]; exact h.ord, by rw [hf]; exact h.mx, fun i hi => ?_⟩
  · rcases List.mem_append.1 hm with h1 | h1
    · exact h.len r h1
    · rw [List.mem_singleton] at h1; rw [h1]; exact hl
  · rcases snoc_get h1 with h4 | ⟨h4, h5⟩
    · exact h.ent i x r y s h4 h2 h3
    · subst h5; rw [h4] at h3; exact h.cur x y s h2 h3
  · simp at hi
    rcases Nat.lt_or_ge i rows.length with h1 | h1
    · rw [List.take_append_of_le_length (by omega)]; exact h.rch i h1
    · have : i = rows.length := by omega
      rw [this, List.take_append_of_le_length (Nat.le_refl _), List.take_length]; exact hr
theorem flat_take {c : Nat} : ∀ {L : List (List Int)} {i : Nat}, (∀ r ∈ L, r.length = c) → i ≤ L.length → L.flatten.take (i * c) = (L.take i).flatten
  | [], i, _, _ => by simp
  | q :: L, 0, _, _ => by simp
  | q :: L, i + 1, h, hi => by
    have hq := h q List.mem_cons_self
    rw [List.flatten_cons, List.take_succ_cons, List.flatten_cons, show (i + 1) * c = q.length + i * c by rw [hq, Nat.add_mul]; omega, List.take_append, Nat.add_sub_cancel_left, flat_take (fun r hr => h r (List.mem_cons_of_mem _ hr)) (by simpa using hi), List.take_of_length_le (by omega)]
theorem CanP.done {n c : Nat} {d : Dfa} {p : List Int} {rows : List (List Int)} {st : List Int} (h : CanP n c d p rows [] st) (ok : OkD n c d) (hP : PartsOf n c d p) (hl : rows.length = st.length) : CanOf c (beh d d.start) ⟨0, st.map (atD d), rows⟩ := by
  have hmx := h.mx
  rw [List.append_nil] at hmx
  have hm0 := List.length_pos_of_mem (List.mem_of_getElem? h.s0)
  have hgs : ∀ i : Nat, i < rows.length → ∃ s, st[i]? = some s := fun i hi => get_of_lt (by omega)
  have hrow : ∀ r ∈ rows, r.length = c ∧ ∀ y ∈ r, -1 ≤ y ∧ y < st.length := fun r hr => by
    refine ⟨h.len r hr, fun y hy => ?_⟩
    obtain ⟨i, hi⟩ := List.getElem?_of_mem hr
    obtain ⟨x, hx⟩ := List.getElem?_of_mem hy
    obtain ⟨s, hs⟩ := hgs i (lt_of_get hi)
    rcases h.ent i x r y s hi hx hs with ⟨h1, _⟩ | ⟨j, t, h1, h2, _⟩
    · omega
    · have := lt_of_get h2; omega
  have okC : OkD st.length c ⟨0, st.map (atD d), rows⟩ := ⟨hl, by simp, ⟨Int.le_refl _, by show (0 : Int) < _; omega⟩, fun x hx => by
    obtain ⟨s, _, h1⟩ := List.mem_map.1 hx
    rw [← h1]; exact ok.at', hrow⟩
  have hb : Bfs st.length c ⟨0, st.map (atD d), rows⟩ := by
    refine ⟨okC, rfl, fun k y hk => ?_, fun i hi => ?_, ?_⟩
    · have := h.ord k y (by rw [List.append_nil]; exact hk)
      rwa [List.append_nil] at this
    · show _ ≤ mxL (rows.flatten.take (i * c))
      rw [flat_take h.len (by omega)]
      exact h.rch i (by omega)
    · show mxL rows.flatten = _
      omega
  refine canOf_states ok hb rfl h.s0 (fun i j s t hi hj he => ?_) (fun i s hs => ?_) fun i x s hs hx => ?_
  · have a := h.sl s (List.mem_of_getElem? hi)
    have b := h.sl t (List.mem_of_getElem? hj)
    exact h.inj i j s t hi hj ((hP.iff s t ⟨by omega, a.2.1⟩ ⟨by omega, b.2.1⟩).2 he)
  · exact atD_get (by rw [List.getElem?_map, hs]; rfl)
  · obtain ⟨r, hr⟩ := get_of_lt (l := rows) (i := i) (by have := lt_of_get hs; omega)
    have hrl := h.len r (List.mem_of_getElem? hr)
    obtain ⟨y, hy⟩ := get_of_lt (l := r) (i := x) (by omega)
    have hto : toD ⟨0, st.map (atD d), rows⟩ ((i : Nat) : Int) x = y := toD_get hr hy
    have hrg := ok.to (s := s) (x := x)
    rcases h.ent i x r y s hr hy hs with ⟨h1, h2⟩ | ⟨j, t, h1, h2, h3, h4⟩
    · left
      refine ⟨by rw [hto]; exact h1, fun hl => ?_⟩
      have := (hP.live _ hrg).1.2 hl
      omega
    · right
      have b := h.sl t (List.mem_of_getElem? h2)
      exact ⟨j, t, by rw [hto]; exact h1, h2, (hP.iff t _ ⟨by omega, b.2.1⟩ hrg).1 h3, (hP.live t ⟨by omega, b.2.1⟩).1.1 h4⟩
end Go.Proofs
namespace Go.Proofs
open Go Go.Eng Go.Sort
set_option maxRecDepth 100000
theorem ofInt64 (m : Nat) (h : m < 18446744073709551616) : (BitVec.ofInt 64 (m : Int)).toNat = m := by
  rw [BitVec.toNat_ofInt]; omega
end Go.Proofs
namespace Go.Proofs
open Go Go.Eng Go.Sort
set_option maxRecDepth 100000
def OutB (E N : Value) (vs : List Value) (b : Nat) : Prop := E.ownBlock = some b ∨ N.ownBlock = some b ∨ ∃ (i : Nat) (v : Value), vs[i]? = some v ∧ v.ownBlock = some b
structure OutSt (w : World) (base : Nat) (E N : Value) (vs : List Value) (acc : List Int) (rows : List (List Int)) : Prop where
  e : w.ownsRow base TDI 1 E acc.length (acc.map (Value.int .i64))
  n : LSt TDIs TDI 1 w base N vs (rows.map iRow)
  en : ∀ b, E.ownBlock = some b → N.ownBlock ≠ some b
  ei : ∀ (i : Nat) v b, vs[i]? = some v → v.ownBlock = some b → E.ownBlock ≠ some b
theorem OutSt.start (w : World) (base : Nat) : OutSt w base (.slice none 0 0) (.slice none 0 0) [] [] [] :=
  ⟨World.ownsRow_nil _ _ _ _, LSt.start _ _ _ _ _, (fun b h => by cases h), fun i v b h => by simp at h⟩
theorem OutSt.lt {w : World} {base : Nat} {E N : Value} {vs : List Value} {acc : List Int} {rows : List (List Int)} (h : OutSt w base E N vs acc rows) {b : Nat} (hb : OutB E N vs b) : base ≤ b ∧ b < w.heap.size := by
  rcases hb with h1 | h1 | ⟨i, v, h1, h2⟩
  · exact h.e.lt b h1
  · exact h.n.o.lt b h1
  · obtain ⟨p, hp⟩ := get_of_lt (l := rows.map iRow) (i := i) (by have := lt_of_get h1; have := h.n.len; omega)
    exact (h.n.inn i v p h1 hp).lt b h2
theorem OutSt.chg {M : Nat → Prop} {w w' : World} {base : Nat} {E N : Value} {vs : List Value} {acc : List Int} {rows : List (List Int)} (h : OutSt w base E N vs acc rows) (c : Chg M w w') (hM : ∀ b, OutB E N vs b → ¬ M b) : OutSt w' base E N vs acc rows :=
  ⟨own_chg h.e c fun b hb => hM b (.inl hb), ⟨own_chg h.n.o c fun b hb => hM b (.inr (.inl hb)), h.n.len, fun i v p hv hp => own_chg (h.n.inn i v p hv hp) c fun b hb => hM b (.inr (.inr ⟨i, v, hv, hb⟩)), h.n.apo⟩, h.en, h.ei⟩
theorem OutSt.ext {w w' : World} {base : Nat} {E N : Value} {vs : List Value} {acc : List Int} {rows : List (List Int)} (h : OutSt w base E N vs acc rows) (c : Ext w w') : OutSt w' base E N vs acc rows := h.chg c fun _ _ f => f
/-- A row and a result are added. -/
theorem OutSt.push {w w' : World} {base bu m : Nat} {E E' N N' u : Value} {vs : List Value} {acc row : List Int} {rows : List (List Int)} {y : Int} (h : OutSt w base E N vs acc rows) (hu : w.ownsRow bu TDI 1 u m (row.map (Value.int .i64))) (hm : m = row.length) (hb : base ≤ bu) (hbu : ∀ b, OutB E N vs b → b < bu)
    (C : Chg (fun b => N.ownBlock = some b ∨ E.ownBlock = some b) w w') (ON : w'.ownsRow base TDIs 1 N' (rows.length + 1) (vs ++ [u])) (WN : ∀ k, N'.ownBlock = some k → N.ownBlock = some k ∨ w.heap.size ≤ k)
    (OE : w'.ownsRow base TDI 1 E' (acc.length + 1) ((acc ++ [y]).map (Value.int .i64))) (WE : ∀ k, E'.ownBlock = some k → E.ownBlock = some k ∨ w.heap.size ≤ k) (ap : ∀ b, N'.ownBlock = some b → E'.ownBlock ≠ some b) : OutSt w' base E' N' (vs ++ [u]) (acc ++ [y]) (rows ++ [row]) := by
  have hul := fun b (hb' : u.ownBlock = some b) => hu.lt b hb'
  have hold : ∀ (i : Nat) v, (vs ++ [u])[i]? = some v → vs[i]? = some v ∨ (i = vs.length ∧ v = u) := fun i v hv => by
    rcases Nat.lt_or_ge i vs.length with h1 | h1
    · left; rwa [List.getElem?_append_left h1] at hv
    · right
      rw [List.getElem?_append_right h1] at hv
      have h2 := lt_of_get hv
      simp at h2
      rw [show i - vs.length = 0 by omega] at hv
      simp at hv
      exact ⟨by omega, hv.symm⟩
  have hin : ∀ (i : Nat) v b, (vs ++ [u])[i]? = some v → v.ownBlock = some b → N.ownBlock ≠ some b ∧ E.ownBlock ≠ some b ∧ b < w.heap.size := fun i v b hv hb' => by
    rcases hold i v hv with h1 | ⟨_, rfl⟩
    · exact ⟨fun e => h.n.apo i v b h1 hb' e, h.ei i v b h1 hb', (h.lt (.inr (.inr ⟨i, v, h1, hb'⟩))).2⟩
    · have := hul b hb'
      exact ⟨fun e => by have := hbu b (.inr (.inl e)); omega, fun e => by have := hbu b (.inl e); omega, this.2⟩
  have hap2 : ∀ (i : Nat) v b, (vs ++ [u])[i]? = some v → v.ownBlock = some b → N'.ownBlock ≠ some b ∧ E'.ownBlock ≠ some b := fun i v b hv hb' => by
    obtain ⟨h1, h2, h3⟩ := hin i v b hv hb'
    exact ⟨fun e => by rcases WN b e with h4 | h4; exact h1 h4; omega, fun e => by rcases WE b e with h4 | h4; exact h2 h4; omega⟩
  refine ⟨by rw [List.length_append]; exact OE, ⟨by simpa using ON, by simp [h.n.len], fun i v p hv hp => ?_, fun i v b hv hb' => (hap2 i v b hv hb').1⟩, fun b hb' e => ap b e hb', fun i v b hv hb' => (hap2 i v b hv hb').2⟩
  rw [List.map_append] at hp
  rcases hold i v hv with h1 | ⟨h1, rfl⟩
  · rw [List.getElem?_append_left (by have := lt_of_get h1; have := h.n.len; omega)] at hp
    exact own_chg (h.n.inn i v p h1 hp) C fun b hb' hC => by
      obtain ⟨h2, h3, _⟩ := hin i v b hv hb'
      rcases hC with h4 | h4
      · exact h2 h4
      · exact h3 h4
  · have hl := h.n.len
    rw [h1, hl, List.getElem?_append_right (Nat.le_refl _), Nat.sub_self] at hp
    simp [iRow] at hp
    subst hp
    rw [hm] at hu
    exact own_low (own_chg hu C fun b hb' hC => by
      obtain ⟨h2, h3, _⟩ := hin i v b hv hb'
      rcases hC with h4 | h4
      · exact h2 h4
      · exact h3 h4) hb
theorem own_exact {w : World} {b base n : Nat} {row : List Int} (h : Blk w b (row.map (Value.int .i64)).toArray TDI) (hb : base ≤ b) (hn : row.length = n) (hl : n ≤ 9223372036854775807 := by omega) : w.ownsRow base TDI 1 (.slice (some ⟨b, 0, none⟩) n n) n (row.map (Value.int .i64)) :=
  ⟨by simp [hn], .inr ⟨b, n, _, rfl, hb, h, Nat.le_refl _, hl, by simp [hn], by simp only [Nat.mul_one]; exact List.take_of_length_le (by simp [hn])⟩⟩
theorem OutSt.intss {w : World} {base : Nat} {E N : Value} {vs : List Value} {acc : List Int} {rows : List (List Int)} (h : OutSt w base E N vs acc rows) : IntssAt w N rows := by
  have hl : vs.length = rows.length := by simpa using h.n.len
  refine ⟨vs, ?_, hl, fun i u l hu hl => ?_⟩
  · have ho := h.n.o
    rw [show vs = (vs.map fun x => [x]).flatten by simp [List.flatten_eq_flatMap, List.flatMap_map]] at ho
    exact own_slat ho (by intro r hr; simp only [List.mem_map] at hr; obtain ⟨x, _, rfl⟩ := hr; rfl) (by simp [hl]) (by decide)
  · exact own_intsD (h.n.inn i u (iRow l) hu (by rw [List.getElem?_map, hl]; rfl)) rfl
end Go.Proofs
namespace Go.Proofs
open Go Go.Eng Go.Sort
set_option maxRecDepth 100000
theorem take_snoc' {α : Type} {l : List α} {k : Nat} {x : α} (h : l[k]? = some x) : l.take (k + 1) = l.take k ++ [x] := by rw [List.take_add_one, h]; rfl
/-- An automaton in blocks that are not below m. -/
def DfaNew (m : Nat) (w : World) (d : Dfa) (vs : List Value) : Prop := ∀ (M : Nat → Prop) w', Chg M w w' → (∀ b, M b → b < m) → DfaAt w' d vs
theorem DfaNew.at' {m : Nat} {w : World} {d : Dfa} {vs : List Value} (h : DfaNew m w d vs) : DfaAt w d vs := h none1 w (Chg.refl _ _) fun _ f => f.elim
theorem DfaNew.chg {M : Nat → Prop} {m : Nat} {w w' : World} {d : Dfa} {vs : List Value} (h : DfaNew m w d vs) (c : Chg M w w') (hM : ∀ b, M b → b < m) : DfaNew m w' d vs := fun M2 w2 c2 h2 =>
  h (fun b => M b ∨ M2 b) w2 (Chg.trans (c.mono fun b _ hb => .inl hb) (c2.mono fun b _ hb => .inr hb)) fun b hb => hb.elim (hM b) (h2 b)
theorem DfaNew.low {m m' : Nat} {w : World} {d : Dfa} {vs : List Value} (h : DfaNew m w d vs) (hm : m' ≤ m) : DfaNew m' w d vs := fun M w' c hM => h M w' c fun b hb => by have := hM b hb; omega
end Go.Proofs
namespace Go.Proofs
open Go Go.Eng Go.Sort
set_option maxRecDepth 100000
theorem okD_check {n c : Nat} {d : Dfa} (h : OkD n c d) (hn : 1 ≤ n ∧ n ≤ 200) (hc : 1 ≤ c ∧ c ≤ 16) : checkD d = 0 := by
  obtain ⟨h1, h2, h3, h4, h5⟩ := h
  have hne : d.next ≠ [] := fun he => by rw [he] at h1; simp at h1; omega
  have hcol : colsD d = c := by
    unfold colsD
    cases hq : d.next with
    | nil => exact absurd hq hne
    | cons y l => exact (h5 y (by rw [hq]; simp)).1
  unfold checkD
  rw [if_neg (by omega), if_neg (by omega), if_neg (by omega), if_neg, if_neg]
  · rw [Bool.or_eq_true]
    rintro (hb | hb)
    · unfold bad0 at hb
      have hane : d.accept ≠ [] := fun he => by rw [he] at h2; simp at h2; omega
      have := (minL_lt hane (z := -1)).2 (fun x hx => h4 x hx)
      simp only [Bool.or_eq_true, decide_eq_true_eq] at hb
      omega
    · obtain ⟨row, hr, hb⟩ := List.any_eq_true.1 hb
      obtain ⟨hl, hx⟩ := h5 row hr
      have hrne : row ≠ [] := fun he => by rw [he] at hl; simp at hl; omega
      have h6 := (minL_lt hrne (z := -1)).2 (fun x hx' => (hx x hx').1)
      have h7 := (maxL_lt hrne (z := ((n : Nat) : Int))).2 (fun x hx' => (hx x hx').2)
      simp only [badRow, Bool.or_eq_true, decide_eq_true_eq] at hb
      omega
  · intro hb
    obtain ⟨row, hr, hb⟩ := List.any_eq_true.1 hb
    obtain ⟨hl, _⟩ := h5 row hr
    simp only [formRow, Bool.or_eq_true, decide_eq_true_eq] at hb
    omega
def runS (d : Dfa) (s : Int) (w : List Int) : Int := w.foldl (fun s x => toD d s x.toNat) s
theorem OkD.run {n c : Nat} {d : Dfa} (h : OkD n c d) (w : List Int) : -1 ≤ runS d d.start w ∧ runS d d.start w < n := by
  have hst := h.st
  rcases List.eq_nil_or_concat w with rfl | ⟨w, x, rfl⟩
  · show -1 ≤ d.start ∧ d.start < n; omega
  · simp only [runS, List.concat_eq_append, List.foldl_append, List.foldl_cons, List.foldl_nil]; exact h.to
end Go.Proofs
namespace Go.Proofs
open Go Go.Eng
set_option maxRecDepth 100000
theorem pst_goodO {n c : Nat} {d : Dfa} {order : List Nat} {owner nxt : List Int} {bs : List Nat} (h : OkD n c d) (hn : 1 ≤ n ∧ n ≤ 200) (hc : 1 ≤ c ∧ c ≤ 16) (hP : PSt d.next order c n owner nxt bs) : GoodT ⟨d.start, c, d.accept, bs, owner, nxt⟩ := by
  obtain ⟨h1, h2, h3, h4, h5⟩ := h
  have hnc : n * c ≤ 200 * 16 := Nat.mul_le_mul hn.2 hc.2
  have hol := hP.ol
  have hbl := hP.bl
  have hlen := hP.pk.len
  refine ⟨by show 1 ≤ bs.length; omega, by show bs.length ≤ 200; omega, hc.1, hc.2, by show owner.length ≤ 3200; omega, hlen.symm, by show d.accept.length = bs.length; omega, by show 0 ≤ d.start ∧ d.start < (bs.length : Int); rw [hbl, h1]; exact h3, h4, fun b hb => by have := hP.bm b hb; rw [h1] at this; show b < 3200; omega, ?_⟩
  intro i o x ho hx
  show (-1 ≤ o ∧ o < (bs.length : Int)) ∧ (-1 ≤ x ∧ x < (bs.length : Int)) ∧ _ ∧ _
  replace ho : owner[i]? = some o := ho
  replace hx : nxt[i]? = some x := hx
  rcases hP.pk.slot i (lt_of_get ho) with ⟨e1, e2⟩ | ⟨s, c', b, y, row, e1, e2, e3, e4, e5, e6, e7, e8⟩
  · rw [ho] at e1; rw [hx] at e2
    simp at e1 e2
    subst e1; subst e2
    exact ⟨⟨by omega, by omega⟩, ⟨by omega, by omega⟩, Iff.rfl, fun h => absurd h (by decide)⟩
  · rw [ho] at e4; rw [hx] at e8
    simp at e4 e8
    subst e4; subst e8
    have hs := lt_of_get e5
    obtain ⟨hl, hxx⟩ := h5 row (List.mem_of_getElem? e5)
    have hx2 := hxx x (List.mem_of_getElem? e6)
    have hc' := lt_of_get e6
    refine ⟨⟨by omega, by omega⟩, ⟨by omega, by omega⟩, ⟨by omega, by omega⟩, fun _ b' hb' => ?_⟩
    replace hb' : bs[((s : Nat) : Int).toNat]? = some b' := hb'
    rw [Int.toNat_natCast, e2] at hb'
    cases hb'
    show b ≤ i ∧ i < b + c
    omega
theorem pack_e (w0 : World) (n c : Nat) (d : Dfa) (vs : List Value) (hd : DfaAt w0 d vs) (h : OkD n c d) (hn : 1 ≤ n ∧ n ≤ 200) (hc : 1 ≤ c ∧ c ≤ 16) :
    Ret Try.prog 40 #[.agg vs.toArray] w0 fun r w => (∃ (owner nxt : List Int) (bs : List Nat) (aa ba oa na : Option Addr) (ac bc oc nc : Nat), r = .tuple #[.agg #[.int .i64 d.start, .int .i64 ((c : Nat) : Int), .slice aa d.accept.length ac, .slice ba bs.length bc, .slice oa owner.length oc, .slice na nxt.length nc], .int .i64 0] ∧
      TabAt w ⟨d.start, c, d.accept, bs, owner, nxt⟩ [.int .i64 d.start, .int .i64 ((c : Nat) : Int), .slice aa d.accept.length ac, .slice ba bs.length bc, .slice oa owner.length oc, .slice na nxt.length nc] ∧ GoodT ⟨d.start, c, d.accept, bs, owner, nxt⟩ ∧ bs.length = n ∧ owner.length ≤ n * c ∧
      owner.countP (fun o => decide (0 ≤ o)) = (allF d.next (List.range n)).length ∧ (∀ s c' row x, d.next[s]? = some row → row[c']? = some x → atT owner nxt bs s c' = x) ∧ (NewV w0.heap.size (.slice aa d.accept.length ac) ∧ NewV w0.heap.size (.slice ba bs.length bc) ∧ NewV w0.heap.size (.slice oa owner.length oc) ∧ NewV w0.heap.size (.slice na nxt.length nc))) ∧ Ext w0 w := by
  obtain ⟨h1, h2, h3, h4, h5⟩ := h
  obtain ⟨row0, hrow0⟩ := get_of_lt (l := d.next) (i := 0) (by omega)
  have hr0 := (h5 row0 (List.mem_of_getElem? hrow0)).1
  refine (pack_c w0 d vs hd (okD_check ⟨h1, h2, h3, h4, h5⟩ (by omega) hc) (by rw [h1]; exact sortOk_any (by omega)) (by omega) row0 hrow0 (fun row hr => by rw [hr0]; exact (h5 row hr).1) (by omega)).mono fun r w hr => ?_
  obtain ⟨va, vb, vo, vn, order, owner, nxt, bs, rfl, hA, hB, hO, hN, hperm, hP, hNew, hE⟩ := hr
  rw [hr0, h1] at hP
  rw [h1] at hperm
  obtain ⟨aa, ac, rfl⟩ := SlAt.form hA
  obtain ⟨ba, bc, rfl⟩ := SlAt.form hB
  obtain ⟨oa, oc, rfl⟩ := SlAt.form hO
  obtain ⟨na, nc, rfl⟩ := SlAt.form hN
  simp only [List.length_map, natV_len] at hA hB hO hN hNew ⊢
  have hpk := hP.pk
  have hl : order.length = n := by rw [hperm.length_eq]; simp
  rw [← hl, List.take_length] at hpk
  refine ⟨⟨owner, nxt, bs, aa, ba, oa, na, ac, bc, oc, nc, by rw [hr0], ⟨aa, ac, ba, bc, oa, oc, na, nc, rfl, hA, hB, hO, hN⟩, pst_goodO ⟨h1, h2, h3, h4, h5⟩ hn hc hP, by rw [hP.bl, h1], hP.ol, by rw [hpk.count]; exact allF_perm hperm, ?_, hNew⟩, hE⟩
  intro s c' row x hs hx
  have hsl := lt_of_get hs
  exact hpk.at hs hx ((h5 row (List.mem_of_getElem? hs)).2 x (List.mem_of_getElem? hx)).1 (hperm.mem_iff.2 (by simp; omega)) (by rw [hP.bl]; exact hsl)
end Go.Proofs
namespace Go.Proofs
open Go Go.Eng Go.Sort
set_option maxRecDepth 100000
--BEGIN
theorem CanOf.congr {c : Nat} {f g : List Nat → Int} {C : Dfa} (h : CanOf c f C) (e : ∀ w, inW c w → f w = g w) : CanOf c g C := by
  obtain ⟨m, h1, h2, h3, h4⟩ := h
  exact ⟨m, h1, fun w hw => (h2 w hw).trans (e w hw), h3, h4⟩
--END
def cloF (l : List Int) (hs : Nat) (r : Value) (w : World) : Prop := ∃ b rest k, r = .slice (some ⟨b, 0, none⟩) l.length k ∧ hs ≤ b ∧ Blk w b (l.map (Value.int .i64) ++ rest).toArray TDI ∧ l.length + rest.length = k ∧ k ≤ 9223372036854775807
set_option maxHeartbeats 400000 in
theorem cloneo_c (w0 : World) (v : Value) (l : List Int) (h : IntsAt w0 v l) (hl : l.length ≤ 2000000) (h1 : 0 < l.length) :
    Ret Try.prog 74 #[v] w0 fun r w => cloF l w0.heap.size r w ∧ Ext w0 w := by
  obtain ⟨a, c, rfl⟩ := SlAt.form h
  simp only [List.length_map] at h ⊢
  obtain ⟨base, hbase⟩ : ∃ base, base = w0.heap.size := ⟨_, rfl⟩
  obtain ⟨b, o, rfl, hcl⟩ := ints_cells h h1
  refine Ret_of Try.func74 rfl Try.ntmps74 (Nat.le_of_ble_eq_true rfl) ?_
  have E : Chg none1 w0 w0 := Chg.refl _ _
  refine Wp_seq_region ?_
  refine WpL_val rfl rfl (by decide) (r_assign (v := (.slice none 0 0)) rfl) ?_
  refine WpL_nil ?_
  refine Wp_seq ?_
  refine Wp_seq_region ?_
  refine WpL_val rfl rfl (by decide) (r_move (v := (.slice (some ⟨b, o, none⟩) l.length c)) rfl) ?_
  refine WpL_val (v := (.bool ((some (⟨b, o, none⟩ : Addr)).isNone))) rfl rfl (by decide) (r_eqlNil Try.underlying22 rfl rfl) ?_
  refine WpL_nil ?_
  have hc1 : ((some (⟨b, o, none⟩ : Addr)).isNone) = false := rfl
  refine Wp_cond_false (congrArg Value.bool hc1) ?_
  refine Wp_skip ?_
  refine thn_normal ?_
  refine Wp_seq_region ?_
  refine s_build0 (by decide) Try.underlying22 siz3 ?_
  intro bq wq Nq
  have Fq := Nq.ge E
  replace E := E.ext Nq.ext
  have Bq := Nq.blk
  refine WpL_val rfl rfl (by decide) (r_move (v := (.slice (some ⟨b, o, none⟩) l.length c)) rfl) ?_
  have hown := own_empty (base := base) (size := 1) Bq (by omega)
  have hbs : base ≤ wq.heap.size := by have := Nq.ext.size; omega
  refine s_append (base := base) (n := 0) (m := l.length) (xs := []) (news := l.map (Value.int .i64)) (size := 1) (bytes := 8) (v := (.slice (some ⟨bq, 0, none⟩) 0 0)) (by decide) Try.underlying22 siz3 byt3 zer3 rfl (by decide) rfl hown rfl (by simp) (fun i u hu => by rw [List.getElem?_map, Option.map_eq_some_iff] at hu; obtain ⟨x, hx, rfl⟩ := hu; exact Nq.ext.cell (hcl i x hx)) (by simp [Value.oneCell']) (by unfold maxLen; omega) (by omega) (hbs) ?_
  intro v9 w29 Ov9 Cv9 Dv9
  replace E := E.step Cv9 (fun x hx h => absurd (hown.lt x h).1 (by omega))
  obtain ⟨la, lc, rfl⟩ := own_form Ov9
  refine WpL_val rfl rfl (by decide) (r_assign (v := (.slice la (0 + l.length) lc)) rfl) ?_
  refine WpL_nil ?_
  refine Wp_ret ?_
  refine fin_tmp Try.results74 (v := (.slice la (0 + l.length) lc)) rfl ?_
  simp only [Nat.zero_add, List.nil_append] at Ov9
  simp only [Nat.zero_add]
  rcases Ov9.2 with ⟨_, h2⟩ | ⟨g, cap, cur, h1, h2, h3, h4, h5, h6, h7⟩
  · omega
  · simp only [Value.slice.injEq] at h1
    obtain ⟨rfl, _, rfl⟩ := h1
    have e9 : (l.map (Value.int .i64) ++ cur.toList.drop (l.length * 1)).toArray = cur := by rw [← h7, List.take_append_drop]
    refine ⟨⟨g, cur.toList.drop (l.length * 1), lc, rfl, by omega, by rw [e9]; exact h3, ?_, h5⟩, E⟩
    have e8 := congrArg Array.size e9
    simp only [List.size_toArray, List.length_append, List.length_map] at e8
    omega
end Go.Proofs
namespace Go.Proofs
open Go Go.Eng Go.Sort
set_option maxRecDepth 100000
theorem LSt.intss {w : World} {base : Nat} {N : Value} {vs : List Value} {rows : List (List Int)} (h : LSt TDIs TDI 1 w base N vs (rows.map iRow)) : IntssAt w N rows := by
  have hl : vs.length = rows.length := by simpa using h.len
  refine ⟨vs, ?_, hl, fun i u l hu hl => ?_⟩
  · have ho := h.o
    rw [show vs = (vs.map fun x => [x]).flatten by simp [List.flatten_eq_flatMap, List.flatMap_map]] at ho
    exact own_slat ho (by intro r hr; simp only [List.mem_map] at hr; obtain ⟨x, _, rfl⟩ := hr; rfl) (by simp [hl]) (by decide)
  · exact own_intsD (h.inn i u (iRow l) hu (by rw [List.getElem?_map, hl]; rfl)) rfl
end Go.Proofs
namespace Go.Proofs
open Go Go.Eng
--BEGIN
def cntF (c : Nat) : Nat → (List Nat → Int) → Int
  | 0, f => if 0 ≤ f [] then 1 else 0
  | k + 1, f => ((List.range c).map fun x => cntF c k fun w => f (x :: w)).sum
def dotF (g : Nat → Int) : Nat → List Int → Int
  | _, [] => 0
  | i, x :: l => x * g i + dotF g (i + 1) l
theorem sum_congr {c : Nat} {g h : Nat → Int} (e : ∀ x, x < c → g x = h x) : ((List.range c).map g).sum = ((List.range c).map h).sum := by
  congr 1
  exact List.map_congr_left fun x hx => e x (List.mem_range.1 hx)
theorem cntF_neg {c : Nat} : ∀ {k : Nat} {f : List Nat → Int}, (∀ w, inW c w → f w < 0) → cntF c k f = 0
  | 0, f, h => by simp only [cntF]; rw [if_neg (by have := h [] (inW.nil c); omega)]
  | k + 1, f, h => by
    have : ((List.range c).map fun x => cntF c k fun w => f (x :: w)).sum = ((List.range c).map fun _ => (0 : Int)).sum := sum_congr fun x hx => cntF_neg fun w hw => h (x :: w) (inW.cons hx hw)
    simp only [cntF]
    rw [this]
    clear this h
    induction c with
    | zero => rfl
    | succ c ih => rw [List.range_succ, List.map_append, List.sum_append, ih]; rfl
theorem cntF_nn {c : Nat} : ∀ {k : Nat} {f : List Nat → Int}, 0 ≤ cntF c k f
  | 0, f => by simp only [cntF]; split <;> decide
  | k + 1, f => by
    simp only [cntF]
    generalize hL : List.range c = L
    clear hL
    induction L with
    | nil => simp
    | cons x L ih => simp only [List.map_cons, List.sum_cons]; have := cntF_nn (c := c) (k := k) (f := fun w => f (x :: w)); omega
theorem cntF_some {c : Nat} : ∀ {k : Nat} {f : List Nat → Int}, 0 < cntF c k f → ∃ w, w.length = k ∧ inW c w ∧ 0 ≤ f w
  | 0, f, h => by
    simp only [cntF] at h
    split at h
    · exact ⟨[], rfl, inW.nil c, by assumption⟩
    · omega
  | k + 1, f, h => by
    simp only [cntF] at h
    have key : ∀ L : List Nat, (∀ x ∈ L, x < c) → 0 < (L.map fun x => cntF c k fun w => f (x :: w)).sum → ∃ x ∈ L, 0 < cntF c k fun w => f (x :: w) := by
      intro L
      induction L with
      | nil => intro _ h; simp at h
      | cons x L ih =>
        intro hL h
        simp only [List.map_cons, List.sum_cons] at h
        by_cases h1 : 0 < cntF c k fun w => f (x :: w)
        · exact ⟨x, List.mem_cons_self, h1⟩
        · obtain ⟨y, hy, h2⟩ := ih (fun z hz => hL z (List.mem_cons_of_mem _ hz)) (by omega)
          exact ⟨y, List.mem_cons_of_mem _ hy, h2⟩
    obtain ⟨x, hx, h1⟩ := key _ (fun x hx => List.mem_range.1 hx) h
    obtain ⟨w, hw, hw2, h2⟩ := cntF_some h1
    exact ⟨x :: w, by simp [hw], inW.cons (List.mem_range.1 hx) hw2, h2⟩
theorem dotF_append (g : Nat → Int) : ∀ (l m : List Int) (i : Nat), dotF g i (l ++ m) = dotF g i l + dotF g (i + l.length) m
  | [], m, i => by simp [dotF]
  | x :: l, m, i => by
    simp only [List.cons_append, dotF]
    rw [dotF_append g l m (i + 1), List.length_cons, show i + 1 + l.length = i + (l.length + 1) by omega]
    omega
theorem dotF_take (g : Nat → Int) {l : List Int} {s : Nat} {w : Int} (h : l[s]? = some w) : dotF g 0 (l.take (s + 1)) = dotF g 0 (l.take s) + w * g s := by
  have hs := lt_of_get h
  rw [List.take_add_one, h, dotF_append]
  simp only [Option.toList_some, dotF, List.length_take]
  rw [show 0 + min s l.length = s by omega]
  omega
theorem dotF_set (g : Nat → Int) : ∀ {l : List Int} {t i : Nat} {y w : Int}, l[t]? = some y → dotF g i (l.set t (y + w)) = dotF g i l + w * g (i + t)
  | [], _, _, _, _, h => by simp at h
  | x :: l, 0, i, y, w, h => by
    simp at h
    subst h
    simp only [List.set_cons_zero, dotF, Nat.add_zero, Int.add_mul]
    omega
  | x :: l, t + 1, i, y, w, h => by
    simp only [List.set_cons_succ, dotF]
    rw [dotF_set g (by simpa using h), show i + 1 + t = i + (t + 1) by omega]
    omega
theorem dotF_zero (g : Nat → Int) : ∀ (n i : Nat), dotF g i (List.replicate n 0) = 0
  | 0, _ => rfl
  | n + 1, i => by simp only [List.replicate_succ, dotF]; rw [dotF_zero g n]; simp
theorem sum_take {l : List Int} {s : Nat} {w : Int} (h : l[s]? = some w) : (l.take (s + 1)).sum = (l.take s).sum + w := by
  rw [List.take_add_one, h, List.sum_append]; simp
theorem sum_set : ∀ {l : List Int} {t : Nat} {y w : Int}, l[t]? = some y → (l.set t (y + w)).sum = l.sum + w
  | [], _, _, _, h => by simp at h
  | x :: l, 0, y, w, h => by simp at h; subst h; simp only [List.set_cons_zero, List.sum_cons]; omega
  | x :: l, t + 1, y, w, h => by simp only [List.set_cons_succ, List.sum_cons]; rw [sum_set (by simpa using h)]; omega
theorem set_nn {l : List Int} {t : Nat} {y w : Int} (h : ∀ x ∈ l, 0 ≤ x) (hy : 0 ≤ y + w) : ∀ x ∈ l.set t (y + w), 0 ≤ x := fun x hx => by
  rcases List.mem_or_eq_of_mem_set hx with h1 | h1
  · exact h x h1
  · omega
--END
end Go.Proofs
namespace Go.Proofs
open Go Go.Eng Go.Sort
set_option maxRecDepth 100000
def wt (c : Nat) (d : Dfa) (j : Nat) (i : Nat) : Int := cntF c j (beh d ((i : Nat) : Int))
/-- A vector of ways. -/
structure Ways (n c : Nat) (d : Dfa) (k : Nat) (l : List Int) : Prop where
  len : l.length = n
  nn : ∀ x ∈ l, 0 ≤ x
  sum : l.sum ≤ ((c ^ k : Nat) : Int)
  dot : ∀ j, dotF (wt c d j) 0 l = cntF c (k + j) (beh d d.start)
theorem Ways.start {n c : Nat} {d : Dfa} (ok : OkD n c d) {s : Nat} (hs : d.start = ((s : Nat) : Int)) : Ways n c d 0 ((List.replicate n (0 : Int)).set s 1) := by
  have hst := ok.st
  have h0 : (List.replicate n (0 : Int))[s]? = some 0 := by rw [List.getElem?_replicate, if_pos (by omega)]
  have e : (List.replicate n (0 : Int)).set s 1 = (List.replicate n (0 : Int)).set s (0 + 1) := rfl
  refine ⟨by simp, ?_, ?_, fun j => ?_⟩
  · rw [e]; exact set_nn (fun x hx => by rw [List.eq_of_mem_replicate hx]; decide) (by decide)
  · rw [e, sum_set h0]
    have : (List.replicate n (0 : Int)).sum = 0 := by clear e h0 hst ok; induction n with | zero => rfl | succ n ih => rw [List.replicate_succ, List.sum_cons, ih]; rfl
    rw [this]; simp
  · rw [e, dotF_set _ h0, dotF_zero, Nat.zero_add, Nat.zero_add, wt, hs]; omega
/-- The next vector while it is made: the states below s done, of state s the symbols below x. -/
structure Nxt (n c : Nat) (d : Dfa) (ways : List Int) (s x : Nat) (l : List Int) : Prop where
  len : l.length = n
  nn : ∀ y ∈ l, 0 ≤ y
  sum : l.sum ≤ c * (ways.take s).sum + x * ways.getD s 0
  dot : ∀ j, dotF (wt c d j) 0 l = dotF (wt c d (j + 1)) 0 (ways.take s) + ways.getD s 0 * ((List.range x).map fun y => cntF c j (beh d (toD d ((s : Nat) : Int) y))).sum
theorem Nxt.start (n c : Nat) (d : Dfa) (ways : List Int) : Nxt n c d ways 0 0 (List.replicate n 0) := by
  refine ⟨by simp, fun y hy => by rw [List.eq_of_mem_replicate hy]; decide, ?_, fun j => ?_⟩
  · have : (List.replicate n (0 : Int)).sum = 0 := by induction n with | zero => rfl | succ n ih => rw [List.replicate_succ, List.sum_cons, ih]; rfl
    rw [this]; simp
  · rw [dotF_zero]; simp [dotF]
theorem Nxt.skip {n c : Nat} {d : Dfa} {ways l : List Int} {s x : Nat} (h : Nxt n c d ways s x l) (hw : 0 ≤ ways.getD s 0) (ht : toD d ((s : Nat) : Int) x < 0) : Nxt n c d ways s (x + 1) l := by
  refine ⟨h.len, h.nn, ?_, fun j => ?_⟩
  · have := h.sum
    rw [show ((x + 1 : Nat) : Int) * ways.getD s 0 = x * ways.getD s 0 + ways.getD s 0 by rw [Int.natCast_add, Int.add_mul]; simp]
    omega
  · rw [h.dot j, List.range_succ, List.map_append, List.sum_append]
    simp only [List.map_cons, List.map_nil, List.sum_cons, List.sum_nil]
    rw [cntF_neg fun w _ => by rw [beh_neg ht]; decide]
    simp
theorem Nxt.put {n c : Nat} {d : Dfa} {ways l : List Int} {s x t : Nat} {y : Int} (h : Nxt n c d ways s x l) (hw : 0 ≤ ways.getD s 0) (ht : toD d ((s : Nat) : Int) x = ((t : Nat) : Int)) (hy : l[t]? = some y) : Nxt n c d ways s (x + 1) (l.set t (y + ways.getD s 0)) := by
  have hyn := h.nn y (List.mem_of_getElem? hy)
  refine ⟨by simp [h.len], set_nn h.nn (by omega), ?_, fun j => ?_⟩
  · have := h.sum
    rw [sum_set hy, show ((x + 1 : Nat) : Int) * ways.getD s 0 = x * ways.getD s 0 + ways.getD s 0 by rw [Int.natCast_add, Int.add_mul]; simp]
    omega
  · rw [dotF_set _ hy, h.dot j, List.range_succ, List.map_append, List.sum_append, Nat.zero_add]
    simp only [List.map_cons, List.map_nil, List.sum_cons, List.sum_nil]
    rw [ht, Int.mul_add, wt, Int.add_zero]
    omega
theorem Nxt.row {n c : Nat} {d : Dfa} {ways l : List Int} {s : Nat} {w : Int} (h : Nxt n c d ways s c l) (hw : ways[s]? = some w) : Nxt n c d ways (s + 1) 0 l := by
  have hg : ways.getD s 0 = w := by rw [List.getD_eq_getElem?_getD, hw, Option.getD_some]
  refine ⟨h.len, h.nn, ?_, fun j => ?_⟩
  · have := h.sum
    rw [hg] at this
    rw [sum_take hw, Int.mul_add]
    simp only [Int.natCast_zero, Int.zero_mul]
    omega
  · rw [h.dot j, hg, dotF_take _ hw]
    simp only [List.range_zero, List.map_nil, List.sum_nil, Int.mul_zero, Int.add_zero]
    rfl
theorem Nxt.done {n c k : Nat} {d : Dfa} {ways l : List Int} {s : Nat} (h : Nxt n c d ways s 0 l) (hs : s = ways.length) (hW : Ways n c d k ways) : Ways n c d (k + 1) l := by
  subst hs
  refine ⟨h.len, h.nn, ?_, fun j => ?_⟩
  · have h1 := h.sum
    have h2 := hW.sum
    rw [List.take_length] at h1
    simp only [Int.natCast_zero, Int.zero_mul, Int.add_zero] at h1
    have h3 : (c : Int) * ways.sum ≤ c * ((c ^ k : Nat) : Int) := Int.mul_le_mul_of_nonneg_left h2 (by omega)
    rw [Nat.pow_succ, Nat.mul_comm, Int.natCast_mul]
    omega
  · rw [h.dot j, List.take_length, hW.dot (j + 1)]
    simp only [List.range_zero, List.map_nil, List.sum_nil, Int.mul_zero, Int.add_zero]
    congr 1
    omega
end Go.Proofs
namespace Go.Proofs
open Go Go.Eng Go.Sort
--BEGIN
section
variable {α : Type}
def runO (stp : α → Nat → Option α) : α → List Nat → Option α
  | a, [] => some a
  | a, x :: w => (stp a x).bind fun b => runO stp b w
theorem runO_snoc (stp : α → Nat → Option α) (x : Nat) : ∀ (w : List Nat) (a : α), runO stp a (w ++ [x]) = (runO stp a w).bind fun b => stp b x
  | [], a => by simp only [List.nil_append, runO, Option.bind_some]; cases stp a x <;> rfl
  | y :: w, a => by
    simp only [List.cons_append, runO]
    cases h : stp a y with
    | none => rfl
    | some b => simp only [Option.bind_some]; exact runO_snoc stp x w b
theorem inW.snoc {c x : Nat} {w : List Nat} (h : inW c w) (hx : x < c) : inW c (w ++ [x]) := fun y hy => by
  rcases List.mem_append.1 hy with h1 | h1
  · exact h y h1
  · rw [List.mem_singleton] at h1; rw [h1]; exact hx
theorem inW.init {c x : Nat} {w : List Nat} (h : inW c (w ++ [x])) : inW c w ∧ x < c := ⟨fun y hy => h y (List.mem_append_left _ hy), h x (List.mem_append_right _ (List.mem_singleton.2 rfl))⟩
/-- Keys as they are met: the keys below i are done, of key i the symbols below x. -/
structure BfsW (c : Nat) (stp : α → Nat → Option α) (a0 : α) (work : List α) (ws : List (List Nat)) (ps : List (Nat × Nat)) (i x : Nat) : Prop where
  len : ws.length = work.length
  plen : ps.length = work.length
  fst : work[0]? = some a0
  wf : ws[0]? = some []
  nd : work.Nodup
  run : ∀ (j : Nat) a w, work[j]? = some a → ws[j]? = some w → runO stp a0 w = some a
  inw : ∀ w ∈ ws, inW c w
  mono : ∀ (j k : Nat) w v, j ≤ k → ws[j]? = some w → ws[k]? = some v → w.length ≤ v.length
  near : ∀ (j : Nat) w v, ws[i]? = some v → ws[j]? = some w → w.length ≤ v.length + 1
  par : ∀ (k : Nat) w, 0 < k → ws[k]? = some w → ∃ j y v, j < k ∧ ps[k]? = some (j, y) ∧ ws[j]? = some v ∧ w = v ++ [y]
  done : ∀ (j : Nat) a y b v, (j < i ∨ (j = i ∧ y < x)) → y < c → work[j]? = some a → ws[j]? = some v → stp a y = some b → ∃ (k : Nat) (w : List Nat), work[k]? = some b ∧ ws[k]? = some w ∧ w.length ≤ v.length + 1
variable {c : Nat} {stp : α → Nat → Option α} {a0 : α} {work : List α} {ws : List (List Nat)} {ps : List (Nat × Nat)} {i x : Nat}
theorem one_get {β : Type} {a b : β} {j : Nat} (h : [a][j]? = some b) : j = 0 ∧ b = a := by
  have := lt_of_get h
  simp at this
  subst this
  simp at h
  exact ⟨rfl, h.symm⟩
theorem BfsW.start (c : Nat) (stp : α → Nat → Option α) (a0 : α) (p : Nat × Nat) : BfsW c stp a0 [a0] [[]] [p] 0 0 where
  len := rfl
  plen := rfl
  fst := rfl
  wf := rfl
  nd := by simp
  run := fun j a w h1 h2 => by obtain ⟨_, rfl⟩ := one_get h1; obtain ⟨_, rfl⟩ := one_get h2; rfl
  inw := fun w h => by rw [List.mem_singleton] at h; subst h; exact inW.nil c
  mono := fun j k w v _ h1 h2 => by obtain ⟨_, rfl⟩ := one_get h1; simp
  near := fun j w v _ h2 => by obtain ⟨_, rfl⟩ := one_get h2; simp
  par := fun k w hk h => by obtain ⟨rfl, _⟩ := one_get h; omega
  done := fun j a y b v h => by omega
theorem BfsW.get (h : BfsW c stp a0 work ws ps i x) {k : Nat} {a : α} (ha : work[k]? = some a) : ∃ w, ws[k]? = some w := get_of_lt (by rw [h.len]; exact lt_of_get ha)
theorem BfsW.none (h : BfsW c stp a0 work ws ps i x) {a : α} (ha : work[i]? = some a) (hn : stp a x = none) : BfsW c stp a0 work ws ps i (x + 1) := by
  refine { h with done := fun j b y b' v hj hy hb hv hs => ?_ }
  by_cases hjx : j < i ∨ (j = i ∧ y < x)
  · exact h.done j b y b' v hjx hy hb hv hs
  · have e1 : j = i := by omega
    have e2 : y = x := by omega
    subst e1; subst e2
    rw [ha] at hb; cases hb
    rw [hn] at hs; cases hs
theorem BfsW.old (h : BfsW c stp a0 work ws ps i x) {a b : α} (ha : work[i]? = some a) (hs : stp a x = some b) (hb : b ∈ work) : BfsW c stp a0 work ws ps i (x + 1) := by
  refine { h with done := fun j a' y b' v hj hy hb' hv hs' => ?_ }
  by_cases hjx : j < i ∨ (j = i ∧ y < x)
  · exact h.done j a' y b' v hjx hy hb' hv hs'
  · have e1 : j = i := by omega
    have e2 : y = x := by omega
    subst e1; subst e2
    rw [ha] at hb'; cases hb'
    rw [hs] at hs'; cases hs'
    obtain ⟨k, hk⟩ := List.getElem?_of_mem hb
    obtain ⟨w, hw⟩ := h.get hk
    exact ⟨k, w, hk, hw, h.near k w v hv hw⟩
theorem BfsW.new (h : BfsW c stp a0 work ws ps i x) {a b : α} {v : List Nat} (ha : work[i]? = some a) (hv : ws[i]? = some v) (hx : x < c) (hs : stp a x = some b) (hb : b ∉ work) : BfsW c stp a0 (work ++ [b]) (ws ++ [v ++ [x]]) (ps ++ [(i, x)]) i (x + 1) := by
  have hle : ∀ (j : Nat) w, ws[j]? = some w → w.length ≤ v.length + 1 := fun j w hw => h.near j w v hv hw
  have hil := lt_of_get ha
  refine ⟨by simp [h.len], by simp [h.plen], by rw [List.getElem?_append_left (lt_of_get h.fst)]; exact h.fst, by rw [List.getElem?_append_left (lt_of_get h.wf)]; exact h.wf, ?_, ?_, ?_, ?_, ?_, ?_, ?_⟩
  · rw [List.nodup_append]
    refine ⟨h.nd, by simp, fun p hp q hq => ?_⟩
    rw [List.mem_singleton] at hq
    subst hq
    exact fun e => hb (e ▸ hp)
  · intro j p w hp hw
    rcases snoc_get hp with h1 | ⟨h1, h2⟩
    · rcases snoc_get hw with h3 | ⟨h3, _⟩
      · exact h.run j p w h1 h3
      · have := lt_of_get h1; have := h.len; omega
    · rcases snoc_get hw with h3 | ⟨h3, h4⟩
      · have := lt_of_get h3; have := h.len; omega
      · subst h2; subst h4
        rw [runO_snoc, h.run i a v ha hv]; exact hs
  · intro w hw
    rcases List.mem_append.1 hw with h1 | h1
    · exact h.inw w h1
    · rw [List.mem_singleton] at h1; subst h1
      exact (h.inw v (List.mem_of_getElem? hv)).snoc hx
  · intro j k w u hjk hj hk
    rcases snoc_get hk with h1 | ⟨h1, h2⟩
    · rcases snoc_get hj with h3 | ⟨h3, _⟩
      · exact h.mono j k w u hjk h3 h1
      · have := lt_of_get h1; omega
    · subst h2
      rw [List.length_append]
      rcases snoc_get hj with h3 | ⟨h3, h4⟩
      · exact hle j w h3
      · subst h4; simp
  · intro j w u hu hj
    have hu2 : u = v := by
      rw [List.getElem?_append_left (lt_of_get hv), hv] at hu
      exact (Option.some.inj hu).symm
    subst hu2
    rcases snoc_get hj with h3 | ⟨h3, h4⟩
    · exact hle j w h3
    · subst h4; simp
  · intro k w hk hw
    rcases snoc_get hw with h1 | ⟨h1, h2⟩
    · obtain ⟨j, y, u, h3, h4, h5, h6⟩ := h.par k w hk h1
      exact ⟨j, y, u, h3, by rw [List.getElem?_append_left (lt_of_get h4)]; exact h4, by rw [List.getElem?_append_left (lt_of_get h5)]; exact h5, h6⟩
    · refine ⟨i, x, v, ?_, ?_, by rw [List.getElem?_append_left (lt_of_get hv)]; exact hv, h2⟩
      · have := h.len; omega
      · rw [List.getElem?_append_right (by rw [h.plen, h1, h.len]; exact Nat.le_refl _), h1, h.plen, h.len, Nat.sub_self]; rfl
  · intro j a' y b' u hj hy ha' hu hs'
    have hjl : j < work.length := by omega
    rw [List.getElem?_append_left hjl] at ha'
    rw [List.getElem?_append_left (by rw [h.len]; exact hjl)] at hu
    by_cases hjx : j < i ∨ (j = i ∧ y < x)
    · obtain ⟨k, w, h1, h2, h3⟩ := h.done j a' y b' u hjx hy ha' hu hs'
      exact ⟨k, w, by rw [List.getElem?_append_left (lt_of_get h1)]; exact h1, by rw [List.getElem?_append_left (lt_of_get h2)]; exact h2, h3⟩
    · have e1 : j = i := by omega
      have e2 : y = x := by omega
      subst e1; subst e2
      rw [ha] at ha'; cases ha'
      rw [hs] at hs'; cases hs'
      rw [hv] at hu; cases hu
      exact ⟨work.length, v ++ [y], by simp, by rw [← h.len]; simp, by simp⟩
theorem BfsW.row (h : BfsW c stp a0 work ws ps i c) : BfsW c stp a0 work ws ps (i + 1) 0 := by
  refine { h with near := fun j w v hv hw => ?_, done := fun j a y b v hj hy ha hv hs => ?_ }
  · obtain ⟨u, hu⟩ := get_of_lt (l := ws) (i := i) (by have := lt_of_get hv; omega)
    have h1 := h.near j w u hu hw
    have h2 := h.mono i (i + 1) u v (by omega) hu hv
    omega
  · refine h.done j a y b v ?_ hy ha hv hs
    rcases hj with h1 | h1
    · rcases Nat.lt_or_ge j i with h2 | h2
      · exact .inl h2
      · exact .inr ⟨by omega, hy⟩
    · omega
theorem BfsW.reach (h : BfsW c stp a0 work ws ps i 0) (u : List Nat) (hu : inW c u) : ∀ a, runO stp a0 u = some a → (∃ (j : Nat) (v : List Nat), work[j]? = some a ∧ ws[j]? = some v ∧ v.length ≤ u.length) ∨ ∃ (j : Nat) (v : List Nat), i ≤ j ∧ ws[j]? = some v ∧ v.length ≤ u.length := by
  obtain ⟨n, hn⟩ : ∃ n, n = u.length := ⟨_, rfl⟩
  induction n generalizing u with
  | zero =>
    intro a ha
    have : u = [] := List.eq_nil_of_length_eq_zero hn.symm
    subst this
    simp only [runO, Option.some.injEq] at ha
    subst ha
    exact .inl ⟨0, [], h.fst, h.wf, Nat.le_refl _⟩
  | succ n ih =>
    intro a ha
    rcases List.eq_nil_or_concat u with rfl | ⟨u', y, rfl⟩
    · simp at hn
    rw [List.concat_eq_append] at hu hn ha ⊢
    rw [runO_snoc] at ha
    have hn' : n = u'.length := by simpa using hn
    cases hr : runO stp a0 u' with
    | none => rw [hr] at ha; cases ha
    | some b =>
      rw [hr] at ha
      simp only [Option.bind_some] at ha
      rcases ih u' hu.init.1 hn' b hr with ⟨j, v, h1, h2, h3⟩ | ⟨j, v, h1, h2, h3⟩
      · rcases Nat.lt_or_ge j i with h4 | h4
        · obtain ⟨k, w, h5, h6, h7⟩ := h.done j b y a v (.inl h4) hu.init.2 h1 h2 ha
          exact .inl ⟨k, w, h5, h6, by simp; omega⟩
        · exact .inr ⟨j, v, h4, h2, by simp; omega⟩
      · exact .inr ⟨j, v, h1, h2, by simp; omega⟩
/-- What is reached by a shorter word has been looked at before. -/
theorem BfsW.before (h : BfsW c stp a0 work ws ps i 0) {v : List Nat} (hv : ws[i]? = some v) {u : List Nat} (hu : inW c u) (hl : u.length < v.length) {a : α} (ha : runO stp a0 u = some a) : ∃ j : Nat, j < i ∧ work[j]? = some a := by
  rcases h.reach u hu a ha with ⟨j, w, h1, h2, h3⟩ | ⟨j, w, h1, h2, h3⟩
  · refine ⟨j, ?_, h1⟩
    apply Classical.byContradiction
    intro hj
    have := h.mono i j v w (by omega) hv h2
    omega
  · have := h.mono i j v w h1 hv h2
    omega
theorem BfsW.all (h : BfsW c stp a0 work ws ps i 0) (hi : i = work.length) {u : List Nat} (hu : inW c u) {a : α} (ha : runO stp a0 u = some a) : ∃ j : Nat, j < i ∧ work[j]? = some a := by
  rcases h.reach u hu a ha with ⟨j, w, h1, h2, h3⟩ | ⟨j, w, h1, h2, h3⟩
  · exact ⟨j, by have := lt_of_get h1; omega, h1⟩
  · have := lt_of_get h2; have := h.len; omega
end
def stpD (d : Dfa) (s : Int) (x : Nat) : Option Int := if 0 ≤ toD d s x then some (toD d s x) else none
/-- The least accepted word. -/
structure LeastOf (c : Nat) (f : List Nat → Int) (w : List Nat) : Prop where
  inw : inW c w
  acc : 0 ≤ f w
  min : ∀ u, inW c u → u.length < w.length → f u < 0
structure ByOf (work : List Int) (ps : List (Nat × Nat)) (es : List (Int × (Int × Int))) : Prop where
  keys : es.map (·.1) = work
  first : ∃ t, es[0]? = some (t, (-1, -1))
  link : ∀ (k j y : Nat) s, 0 < k → j < k → ps[k]? = some (j, y) → work[j]? = some s → ∃ t, es[k]? = some (t, (s, ((y : Nat) : Int)))
theorem ByOf.len {work : List Int} {ps : List (Nat × Nat)} {es : List (Int × (Int × Int))} (h : ByOf work ps es) : es.length = work.length := by rw [← h.keys, List.length_map]
theorem ByOf.start (s : Int) (p : Nat × Nat) : ByOf [s] [p] [(s, (-1, -1))] where
  keys := rfl
  first := ⟨s, rfl⟩
  link := fun k j y t hk _ h => by obtain ⟨rfl, _⟩ := one_get h; omega
theorem ByOf.put {work : List Int} {ps : List (Nat × Nat)} {es : List (Int × (Int × Int))} (h : ByOf work ps es) (hpl : ps.length = work.length) {i x : Nat} {s t : Int} (hs : work[i]? = some s) (ht : t ∉ work) : putM es t (s, ((x : Nat) : Int)) = es ++ [(t, (s, ((x : Nat) : Int)))] ∧ ByOf (work ++ [t]) (ps ++ [(i, x)]) (es ++ [(t, (s, ((x : Nat) : Int)))]) := by
  have hg : getM es t = none := by
    cases hg : getM es t with
    | none => rfl
    | some v => exact absurd (by have := getM_isSome.1 (show (getM es t).isSome = true by rw [hg]; rfl); rwa [h.keys] at this) ht
  refine ⟨putM_none _ hg, ⟨by rw [List.map_append, h.keys]; rfl, ?_, fun k j y s' hk hjk hp hs' => ?_⟩⟩
  · obtain ⟨t0, h0⟩ := h.first
    exact ⟨t0, by rw [List.getElem?_append_left (lt_of_get h0)]; exact h0⟩
  · rcases snoc_get hp with h1 | ⟨h1, h2⟩
    · rw [List.getElem?_append_left (by have := lt_of_get h1; omega)] at hs'
      obtain ⟨t1, h3⟩ := h.link k j y s' hk hjk h1 hs'
      exact ⟨t1, by rw [List.getElem?_append_left (lt_of_get h3)]; exact h3⟩
    · simp only [Prod.mk.injEq] at h2
      obtain ⟨rfl, rfl⟩ := h2
      rw [List.getElem?_append_left (lt_of_get hs), hs] at hs'
      cases hs'
      exact ⟨t, by rw [h1, hpl, ← h.len]; simp⟩
theorem ByOf.get {work : List Int} {ps : List (Nat × Nat)} {es : List (Int × (Int × Int))} (h : ByOf work ps es) (nd : work.Nodup) {k : Nat} {t : Int} {q : Int × Int} {t' : Int} (ht : work[k]? = some t) (he : es[k]? = some (t', q)) : getM es t = some q := by
  have e1 : work[k]? = some t' := by rw [← h.keys, List.getElem?_map, he]; rfl
  rw [ht] at e1
  cases e1
  have h1 : (getM es t).isSome = true := getM_isSome.2 (by rw [h.keys]; exact List.mem_of_getElem? ht)
  obtain ⟨v, hv⟩ := Option.isSome_iff_exists.1 h1
  obtain ⟨j, _, h2, _⟩ := findM_some (eV := fun _ => undef) (i := 0) hv
  have e2 : work[j]? = some t := by rw [← h.keys, List.getElem?_map, h2]; rfl
  have hjk : j = k := by
    have h3 := List.getElem?_eq_some_iff.1 e2
    have h4 := List.getElem?_eq_some_iff.1 ht
    obtain ⟨p1, p2⟩ := h3
    obtain ⟨q1, q2⟩ := h4
    exact (List.getElem_inj nd).1 (p2.trans q2.symm)
  rw [hjk, he] at h2
  cases h2
  exact hv
--END
end Go.Proofs
namespace Go.Eng
open Go
end Go.Eng
namespace Go.Proofs
open Go Go.Eng Go.Sort
set_option maxRecDepth 100000
theorem ByOf.cases {c n i x : Nat} {d : Dfa} {work : List Int} {wd : List (List Nat)} {ps : List (Nat × Nat)} {es : List (Int × (Int × Int))} (h : ByOf work ps es) (hB : BfsW c (stpD d) d.start work wd ps i x) (hsl : ∀ t ∈ work, 0 ≤ t ∧ t < n) {j : Nat} {s : Int} {v : List Nat} (hj : work[j]? = some s) (hv : wd[j]? = some v) :
    (((getM es s).getD (0, 0)).1 < 0 ∧ v = []) ∨ (0 ≤ ((getM es s).getD (0, 0)).1 ∧ ∃ (j2 y : Nat) (v2 : List Nat) (s2 : Int), j2 < j ∧ work[j2]? = some s2 ∧ wd[j2]? = some v2 ∧ v = v2 ++ [y] ∧ getM es s = some (s2, ((y : Nat) : Int))) := by
  rcases Nat.eq_zero_or_pos j with h0 | h0
  · subst h0
    obtain ⟨t0, ht0⟩ := h.first
    rw [h.get hB.nd hj ht0]
    refine .inl ⟨by decide, ?_⟩
    rw [hB.wf] at hv
    exact (Option.some.inj hv).symm
  · obtain ⟨j2, y, v2, hj2, hps, hv2, rfl⟩ := hB.par j v h0 hv
    obtain ⟨s2, hs2⟩ := get_of_lt (l := work) (i := j2) (by rw [← hB.len]; exact lt_of_get hv2)
    obtain ⟨t0, ht0⟩ := h.link j j2 y s2 h0 hj2 hps hs2
    have hg := h.get hB.nd hj ht0
    refine .inr ⟨?_, j2, y, v2, s2, hj2, hs2, hv2, rfl, hg⟩
    rw [hg]
    exact (hsl s2 (List.mem_of_getElem? hs2)).1
end Go.Proofs
