/- Contracts: a list of integers sorted in place, up to its order. -/
import Derived.Test.YtcbkbogcaglcoaaSl
import Derived.Test.YtcbkbogcaglcoaaDag
namespace Go.Proofs
open Go Go.Eng
set_option maxRecDepth 100000

theorem Does_callV {P : Program} {N : Nat} {R : Fct} {σ : Env} {w : World} {dst : Option Tmp} {z : Operand} {args : List Operand} {tys : Array TypeId} {ty : TypeId} {pos : String} {af : Array Edge} {g : Option (Nat × Bool)} {fv : Value} {vs : List Value}
    (hz : ev σ z = fv) (ha : args.map (ev σ) = vs) (hc : CallV P fv vs.toArray w fun v w' => R v w' ∧ Ext w w') : Does P N ⟨dst, .call ⟨.value z, args.toArray, tys⟩, ty, pos, af, g⟩ R σ w := by
  obtain ⟨f, fn, first, cap, rfl, hf, hn, hb, hr⟩ := hc
  exact Does_enter (r_callV hz hf hn hb ha rfl) hr
theorem swap_perm {l : List Int} {i j : Nat} {x y : Int} (hi : l[i]? = some x) (hj : l[j]? = some y) (hne : i ≠ j) : List.Perm ((l.set i y).set j x) l := by
  have h1 := lt_of_get hi
  have h2 := lt_of_get hj
  have e1 : l[i] = x := by rw [List.getElem?_eq_getElem h1] at hi; simpa using hi
  have e2 : l[j] = y := by rw [List.getElem?_eq_getElem h2] at hj; simpa using hj
  rw [List.perm_iff_count]
  intro b
  have h3 : j < (l.set i y).length := by simpa using h2
  rw [List.count_set h3, List.count_set h1]
  have e3 : (l.set i y)[j] = y := by rw [List.getElem_set_ne hne]; exact e2
  rw [e3, e1]
  have hc : (x == b) = true → 0 < l.count b := fun h => by
    rw [List.count_pos_iff]
    have : x = b := by simpa using h
    rw [← this]; exact List.mem_of_getElem? hi
  cases hx : x == b
  · cases hy : y == b <;> simp
  · have := hc hx
    cases hy : y == b <;> simp <;> omega

set_option maxHeartbeats 4000000 in
theorem isort_c (w0 : World) (g c n T : Nat) (l : List Int) (rest : List Value) (fv : Value) (cf : Int → Int → Int) (a b : Nat) (hB : Blk w0 g (l.map (Value.int .i64) ++ rest).toArray T) (hn : l.length = n) (hab : a ≤ b) (hbn : b ≤ n) (hsz : n ≤ 1000000)
    (hf : ∀ (w : World) (x y : Int), Chg (fun q => q = g) w0 w → x ∈ l → y ∈ l → CallV Try.prog fv #[.int .i64 x, .int .i64 y] w fun r w' => r = .int .i64 (cf x y) ∧ Ext w w') :
    Ret Try.prog 55 #[.slice (some ⟨g, 0, none⟩) n c, .int .i64 ((a : Nat) : Int), .int .i64 ((b : Nat) : Int), fv] w0 fun _ w => ∃ l', List.Perm l' l ∧ Blk w g (l'.map (Value.int .i64) ++ rest).toArray T ∧ Chg (fun q => q = g) w0 w := by
  refine Ret_of Try.func55 rfl Try.ntmps55 (Nat.le_of_ble_eq_true rfl) ?_
  have E : Chg (fun q => q = g) w0 w0 := Chg.refl _ _
  refine Wp_seq_region ?_
  refine WpL_val rfl rfl (by decide) (r_move (v := (.int .i64 ((a : Nat) : Int))) rfl) ?_
  refine WpL_val rfl rfl (by decide) (r_add (k := .i64) (a := ((a : Nat) : Int)) (b := 1) (c := ((a : Nat) : Int) + 1) rfl rfl (wI64 (by omega))) ?_
  refine WpL_val rfl rfl (by decide) (r_assign (v := (.int .i64 (((a : Nat) : Int) + 1))) rfl) ?_
  refine WpL_nil ?_
  refine Wp_block ?_
  refine Wp_loop (fun nn_ σ W1 => ∃ (i : Nat) (cur : List Int), (∃ jj_, σ = upds jj_ [(0, (.slice (some ⟨g, 0, none⟩) n c)), (1, (.int .i64 ((a : Nat) : Int))), (2, (.int .i64 ((b : Nat) : Int))), (3, fv), (8, (.int .i64 ((i : Nat) : Int)))]) ∧ Chg (fun q => q = g) w0 W1 ∧ Blk W1 g ((cur.map (Value.int .i64) ++ rest).toArray) T ∧ (a + 1 ≤ i ∧ i ≤ b + 1) ∧ (List.Perm cur l) ∧ nn_ = b + 1 - i) (n := b + 1 - (a + 1)) ?_ ?_
  · exact ⟨a + 1, l, Fits.out ⟨rfl, rfl, rfl, rfl, rfl, trivial⟩, E, hB, ⟨by omega, by omega⟩, List.Perm.refl _, rfl⟩
  · clear E hB
    rintro _ _ W1 ⟨i, cur, ⟨j1, rfl⟩, E, hB, hi, hp, rfl⟩
    refine Wp_seq ?_
    refine Wp_seq_region ?_
    refine WpL_val rfl rfl (by decide) (r_move (v := (.int .i64 ((i : Nat) : Int))) rfl) ?_
    refine WpL_val rfl rfl (by decide) (r_move (v := (.int .i64 ((b : Nat) : Int))) rfl) ?_
    refine WpL_val rfl rfl (by decide) (r_lss (k := .i64) (a := ((i : Nat) : Int)) (b := ((b : Nat) : Int)) rfl rfl) ?_
    refine WpL_nil ?_
    refine Wp_cond (b := decide ((((i : Nat) : Int) : Int) < ((b : Nat) : Int))) rfl (fun hlt => ?_) (fun hlt => ?_)
    · have khlt := hlt
      replace hlt := of_decide_eq_true hlt
      refine Wp_skip ?_
      refine thn_normal ?_
      refine Wp_seq ?_
      refine Wp_block ?_
      refine Wp_seq_region ?_
      refine WpL_val rfl rfl (by decide) (r_move (v := (.int .i64 ((i : Nat) : Int))) rfl) ?_
      refine WpL_val rfl rfl (by decide) (r_assign (v := (.int .i64 ((i : Nat) : Int))) rfl) ?_
      refine WpL_nil ?_
      refine Wp_block ?_
      refine Wp_loop (fun nn_ σ W3 => ∃ (j : Nat) (cu : List Int), (∃ jj_, σ = upds jj_ [(0, (.slice (some ⟨g, 0, none⟩) n c)), (1, (.int .i64 ((a : Nat) : Int))), (2, (.int .i64 ((b : Nat) : Int))), (3, fv), (8, (.int .i64 ((i : Nat) : Int))), (9, (.int .i64 ((j : Nat) : Int)))]) ∧ Chg (fun q => q = g) w0 W3 ∧ Blk W3 g ((cu.map (Value.int .i64) ++ rest).toArray) T ∧ (a ≤ j ∧ j ≤ i) ∧ (List.Perm cu l) ∧ nn_ = j + 1) (n := i + 1) ?_ ?_
      · exact ⟨i, cur, Fits.out ⟨rfl, rfl, rfl, rfl, rfl, rfl, trivial⟩, E, hB, ⟨by omega, by omega⟩, hp, rfl⟩
      · clear E hB
        rintro _ _ W3 ⟨j, cu, ⟨j3, rfl⟩, E, hB, hj, hq, rfl⟩
        have hcl : cu.length = n := by rw [hq.length_eq, hn]
        rcases Bool.eq_false_or_eq_true (decide (((a : Nat) : Int) < ((j : Nat) : Int))) with hgt | hgt
        · have khgt := hgt
          replace khgt := of_decide_eq_true khgt
          obtain ⟨x, hx⟩ := get_of_lt (l := cu) (i := j) (by omega)
          obtain ⟨y, hy⟩ := get_of_lt (l := cu) (i := j - 1) (by omega)
          have hj1 : (((j : Nat) : Int) - 1) = (((j - 1 : Nat) : Nat) : Int) := by omega
          refine Wp_seq ?_
          refine Wp_seq ?_
          obtain ⟨Fs4, hFs4⟩ : ∃ Fs : List Fact, Fs = [.eq (.int .i64 ((j : Nat) : Int)), .eq (.int .i64 ((a : Nat) : Int)), .eq (.bool true), .eq (.bool true), .eq fv, .eq (.slice (some ⟨g, 0, none⟩) n c), .eq (.int .i64 ((j : Nat) : Int)), .eq (.pointer (some ⟨g, 0 + j, none⟩)), .eq (.int .i64 x), .eq (.slice (some ⟨g, 0, none⟩) n c), .eq (.int .i64 ((j : Nat) : Int)), .eq (.int .i64 (((j : Nat) : Int) - 1)), .eq (.pointer (some ⟨g, 0 + (j - 1), none⟩)), .eq (.int .i64 y), .eq (.int .i64 (cf x y)), .eq (.bool (decide (cf x y < 0))), .eq (.bool (decide (cf x y < 0)))] := ⟨_, rfl⟩
          refine Wp_dag [18, 19, 20, 21, 22, 23, 24, 25, 26, 27, 28, 29, 30, 31, 32, 33, 34] [[], [], [0, 1], [2], [3], [3], [3], [3, 5, 6], [3, 7], [3], [3], [3, 10], [3, 9, 11], [3, 12], [3, 4, 8, 13], [3, 14], [3, 15]] Fs4 hFs4 mixed (by kernel_rfl) (by kernel_rfl) ?_ ?_
          · intro wd X0
            refine DagSteps.cons (fun s' w' X U H => Or.inl ⟨?_, ?_⟩) ?_
            · exact Guarded_none rfl
            · exact Does_val (r_move (v := (.int .i64 ((j : Nat) : Int))) (U 9 rfl)) (Ext.refl _) rfl
            refine DagSteps.cons (fun s' w' X U H => Or.inl ⟨?_, ?_⟩) ?_
            · exact Guarded_none rfl
            · exact Does_val (r_move (v := (.int .i64 ((a : Nat) : Int))) (U 1 rfl)) (Ext.refl _) rfl
            refine DagSteps.cons (fun s' w' X U H => Or.inl ⟨?_, ?_⟩) ?_
            · exact Guarded_none rfl
            · have e18 : s' 18 = (.int .i64 ((j : Nat) : Int)) := H 0 rfl 18 (.eq (.int .i64 ((j : Nat) : Int))) rfl (by rw [hFs4]; rfl)
              have e19 : s' 19 = (.int .i64 ((a : Nat) : Int)) := H 1 rfl 19 (.eq (.int .i64 ((a : Nat) : Int))) rfl (by rw [hFs4]; rfl)
              exact Does_val (Eq.trans (r_gtr (k := .i64) (a := ((j : Nat) : Int)) (b := ((a : Nat) : Int)) e18 e19) (by rw [hgt])) (Ext.refl _) rfl
            refine DagSteps.cons (fun s' w' X U H => Or.inl ⟨?_, ?_⟩) ?_
            · exact Guarded_none rfl
            · have e20 : s' 20 = (.bool true) := H 2 rfl 20 (.eq (.bool true)) rfl (by rw [hFs4]; rfl)
              exact Does_val (r_move (v := (.bool true)) e20) (Ext.refl _) rfl
            refine DagSteps.cons (fun s' w' X U H => Or.inl ⟨?_, ?_⟩) ?_
            · exact Guarded_some rfl rfl (d := 21) (H 3 rfl 21 (.eq (.bool true)) rfl (by rw [hFs4]; rfl))
            · exact Does_val (r_move (v := fv) (U 3 rfl)) (Ext.refl _) rfl
            refine DagSteps.cons (fun s' w' X U H => Or.inl ⟨?_, ?_⟩) ?_
            · exact Guarded_some rfl rfl (d := 21) (H 3 rfl 21 (.eq (.bool true)) rfl (by rw [hFs4]; rfl))
            · exact Does_val (r_move (v := (.slice (some ⟨g, 0, none⟩) n c)) (U 0 rfl)) (Ext.refl _) rfl
            refine DagSteps.cons (fun s' w' X U H => Or.inl ⟨?_, ?_⟩) ?_
            · exact Guarded_some rfl rfl (d := 21) (H 3 rfl 21 (.eq (.bool true)) rfl (by rw [hFs4]; rfl))
            · exact Does_val (r_move (v := (.int .i64 ((j : Nat) : Int))) (U 9 rfl)) (Ext.refl _) rfl
            refine DagSteps.cons (fun s' w' X U H => Or.inl ⟨?_, ?_⟩) ?_
            · exact Guarded_some rfl rfl (d := 21) (H 3 rfl 21 (.eq (.bool true)) rfl (by rw [hFs4]; rfl))
            · have e23 : s' 23 = (.slice (some ⟨g, 0, none⟩) n c) := H 5 rfl 23 (.eq (.slice (some ⟨g, 0, none⟩) n c)) rfl (by rw [hFs4]; rfl)
              have e24 : s' 24 = (.int .i64 ((j : Nat) : Int)) := H 6 rfl 24 (.eq (.int .i64 ((j : Nat) : Int))) rfl (by rw [hFs4]; rfl)
              exact Does_val (r_indexSlice (b := g) (o := 0) (len := n) (cap := c) (i := j) (o' := 0 + j) e23 e24 (by omega) Try.underlying22 siz3 (by omega) (by omega)) (Ext.refl _) rfl
            refine DagSteps.cons (fun s' w' X U H => Or.inl ⟨?_, ?_⟩) ?_
            · exact Guarded_some rfl rfl (d := 21) (H 3 rfl 21 (.eq (.bool true)) rfl (by rw [hFs4]; rfl))
            · have e25 : s' 25 = (.pointer (some ⟨g, 0 + j, none⟩)) := H 7 rfl 25 (.eq (.pointer (some ⟨g, 0 + j, none⟩))) rfl (by rw [hFs4]; rfl)
              exact Does_val (r_load (v := (.int .i64 x)) e25 flat3 ((by rw [Nat.zero_add]; exact ints_get ((X0.trans X).keep hB) hx))) (Ext.refl _) rfl
            refine DagSteps.cons (fun s' w' X U H => Or.inl ⟨?_, ?_⟩) ?_
            · exact Guarded_some rfl rfl (d := 21) (H 3 rfl 21 (.eq (.bool true)) rfl (by rw [hFs4]; rfl))
            · exact Does_val (r_move (v := (.slice (some ⟨g, 0, none⟩) n c)) (U 0 rfl)) (Ext.refl _) rfl
            refine DagSteps.cons (fun s' w' X U H => Or.inl ⟨?_, ?_⟩) ?_
            · exact Guarded_some rfl rfl (d := 21) (H 3 rfl 21 (.eq (.bool true)) rfl (by rw [hFs4]; rfl))
            · exact Does_val (r_move (v := (.int .i64 ((j : Nat) : Int))) (U 9 rfl)) (Ext.refl _) rfl
            refine DagSteps.cons (fun s' w' X U H => Or.inl ⟨?_, ?_⟩) ?_
            · exact Guarded_some rfl rfl (d := 21) (H 3 rfl 21 (.eq (.bool true)) rfl (by rw [hFs4]; rfl))
            · have e28 : s' 28 = (.int .i64 ((j : Nat) : Int)) := H 10 rfl 28 (.eq (.int .i64 ((j : Nat) : Int))) rfl (by rw [hFs4]; rfl)
              exact Does_val (r_sub (k := .i64) (a := ((j : Nat) : Int)) (b := 1) (c := ((j : Nat) : Int) - 1) e28 rfl (wI64 (by omega))) (Ext.refl _) rfl
            refine DagSteps.cons (fun s' w' X U H => Or.inl ⟨?_, ?_⟩) ?_
            · exact Guarded_some rfl rfl (d := 21) (H 3 rfl 21 (.eq (.bool true)) rfl (by rw [hFs4]; rfl))
            · have e27 : s' 27 = (.slice (some ⟨g, 0, none⟩) n c) := H 9 rfl 27 (.eq (.slice (some ⟨g, 0, none⟩) n c)) rfl (by rw [hFs4]; rfl)
              have e29 : s' 29 = (.int .i64 (((j : Nat) : Int) - 1)) := H 11 rfl 29 (.eq (.int .i64 (((j : Nat) : Int) - 1))) rfl (by rw [hFs4]; rfl)
              exact Does_val (r_indexSlice (b := g) (o := 0) (len := n) (cap := c) (i := j - 1) (o' := 0 + (j - 1)) e27 e29 (by omega) Try.underlying22 siz3 (by omega) (by omega)) (Ext.refl _) rfl
            refine DagSteps.cons (fun s' w' X U H => Or.inl ⟨?_, ?_⟩) ?_
            · exact Guarded_some rfl rfl (d := 21) (H 3 rfl 21 (.eq (.bool true)) rfl (by rw [hFs4]; rfl))
            · have e30 : s' 30 = (.pointer (some ⟨g, 0 + (j - 1), none⟩)) := H 12 rfl 30 (.eq (.pointer (some ⟨g, 0 + (j - 1), none⟩))) rfl (by rw [hFs4]; rfl)
              exact Does_val (r_load (v := (.int .i64 y)) e30 flat3 ((by rw [Nat.zero_add]; exact ints_get ((X0.trans X).keep hB) hy))) (Ext.refl _) rfl
            refine DagSteps.cons (fun s' w' X U H => Or.inl ⟨?_, ?_⟩) ?_
            · exact Guarded_some rfl rfl (d := 21) (H 3 rfl 21 (.eq (.bool true)) rfl (by rw [hFs4]; rfl))
            · have e26 : s' 26 = (.int .i64 x) := H 8 rfl 26 (.eq (.int .i64 x)) rfl (by rw [hFs4]; rfl)
              have e31 : s' 31 = (.int .i64 y) := H 13 rfl 31 (.eq (.int .i64 y)) rfl (by rw [hFs4]; rfl)
              have e22 : s' 22 = fv := H 4 rfl 22 (.eq fv) rfl (by rw [hFs4]; rfl)
              exact Does_callV e22 (lst2 e26 e31) (hf _ x y (E.ext (X0.trans X)) (hq.mem_iff.1 (List.mem_of_getElem? hx)) (hq.mem_iff.1 (List.mem_of_getElem? hy)))
            refine DagSteps.cons (fun s' w' X U H => Or.inl ⟨?_, ?_⟩) ?_
            · exact Guarded_some rfl rfl (d := 21) (H 3 rfl 21 (.eq (.bool true)) rfl (by rw [hFs4]; rfl))
            · have e32 : s' 32 = (.int .i64 (cf x y)) := H 14 rfl 32 (.eq (.int .i64 (cf x y))) rfl (by rw [hFs4]; rfl)
              exact Does_val (r_lss (k := .i64) (a := cf x y) (b := 0) e32 rfl) (Ext.refl _) rfl
            refine DagSteps.cons (fun s' w' X U H => Or.inl ⟨?_, ?_⟩) ?_
            · exact Guarded_none rfl
            · have e21 : s' 21 = (.bool true) := H 3 rfl 21 (.eq (.bool true)) rfl (by rw [hFs4]; rfl)
              have e33 : s' 33 = (.bool (decide (cf x y < 0))) := H 15 rfl 33 (.eq (.bool (decide (cf x y < 0)))) rfl (by rw [hFs4]; rfl)
              exact Does_val (r_pick (b := true) (v := (.bool (decide (cf x y < 0)))) e21 e33) (Ext.refl _) rfl
            exact DagSteps.nil
          · intro s' w4 X4 U H
            obtain ⟨j4, rfl⟩ := Fits.out (σ := s') (l := [(0, (.slice (some ⟨g, 0, none⟩) n c)), (1, (.int .i64 ((a : Nat) : Int))), (2, (.int .i64 ((b : Nat) : Int))), (3, fv), (8, (.int .i64 ((i : Nat) : Int))), (9, (.int .i64 ((j : Nat) : Int))), (18, (.int .i64 ((j : Nat) : Int))), (19, (.int .i64 ((a : Nat) : Int))), (20, (.bool true)), (21, (.bool true)), (22, fv), (23, (.slice (some ⟨g, 0, none⟩) n c)), (24, (.int .i64 ((j : Nat) : Int))), (25, (.pointer (some ⟨g, 0 + j, none⟩))), (26, (.int .i64 x)), (27, (.slice (some ⟨g, 0, none⟩) n c)), (28, (.int .i64 ((j : Nat) : Int))), (29, (.int .i64 (((j : Nat) : Int) - 1))), (30, (.pointer (some ⟨g, 0 + (j - 1), none⟩))), (31, (.int .i64 y)), (32, (.int .i64 (cf x y))), (33, (.bool (decide (cf x y < 0)))), (34, (.bool (decide (cf x y < 0))))]) ⟨U 0 rfl, U 1 rfl, U 2 rfl, U 3 rfl, U 8 rfl, U 9 rfl, (show s' 18 = (.int .i64 ((j : Nat) : Int)) from H 0 18 (.eq (.int .i64 ((j : Nat) : Int))) rfl (by rw [hFs4]; rfl)), (show s' 19 = (.int .i64 ((a : Nat) : Int)) from H 1 19 (.eq (.int .i64 ((a : Nat) : Int))) rfl (by rw [hFs4]; rfl)), (show s' 20 = (.bool true) from H 2 20 (.eq (.bool true)) rfl (by rw [hFs4]; rfl)), (show s' 21 = (.bool true) from H 3 21 (.eq (.bool true)) rfl (by rw [hFs4]; rfl)), (show s' 22 = fv from H 4 22 (.eq fv) rfl (by rw [hFs4]; rfl)), (show s' 23 = (.slice (some ⟨g, 0, none⟩) n c) from H 5 23 (.eq (.slice (some ⟨g, 0, none⟩) n c)) rfl (by rw [hFs4]; rfl)), (show s' 24 = (.int .i64 ((j : Nat) : Int)) from H 6 24 (.eq (.int .i64 ((j : Nat) : Int))) rfl (by rw [hFs4]; rfl)), (show s' 25 = (.pointer (some ⟨g, 0 + j, none⟩)) from H 7 25 (.eq (.pointer (some ⟨g, 0 + j, none⟩))) rfl (by rw [hFs4]; rfl)), (show s' 26 = (.int .i64 x) from H 8 26 (.eq (.int .i64 x)) rfl (by rw [hFs4]; rfl)), (show s' 27 = (.slice (some ⟨g, 0, none⟩) n c) from H 9 27 (.eq (.slice (some ⟨g, 0, none⟩) n c)) rfl (by rw [hFs4]; rfl)), (show s' 28 = (.int .i64 ((j : Nat) : Int)) from H 10 28 (.eq (.int .i64 ((j : Nat) : Int))) rfl (by rw [hFs4]; rfl)), (show s' 29 = (.int .i64 (((j : Nat) : Int) - 1)) from H 11 29 (.eq (.int .i64 (((j : Nat) : Int) - 1))) rfl (by rw [hFs4]; rfl)), (show s' 30 = (.pointer (some ⟨g, 0 + (j - 1), none⟩)) from H 12 30 (.eq (.pointer (some ⟨g, 0 + (j - 1), none⟩))) rfl (by rw [hFs4]; rfl)), (show s' 31 = (.int .i64 y) from H 13 31 (.eq (.int .i64 y)) rfl (by rw [hFs4]; rfl)), (show s' 32 = (.int .i64 (cf x y)) from H 14 32 (.eq (.int .i64 (cf x y))) rfl (by rw [hFs4]; rfl)), (show s' 33 = (.bool (decide (cf x y < 0))) from H 15 33 (.eq (.bool (decide (cf x y < 0)))) rfl (by rw [hFs4]; rfl)), (show s' 34 = (.bool (decide (cf x y < 0))) from H 16 34 (.eq (.bool (decide (cf x y < 0)))) rfl (by rw [hFs4]; rfl)), trivial⟩
            clear U H
            replace hB := X4.keep hB
            replace E := E.ext X4
            refine thn_normal ?_
            refine Wp_cond (b := decide (cf x y < 0)) rfl (fun hc => ?_) (fun hc => ?_)
            · have khc := hc
              replace hc := of_decide_eq_true hc
              refine Wp_skip ?_
              refine thn_normal ?_
              refine Wp_seq ?_
              refine Wp_block ?_
              obtain ⟨Fs6, hFs6⟩ : ∃ Fs : List (FactT ((fun q => q = g))), Fs = [.eq (.slice (some ⟨g, 0, none⟩) n c), .eq (.int .i64 ((j : Nat) : Int)), .eq (.slice (some ⟨g, 0, none⟩) n c), .eq (.int .i64 ((j : Nat) : Int)), .eq (.int .i64 (((j : Nat) : Int) - 1)), .eq (.slice (some ⟨g, 0, none⟩) n c), .eq (.int .i64 ((j : Nat) : Int)), .eq (.int .i64 (((j : Nat) : Int) - 1)), .eq (.pointer (some ⟨g, 0 + (j - 1), none⟩)), .eq (.int .i64 y), .eq (.slice (some ⟨g, 0, none⟩) n c), .eq (.int .i64 ((j : Nat) : Int)), .eq (.pointer (some ⟨g, 0 + j, none⟩)), .eq (.int .i64 x), .eq (.pointer (some ⟨g, 0 + j, none⟩)), .own (fun _ w => Blk w g ((cu.set j y).map (Value.int .i64) ++ rest).toArray T) (fun _ _ _ e h => Ext.keep e h)] := ⟨_, rfl⟩
              refine Wp_dagT ((fun q => q = g)) 16 15 [37, 38, 39, 40, 41, 42, 43, 44, 45, 46, 47, 48, 49, 50, 51, 68] [[], [], [], [], [3], [], [], [6], [5, 7], [8], [], [], [10, 11], [12], [0, 1, 5, 6, 7, 8, 9, 13], [0, 1, 5, 6, 7, 8, 9, 13, 14]] Fs6 hFs6 rfl mixed (by kernel_rfl) (by kernel_rfl) (by kernel_rfl) ?_ ?_
              · intro wd X0
                refine DagStepsT.cons (fun s' w' X U H => ?_) ?_
                · exact DoesT_val (r_move (v := (.slice (some ⟨g, 0, none⟩) n c)) (U 0 rfl)) (Chg.refl _ _) rfl
                refine DagStepsT.cons (fun s' w' X U H => ?_) ?_
                · exact DoesT_val (r_move (v := (.int .i64 ((j : Nat) : Int))) (U 9 rfl)) (Chg.refl _ _) rfl
                refine DagStepsT.cons (fun s' w' X U H => ?_) ?_
                · exact DoesT_val (r_move (v := (.slice (some ⟨g, 0, none⟩) n c)) (U 0 rfl)) (Chg.refl _ _) rfl
                refine DagStepsT.cons (fun s' w' X U H => ?_) ?_
                · exact DoesT_val (r_move (v := (.int .i64 ((j : Nat) : Int))) (U 9 rfl)) (Chg.refl _ _) rfl
                refine DagStepsT.cons (fun s' w' X U H => ?_) ?_
                · have e40 : s' 40 = (.int .i64 ((j : Nat) : Int)) := H 3 rfl 40 (.eq (.int .i64 ((j : Nat) : Int))) rfl (by rw [hFs6]; rfl)
                  exact DoesT_val (r_sub (k := .i64) (a := ((j : Nat) : Int)) (b := 1) (c := ((j : Nat) : Int) - 1) e40 rfl (wI64 (by omega))) (Chg.refl _ _) rfl
                refine DagStepsT.cons (fun s' w' X U H => ?_) ?_
                · exact DoesT_val (r_move (v := (.slice (some ⟨g, 0, none⟩) n c)) (U 0 rfl)) (Chg.refl _ _) rfl
                refine DagStepsT.cons (fun s' w' X U H => ?_) ?_
                · exact DoesT_val (r_move (v := (.int .i64 ((j : Nat) : Int))) (U 9 rfl)) (Chg.refl _ _) rfl
                refine DagStepsT.cons (fun s' w' X U H => ?_) ?_
                · have e43 : s' 43 = (.int .i64 ((j : Nat) : Int)) := H 6 rfl 43 (.eq (.int .i64 ((j : Nat) : Int))) rfl (by rw [hFs6]; rfl)
                  exact DoesT_val (r_sub (k := .i64) (a := ((j : Nat) : Int)) (b := 1) (c := ((j : Nat) : Int) - 1) e43 rfl (wI64 (by omega))) (Chg.refl _ _) rfl
                refine DagStepsT.cons (fun s' w' X U H => ?_) ?_
                · have e42 : s' 42 = (.slice (some ⟨g, 0, none⟩) n c) := H 5 rfl 42 (.eq (.slice (some ⟨g, 0, none⟩) n c)) rfl (by rw [hFs6]; rfl)
                  have e44 : s' 44 = (.int .i64 (((j : Nat) : Int) - 1)) := H 7 rfl 44 (.eq (.int .i64 (((j : Nat) : Int) - 1))) rfl (by rw [hFs6]; rfl)
                  exact DoesT_val (r_indexSlice (b := g) (o := 0) (len := n) (cap := c) (i := j - 1) (o' := 0 + (j - 1)) e42 e44 (by omega) Try.underlying22 siz3 (by omega) (by omega)) (Chg.refl _ _) rfl
                refine DagStepsT.cons (fun s' w' X U H => ?_) ?_
                · have e45 : s' 45 = (.pointer (some ⟨g, 0 + (j - 1), none⟩)) := H 8 rfl 45 (.eq (.pointer (some ⟨g, 0 + (j - 1), none⟩))) rfl (by rw [hFs6]; rfl)
                  exact DoesT_val (r_load (v := (.int .i64 y)) e45 flat3 (by rw [Nat.zero_add]; exact (Chg.keep X (fun f => f) (X0.keep hB) |> fun h => ints_get h hy))) (Chg.refl _ _) rfl
                refine DagStepsT.cons (fun s' w' X U H => ?_) ?_
                · exact DoesT_val (r_move (v := (.slice (some ⟨g, 0, none⟩) n c)) (U 0 rfl)) (Chg.refl _ _) rfl
                refine DagStepsT.cons (fun s' w' X U H => ?_) ?_
                · exact DoesT_val (r_move (v := (.int .i64 ((j : Nat) : Int))) (U 9 rfl)) (Chg.refl _ _) rfl
                refine DagStepsT.cons (fun s' w' X U H => ?_) ?_
                · have e47 : s' 47 = (.slice (some ⟨g, 0, none⟩) n c) := H 10 rfl 47 (.eq (.slice (some ⟨g, 0, none⟩) n c)) rfl (by rw [hFs6]; rfl)
                  have e48 : s' 48 = (.int .i64 ((j : Nat) : Int)) := H 11 rfl 48 (.eq (.int .i64 ((j : Nat) : Int))) rfl (by rw [hFs6]; rfl)
                  exact DoesT_val (r_indexSlice (b := g) (o := 0) (len := n) (cap := c) (i := j) (o' := 0 + j) e47 e48 (by omega) Try.underlying22 siz3 (by omega) (by omega)) (Chg.refl _ _) rfl
                refine DagStepsT.cons (fun s' w' X U H => ?_) ?_
                · have e49 : s' 49 = (.pointer (some ⟨g, 0 + j, none⟩)) := H 12 rfl 49 (.eq (.pointer (some ⟨g, 0 + j, none⟩))) rfl (by rw [hFs6]; rfl)
                  exact DoesT_val (r_load (v := (.int .i64 x)) e49 flat3 (by rw [Nat.zero_add]; exact (Chg.keep X (fun f => f) (X0.keep hB) |> fun h => ints_get h hx))) (Chg.refl _ _) rfl
                refine DagStepsT.cons (fun s' w' X U H => ?_) ?_
                · have e37 : s' 37 = (.slice (some ⟨g, 0, none⟩) n c) := H 0 rfl 37 (.eq (.slice (some ⟨g, 0, none⟩) n c)) rfl (by rw [hFs6]; rfl)
                  have e38 : s' 38 = (.int .i64 ((j : Nat) : Int)) := H 1 rfl 38 (.eq (.int .i64 ((j : Nat) : Int))) rfl (by rw [hFs6]; rfl)
                  exact DoesT_val (r_indexSlice (b := g) (o := 0) (len := n) (cap := c) (i := j) (o' := 0 + j) e37 e38 (by omega) Try.underlying22 siz3 (by omega) (by omega)) (Chg.refl _ _) rfl
                refine DagStepsT.cons (fun s' w' X U H => ?_) ?_
                · have e51 : s' 51 = (.pointer (some ⟨g, 0 + j, none⟩)) := H 14 rfl 51 (.eq (.pointer (some ⟨g, 0 + j, none⟩))) rfl (by rw [hFs6]; rfl)
                  have e46 : s' 46 = (.int .i64 y) := H 9 rfl 46 (.eq (.int .i64 y)) rfl (by rw [hFs6]; rfl)
                  exact DoesT_store e51 e46 rfl siz3 (Chg.keep X (fun f => f) (X0.keep hB)) (by simp; omega) rfl (fun w9 h => by have h2 := h.blk; rw [Nat.zero_add, ints_set (by omega) y] at h2; exact h2)
                exact DagStepsT.nil
              · intro s' wd6 w6 X0 X6 U H
                have e39 : s' 39 = (.slice (some ⟨g, 0, none⟩) n c) := H 2 39 (.eq (.slice (some ⟨g, 0, none⟩) n c)) rfl (by rw [hFs6]; rfl)
                have e41 : s' 41 = (.int .i64 (((j : Nat) : Int) - 1)) := H 4 41 (.eq (.int .i64 (((j : Nat) : Int) - 1))) rfl (by rw [hFs6]; rfl)
                have e50 : s' 50 = (.int .i64 x) := H 13 50 (.eq (.int .i64 x)) rfl (by rw [hFs6]; rfl)
                obtain hB := (show (.own (fun _ w => Blk w g ((cu.set j y).map (Value.int .i64) ++ rest).toArray T) (fun _ _ _ e h => Ext.keep e h) : FactT ((fun q => q = g))).In (s' 68) w6 from H 15 68 (.own (fun _ w => Blk w g ((cu.set j y).map (Value.int .i64) ++ rest).toArray T) (fun _ _ _ e h => Ext.keep e h)) rfl (by rw [hFs6]; rfl))
                obtain ⟨j6, rfl⟩ := Fits.out (σ := s') (l := [(0, (.slice (some ⟨g, 0, none⟩) n c)), (1, (.int .i64 ((a : Nat) : Int))), (2, (.int .i64 ((b : Nat) : Int))), (3, fv), (8, (.int .i64 ((i : Nat) : Int))), (9, (.int .i64 ((j : Nat) : Int))), (39, (.slice (some ⟨g, 0, none⟩) n c)), (41, (.int .i64 (((j : Nat) : Int) - 1))), (50, (.int .i64 x))]) ⟨U 0 rfl, U 1 rfl, U 2 rfl, U 3 rfl, U 8 rfl, U 9 rfl, e39, e41, e50, trivial⟩
                clear U H
                replace E := (E.ext X0).step X6 (fun q _ h => h)
                refine WpL_val rfl rfl (by decide) (r_indexSlice (b := g) (o := 0) (len := n) (cap := c) (i := j - 1) (o' := 0 + (j - 1)) rfl rfl (by omega) Try.underlying22 siz3 (by omega) (by omega)) ?_
                refine s_store (b := g) (o := 0 + (j - 1)) (c' := (((cu.set j y).set (j - 1) x).map (Value.int .i64) ++ rest).toArray) (v := (.int .i64 x)) rfl rfl rfl siz3 hB (by simp; omega) (by rw [Nat.zero_add]; exact ints_set (by simp; omega) x) ?_
                intro w7 S7
                replace E := S7.step E (by first | exact Or.inl (by omega) | exact Or.inr rfl | exact Or.inr (by assumption) | exact Or.inr (by simp) | exact Or.inr (by omega) | exact Or.inr (by dsimp only; omega))
                replace hB := S7.blk
                refine WpL_nil ?_
                refine inB_normal ?_
                refine thn_normal ?_
                refine Wp_region ?_
                refine WpL_val rfl rfl (by decide) (r_move (v := (.int .i64 ((j : Nat) : Int))) rfl) ?_
                refine WpL_val rfl rfl (by decide) (r_sub (k := .i64) (a := ((j : Nat) : Int)) (b := 1) (c := (((j - 1 : Nat) : Nat) : Int)) rfl rfl ((wI64 (by omega)).trans (by omega))) ?_
                refine WpL_val rfl rfl (by decide) (r_assign (v := (.int .i64 (((j - 1 : Nat) : Nat) : Int))) rfl) ?_
                refine WpL_nil ?_
                refine thn_normal ?_
                exact ⟨(j - 1) + 1, by omega, j - 1, (cu.set j y).set (j - 1) x, Fits.out ⟨rfl, rfl, rfl, rfl, rfl, rfl, trivial⟩, E, hB, ⟨by omega, by omega⟩, (swap_perm hx hy (by omega)).trans hq, rfl⟩
            · have khc := hc
              replace hc := of_decide_eq_false hc
              refine Wp_exit ?_
              refine thn_exit ?_
              refine thn_exit ?_
              refine inB_here ?_
              refine inB_normal ?_
              refine thn_normal ?_
              refine Wp_region ?_
              refine WpL_val rfl rfl (by decide) (r_move (v := (.int .i64 ((i : Nat) : Int))) rfl) ?_
              refine WpL_val rfl rfl (by decide) (r_add (k := .i64) (a := ((i : Nat) : Int)) (b := 1) (c := ((i : Nat) : Int) + 1) rfl rfl (wI64 (by omega))) ?_
              refine WpL_val rfl rfl (by decide) (r_assign (v := (.int .i64 (((i : Nat) : Int) + 1))) rfl) ?_
              refine WpL_nil ?_
              refine thn_normal ?_
              exact ⟨b + 1 - (i + 1), by omega, i + 1, cu, Fits.out ⟨rfl, rfl, rfl, rfl, rfl, trivial⟩, E, hB, ⟨by omega, by omega⟩, hq, rfl⟩
        · have khgt := hgt
          replace khgt := of_decide_eq_false khgt
          refine Wp_seq ?_
          refine Wp_seq ?_
          obtain ⟨Fs8, hFs8⟩ : ∃ Fs : List Fact, Fs = [.eq (.int .i64 ((j : Nat) : Int)), .eq (.int .i64 ((a : Nat) : Int)), .eq (.bool false), .eq (.bool false), .eq undef, .eq undef, .eq undef, .eq undef, .eq undef, .eq undef, .eq undef, .eq undef, .eq undef, .eq undef, .eq undef, .eq undef, .eq (.bool false)] := ⟨_, rfl⟩
          refine Wp_dag [18, 19, 20, 21, 22, 23, 24, 25, 26, 27, 28, 29, 30, 31, 32, 33, 34] [[], [], [0, 1], [2], [3], [3], [3], [3, 5, 6], [3, 7], [3], [3], [3, 10], [3, 9, 11], [3, 12], [3, 4, 8, 13], [3, 14], [3, 15]] Fs8 hFs8 mixed (by kernel_rfl) (by kernel_rfl) ?_ ?_
          · intro wd X0
            refine DagSteps.cons (fun s' w' X U H => Or.inl ⟨?_, ?_⟩) ?_
            · exact Guarded_none rfl
            · exact Does_val (r_move (v := (.int .i64 ((j : Nat) : Int))) (U 9 rfl)) (Ext.refl _) rfl
            refine DagSteps.cons (fun s' w' X U H => Or.inl ⟨?_, ?_⟩) ?_
            · exact Guarded_none rfl
            · exact Does_val (r_move (v := (.int .i64 ((a : Nat) : Int))) (U 1 rfl)) (Ext.refl _) rfl
            refine DagSteps.cons (fun s' w' X U H => Or.inl ⟨?_, ?_⟩) ?_
            · exact Guarded_none rfl
            · have e18 : s' 18 = (.int .i64 ((j : Nat) : Int)) := H 0 rfl 18 (.eq (.int .i64 ((j : Nat) : Int))) rfl (by rw [hFs8]; rfl)
              have e19 : s' 19 = (.int .i64 ((a : Nat) : Int)) := H 1 rfl 19 (.eq (.int .i64 ((a : Nat) : Int))) rfl (by rw [hFs8]; rfl)
              exact Does_val (Eq.trans (r_gtr (k := .i64) (a := ((j : Nat) : Int)) (b := ((a : Nat) : Int)) e18 e19) (by rw [hgt])) (Ext.refl _) rfl
            refine DagSteps.cons (fun s' w' X U H => Or.inl ⟨?_, ?_⟩) ?_
            · exact Guarded_none rfl
            · have e20 : s' 20 = (.bool false) := H 2 rfl 20 (.eq (.bool false)) rfl (by rw [hFs8]; rfl)
              exact Does_val (r_move (v := (.bool false)) e20) (Ext.refl _) rfl
            refine DagSteps.cons (fun s' w' X U H => Or.inr ⟨?_, rfl⟩) ?_
            · exact Unmet_mk rfl rfl (d := 21) (Or.inl (H 3 rfl 21 (.eq (.bool false)) rfl (by rw [hFs8]; rfl)))
            refine DagSteps.cons (fun s' w' X U H => Or.inr ⟨?_, rfl⟩) ?_
            · exact Unmet_mk rfl rfl (d := 21) (Or.inl (H 3 rfl 21 (.eq (.bool false)) rfl (by rw [hFs8]; rfl)))
            refine DagSteps.cons (fun s' w' X U H => Or.inr ⟨?_, rfl⟩) ?_
            · exact Unmet_mk rfl rfl (d := 21) (Or.inl (H 3 rfl 21 (.eq (.bool false)) rfl (by rw [hFs8]; rfl)))
            refine DagSteps.cons (fun s' w' X U H => Or.inr ⟨?_, rfl⟩) ?_
            · exact Unmet_mk rfl rfl (d := 21) (Or.inl (H 3 rfl 21 (.eq (.bool false)) rfl (by rw [hFs8]; rfl)))
            refine DagSteps.cons (fun s' w' X U H => Or.inr ⟨?_, rfl⟩) ?_
            · exact Unmet_mk rfl rfl (d := 21) (Or.inl (H 3 rfl 21 (.eq (.bool false)) rfl (by rw [hFs8]; rfl)))
            refine DagSteps.cons (fun s' w' X U H => Or.inr ⟨?_, rfl⟩) ?_
            · exact Unmet_mk rfl rfl (d := 21) (Or.inl (H 3 rfl 21 (.eq (.bool false)) rfl (by rw [hFs8]; rfl)))
            refine DagSteps.cons (fun s' w' X U H => Or.inr ⟨?_, rfl⟩) ?_
            · exact Unmet_mk rfl rfl (d := 21) (Or.inl (H 3 rfl 21 (.eq (.bool false)) rfl (by rw [hFs8]; rfl)))
            refine DagSteps.cons (fun s' w' X U H => Or.inr ⟨?_, rfl⟩) ?_
            · exact Unmet_mk rfl rfl (d := 21) (Or.inl (H 3 rfl 21 (.eq (.bool false)) rfl (by rw [hFs8]; rfl)))
            refine DagSteps.cons (fun s' w' X U H => Or.inr ⟨?_, rfl⟩) ?_
            · exact Unmet_mk rfl rfl (d := 21) (Or.inl (H 3 rfl 21 (.eq (.bool false)) rfl (by rw [hFs8]; rfl)))
            refine DagSteps.cons (fun s' w' X U H => Or.inr ⟨?_, rfl⟩) ?_
            · exact Unmet_mk rfl rfl (d := 21) (Or.inl (H 3 rfl 21 (.eq (.bool false)) rfl (by rw [hFs8]; rfl)))
            refine DagSteps.cons (fun s' w' X U H => Or.inr ⟨?_, rfl⟩) ?_
            · exact Unmet_mk rfl rfl (d := 21) (Or.inl (H 3 rfl 21 (.eq (.bool false)) rfl (by rw [hFs8]; rfl)))
            refine DagSteps.cons (fun s' w' X U H => Or.inr ⟨?_, rfl⟩) ?_
            · exact Unmet_mk rfl rfl (d := 21) (Or.inl (H 3 rfl 21 (.eq (.bool false)) rfl (by rw [hFs8]; rfl)))
            refine DagSteps.cons (fun s' w' X U H => Or.inl ⟨?_, ?_⟩) ?_
            · exact Guarded_none rfl
            · have e21 : s' 21 = (.bool false) := H 3 rfl 21 (.eq (.bool false)) rfl (by rw [hFs8]; rfl)
              exact Does_val (r_pick (b := false) (v := (.bool false)) e21 rfl) (Ext.refl _) rfl
            exact DagSteps.nil
          · intro s' w8 X8 U H
            obtain ⟨j8, rfl⟩ := Fits.out (σ := s') (l := [(0, (.slice (some ⟨g, 0, none⟩) n c)), (1, (.int .i64 ((a : Nat) : Int))), (2, (.int .i64 ((b : Nat) : Int))), (3, fv), (8, (.int .i64 ((i : Nat) : Int))), (9, (.int .i64 ((j : Nat) : Int))), (18, (.int .i64 ((j : Nat) : Int))), (19, (.int .i64 ((a : Nat) : Int))), (20, (.bool false)), (21, (.bool false)), (22, undef), (23, undef), (24, undef), (25, undef), (26, undef), (27, undef), (28, undef), (29, undef), (30, undef), (31, undef), (32, undef), (33, undef), (34, (.bool false))]) ⟨U 0 rfl, U 1 rfl, U 2 rfl, U 3 rfl, U 8 rfl, U 9 rfl, (show s' 18 = (.int .i64 ((j : Nat) : Int)) from H 0 18 (.eq (.int .i64 ((j : Nat) : Int))) rfl (by rw [hFs8]; rfl)), (show s' 19 = (.int .i64 ((a : Nat) : Int)) from H 1 19 (.eq (.int .i64 ((a : Nat) : Int))) rfl (by rw [hFs8]; rfl)), (show s' 20 = (.bool false) from H 2 20 (.eq (.bool false)) rfl (by rw [hFs8]; rfl)), (show s' 21 = (.bool false) from H 3 21 (.eq (.bool false)) rfl (by rw [hFs8]; rfl)), (show s' 22 = undef from H 4 22 (.eq undef) rfl (by rw [hFs8]; rfl)), (show s' 23 = undef from H 5 23 (.eq undef) rfl (by rw [hFs8]; rfl)), (show s' 24 = undef from H 6 24 (.eq undef) rfl (by rw [hFs8]; rfl)), (show s' 25 = undef from H 7 25 (.eq undef) rfl (by rw [hFs8]; rfl)), (show s' 26 = undef from H 8 26 (.eq undef) rfl (by rw [hFs8]; rfl)), (show s' 27 = undef from H 9 27 (.eq undef) rfl (by rw [hFs8]; rfl)), (show s' 28 = undef from H 10 28 (.eq undef) rfl (by rw [hFs8]; rfl)), (show s' 29 = undef from H 11 29 (.eq undef) rfl (by rw [hFs8]; rfl)), (show s' 30 = undef from H 12 30 (.eq undef) rfl (by rw [hFs8]; rfl)), (show s' 31 = undef from H 13 31 (.eq undef) rfl (by rw [hFs8]; rfl)), (show s' 32 = undef from H 14 32 (.eq undef) rfl (by rw [hFs8]; rfl)), (show s' 33 = undef from H 15 33 (.eq undef) rfl (by rw [hFs8]; rfl)), (show s' 34 = (.bool false) from H 16 34 (.eq (.bool false)) rfl (by rw [hFs8]; rfl)), trivial⟩
            clear U H
            replace hB := X8.keep hB
            replace E := E.ext X8
            refine thn_normal ?_
            refine Wp_cond_false rfl ?_
            refine Wp_exit ?_
            refine thn_exit ?_
            refine thn_exit ?_
            refine inB_here ?_
            refine inB_normal ?_
            refine thn_normal ?_
            refine Wp_region ?_
            refine WpL_val rfl rfl (by decide) (r_move (v := (.int .i64 ((i : Nat) : Int))) rfl) ?_
            refine WpL_val rfl rfl (by decide) (r_add (k := .i64) (a := ((i : Nat) : Int)) (b := 1) (c := ((i : Nat) : Int) + 1) rfl rfl (wI64 (by omega))) ?_
            refine WpL_val rfl rfl (by decide) (r_assign (v := (.int .i64 (((i : Nat) : Int) + 1))) rfl) ?_
            refine WpL_nil ?_
            refine thn_normal ?_
            exact ⟨b + 1 - (i + 1), by omega, i + 1, cu, Fits.out ⟨rfl, rfl, rfl, rfl, rfl, trivial⟩, E, hB, ⟨by omega, by omega⟩, hq, rfl⟩
    · have khlt := hlt
      replace hlt := of_decide_eq_false hlt
      refine Wp_exit ?_
      refine thn_exit ?_
      refine thn_exit ?_
      refine inB_here ?_
      refine fin_none Try.results55 ?_
      exact ⟨cur, hp, hB, E⟩

set_option maxHeartbeats 4000000 in
theorem stable_small_c (w0 : World) (g c n T : Nat) (l : List Int) (rest : List Value) (fv : Value) (cf : Int → Int → Int) (hB : Blk w0 g (l.map (Value.int .i64) ++ rest).toArray T) (hn : l.length = n) (hsz : n < 20)
    (hf : ∀ (w : World) (x y : Int), Chg (fun q => q = g) w0 w → x ∈ l → y ∈ l → CallV Try.prog fv #[.int .i64 x, .int .i64 y] w fun r w' => r = .int .i64 (cf x y) ∧ Ext w w') :
    Ret Try.prog 29 #[.slice (some ⟨g, 0, none⟩) n c, fv] w0 fun _ w => ∃ l', List.Perm l' l ∧ Blk w g (l'.map (Value.int .i64) ++ rest).toArray T ∧ Chg (fun q => q = g) w0 w := by
  have hin : Ret Try.prog 50 #[.slice (some ⟨g, 0, none⟩) n c, .int .i64 ((n : Nat) : Int), fv] w0 fun _ w => ∃ l', List.Perm l' l ∧ Blk w g (l'.map (Value.int .i64) ++ rest).toArray T ∧ Chg (fun q => q = g) w0 w := by
    refine Ret_of Try.func50 rfl Try.ntmps50 (Nat.le_of_ble_eq_true rfl) ?_
    have E : Chg (fun q => q = g) w0 w0 := Chg.refl _ _
    refine Wp_seq_region ?_
    refine WpL_val rfl rfl (by decide) (r_assign (v := (.int .i64 20)) rfl) ?_
    refine WpL_nil ?_
    refine Wp_seq_region ?_
    refine WpL_val rfl rfl (by decide) (r_move (v := (.int .i64 20)) rfl) ?_
    refine WpL_val rfl rfl (by decide) (r_assign (v := (.int .i64 0)) rfl) ?_
    refine WpL_val rfl rfl (by decide) (r_assign (v := (.int .i64 20)) rfl) ?_
    refine WpL_nil ?_
    refine Wp_seq ?_
    refine Wp_block ?_
    refine Wp_loop (fun nn_ σ W1 => (∃ jj_, σ = upds jj_ [(0, (.slice (some ⟨g, 0, none⟩) n c)), (1, (.int .i64 ((n : Nat) : Int))), (2, fv), (6, (.int .i64 20)), (7, (.int .i64 0)), (8, (.int .i64 20))]) ∧ Chg (fun q => q = g) w0 W1 ∧ Blk W1 g ((l.map (Value.int .i64) ++ rest).toArray) T ∧ nn_ = 0 + 1) (n := 0 + 1) ?_ ?_
    · exact ⟨Fits.out ⟨rfl, rfl, rfl, rfl, rfl, rfl, trivial⟩, E, hB, rfl⟩
    · clear E hB
      rintro _ _ W1 ⟨⟨j1, rfl⟩, E, hB, rfl⟩
      refine Wp_seq ?_
      refine Wp_seq_region ?_
      refine WpL_val rfl rfl (by decide) (r_move (v := (.int .i64 20)) rfl) ?_
      refine WpL_val rfl rfl (by decide) (r_move (v := (.int .i64 ((n : Nat) : Int))) rfl) ?_
      refine WpL_val rfl rfl (by decide) (r_leq (k := .i64) (a := 20) (b := ((n : Nat) : Int)) rfl rfl) ?_
      refine WpL_nil ?_
      have hc2 : (decide ((20 : Int) ≤ ((n : Nat) : Int))) = false := by simp; omega
      refine Wp_cond_false (congrArg Value.bool hc2) ?_
      refine Wp_exit ?_
      refine thn_exit ?_
      refine thn_exit ?_
      refine inB_here ?_
      refine thn_normal ?_
      refine Wp_seq_region ?_
      refine WpL_val rfl rfl (by decide) (r_move (v := (.slice (some ⟨g, 0, none⟩) n c)) rfl) ?_
      refine WpL_val rfl rfl (by decide) (r_move (v := (.int .i64 0)) rfl) ?_
      refine WpL_val rfl rfl (by decide) (r_move (v := (.int .i64 ((n : Nat) : Int))) rfl) ?_
      refine WpL_val rfl rfl (by decide) (r_move (v := fv) rfl) ?_
      refine WpL_enter rfl rfl (by decide) (r_callF (vs := [(.slice (some ⟨g, 0, none⟩) n c), (.int .i64 0), (.int .i64 ((n : Nat) : Int)), fv]) Try.func55 nm55 bd55 rfl) (isort_c _ g c n T l rest fv cf 0 n hB hn (by omega) (Nat.le_refl _) (by omega) (fun w x y hE => hf w x y (E.trans hE))) ?_
      rintro _ w9 ⟨l', hp, hB9, C9⟩
      replace E := E.step C9 (fun q _ h => h)
      refine WpL_nil ?_
      refine Wp_block ?_
      refine Wp_loop (fun nn_ σ W3 => (∃ jj_, σ = upds jj_ [(0, (.slice (some ⟨g, 0, none⟩) n c)), (1, (.int .i64 ((n : Nat) : Int))), (2, fv), (6, (.int .i64 20))]) ∧ Chg (fun q => q = g) w0 W3 ∧ (Blk W3 g (l'.map (Value.int .i64) ++ rest).toArray T) ∧ nn_ = 0 + 1) (n := 0 + 1) ?_ ?_
      · exact ⟨Fits.out ⟨rfl, rfl, rfl, rfl, trivial⟩, E, hB9, rfl⟩
      · clear E
        rintro _ _ W3 ⟨⟨j3, rfl⟩, E, hB9, rfl⟩
        refine Wp_seq ?_
        refine Wp_seq_region ?_
        refine WpL_val rfl rfl (by decide) (r_move (v := (.int .i64 20)) rfl) ?_
        refine WpL_val rfl rfl (by decide) (r_move (v := (.int .i64 ((n : Nat) : Int))) rfl) ?_
        refine WpL_val rfl rfl (by decide) (r_lss (k := .i64) (a := 20) (b := ((n : Nat) : Int)) rfl rfl) ?_
        refine WpL_nil ?_
        have hc4 : (decide ((20 : Int) < ((n : Nat) : Int))) = false := by simp; omega
        refine Wp_cond_false (congrArg Value.bool hc4) ?_
        refine Wp_exit ?_
        refine thn_exit ?_
        refine thn_exit ?_
        refine inB_here ?_
        refine fin_none Try.results50 ?_
        exact ⟨l', hp, hB9, E⟩
  refine Ret_of Try.func29 rfl Try.ntmps29 (Nat.le_of_ble_eq_true rfl) ?_
  have E : Chg (fun q => q = g) w0 w0 := Chg.refl _ _
  refine Wp_region ?_
  refine WpL_val rfl rfl (by decide) (r_move (v := (.slice (some ⟨g, 0, none⟩) n c)) rfl) ?_
  refine WpL_val rfl rfl (by decide) (r_move (v := (.slice (some ⟨g, 0, none⟩) n c)) rfl) ?_
  refine WpL_val rfl rfl (by decide) (r_lenSlice (ad := some ⟨g, 0, none⟩) (n := n) (cap := c) Try.underlying22 rfl) ?_
  refine WpL_val rfl rfl (by decide) (r_move (v := fv) rfl) ?_
  refine WpL_enter rfl rfl (by decide) (r_callF (vs := [(.slice (some ⟨g, 0, none⟩) n c), (.int .i64 ((n : Nat) : Int)), fv]) Try.func50 nm50 bd50 rfl) (hin) ?_
  rintro _ w9 ⟨l', hp, hB9, C9⟩
  replace E := E.step C9 (fun q _ h => h)
  refine WpL_nil ?_
  refine fin_none Try.results29 ?_
  exact ⟨l', hp, hB9, C9⟩
end Go.Proofs
