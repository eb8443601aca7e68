/- Contracts: slices reversed, expressions reversed. -/
import Derived.Test.YtiepeobnpmoghaaDoorW29
import Derived.Test.YtiepeobnpmoghaaDoorLr
namespace Go.Proofs
open Go Go.Eng
set_option maxRecDepth 100000

theorem rev_step {α : Type} {l cur : List α} {n i : Nat} (hc : cur.length = n) (hi : 2 * i + 1 < n) (h : ∀ k, k < n → cur[k]? = if k < i ∨ n - i ≤ k then l[n - 1 - k]? else l[k]?) {x y : α} (hx : cur[i]? = some x) (hy : cur[n - 1 - i]? = some y) :
    ∀ k, k < n → ((cur.set i y).set (n - 1 - i) x)[k]? = if k < i + 1 ∨ n - (i + 1) ≤ k then l[n - 1 - k]? else l[k]? := by
  intro k hk
  have h1 := h i (by omega)
  rw [hx, if_neg (by omega)] at h1
  have h2 := h (n - 1 - i) (by omega)
  rw [hy, if_neg (by omega)] at h2
  by_cases hk1 : k = n - 1 - i
  · subst hk1
    rw [List.getElem?_set_self (by simp; omega), if_pos (by omega), show n - 1 - (n - 1 - i) = i from by omega, h1]
  · rw [List.getElem?_set_ne (by omega)]
    by_cases hk2 : k = i
    · subst hk2
      rw [List.getElem?_set_self (by omega), if_pos (by omega), h2]
    · rw [List.getElem?_set_ne (by omega), h k hk]
      by_cases hk3 : k < i ∨ n - i ≤ k
      · rw [if_pos hk3, if_pos (by omega)]
      · rw [if_neg hk3, if_neg (by omega)]
theorem rev_done {α : Type} {l cur : List α} {n i : Nat} (hn : l.length = n) (hc : cur.length = n) (hi : n ≤ 2 * i + 1) (h : ∀ k, k < n → cur[k]? = if k < i ∨ n - i ≤ k then l[n - 1 - k]? else l[k]?) : cur = l.reverse := by
  apply List.ext_getElem?
  intro k
  by_cases hk : k < n
  · rw [h k hk, List.getElem?_reverse (by omega), hn]
    by_cases hk2 : k < i ∨ n - i ≤ k
    · rw [if_pos hk2]
    · rw [if_neg hk2, show n - 1 - k = k from by omega]
  · rw [List.getElem?_eq_none (by omega), List.getElem?_eq_none (by simp; omega)]
theorem flat_intV (l : List Int) : (l.map intV).flatten = l.map (Value.int .i64) := by
  induction l with
  | nil => rfl
  | cons x l ih => simp only [List.map_cons, List.flatten_cons, ih]; rfl
theorem ints_set {l : List Int} {rest : List Value} {i : Nat} (hi : i < l.length) (y : Int) : (l.map (Value.int .i64) ++ rest).toArray.setIfInBounds i (.int .i64 y) = ((l.set i y).map (Value.int .i64) ++ rest).toArray := by
  apply Array.ext'
  rw [Array.toList_setIfInBounds, List.map_set]
  simp only
  rw [List.set_append, if_pos (by simpa using hi)]
theorem ints_get {w : World} {b T : Nat} {l : List Int} {rest : List Value} (h : Blk w b (l.map (Value.int .i64) ++ rest).toArray T) {i : Nat} {x : Int} (hx : l[i]? = some x) : w.cell? ⟨b, i, none⟩ = some (.int .i64 x) := by
  refine h.cell ?_
  have := lt_of_get hx
  simp only [List.getElem?_toArray]
  rw [List.getElem?_append_left (by simpa using this)]
  simp [hx]

set_option maxHeartbeats 1000000 in
theorem revi_c (w0 : World) (b c T : Nat) (l : List Int) (rest : List Value) (hB : Blk w0 b (l.map (Value.int .i64) ++ rest).toArray T) (hl : l.length ≤ 1000000000) :
    Ret Tryd.prog 32 #[.slice (some ⟨b, 0, none⟩) l.length c] w0 fun _ w => Blk w b (l.reverse.map (Value.int .i64) ++ rest).toArray T ∧ Chg (fun x => x = b) w0 w := by
  refine Ret_of Tryd.func32 rfl Tryd.ntmps32 (Nat.le_of_ble_eq_true rfl) ?_
  have E : Chg (fun x => x = b) w0 w0 := Chg.refl _ _
  refine Wp_seq_region ?_
  refine WpL_val rfl rfl (by decide) (r_move (v := (.slice (some ⟨b, 0, none⟩) l.length c)) rfl) ?_
  refine WpL_val rfl rfl (by decide) (r_lenSlice (ad := some ⟨b, 0, none⟩) (n := l.length) (cap := c) Tryd.underlying22 rfl) ?_
  refine WpL_val rfl rfl (by decide) (r_sub (k := .i64) (a := ((l.length : Nat) : Int)) (b := 1) (c := ((l.length : Nat) : Int) - 1) rfl rfl (wI64 (by omega))) ?_
  refine WpL_val rfl rfl (by decide) (r_assign (v := (.int .i64 0)) rfl) ?_
  refine WpL_val rfl rfl (by decide) (r_assign (v := (.int .i64 (((l.length : Nat) : Int) - 1))) rfl) ?_
  refine WpL_nil ?_
  refine Wp_block ?_
  refine Wp_loop (fun nn_ σ W1 => ∃ (i : Nat) (j : Int) (cur : List Int), (∃ jj_, σ = upds jj_ [(0, (.slice (some ⟨b, 0, none⟩) l.length c)), (2, (.int .i64 ((i : Nat) : Int))), (3, (.int .i64 j))]) ∧ Chg (fun x => x = b) w0 W1 ∧ Blk W1 b ((cur.map (Value.int .i64) ++ rest).toArray) T ∧ (j = (l.length : Int) - 1 - (i : Int)) ∧ (cur.length = l.length) ∧ (∀ k, k < l.length → cur[k]? = if k < i ∨ l.length - i ≤ k then l[l.length - 1 - k]? else l[k]?) ∧ (i ≤ l.length) ∧ nn_ = l.length - i) (n := l.length - 0) ?_ ?_
  · exact ⟨0, ((l.length : Nat) : Int) - 1, l, Fits.out ⟨rfl, rfl, rfl, trivial⟩, E, hB, (by omega), rfl, (fun k hk => by rw [if_neg (by omega)]), Nat.zero_le _, rfl⟩
  · clear E hB
    rintro _ _ W1 ⟨i, j, cur, ⟨j1, rfl⟩, E, hB, hj, hcl, hget, hi, rfl⟩
    refine Wp_seq ?_
    refine Wp_seq_region ?_
    refine WpL_val rfl rfl (by decide) (r_move (v := (.int .i64 ((i : Nat) : Int))) rfl) ?_
    refine WpL_val rfl rfl (by decide) (r_move (v := (.int .i64 j)) rfl) ?_
    refine WpL_val rfl rfl (by decide) (r_lss (k := .i64) (a := ((i : Nat) : Int)) (b := j) rfl rfl) ?_
    refine WpL_nil ?_
    refine Wp_cond (b := decide ((((i : Nat) : Int) : Int) < j)) rfl (fun hlt => ?_) (fun hlt => ?_)
    · have khlt := hlt
      replace hlt := of_decide_eq_true hlt
      obtain ⟨x, hx⟩ := get_of_lt (l := cur) (i := i) (by omega)
      obtain ⟨y, hy⟩ := get_of_lt (l := cur) (i := l.length - 1 - i) (by omega)
      refine Wp_skip ?_
      refine thn_normal ?_
      refine Wp_seq ?_
      refine Wp_block ?_
      obtain ⟨Fs3, hFs3⟩ : ∃ Fs : List (FactT ((fun x => x = b))), Fs = [.eq (.slice (some ⟨b, 0, none⟩) l.length c), .eq (.int .i64 ((i : Nat) : Int)), .eq (.slice (some ⟨b, 0, none⟩) l.length c), .eq (.int .i64 j), .eq (.slice (some ⟨b, 0, none⟩) l.length c), .eq (.int .i64 j), .eq (.pointer (some ⟨b, 0 + (l.length - 1 - i), none⟩)), .eq (.int .i64 y), .eq (.slice (some ⟨b, 0, none⟩) l.length c), .eq (.int .i64 ((i : Nat) : Int)), .eq (.pointer (some ⟨b, 0 + i, none⟩)), .eq (.int .i64 x), .eq (.pointer (some ⟨b, 0 + i, none⟩)), .own (fun _ w => Blk w b ((cur.set i y).map (Value.int .i64) ++ rest).toArray T) (fun _ _ _ e h => Ext.keep e h)] := ⟨_, rfl⟩
      refine Wp_dagT ((fun x => x = b)) 14 13 [14, 15, 16, 17, 18, 19, 20, 21, 22, 23, 24, 25, 26, 41] [[], [], [], [], [], [], [4, 5], [6], [], [], [8, 9], [10], [0, 1, 4, 5, 6, 7, 11], [0, 1, 4, 5, 6, 7, 11, 12]] Fs3 hFs3 rfl mixed (by kernel_rfl) (by kernel_rfl) (by kernel_rfl) ?_ ?_
      · intro wd X0
        refine DagStepsT.cons (fun s' w' X U H => ?_) ?_
        · exact DoesT_val (r_move (v := (.slice (some ⟨b, 0, none⟩) l.length c)) (U 0 rfl)) (Chg.refl _ _) rfl
        refine DagStepsT.cons (fun s' w' X U H => ?_) ?_
        · exact DoesT_val (r_move (v := (.int .i64 ((i : Nat) : Int))) (U 2 rfl)) (Chg.refl _ _) rfl
        refine DagStepsT.cons (fun s' w' X U H => ?_) ?_
        · exact DoesT_val (r_move (v := (.slice (some ⟨b, 0, none⟩) l.length c)) (U 0 rfl)) (Chg.refl _ _) rfl
        refine DagStepsT.cons (fun s' w' X U H => ?_) ?_
        · exact DoesT_val (r_move (v := (.int .i64 j)) (U 3 rfl)) (Chg.refl _ _) rfl
        refine DagStepsT.cons (fun s' w' X U H => ?_) ?_
        · exact DoesT_val (r_move (v := (.slice (some ⟨b, 0, none⟩) l.length c)) (U 0 rfl)) (Chg.refl _ _) rfl
        refine DagStepsT.cons (fun s' w' X U H => ?_) ?_
        · exact DoesT_val (r_move (v := (.int .i64 j)) (U 3 rfl)) (Chg.refl _ _) rfl
        refine DagStepsT.cons (fun s' w' X U H => ?_) ?_
        · have e18 : s' 18 = (.slice (some ⟨b, 0, none⟩) l.length c) := H 4 rfl 18 (.eq (.slice (some ⟨b, 0, none⟩) l.length c)) rfl (by rw [hFs3]; rfl)
          have e19 : s' 19 = (.int .i64 j) := H 5 rfl 19 (.eq (.int .i64 j)) rfl (by rw [hFs3]; rfl)
          exact DoesT_val (r_indexSlice (b := b) (o := 0) (len := l.length) (cap := c) (i := l.length - 1 - i) (o' := 0 + (l.length - 1 - i)) e18 e19 (by omega) Tryd.underlying22 siz3 (by omega) (by omega)) (Chg.refl _ _) rfl
        refine DagStepsT.cons (fun s' w' X U H => ?_) ?_
        · have e20 : s' 20 = (.pointer (some ⟨b, 0 + (l.length - 1 - i), none⟩)) := H 6 rfl 20 (.eq (.pointer (some ⟨b, 0 + (l.length - 1 - i), none⟩))) rfl (by rw [hFs3]; rfl)
          exact DoesT_val (r_load (v := (.int .i64 y)) e20 flat3 (by rw [Nat.zero_add]; exact (Chg.keep X (fun f => f) (X0.keep hB) |> fun h => ints_get h hy))) (Chg.refl _ _) rfl
        refine DagStepsT.cons (fun s' w' X U H => ?_) ?_
        · exact DoesT_val (r_move (v := (.slice (some ⟨b, 0, none⟩) l.length c)) (U 0 rfl)) (Chg.refl _ _) rfl
        refine DagStepsT.cons (fun s' w' X U H => ?_) ?_
        · exact DoesT_val (r_move (v := (.int .i64 ((i : Nat) : Int))) (U 2 rfl)) (Chg.refl _ _) rfl
        refine DagStepsT.cons (fun s' w' X U H => ?_) ?_
        · have e22 : s' 22 = (.slice (some ⟨b, 0, none⟩) l.length c) := H 8 rfl 22 (.eq (.slice (some ⟨b, 0, none⟩) l.length c)) rfl (by rw [hFs3]; rfl)
          have e23 : s' 23 = (.int .i64 ((i : Nat) : Int)) := H 9 rfl 23 (.eq (.int .i64 ((i : Nat) : Int))) rfl (by rw [hFs3]; rfl)
          exact DoesT_val (r_indexSlice (b := b) (o := 0) (len := l.length) (cap := c) (i := i) (o' := 0 + i) e22 e23 (by omega) Tryd.underlying22 siz3 (by omega) (by omega)) (Chg.refl _ _) rfl
        refine DagStepsT.cons (fun s' w' X U H => ?_) ?_
        · have e24 : s' 24 = (.pointer (some ⟨b, 0 + i, none⟩)) := H 10 rfl 24 (.eq (.pointer (some ⟨b, 0 + i, none⟩))) rfl (by rw [hFs3]; rfl)
          exact DoesT_val (r_load (v := (.int .i64 x)) e24 flat3 (by rw [Nat.zero_add]; exact (Chg.keep X (fun f => f) (X0.keep hB) |> fun h => ints_get h hx))) (Chg.refl _ _) rfl
        refine DagStepsT.cons (fun s' w' X U H => ?_) ?_
        · have e14 : s' 14 = (.slice (some ⟨b, 0, none⟩) l.length c) := H 0 rfl 14 (.eq (.slice (some ⟨b, 0, none⟩) l.length c)) rfl (by rw [hFs3]; rfl)
          have e15 : s' 15 = (.int .i64 ((i : Nat) : Int)) := H 1 rfl 15 (.eq (.int .i64 ((i : Nat) : Int))) rfl (by rw [hFs3]; rfl)
          exact DoesT_val (r_indexSlice (b := b) (o := 0) (len := l.length) (cap := c) (i := i) (o' := 0 + i) e14 e15 (by omega) Tryd.underlying22 siz3 (by omega) (by omega)) (Chg.refl _ _) rfl
        refine DagStepsT.cons (fun s' w' X U H => ?_) ?_
        · have e26 : s' 26 = (.pointer (some ⟨b, 0 + i, none⟩)) := H 12 rfl 26 (.eq (.pointer (some ⟨b, 0 + i, none⟩))) rfl (by rw [hFs3]; rfl)
          have e21 : s' 21 = (.int .i64 y) := H 7 rfl 21 (.eq (.int .i64 y)) rfl (by rw [hFs3]; rfl)
          exact DoesT_store e26 e21 rfl siz3 (Chg.keep X (fun f => f) (X0.keep hB)) (by simp; omega) rfl (fun w9 h => by have h2 := h.blk; rw [Nat.zero_add, ints_set (by omega) y] at h2; exact h2)
        exact DagStepsT.nil
      · intro s' wd3 w3 X0 X3 U H
        have e14 : s' 14 = (.slice (some ⟨b, 0, none⟩) l.length c) := H 0 14 (.eq (.slice (some ⟨b, 0, none⟩) l.length c)) rfl (by rw [hFs3]; rfl)
        have e15 : s' 15 = (.int .i64 ((i : Nat) : Int)) := H 1 15 (.eq (.int .i64 ((i : Nat) : Int))) rfl (by rw [hFs3]; rfl)
        have e16 : s' 16 = (.slice (some ⟨b, 0, none⟩) l.length c) := H 2 16 (.eq (.slice (some ⟨b, 0, none⟩) l.length c)) rfl (by rw [hFs3]; rfl)
        have e17 : s' 17 = (.int .i64 j) := H 3 17 (.eq (.int .i64 j)) rfl (by rw [hFs3]; rfl)
        have e18 : s' 18 = (.slice (some ⟨b, 0, none⟩) l.length c) := H 4 18 (.eq (.slice (some ⟨b, 0, none⟩) l.length c)) rfl (by rw [hFs3]; rfl)
        have e19 : s' 19 = (.int .i64 j) := H 5 19 (.eq (.int .i64 j)) rfl (by rw [hFs3]; rfl)
        have e20 : s' 20 = (.pointer (some ⟨b, 0 + (l.length - 1 - i), none⟩)) := H 6 20 (.eq (.pointer (some ⟨b, 0 + (l.length - 1 - i), none⟩))) rfl (by rw [hFs3]; rfl)
        have e21 : s' 21 = (.int .i64 y) := H 7 21 (.eq (.int .i64 y)) rfl (by rw [hFs3]; rfl)
        have e22 : s' 22 = (.slice (some ⟨b, 0, none⟩) l.length c) := H 8 22 (.eq (.slice (some ⟨b, 0, none⟩) l.length c)) rfl (by rw [hFs3]; rfl)
        have e23 : s' 23 = (.int .i64 ((i : Nat) : Int)) := H 9 23 (.eq (.int .i64 ((i : Nat) : Int))) rfl (by rw [hFs3]; rfl)
        have e24 : s' 24 = (.pointer (some ⟨b, 0 + i, none⟩)) := H 10 24 (.eq (.pointer (some ⟨b, 0 + i, none⟩))) rfl (by rw [hFs3]; rfl)
        have e25 : s' 25 = (.int .i64 x) := H 11 25 (.eq (.int .i64 x)) rfl (by rw [hFs3]; rfl)
        have e26 : s' 26 = (.pointer (some ⟨b, 0 + i, none⟩)) := H 12 26 (.eq (.pointer (some ⟨b, 0 + i, none⟩))) rfl (by rw [hFs3]; rfl)
        obtain hB := (show (.own (fun _ w => Blk w b ((cur.set i y).map (Value.int .i64) ++ rest).toArray T) (fun _ _ _ e h => Ext.keep e h) : FactT ((fun x => x = b))).In (s' 41) _ from H 13 41 (.own (fun _ w => Blk w b ((cur.set i y).map (Value.int .i64) ++ rest).toArray T) (fun _ _ _ e h => Ext.keep e h)) rfl (by rw [hFs3]; rfl))
        obtain ⟨j3, rfl⟩ := Fits.out (σ := s') (l := [(0, (.slice (some ⟨b, 0, none⟩) l.length c)), (2, (.int .i64 ((i : Nat) : Int))), (3, (.int .i64 j)), (7, (.int .i64 ((i : Nat) : Int))), (8, (.int .i64 j)), (9, (.bool (decide ((((i : Nat) : Int) : Int) < j)))), (14, (.slice (some ⟨b, 0, none⟩) l.length c)), (15, (.int .i64 ((i : Nat) : Int))), (16, (.slice (some ⟨b, 0, none⟩) l.length c)), (17, (.int .i64 j)), (18, (.slice (some ⟨b, 0, none⟩) l.length c)), (19, (.int .i64 j)), (20, (.pointer (some ⟨b, 0 + (l.length - 1 - i), none⟩))), (21, (.int .i64 y)), (22, (.slice (some ⟨b, 0, none⟩) l.length c)), (23, (.int .i64 ((i : Nat) : Int))), (24, (.pointer (some ⟨b, 0 + i, none⟩))), (25, (.int .i64 x)), (26, (.pointer (some ⟨b, 0 + i, none⟩)))]) ⟨U 0 rfl, U 2 rfl, U 3 rfl, U 7 rfl, U 8 rfl, U 9 rfl, e14, e15, e16, e17, e18, e19, e20, e21, e22, e23, e24, e25, e26, trivial⟩
        clear U H
        replace E := (E.ext X0).step X3 (fun x _ h => h)
        refine WpL_val rfl rfl (by decide) (r_indexSlice (b := b) (o := 0) (len := l.length) (cap := c) (i := l.length - 1 - i) (o' := 0 + (l.length - 1 - i)) rfl rfl (by omega) Tryd.underlying22 siz3 (by omega) (by omega)) ?_
        refine s_store (b := b) (o := 0 + (l.length - 1 - i)) (c' := (((cur.set i y).set (l.length - 1 - i) x).map (Value.int .i64) ++ rest).toArray) (v := (.int .i64 x)) rfl rfl rfl siz3 hB (by simp; omega) (by rw [Nat.zero_add]; exact ints_set (by simp; omega) x) ?_
        intro w4 S4
        replace E := S4.step E (by first | exact Or.inl (by omega) | exact Or.inr rfl | exact Or.inr (by assumption) | exact Or.inr (by simp) | exact Or.inr (by omega) | exact Or.inr (by dsimp only; omega))
        replace hB := S4.blk
        refine WpL_nil ?_
        refine inB_normal ?_
        refine thn_normal ?_
        refine Wp_region ?_
        refine WpL_val rfl rfl (by decide) (r_move (v := (.int .i64 ((i : Nat) : Int))) rfl) ?_
        refine WpL_val rfl rfl (by decide) (r_add (k := .i64) (a := ((i : Nat) : Int)) (b := 1) (c := ((i : Nat) : Int) + 1) rfl rfl (wI64 (by omega))) ?_
        refine WpL_val rfl rfl (by decide) (r_move (v := (.int .i64 j)) rfl) ?_
        refine WpL_val rfl rfl (by decide) (r_sub (k := .i64) (a := j) (b := 1) (c := j - 1) rfl rfl (wI64 (by omega))) ?_
        refine WpL_val rfl rfl (by decide) (r_assign (v := (.int .i64 (((i : Nat) : Int) + 1))) rfl) ?_
        refine WpL_val rfl rfl (by decide) (r_assign (v := (.int .i64 (j - 1))) rfl) ?_
        refine WpL_nil ?_
        refine thn_normal ?_
        exact ⟨l.length - (i + 1), by omega, i + 1, j - 1, (cur.set i y).set (l.length - 1 - i) x, Fits.out ⟨rfl, rfl, rfl, trivial⟩, E, hB, (by omega), (by simpa using hcl), rev_step hcl (by omega) hget hx hy, (by omega), rfl⟩
    · have khlt := hlt
      replace hlt := of_decide_eq_false hlt
      refine Wp_exit ?_
      refine thn_exit ?_
      refine thn_exit ?_
      refine inB_here ?_
      refine fin_none Tryd.results32 ?_
      rw [← rev_done rfl hcl (by omega) hget]; exact ⟨hB, E⟩
theorem revi0_c (w0 : World) (a : Option Addr) (c : Nat) :
    Ret Tryd.prog 32 #[.slice a 0 c] w0 fun _ w => Ext w0 w := by
  refine Ret_of Tryd.func32 rfl Tryd.ntmps32 (Nat.le_of_ble_eq_true rfl) ?_
  have E : Chg none1 w0 w0 := Chg.refl _ _
  refine Wp_seq_region ?_
  refine WpL_val rfl rfl (by decide) (r_move (v := (.slice a 0 c)) rfl) ?_
  refine WpL_val rfl rfl (by decide) (r_lenSlice (ad := a) (n := 0) (cap := c) Tryd.underlying22 rfl) ?_
  refine WpL_val rfl rfl (by decide) (r_sub (k := .i64) (a := 0) (b := 1) (c := (-1)) rfl rfl (by decide)) ?_
  refine WpL_val rfl rfl (by decide) (r_assign (v := (.int .i64 0)) rfl) ?_
  refine WpL_val rfl rfl (by decide) (r_assign (v := (.int .i64 (-1))) rfl) ?_
  refine WpL_nil ?_
  refine Wp_block ?_
  refine Wp_loop (fun nn_ σ W1 => (∃ jj_, σ = upds jj_ [(0, (.slice a 0 c)), (2, (.int .i64 0)), (3, (.int .i64 (-1)))]) ∧ Chg none1 w0 W1 ∧ nn_ = 0) (n := 0) ?_ ?_
  · exact ⟨Fits.out ⟨rfl, rfl, rfl, trivial⟩, E, rfl⟩
  · clear E
    rintro _ _ W1 ⟨⟨j1, rfl⟩, E, rfl⟩
    refine Wp_seq ?_
    refine Wp_seq_region ?_
    refine WpL_val rfl rfl (by decide) (r_move (v := (.int .i64 0)) rfl) ?_
    refine WpL_val rfl rfl (by decide) (r_move (v := (.int .i64 (-1))) rfl) ?_
    refine WpL_val rfl rfl (by decide) (r_lss (k := .i64) (a := 0) (b := (-1)) rfl rfl) ?_
    refine WpL_nil ?_
    refine Wp_cond_false rfl ?_
    refine Wp_exit ?_
    refine thn_exit ?_
    refine thn_exit ?_
    refine inB_here ?_
    refine fin_none Tryd.results32 ?_
    exact E

set_option maxHeartbeats 1000000 in
theorem revr_c (w0 : World) (b c n : Nat) (l : List (List Value)) (rest : List Value) (hB : Blk w0 b (l.flatten ++ rest).toArray TRe) (hl : l.length ≤ 1000000000) (h6 : ∀ r ∈ l, r.length = 6) (h1 : ∀ r ∈ l, ∀ u ∈ r, u.oneCell' = true) (hn : l.length = n) :
    Ret Tryd.prog 78 #[.slice (some ⟨b, 0, none⟩) n c] w0 fun _ w => Blk w b (l.reverse.flatten ++ rest).toArray TRe ∧ Chg (fun x => x = b) w0 w := by
  subst hn
  refine Ret_of Tryd.func78 rfl Tryd.ntmps78 (Nat.le_of_ble_eq_true rfl) ?_
  have E : Chg (fun x => x = b) w0 w0 := Chg.refl _ _
  refine Wp_seq_region ?_
  refine WpL_val rfl rfl (by decide) (r_move (v := (.slice (some ⟨b, 0, none⟩) l.length c)) rfl) ?_
  refine WpL_val rfl rfl (by decide) (r_lenSlice (ad := some ⟨b, 0, none⟩) (n := l.length) (cap := c) Tryd.underlying25 rfl) ?_
  refine WpL_val rfl rfl (by decide) (r_sub (k := .i64) (a := ((l.length : Nat) : Int)) (b := 1) (c := ((l.length : Nat) : Int) - 1) rfl rfl (wI64 (by omega))) ?_
  refine WpL_val rfl rfl (by decide) (r_assign (v := (.int .i64 0)) rfl) ?_
  refine WpL_val rfl rfl (by decide) (r_assign (v := (.int .i64 (((l.length : Nat) : Int) - 1))) rfl) ?_
  refine WpL_nil ?_
  refine Wp_block ?_
  refine Wp_loop (fun nn_ σ W1 => ∃ (i : Nat) (j : Int) (cur : List (List Value)), (∃ jj_, σ = upds jj_ [(0, (.slice (some ⟨b, 0, none⟩) l.length c)), (2, (.int .i64 ((i : Nat) : Int))), (3, (.int .i64 j))]) ∧ Chg (fun x => x = b) w0 W1 ∧ Blk W1 b ((cur.flatten ++ rest).toArray) TRe ∧ (j = (l.length : Int) - 1 - (i : Int)) ∧ (cur.length = l.length) ∧ (∀ k, k < l.length → cur[k]? = if k < i ∨ l.length - i ≤ k then l[l.length - 1 - k]? else l[k]?) ∧ (i ≤ l.length) ∧ (∀ r ∈ cur, r.length = 6 ∧ ∀ u ∈ r, u.oneCell' = true) ∧ nn_ = l.length - i) (n := l.length - 0) ?_ ?_
  · exact ⟨0, ((l.length : Nat) : Int) - 1, l, Fits.out ⟨rfl, rfl, rfl, trivial⟩, E, hB, (by omega), rfl, (fun k hk => by rw [if_neg (by omega)]), Nat.zero_le _, (fun r hr => ⟨h6 r hr, h1 r hr⟩), rfl⟩
  · clear E hB
    rintro _ _ W1 ⟨i, j, cur, ⟨j1, rfl⟩, E, hB, hj, hcl, hget, hi, hc6, rfl⟩
    refine Wp_seq ?_
    refine Wp_seq_region ?_
    refine WpL_val rfl rfl (by decide) (r_move (v := (.int .i64 ((i : Nat) : Int))) rfl) ?_
    refine WpL_val rfl rfl (by decide) (r_move (v := (.int .i64 j)) rfl) ?_
    refine WpL_val rfl rfl (by decide) (r_lss (k := .i64) (a := ((i : Nat) : Int)) (b := j) rfl rfl) ?_
    refine WpL_nil ?_
    refine Wp_cond (b := decide ((((i : Nat) : Int) : Int) < j)) rfl (fun hlt => ?_) (fun hlt => ?_)
    · have khlt := hlt
      replace hlt := of_decide_eq_true hlt
      obtain ⟨x, hx⟩ := get_of_lt (l := cur) (i := i) (by omega)
      obtain ⟨y, hy⟩ := get_of_lt (l := cur) (i := l.length - 1 - i) (by omega)
      have hx6 := hc6 x (List.mem_of_getElem? hx)
      have hy6 := hc6 y (List.mem_of_getElem? hy)
      have hcc : ∀ r ∈ cur, r.length = 6 := fun r hr => (hc6 r hr).1
      have hcc2 : ∀ r ∈ cur.set i y, r.length = 6 := fun r hr => by rcases List.mem_or_eq_of_mem_set hr with h | h; exact hcc r h; rw [h]; exact hy6.1
      refine Wp_skip ?_
      refine thn_normal ?_
      refine Wp_seq ?_
      refine Wp_block ?_
      obtain ⟨Fs3, hFs3⟩ : ∃ Fs : List (FactT ((fun x => x = b))), Fs = [.eq (.slice (some ⟨b, 0, none⟩) l.length c), .eq (.int .i64 ((i : Nat) : Int)), .eq (.slice (some ⟨b, 0, none⟩) l.length c), .eq (.int .i64 j), .eq (.slice (some ⟨b, 0, none⟩) l.length c), .eq (.int .i64 j), .eq (.pointer (some ⟨b, 0 + (l.length - 1 - i) * 6, none⟩)), .eq (.agg y.toArray), .eq (.slice (some ⟨b, 0, none⟩) l.length c), .eq (.int .i64 ((i : Nat) : Int)), .eq (.pointer (some ⟨b, 0 + i * 6, none⟩)), .eq (.agg x.toArray), .eq (.pointer (some ⟨b, 0 + i * 6, none⟩)), .own (fun _ w => Blk w b ((cur.set i y).flatten ++ rest).toArray TRe) (fun _ _ _ e h => Ext.keep e h)] := ⟨_, rfl⟩
      refine Wp_dagT ((fun x => x = b)) 14 13 [14, 15, 16, 17, 18, 19, 20, 21, 22, 23, 24, 25, 26, 41] [[], [], [], [], [], [], [4, 5], [6], [], [], [8, 9], [10], [0, 1, 4, 5, 6, 7, 11], [0, 1, 4, 5, 6, 7, 11, 12]] Fs3 hFs3 rfl mixed (by kernel_rfl) (by kernel_rfl) (by kernel_rfl) ?_ ?_
      · intro wd X0
        refine DagStepsT.cons (fun s' w' X U H => ?_) ?_
        · exact DoesT_val (r_move (v := (.slice (some ⟨b, 0, none⟩) l.length c)) (U 0 rfl)) (Chg.refl _ _) rfl
        refine DagStepsT.cons (fun s' w' X U H => ?_) ?_
        · exact DoesT_val (r_move (v := (.int .i64 ((i : Nat) : Int))) (U 2 rfl)) (Chg.refl _ _) rfl
        refine DagStepsT.cons (fun s' w' X U H => ?_) ?_
        · exact DoesT_val (r_move (v := (.slice (some ⟨b, 0, none⟩) l.length c)) (U 0 rfl)) (Chg.refl _ _) rfl
        refine DagStepsT.cons (fun s' w' X U H => ?_) ?_
        · exact DoesT_val (r_move (v := (.int .i64 j)) (U 3 rfl)) (Chg.refl _ _) rfl
        refine DagStepsT.cons (fun s' w' X U H => ?_) ?_
        · exact DoesT_val (r_move (v := (.slice (some ⟨b, 0, none⟩) l.length c)) (U 0 rfl)) (Chg.refl _ _) rfl
        refine DagStepsT.cons (fun s' w' X U H => ?_) ?_
        · exact DoesT_val (r_move (v := (.int .i64 j)) (U 3 rfl)) (Chg.refl _ _) rfl
        refine DagStepsT.cons (fun s' w' X U H => ?_) ?_
        · have e18 : s' 18 = (.slice (some ⟨b, 0, none⟩) l.length c) := H 4 rfl 18 (.eq (.slice (some ⟨b, 0, none⟩) l.length c)) rfl (by rw [hFs3]; rfl)
          have e19 : s' 19 = (.int .i64 j) := H 5 rfl 19 (.eq (.int .i64 j)) rfl (by rw [hFs3]; rfl)
          exact DoesT_val (r_indexSlice (b := b) (o := 0) (len := l.length) (cap := c) (i := l.length - 1 - i) (o' := 0 + (l.length - 1 - i) * 6) e18 e19 (by omega) Tryd.underlying25 siz27 (by omega) (by omega)) (Chg.refl _ _) rfl
        refine DagStepsT.cons (fun s' w' X U H => ?_) ?_
        · have e20 : s' 20 = (.pointer (some ⟨b, 0 + (l.length - 1 - i) * 6, none⟩)) := H 6 rfl 20 (.eq (.pointer (some ⟨b, 0 + (l.length - 1 - i) * 6, none⟩))) rfl (by rw [hFs3]; rfl)
          exact DoesT_val (r_loadAgg (vs := y) e20 agg27 siz27 (hy6.1) (by rw [Nat.zero_add]; exact (Chg.keep X (fun f => f) (X0.keep hB) |> fun h => rows_at h hcc hy))) (Chg.refl _ _) rfl
        refine DagStepsT.cons (fun s' w' X U H => ?_) ?_
        · exact DoesT_val (r_move (v := (.slice (some ⟨b, 0, none⟩) l.length c)) (U 0 rfl)) (Chg.refl _ _) rfl
        refine DagStepsT.cons (fun s' w' X U H => ?_) ?_
        · exact DoesT_val (r_move (v := (.int .i64 ((i : Nat) : Int))) (U 2 rfl)) (Chg.refl _ _) rfl
        refine DagStepsT.cons (fun s' w' X U H => ?_) ?_
        · have e22 : s' 22 = (.slice (some ⟨b, 0, none⟩) l.length c) := H 8 rfl 22 (.eq (.slice (some ⟨b, 0, none⟩) l.length c)) rfl (by rw [hFs3]; rfl)
          have e23 : s' 23 = (.int .i64 ((i : Nat) : Int)) := H 9 rfl 23 (.eq (.int .i64 ((i : Nat) : Int))) rfl (by rw [hFs3]; rfl)
          exact DoesT_val (r_indexSlice (b := b) (o := 0) (len := l.length) (cap := c) (i := i) (o' := 0 + i * 6) e22 e23 (by omega) Tryd.underlying25 siz27 (by omega) (by omega)) (Chg.refl _ _) rfl
        refine DagStepsT.cons (fun s' w' X U H => ?_) ?_
        · have e24 : s' 24 = (.pointer (some ⟨b, 0 + i * 6, none⟩)) := H 10 rfl 24 (.eq (.pointer (some ⟨b, 0 + i * 6, none⟩))) rfl (by rw [hFs3]; rfl)
          exact DoesT_val (r_loadAgg (vs := x) e24 agg27 siz27 (hx6.1) (by rw [Nat.zero_add]; exact (Chg.keep X (fun f => f) (X0.keep hB) |> fun h => rows_at h hcc hx))) (Chg.refl _ _) rfl
        refine DagStepsT.cons (fun s' w' X U H => ?_) ?_
        · have e14 : s' 14 = (.slice (some ⟨b, 0, none⟩) l.length c) := H 0 rfl 14 (.eq (.slice (some ⟨b, 0, none⟩) l.length c)) rfl (by rw [hFs3]; rfl)
          have e15 : s' 15 = (.int .i64 ((i : Nat) : Int)) := H 1 rfl 15 (.eq (.int .i64 ((i : Nat) : Int))) rfl (by rw [hFs3]; rfl)
          exact DoesT_val (r_indexSlice (b := b) (o := 0) (len := l.length) (cap := c) (i := i) (o' := 0 + i * 6) e14 e15 (by omega) Tryd.underlying25 siz27 (by omega) (by omega)) (Chg.refl _ _) rfl
        refine DagStepsT.cons (fun s' w' X U H => ?_) ?_
        · have e26 : s' 26 = (.pointer (some ⟨b, 0 + i * 6, none⟩)) := H 12 rfl 26 (.eq (.pointer (some ⟨b, 0 + i * 6, none⟩))) rfl (by rw [hFs3]; rfl)
          have e21 : s' 21 = (.agg y.toArray) := H 7 rfl 21 (.eq (.agg y.toArray)) rfl (by rw [hFs3]; rfl)
          exact DoesT_storeAgg e26 e21 (by simpa using hy6.2) siz27 (by simpa using hy6.1) (Chg.keep X (fun f => f) (X0.keep hB)) (by have := rows_len hcc; simp only [List.size_toArray, List.length_append]; omega) rfl (fun w9 h => by have h2 := h.blk; rw [Nat.zero_add] at h2; rw [show (List.take (i * 6) (cur.flatten ++ rest).toArray.toList ++ y.toArray.toList ++ List.drop (i * 6 + 6) (cur.flatten ++ rest).toArray.toList) = (cur.set i y).flatten ++ rest from rows_set hy6.1 hcc (by omega)] at h2; exact h2)
        exact DagStepsT.nil
      · intro s' wd3 w3 X0 X3 U H
        have e14 : s' 14 = (.slice (some ⟨b, 0, none⟩) l.length c) := H 0 14 (.eq (.slice (some ⟨b, 0, none⟩) l.length c)) rfl (by rw [hFs3]; rfl)
        have e15 : s' 15 = (.int .i64 ((i : Nat) : Int)) := H 1 15 (.eq (.int .i64 ((i : Nat) : Int))) rfl (by rw [hFs3]; rfl)
        have e16 : s' 16 = (.slice (some ⟨b, 0, none⟩) l.length c) := H 2 16 (.eq (.slice (some ⟨b, 0, none⟩) l.length c)) rfl (by rw [hFs3]; rfl)
        have e17 : s' 17 = (.int .i64 j) := H 3 17 (.eq (.int .i64 j)) rfl (by rw [hFs3]; rfl)
        have e18 : s' 18 = (.slice (some ⟨b, 0, none⟩) l.length c) := H 4 18 (.eq (.slice (some ⟨b, 0, none⟩) l.length c)) rfl (by rw [hFs3]; rfl)
        have e19 : s' 19 = (.int .i64 j) := H 5 19 (.eq (.int .i64 j)) rfl (by rw [hFs3]; rfl)
        have e20 : s' 20 = (.pointer (some ⟨b, 0 + (l.length - 1 - i) * 6, none⟩)) := H 6 20 (.eq (.pointer (some ⟨b, 0 + (l.length - 1 - i) * 6, none⟩))) rfl (by rw [hFs3]; rfl)
        have e21 : s' 21 = (.agg y.toArray) := H 7 21 (.eq (.agg y.toArray)) rfl (by rw [hFs3]; rfl)
        have e22 : s' 22 = (.slice (some ⟨b, 0, none⟩) l.length c) := H 8 22 (.eq (.slice (some ⟨b, 0, none⟩) l.length c)) rfl (by rw [hFs3]; rfl)
        have e23 : s' 23 = (.int .i64 ((i : Nat) : Int)) := H 9 23 (.eq (.int .i64 ((i : Nat) : Int))) rfl (by rw [hFs3]; rfl)
        have e24 : s' 24 = (.pointer (some ⟨b, 0 + i * 6, none⟩)) := H 10 24 (.eq (.pointer (some ⟨b, 0 + i * 6, none⟩))) rfl (by rw [hFs3]; rfl)
        have e25 : s' 25 = (.agg x.toArray) := H 11 25 (.eq (.agg x.toArray)) rfl (by rw [hFs3]; rfl)
        have e26 : s' 26 = (.pointer (some ⟨b, 0 + i * 6, none⟩)) := H 12 26 (.eq (.pointer (some ⟨b, 0 + i * 6, none⟩))) rfl (by rw [hFs3]; rfl)
        obtain hB := (show (.own (fun _ w => Blk w b ((cur.set i y).flatten ++ rest).toArray TRe) (fun _ _ _ e h => Ext.keep e h) : FactT ((fun x => x = b))).In (s' 41) _ from H 13 41 (.own (fun _ w => Blk w b ((cur.set i y).flatten ++ rest).toArray TRe) (fun _ _ _ e h => Ext.keep e h)) rfl (by rw [hFs3]; rfl))
        obtain ⟨j3, rfl⟩ := Fits.out (σ := s') (l := [(0, (.slice (some ⟨b, 0, none⟩) l.length c)), (2, (.int .i64 ((i : Nat) : Int))), (3, (.int .i64 j)), (7, (.int .i64 ((i : Nat) : Int))), (8, (.int .i64 j)), (9, (.bool (decide ((((i : Nat) : Int) : Int) < j)))), (14, (.slice (some ⟨b, 0, none⟩) l.length c)), (15, (.int .i64 ((i : Nat) : Int))), (16, (.slice (some ⟨b, 0, none⟩) l.length c)), (17, (.int .i64 j)), (18, (.slice (some ⟨b, 0, none⟩) l.length c)), (19, (.int .i64 j)), (20, (.pointer (some ⟨b, 0 + (l.length - 1 - i) * 6, none⟩))), (21, (.agg y.toArray)), (22, (.slice (some ⟨b, 0, none⟩) l.length c)), (23, (.int .i64 ((i : Nat) : Int))), (24, (.pointer (some ⟨b, 0 + i * 6, none⟩))), (25, (.agg x.toArray)), (26, (.pointer (some ⟨b, 0 + i * 6, none⟩)))]) ⟨U 0 rfl, U 2 rfl, U 3 rfl, U 7 rfl, U 8 rfl, U 9 rfl, e14, e15, e16, e17, e18, e19, e20, e21, e22, e23, e24, e25, e26, trivial⟩
        clear U H
        replace E := (E.ext X0).step X3 (fun x _ h => h)
        refine WpL_val rfl rfl (by decide) (r_indexSlice (b := b) (o := 0) (len := l.length) (cap := c) (i := l.length - 1 - i) (o' := 0 + (l.length - 1 - i) * 6) rfl rfl (by omega) Tryd.underlying25 siz27 (by omega) (by omega)) ?_
        refine s_storeAgg (b := b) (o := 0 + (l.length - 1 - i) * 6) (n := 6) (c' := (((cur.set i y).set (l.length - 1 - i) x).flatten ++ rest).toArray) (vs := x.toArray) rfl rfl (by simpa using hx6.2) siz27 (by simpa using hx6.1) hB (by have := rows_len hcc2; simp only [List.length_set] at this; simp only [List.size_toArray, List.length_append]; omega) (by rw [Nat.zero_add]; exact congrArg List.toArray (rows_set (k := 6) (v := x) (rows := cur.set i y) (i := l.length - 1 - i) (rest := rest) hx6.1 hcc2 (by simp; omega))) ?_
        intro w4 S4
        replace E := S4.step E (by first | exact Or.inl (by omega) | exact Or.inr rfl | exact Or.inr (by assumption) | exact Or.inr (by simp) | exact Or.inr (by omega) | exact Or.inr (by dsimp only; omega))
        replace hB := S4.blk
        refine WpL_nil ?_
        refine inB_normal ?_
        refine thn_normal ?_
        refine Wp_region ?_
        refine WpL_val rfl rfl (by decide) (r_move (v := (.int .i64 ((i : Nat) : Int))) rfl) ?_
        refine WpL_val rfl rfl (by decide) (r_add (k := .i64) (a := ((i : Nat) : Int)) (b := 1) (c := ((i : Nat) : Int) + 1) rfl rfl (wI64 (by omega))) ?_
        refine WpL_val rfl rfl (by decide) (r_move (v := (.int .i64 j)) rfl) ?_
        refine WpL_val rfl rfl (by decide) (r_sub (k := .i64) (a := j) (b := 1) (c := j - 1) rfl rfl (wI64 (by omega))) ?_
        refine WpL_val rfl rfl (by decide) (r_assign (v := (.int .i64 (((i : Nat) : Int) + 1))) rfl) ?_
        refine WpL_val rfl rfl (by decide) (r_assign (v := (.int .i64 (j - 1))) rfl) ?_
        refine WpL_nil ?_
        refine thn_normal ?_
        exact ⟨l.length - (i + 1), by omega, i + 1, j - 1, (cur.set i y).set (l.length - 1 - i) x, Fits.out ⟨rfl, rfl, rfl, trivial⟩, E, hB, (by omega), (by simpa using hcl), rev_step hcl (by omega) hget hx hy, (by omega), (fun r hr => by rcases List.mem_or_eq_of_mem_set hr with h | h; rcases List.mem_or_eq_of_mem_set h with h | h; exact hc6 r h; rw [h]; exact hy6; rw [h]; exact hx6), rfl⟩
    · have khlt := hlt
      replace hlt := of_decide_eq_false hlt
      refine Wp_exit ?_
      refine thn_exit ?_
      refine thn_exit ?_
      refine inB_here ?_
      refine fin_none Tryd.results78 ?_
      rw [← rev_done rfl hcl (by omega) hget]; exact ⟨hB, E⟩

theorem revr0_c (w0 : World) (a : Option Addr) (c n : Nat) (hn : n = 0) :
    Ret Tryd.prog 78 #[.slice a n c] w0 fun _ w => Ext w0 w := by
  subst hn
  refine Ret_of Tryd.func78 rfl Tryd.ntmps78 (Nat.le_of_ble_eq_true rfl) ?_
  have E : Chg none1 w0 w0 := Chg.refl _ _
  refine Wp_seq_region ?_
  refine WpL_val rfl rfl (by decide) (r_move (v := (.slice a 0 c)) rfl) ?_
  refine WpL_val rfl rfl (by decide) (r_lenSlice (ad := a) (n := 0) (cap := c) Tryd.underlying25 rfl) ?_
  refine WpL_val rfl rfl (by decide) (r_sub (k := .i64) (a := 0) (b := 1) (c := (-1)) rfl rfl (by decide)) ?_
  refine WpL_val rfl rfl (by decide) (r_assign (v := (.int .i64 0)) rfl) ?_
  refine WpL_val rfl rfl (by decide) (r_assign (v := (.int .i64 (-1))) rfl) ?_
  refine WpL_nil ?_
  refine Wp_block ?_
  refine Wp_loop (fun nn_ σ W1 => (∃ jj_, σ = upds jj_ [(0, (.slice a 0 c)), (2, (.int .i64 0)), (3, (.int .i64 (-1)))]) ∧ Chg none1 w0 W1 ∧ nn_ = 0) (n := 0) ?_ ?_
  · exact ⟨Fits.out ⟨rfl, rfl, rfl, trivial⟩, E, rfl⟩
  · clear E
    rintro _ _ W1 ⟨⟨j1, rfl⟩, E, rfl⟩
    refine Wp_seq ?_
    refine Wp_seq_region ?_
    refine WpL_val rfl rfl (by decide) (r_move (v := (.int .i64 0)) rfl) ?_
    refine WpL_val rfl rfl (by decide) (r_move (v := (.int .i64 (-1))) rfl) ?_
    refine WpL_val rfl rfl (by decide) (r_lss (k := .i64) (a := 0) (b := (-1)) rfl rfl) ?_
    refine WpL_nil ?_
    refine Wp_cond_false rfl ?_
    refine Wp_exit ?_
    refine thn_exit ?_
    refine thn_exit ?_
    refine inB_here ?_
    refine fin_none Tryd.results78 ?_
    exact E
theorem RowsIn.reverse {S : Nat → Prop} {w : World} : ∀ {ts : List Re} {rows : List (List Value)}, RowsIn S w ts rows → RowsIn S w ts.reverse rows.reverse
  | [], _, h => by simp only [RowsIn] at h; subst h; rfl
  | t :: ts, rows, h => by
    obtain ⟨r, rs, rfl, h2, h3⟩ := h
    rw [List.reverse_cons, List.reverse_cons]
    exact RowsIn.append (RowsIn.single h2) (RowsIn.reverse h3)

set_option maxHeartbeats 4000000 in
theorem rev_c : ∀ (n : Nat) (t : Re) (w0 : World) (vs : List Value) (Z L : Nat → Prop), t.size ≤ n → t.size ≤ 1000000 → Tree Z w0 t vs L → (∀ y, Z y → ¬ L y) → (∀ y, Z y ∨ L y → y < w0.heap.size) →
    Ret Tryd.prog 60 #[.agg vs.toArray] w0 fun v w => normF (fun y => Z y ∨ L y ∨ w0.heap.size ≤ y) (revT t) v w ∧ Chg L w0 w := by
  intro n
  induction n with
  | zero => intro t w0 vs Z L hn; have := t.size_pos; omega
  | succ n ih =>
  intro t w0 vs Z L hn hM hT hz hb
  obtain ⟨sa, sc, aa, ac, rfl, hset, hac, hta⟩ := hT.form
  have hal := len_sizes t.args
  have hsze := t.size_eq
  refine Ret_of Tryd.func60 rfl Tryd.ntmps60 (Nat.le_of_ble_eq_true rfl) ?_
  have E : Chg L w0 w0 := Chg.refl _ _
  have E5 : Chg none1 w0 w0 := Chg.refl _ _
  refine Wp_seq_region ?_
  refine s_box (v := (.agg #[(.int .i64 t.kind), (.slice sa t.set.length sc), (.slice aa t.args.length ac), (.int .i64 t.mn), (.int .i64 t.mx), (.bool t.neg)])) (c := #[(.int .i64 t.kind), (.slice sa t.set.length sc), (.slice aa t.args.length ac), (.int .i64 t.mn), (.int .i64 t.mx), (.bool t.neg)]) (by decide) rfl rfl ?_
  intro br wr Nr
  have Fr := Nr.ge E
  have Fr_E5 := Nr.ge E5
  replace E := E.ext Nr.ext
  have Br := Nr.blk
  replace E5 := E5.ext Nr.ext
  refine s_alloc (c := #[(.int .i64 0), (.slice none 0 0), (.slice none 0 0), (.int .i64 0), (.int .i64 0), (.bool false)]) (by decide) zer27 rfl ?_
  intro bo wo No
  have Fo := No.ge E
  have Fo_E5 := No.ge E5
  have Oo_br := No.lt Br
  replace Br := No.keep Br
  replace E := E.ext No.ext
  have Bo := No.blk
  replace E5 := E5.ext No.ext
  refine WpL_nil ?_
  refine Wp_seq ?_
  refine Wp_seq_region ?_
  refine WpL_val rfl rfl (by decide) (r_fieldAddr (b := br) (o := 0) (o' := 2) rfl Tryd.underlying27 rfl siz25 rfl) ?_
  refine WpL_val rfl rfl (by decide) (r_load (v := (.slice aa t.args.length ac)) rfl flat25 (Br.cell rfl)) ?_
  refine WpL_val rfl rfl (by decide) (r_lenSlice (ad := aa) (n := t.args.length) (cap := ac) Tryd.underlying25 rfl) ?_
  refine WpL_val rfl rfl (by decide) (r_move (v := (.int .i64 0)) rfl) ?_
  refine WpL_nil ?_
  refine Wp_block ?_
  obtain ⟨n1, hn1⟩ : ∃ n1, n1 = wo.heap.size := ⟨_, rfl⟩
  have hbo : bo < n1 := by rw [hn1]; exact Bo.lt
  have hbr : br < n1 := by omega
  have hst : NSt revT Z L n1 wo aa t.args 0 := NSt.ext (nst_start hta) E5
  have hb1 : ∀ y, Z y ∨ L y → y < n1 := fun y hy => by have := hb y hy; omega
  have hne : ∀ y, Z y ∨ L y ∨ n1 ≤ y → ¬ y = bo := by
    rintro y (h | h | h) he
    · have := hb y (.inl h); omega
    · have := hb y (.inr h); omega
    · omega
  have hmo : ∀ y, Z y ∨ L y ∨ n1 ≤ y → Z y ∨ L y ∨ w0.heap.size ≤ y := by
    rintro y (h | h | h)
    · exact .inl h
    · exact .inr (.inl h)
    · exact .inr (.inr (by omega))
  refine Wp_loop (fun nn_ σ W1 => ∃ (k : Nat), (∃ jj_, σ = upds jj_ [(1, (.pointer (some ⟨br, 0, none⟩))), (2, (.pointer (some ⟨bo, 0, none⟩))), (6, (.slice aa t.args.length ac)), (7, (.int .i64 ((t.args.length : Nat) : Int))), (8, (.int .i64 ((k : Nat) : Int)))]) ∧ Chg L w0 W1 ∧ Blk W1 br #[(.int .i64 t.kind), (.slice sa t.set.length sc), (.slice aa t.args.length ac), (.int .i64 t.mn), (.int .i64 t.mx), (.bool t.neg)] 27 ∧ Blk W1 bo #[(.int .i64 0), (.slice none 0 0), (.slice none 0 0), (.int .i64 0), (.int .i64 0), (.bool false)] 27 ∧ (k ≤ t.args.length) ∧ (NSt revT Z L n1 W1 aa t.args k) ∧ (n1 ≤ W1.heap.size) ∧ nn_ = t.args.length - k) (n := t.args.length - 0) ?_ ?_
  · exact ⟨0, Fits.out ⟨rfl, rfl, rfl, rfl, rfl, trivial⟩, E, Br, Bo, Nat.zero_le _, hst, (by omega), rfl⟩
  · clear E Br Bo
    rintro _ _ W1 ⟨k, ⟨j1, rfl⟩, E, Br, Bo, hk, hst, hsz1, rfl⟩
    refine Wp_seq_region ?_
    refine WpL_val rfl rfl (by decide) (r_lss (k := .i64) (a := ((k : Nat) : Int)) (b := ((t.args.length : Nat) : Int)) rfl rfl) ?_
    refine WpL_nil ?_
    refine Wp_seq ?_
    refine Wp_cond (b := decide ((((k : Nat) : Int) : Int) < ((t.args.length : Nat) : Int))) rfl (fun hlt => ?_) (fun hlt => ?_)
    · have khlt := hlt
      replace hlt := of_decide_eq_true hlt
      obtain ⟨x, hx⟩ := get_of_lt (l := t.args) (i := k) (by omega)
      obtain ⟨b, rows, rest, D, K, rfl, hLb, hB, hR, hT, hl, h6, hD, hK⟩ := hst.resolve_left (fun h => by rw [h] at hx; simp at hx)
      have hbb := hb b (.inr hLb)
      rw [drop_cons hx] at hT
      simp only [Trees] at hT
      obtain ⟨xs, rs2, L1, K2, hrows, hTx, hT2, h1, h2⟩ := hT
      obtain ⟨hrx, rfl⟩ := drop_head hrows
      have hTx0 := hTx
      obtain ⟨sa2, sc2, aa2, ac2, rfl, _, _, _⟩ := hTx.form
      have hLL : ∀ y, L1 y → L y := fun y hy => (hK y (h1 y hy).1).1
      have E4 : Chg none1 W1 W1 := Chg.refl _ _
      refine Wp_skip ?_
      refine thn_normal ?_
      refine Wp_seq ?_
      refine Wp_block ?_
      refine Wp_seq_region ?_
      refine WpL_val rfl rfl (by decide) (r_move (v := (.int .i64 ((k : Nat) : Int))) rfl) ?_
      refine WpL_val rfl rfl (by decide) (r_indexSlice (b := b) (o := 0) (len := t.args.length) (cap := ac) (i := k) (o' := 0 + k * 6) rfl rfl rfl Tryd.underlying25 siz27 (by omega) (by omega)) ?_
      refine WpL_val rfl rfl (by decide) (r_loadAgg (vs := [(.int .i64 x.kind), (.slice sa2 x.set.length sc2), (.slice aa2 x.args.length ac2), (.int .i64 x.mn), (.int .i64 x.mx), (.bool x.neg)]) rfl agg27 siz27 rfl (by rw [Nat.zero_add]; exact rows_at hB h6 hrx)) ?_
      refine s_alloc (c := #[(.int .i64 0), (.slice none 0 0), (.slice none 0 0), (.int .i64 0), (.int .i64 0), (.bool false)]) (by decide) zer27 rfl ?_
      intro bs ws Ns
      have Fs := Ns.ge E
      have Fs_E4 := Ns.ge E4
      have Os_br := Ns.lt Br
      have Os_bo := Ns.lt Bo
      have Os_b := Ns.lt hB
      replace Br := Ns.keep Br
      replace Bo := Ns.keep Bo
      replace hB := Ns.keep hB
      replace E := E.ext Ns.ext
      have Bs := Ns.blk
      replace E4 := E4.ext Ns.ext
      refine WpL_val rfl rfl (by decide) (r_assign (v := (.int .i64 ((k : Nat) : Int))) rfl) ?_
      refine s_storeAgg (b := bs) (o := 0) (c' := #[(.int .i64 x.kind), (.slice sa2 x.set.length sc2), (.slice aa2 x.args.length ac2), (.int .i64 x.mn), (.int .i64 x.mx), (.bool x.neg)]) rfl rfl (by simp [Value.oneCell']) siz27 rfl Bs (by simp) rfl ?_
      intro w3 S3
      replace Br := S3.keep (by omega) Br
      replace Bo := S3.keep (by omega) Bo
      replace hB := S3.keep (by omega) hB
      replace E := S3.step E (by first | exact Or.inl (by omega) | exact Or.inr rfl | exact Or.inr (by assumption) | exact Or.inr (by simp) | exact Or.inr (by omega) | exact Or.inr (by dsimp only; omega))
      replace E4 := S3.step E4 (Or.inl (by omega))
      replace Bs := S3.blk
      refine WpL_nil ?_
      obtain ⟨Fs4, hFs4⟩ : ∃ Fs : List (FactT (L1)), Fs = [.eq (.pointer (some ⟨br, 2, none⟩)), .eq (.slice (some ⟨b, 0, none⟩) t.args.length ac), .eq (.int .i64 ((k : Nat) : Int)), .eq (.agg #[(.int .i64 x.kind), (.slice sa2 x.set.length sc2), (.slice aa2 x.args.length ac2), (.int .i64 x.mn), (.int .i64 x.mx), (.bool x.neg)]), .own (normF (fun y => Z y ∨ L1 y ∨ n1 ≤ y) (revT x)) (normF_ext _ _)] := ⟨_, rfl⟩
      refine Wp_dagT (L1) 5 4 [13, 14, 15, 16, 17] [[], [0], [], [], [3]] Fs4 hFs4 rfl mixed (by kernel_rfl) (by kernel_rfl) (by kernel_rfl) ?_ ?_
      · intro wd X0
        refine DagStepsT.cons (fun s' w' X U H => ?_) ?_
        · exact DoesT_val (r_fieldAddr (b := br) (o := 0) (o' := 2) (U 1 rfl) Tryd.underlying27 rfl siz25 rfl) (Chg.refl _ _) rfl
        refine DagStepsT.cons (fun s' w' X U H => ?_) ?_
        · have e13 : s' 13 = (.pointer (some ⟨br, 2, none⟩)) := H 0 rfl 13 (.eq (.pointer (some ⟨br, 2, none⟩))) rfl (by rw [hFs4]; rfl)
          exact DoesT_val (r_load (v := (.slice (some ⟨b, 0, none⟩) t.args.length ac)) e13 flat25 ((Chg.keep X (fun h => by have := hb br (.inr (hLL _ h)); omega) (X0.keep Br)).cell rfl)) (Chg.refl _ _) rfl
        refine DagStepsT.cons (fun s' w' X U H => ?_) ?_
        · exact DoesT_val (r_move (v := (.int .i64 ((k : Nat) : Int))) (U 3 rfl)) (Chg.refl _ _) rfl
        refine DagStepsT.cons (fun s' w' X U H => ?_) ?_
        · exact DoesT_val (r_loadAgg (vs := [(.int .i64 x.kind), (.slice sa2 x.set.length sc2), (.slice aa2 x.args.length ac2), (.int .i64 x.mn), (.int .i64 x.mx), (.bool x.neg)]) (U 4 rfl) agg27 siz27 rfl ((Chg.keep X (fun f => f) (X0.keep Bs)).cells rfl)) (Chg.refl _ _) rfl
        refine DagStepsT.cons (fun s' w' X U H => ?_) ?_
        · have e16 : s' 16 = (.agg #[(.int .i64 x.kind), (.slice sa2 x.set.length sc2), (.slice aa2 x.args.length ac2), (.int .i64 x.mn), (.int .i64 x.mx), (.bool x.neg)]) := H 3 rfl 16 (.eq (.agg #[(.int .i64 x.kind), (.slice sa2 x.set.length sc2), (.slice aa2 x.args.length ac2), (.int .i64 x.mn), (.int .i64 x.mx), (.bool x.neg)])) rfl (by rw [hFs4]; rfl)
          exact DoesT_enter (r_callF (vs := [(.agg #[(.int .i64 x.kind), (.slice sa2 x.set.length sc2), (.slice aa2 x.args.length ac2), (.int .i64 x.mn), (.int .i64 x.mx), (.bool x.neg)])]) Tryd.func60 nm60 bd60 (lst1 e16)) ((ih x _ _ Z L1 (by have := Re.size_arg hx; omega) (by have := Re.size_arg hx; omega) (Tree.ext ((Ext.trans E4 X0).trans X) x hTx0) (fun y hy h => hz y hy (hLL y h)) (fun y hy => by have := hb1 y (hy.imp id (hLL y)); have := E4.size; have := X0.size; have := X.size; omega)).mono (fun v w2 h => ⟨normF_mono (by rintro y (h | h | h); exact .inl h; exact .inr (.inl h); exact .inr (.inr (by have := E4.size; have := X0.size; have := X.size; omega))) h.1, h.2⟩))
        exact DagStepsT.nil
      · intro s' wd4 w4 X0 X4 U H
        have e13 : s' 13 = (.pointer (some ⟨br, 2, none⟩)) := H 0 13 (.eq (.pointer (some ⟨br, 2, none⟩))) rfl (by rw [hFs4]; rfl)
        have e14 : s' 14 = (.slice (some ⟨b, 0, none⟩) t.args.length ac) := H 1 14 (.eq (.slice (some ⟨b, 0, none⟩) t.args.length ac)) rfl (by rw [hFs4]; rfl)
        have e15 : s' 15 = (.int .i64 ((k : Nat) : Int)) := H 2 15 (.eq (.int .i64 ((k : Nat) : Int))) rfl (by rw [hFs4]; rfl)
        have e16 : s' 16 = (.agg #[(.int .i64 x.kind), (.slice sa2 x.set.length sc2), (.slice aa2 x.args.length ac2), (.int .i64 x.mn), (.int .i64 x.mx), (.bool x.neg)]) := H 3 16 (.eq (.agg #[(.int .i64 x.kind), (.slice sa2 x.set.length sc2), (.slice aa2 x.args.length ac2), (.int .i64 x.mn), (.int .i64 x.mx), (.bool x.neg)])) rfl (by rw [hFs4]; rfl)
        obtain ⟨v17, e17, r17⟩ := (show (.own (normF (fun y => Z y ∨ L1 y ∨ n1 ≤ y) (revT x)) (normF_ext _ _) : FactT (L1)).In (s' 17) _ from H 4 17 (.own (normF (fun y => Z y ∨ L1 y ∨ n1 ≤ y) (revT x)) (normF_ext _ _)) rfl (by rw [hFs4]; rfl))
        obtain ⟨j4, rfl⟩ := Fits.out (σ := s') (l := [(1, (.pointer (some ⟨br, 0, none⟩))), (2, (.pointer (some ⟨bo, 0, none⟩))), (3, (.int .i64 ((k : Nat) : Int))), (4, (.pointer (some ⟨bs, 0, none⟩))), (6, (.slice (some ⟨b, 0, none⟩) t.args.length ac)), (7, (.int .i64 ((t.args.length : Nat) : Int))), (8, (.int .i64 ((k : Nat) : Int))), (9, (.bool (decide ((((k : Nat) : Int) : Int) < ((t.args.length : Nat) : Int))))), (10, (.int .i64 ((k : Nat) : Int))), (11, (.pointer (some ⟨b, 0 + k * 6, none⟩))), (12, (.agg #[(.int .i64 x.kind), (.slice sa2 x.set.length sc2), (.slice aa2 x.args.length ac2), (.int .i64 x.mn), (.int .i64 x.mx), (.bool x.neg)])), (13, (.pointer (some ⟨br, 2, none⟩))), (14, (.slice (some ⟨b, 0, none⟩) t.args.length ac)), (15, (.int .i64 ((k : Nat) : Int))), (16, (.agg #[(.int .i64 x.kind), (.slice sa2 x.set.length sc2), (.slice aa2 x.args.length ac2), (.int .i64 x.mn), (.int .i64 x.mx), (.bool x.neg)])), (17, (.agg v17.toArray))]) ⟨U 1 rfl, U 2 rfl, U 3 rfl, U 4 rfl, U 6 rfl, U 7 rfl, U 8 rfl, U 9 rfl, U 10 rfl, U 11 rfl, U 12 rfl, e13, e14, e15, e16, e17, trivial⟩
        clear U H
        replace Br := Chg.keep X4 (fun h => by have := hb br (.inr (hLL _ h)); omega) (X0.keep Br)
        replace Bo := Chg.keep X4 (fun h => by have := hb bo (.inr (hLL _ h)); omega) (X0.keep Bo)
        replace hB := Chg.keep X4 (fun h => (hK b (h1 b h).1).2 rfl) (X0.keep hB)
        replace Bs := Chg.keep X4 (fun h => by have := hb bs (.inr (hLL _ h)); omega) (X0.keep Bs)
        have C12 := X4
        replace E := (E.ext X0).step X4 (fun y _ hy => hLL y hy)
        have hP3 : True := trivial
        refine WpL_val rfl rfl (by decide) (r_indexSlice (b := b) (o := 0) (len := t.args.length) (cap := ac) (i := k) (o' := 0 + k * 6) rfl rfl rfl Tryd.underlying25 siz27 (by omega) (by omega)) ?_
        refine s_storeAgg (b := b) (o := 0 + k * 6) (n := 6) (c' := ((rows.set k v17).flatten ++ rest).toArray) (vs := v17.toArray) rfl rfl (by simpa using ReAt.one (ReIn.at _ r17)) siz27 (by simpa using r17.len) hB (by have := rows_len h6; simp only [List.size_toArray, List.length_append]; omega) (by rw [Nat.zero_add]; exact congrArg List.toArray (rows_set (k := 6) (v := v17) (rows := rows) (i := k) (rest := rest) r17.len h6 (by omega))) ?_
        intro w5 S5
        replace hP3 := S5
        replace Br := S5.keep (by omega) Br
        replace Bo := S5.keep (by omega) Bo
        replace Bs := S5.keep (by omega) Bs
        replace E := S5.step E (by first | exact Or.inl (by omega) | exact Or.inr rfl | exact Or.inr (by assumption) | exact Or.inr (by simp) | exact Or.inr (by omega) | exact Or.inr (by dsimp only; omega))
        replace hB := S5.blk
        refine WpL_nil ?_
        refine inB_normal ?_
        refine thn_normal ?_
        refine Wp_region ?_
        refine WpL_val rfl rfl (by decide) (r_add (k := .i64) (a := ((k : Nat) : Int)) (b := 1) (c := ((k : Nat) : Int) + 1) rfl rfl (wI64 (by omega))) ?_
        refine WpL_val rfl rfl (by decide) (r_move (v := (.int .i64 (((k : Nat) : Int) + 1))) rfl) ?_
        refine WpL_nil ?_
        refine thn_normal ?_
        exact ⟨t.args.length - (k + 1), by omega, k + 1, Fits.out ⟨rfl, rfl, rfl, rfl, rfl, trivial⟩, E, Br, Bo, (by omega), nst_step hz hb1 hLb hx (RowsIn.ext (Ext.trans E4 X0) hR) (Trees.ext (Ext.trans E4 X0) _ hT2) hl h6 hD hK h1 h2 C12 r17 hP3, (by have := hP3.size; have := C12.size; have := X0.size; have := E4.size; omega), rfl⟩
    · have khlt := hlt
      replace hlt := of_decide_eq_false hlt
      have hkk : k = t.args.length := by omega
      subst hkk
      refine Wp_exit ?_
      refine thn_exit ?_
      refine thn_exit ?_
      refine inB_here ?_
      refine thn_normal ?_
      refine Wp_cut (fun σ W6 => (∃ jj_, σ = upds jj_ [(1, (.pointer (some ⟨br, 0, none⟩))), (2, (.pointer (some ⟨bo, 0, none⟩)))]) ∧ Chg L w0 W6 ∧ Blk W6 br #[(.int .i64 t.kind), (.slice sa t.set.length sc), (.slice aa t.args.length ac), (.int .i64 t.mn), (.int .i64 t.mx), (.bool t.neg)] 27 ∧ Blk W6 bo #[(.int .i64 0), (.slice none 0 0), (.slice none 0 0), (.int .i64 0), (.int .i64 0), (.bool false)] 27 ∧ (RsIn (fun y => Z y ∨ L y ∨ n1 ≤ y) W6 (.slice aa t.args.length ac) (revA t.kind (t.args.map revT)))) ?_ ?_
      · skip
        refine Wp_seq_region ?_
        refine WpL_val rfl rfl (by decide) (r_fieldAddr (b := br) (o := 0) (o' := 0) rfl Tryd.underlying27 rfl siz3 rfl) ?_
        refine WpL_val rfl rfl (by decide) (r_load (v := (.int .i64 t.kind)) rfl flat3 (Br.cell rfl)) ?_
        refine WpL_val rfl rfl (by decide) (r_eql (k := .i64) (a := t.kind) (b := 3) rfl rfl) ?_
        refine WpL_nil ?_
        refine Wp_cond (b := decide ((t.kind : Int) = 3)) rfl (fun h3 => ?_) (fun h3 => ?_)
        · have kh3 := h3
          replace h3 := of_decide_eq_true h3
          have hfin : t.args = [] ∨ t.args ≠ [] := Classical.em _
          rcases Bool.eq_false_or_eq_true (decide (t.args = [])) with hnil | hnil
          · have khnil := hnil
            replace khnil := of_decide_eq_true khnil
            have hrs0 : RsIn (fun y => Z y ∨ L y ∨ n1 ≤ y) (W1) (.slice aa t.args.length ac) (revA t.kind (t.args.map revT)) := ⟨aa, ac, by rw [khnil, show revA t.kind ([].map revT) = [] from by unfold revA; split <;> rfl], by rw [khnil, show revA t.kind ([].map revT) = [] from by unfold revA; split <;> rfl]; exact ⟨Nat.zero_le _, hac.2⟩, .inl (by rw [khnil, show revA t.kind ([].map revT) = [] from by unfold revA; split <;> rfl])⟩
            refine Wp_region ?_
            refine WpL_val rfl rfl (by decide) (r_fieldAddr (b := br) (o := 0) (o' := 2) rfl Tryd.underlying27 rfl siz25 rfl) ?_
            refine WpL_val rfl rfl (by decide) (r_load (v := (.slice aa t.args.length ac)) rfl flat25 (Br.cell rfl)) ?_
            refine WpL_enter rfl rfl (by decide) (r_callF (vs := [(.slice aa t.args.length ac)]) Tryd.func78 nm78 bd78 rfl) ((revr0_c _ aa ac _ (by rw [khnil]; rfl))) ?_
            rintro _ w9 X9
            replace Br := X9.keep Br
            replace Bo := X9.keep Bo
            replace E := E.ext X9
            refine WpL_nil ?_
            refine thn_normal ?_
            exact ⟨Fits.out ⟨rfl, rfl, trivial⟩, E, Br, Bo, RsIn.ext hrs0 X9⟩
          · have khnil := hnil
            replace khnil := of_decide_eq_false khnil
            obtain ⟨b, rows, rest, D, K, rfl, hLb, hB, hR, hT, hl, h6, hD, hK⟩ := hst.resolve_left khnil
            have hbb := hb b (.inr hLb)
            rw [List.take_length, List.take_of_length_le (by omega)] at hR
            refine Wp_region ?_
            refine WpL_val rfl rfl (by decide) (r_fieldAddr (b := br) (o := 0) (o' := 2) rfl Tryd.underlying27 rfl siz25 rfl) ?_
            refine WpL_val rfl rfl (by decide) (r_load (v := (.slice (some ⟨b, 0, none⟩) t.args.length ac)) rfl flat25 (Br.cell rfl)) ?_
            refine WpL_enter rfl rfl (by decide) (r_callF (vs := [(.slice (some ⟨b, 0, none⟩) t.args.length ac)]) Tryd.func78 nm78 bd78 rfl) (revr_c _ b ac _ rows rest hB (by omega) h6 (fun r hr u hu => hR.one u (List.mem_flatten.2 ⟨r, hr, hu⟩)) hl) ?_
            rintro _ w9 ⟨hB9, C9⟩
            replace Br := C9.keep (by omega) Br
            replace Bo := C9.keep (by omega) Bo
            replace E := E.step C9 (fun y _ hy => by rw [hy]; exact hLb)
            refine WpL_nil ?_
            refine thn_normal ?_
            exact ⟨Fits.out ⟨rfl, rfl, trivial⟩, E, Br, Bo, ⟨some ⟨b, 0, none⟩, ac, by rw [show t.kind = 3 from h3, revA_3]; simp, by rw [show t.kind = 3 from h3, revA_3]; simpa using hac, .inr ⟨b, 0, .inr (.inl hLb), rfl, by rw [show t.kind = 3 from h3, revA_3]; refine resin_of fun i u hu => ?_; obtain ⟨r, h10, h11⟩ := (RowsIn.reverse (RowsIn.chg C9 (fun y hy he => by have he' : y = b := he; subst he'; rcases hy with h | h | h; exact hz y h hLb; exact (hD y h).2.1 rfl; omega) hR)).get hu; exact ⟨r, by rw [Nat.zero_add]; exact rows_at hB9 (fun r hr => h6 r (List.mem_reverse.1 hr)) h10, ReIn.mono (fun y hy => by rcases hy with h | h | h; exact .inl h; exact .inr (.inl (hD y h).1); exact .inr (.inr h)) u h11⟩⟩⟩⟩
        · have kh3 := h3
          replace h3 := of_decide_eq_false h3
          refine Wp_skip ?_
          refine thn_normal ?_
          exact ⟨Fits.out ⟨rfl, rfl, trivial⟩, E, Br, Bo, (by have h := nst_end hst hac; rw [revA_ne h3]; exact h)⟩
      · clear E Br Bo
        rintro _ W6 ⟨⟨j6, rfl⟩, E, Br, Bo, hrs⟩
        have hC9 : Chg (fun y => y = bo) (W6) (W6) := Chg.refl _ _
        have hset9 := SlIn.chg hset E (fun y hy => hz y hy)
        refine Wp_seq_region ?_
        refine WpL_val rfl rfl (by decide) (r_loadAgg (vs := [(.int .i64 t.kind), (.slice sa t.set.length sc), (.slice aa t.args.length ac), (.int .i64 t.mn), (.int .i64 t.mx), (.bool t.neg)]) rfl agg27 siz27 rfl (Br.cells rfl)) ?_
        refine s_storeAgg (b := bo) (o := 0) (c' := #[(.int .i64 t.kind), (.slice sa t.set.length sc), (.slice aa t.args.length ac), (.int .i64 t.mn), (.int .i64 t.mx), (.bool t.neg)]) rfl rfl (by simp [Value.oneCell']) siz27 rfl Bo (by simp) rfl ?_
        intro w8 S8
        replace hC9 := S8.chg
        replace Br := S8.keep (by omega) Br
        replace E := S8.step E (by first | exact Or.inl (by omega) | exact Or.inr rfl | exact Or.inr (by assumption) | exact Or.inr (by simp) | exact Or.inr (by omega) | exact Or.inr (by dsimp only; omega))
        replace Bo := S8.blk
        refine WpL_nil ?_
        refine Wp_ret ?_
        refine fin_agg Tryd.results60 (vs := [(.int .i64 t.kind), (.slice sa t.set.length sc), (.slice aa t.args.length ac), (.int .i64 t.mn), (.int .i64 t.mx), (.bool t.neg)]) (b := bo) rfl agg27 siz27 rfl (Bo.cells rfl) ?_
        refine ⟨⟨_, rfl, ?_⟩, E⟩
        rw [revT_eq]
        exact re_ret hset9 (fun y hy => .inl hy) hrs hC9 hne hmo
end Go.Proofs
