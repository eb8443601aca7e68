/- Contracts: slices of integers. -/
import Derived.Test.YtncmfkibflogkaaTab
import Derived.Test.YtncmfkibflogkaaRel
import Derived.Test.YtncmfkibflogkaaDagT
namespace Go.Proofs
open Go Go.Eng
set_option maxRecDepth 100000

section
variable {P : Program} {σ : Env} {w : World} {dst : Option Tmp} {ty : TypeId} {pos : String} {af : Array Edge} {g : Option (Nat × Bool)} {t t' e : TypeId} {x y : Operand}
theorem r_eqlNil {a : Option Addr} {n c n' c' : Nat} (hu : P.underlying t = some (.slice e)) (hx : ev σ x = .slice a n c) (hy : ev σ y = .slice none n' c') :
    (execOp (ev σ) ⟨dst, .binOp .eql t x y t', ty, pos, af, g⟩).run P w = .ok (.value (.bool a.isNone)) w := by
  have h : (Op.equalIn 10000 t (.slice a n c) (.slice none n' c')).run P w = .ok a.isNone w := by
    rw [Op.equalIn]
    cases a <;> simp [run_underlying hu]
  cases a <;> simp_all [execOp, eqGuard, binOp, Op.equal, Op.maxDepth]
theorem r_append0 {s : Operand} {a a' : Option Addr} {n c c' size : Nat} (hu : P.underlying t = some (.slice e)) (hs : Siz P e size) (hx : ev σ s = .slice a n c) (hn : n ≤ c) (hy : ev σ x = .slice a' 0 c') :
    (execOp (ev σ) ⟨dst, .call ⟨.builtin .append, #[s, x], #[t, t]⟩, ty, pos, af, g⟩).run P w = .ok (.value (.slice a n c)) w := by
  have hz : size * 0 = 0 := Nat.mul_zero _
  cases a <;> cases a' <;> simp [execOp, resolve, invoke, builtin, Builtin.append_, hx, hy, run_underlying hu, hs.run, Builtin.lenOf, Builtin.firstCells, loadCells, loadCellsFrom, storeCells, hn]
theorem s_build0 {N : Nat} {Q : Post} {K : Env → World → Prop} {ops : Array Oper} {rest : List Oper} {d size : Nat} (hN : d < N) (hu : P.underlying t = some (.slice e)) (hs : Siz P e size)
    (k : ∀ b w', New w w' b #[] e → WpL P N ops K Q rest (upd σ d (.slice (some ⟨b, 0, none⟩) 0 0)) w') : WpL P N ops K Q (⟨some d, .buildSlice t 0 #[], ty, pos, af, none⟩ :: rest) σ w := by
  refine WpL_val (v := .slice (some ⟨w.heap.size, 0, none⟩) 0 0) (w' := { w with heap := w.heap.push (.cells #[] e (0, 0)) }) rfl rfl hN ?_ (k _ _ (New.mk' w #[] e))
  have h0 : Array.range 0 = #[] := rfl
  simp [execOp, Instr.buildSlice, run_underlying hu, hs.run, Instr.fill, newRow, h0]
end

theorem own_empty {w : World} {b e base size : Nat} (h : Blk w b #[] e) (hb : base ≤ b) : w.ownsRow base e size (.slice (some ⟨b, 0, none⟩) 0 0) 0 [] :=
  ⟨by simp, .inr ⟨b, 0, #[], rfl, hb, h, Nat.le_refl _, by simp [maxLen], by simp, by simp⟩⟩
theorem rev_step {α : Type} {l cur : List α} {n i : Nat} (hc : cur.length = n) (hi : 2 * i + 1 < n) (h : ∀ k, k < n → cur[k]? = if k < i ∨ n - i ≤ k then l[n - 1 - k]? else l[k]?) {x y : α} (hx : cur[i]? = some x) (hy : cur[n - 1 - i]? = some y) :
    ∀ k, k < n → ((cur.set i y).set (n - 1 - i) x)[k]? = if k < i + 1 ∨ n - (i + 1) ≤ k then l[n - 1 - k]? else l[k]? := by
  intro k hk
  have h1 := h i (by omega)
  rw [hx, if_neg (by omega)] at h1
  have h2 := h (n - 1 - i) (by omega)
  rw [hy, if_neg (by omega)] at h2
  by_cases hk1 : k = n - 1 - i
  · subst hk1
    rw [List.getElem?_set_self (by simp; omega), if_pos (by omega), show n - 1 - (n - 1 - i) = i from by omega, h1]
  · rw [List.getElem?_set_ne (by omega)]
    by_cases hk2 : k = i
    · subst hk2
      rw [List.getElem?_set_self (by omega), if_pos (by omega), h2]
    · rw [List.getElem?_set_ne (by omega), h k hk]
      by_cases hk3 : k < i ∨ n - i ≤ k
      · rw [if_pos hk3, if_pos (by omega)]
      · rw [if_neg hk3, if_neg (by omega)]
theorem rev_done {α : Type} {l cur : List α} {n i : Nat} (hn : l.length = n) (hc : cur.length = n) (hi : n ≤ 2 * i + 1) (h : ∀ k, k < n → cur[k]? = if k < i ∨ n - i ≤ k then l[n - 1 - k]? else l[k]?) : cur = l.reverse := by
  apply List.ext_getElem?
  intro k
  by_cases hk : k < n
  · rw [h k hk, List.getElem?_reverse (by omega), hn]
    by_cases hk2 : k < i ∨ n - i ≤ k
    · rw [if_pos hk2]
    · rw [if_neg hk2, show n - 1 - k = k from by omega]
  · rw [List.getElem?_eq_none (by omega), List.getElem?_eq_none (by simp; omega)]
theorem flat_intV (l : List Int) : (l.map intV).flatten = l.map (Value.int .i64) := by
  induction l with
  | nil => rfl
  | cons x l ih => simp only [List.map_cons, List.flatten_cons, ih]; rfl
theorem ints_set {l : List Int} {rest : List Value} {i : Nat} (hi : i < l.length) (y : Int) : (l.map (Value.int .i64) ++ rest).toArray.setIfInBounds i (.int .i64 y) = ((l.set i y).map (Value.int .i64) ++ rest).toArray := by
  apply Array.ext'
  rw [Array.toList_setIfInBounds, List.map_set]
  simp only
  rw [List.set_append, if_pos (by simpa using hi)]
theorem ints_get {w : World} {b T : Nat} {l : List Int} {rest : List Value} (h : Blk w b (l.map (Value.int .i64) ++ rest).toArray T) {i : Nat} {x : Int} (hx : l[i]? = some x) : w.cell? ⟨b, i, none⟩ = some (.int .i64 x) := by
  refine h.cell ?_
  have := lt_of_get hx
  simp only [List.getElem?_toArray]
  rw [List.getElem?_append_left (by simpa using this)]
  simp [hx]

set_option maxHeartbeats 1000000 in
theorem revi_c (w0 : World) (b c T : Nat) (l : List Int) (rest : List Value) (hB : Blk w0 b (l.map (Value.int .i64) ++ rest).toArray T) (hl : l.length ≤ 1000000000) :
    Ret Try.prog 53 #[.slice (some ⟨b, 0, none⟩) l.length c] w0 fun _ w => Blk w b (l.reverse.map (Value.int .i64) ++ rest).toArray T ∧ Chg (fun x => x = b) w0 w := by
  refine Ret_of Try.func53 rfl Try.ntmps53 (Nat.le_of_ble_eq_true rfl) ?_
  have E : Chg (fun x => x = b) w0 w0 := Chg.refl _ _
  refine Wp_seq_region ?_
  refine WpL_val rfl rfl (by decide) (r_move (v := (.slice (some ⟨b, 0, none⟩) l.length c)) rfl) ?_
  refine WpL_val rfl rfl (by decide) (r_lenSlice (ad := some ⟨b, 0, none⟩) (n := l.length) (cap := c) Try.underlying22 rfl) ?_
  refine WpL_val rfl rfl (by decide) (r_sub (k := .i64) (a := ((l.length : Nat) : Int)) (b := 1) (c := ((l.length : Nat) : Int) - 1) rfl rfl (wI64 (by omega))) ?_
  refine WpL_val rfl rfl (by decide) (r_assign (v := (.int .i64 0)) rfl) ?_
  refine WpL_val rfl rfl (by decide) (r_assign (v := (.int .i64 (((l.length : Nat) : Int) - 1))) rfl) ?_
  refine WpL_nil ?_
  refine Wp_block ?_
  refine Wp_loop (fun nn_ σ W1 => ∃ (i : Nat) (j : Int) (cur : List Int), (∃ jj_, σ = upds jj_ [(0, (.slice (some ⟨b, 0, none⟩) l.length c)), (2, (.int .i64 ((i : Nat) : Int))), (3, (.int .i64 j))]) ∧ Chg (fun x => x = b) w0 W1 ∧ Blk W1 b ((cur.map (Value.int .i64) ++ rest).toArray) T ∧ (j = (l.length : Int) - 1 - (i : Int)) ∧ (cur.length = l.length) ∧ (∀ k, k < l.length → cur[k]? = if k < i ∨ l.length - i ≤ k then l[l.length - 1 - k]? else l[k]?) ∧ (i ≤ l.length) ∧ nn_ = l.length - i) (n := l.length - 0) ?_ ?_
  · exact ⟨0, ((l.length : Nat) : Int) - 1, l, Fits.out ⟨rfl, rfl, rfl, trivial⟩, E, hB, (by omega), rfl, (fun k hk => by rw [if_neg (by omega)]), Nat.zero_le _, rfl⟩
  · clear E hB
    rintro _ _ W1 ⟨i, j, cur, ⟨j1, rfl⟩, E, hB, hj, hcl, hget, hi, rfl⟩
    refine Wp_seq ?_
    refine Wp_seq_region ?_
    refine WpL_val rfl rfl (by decide) (r_move (v := (.int .i64 ((i : Nat) : Int))) rfl) ?_
    refine WpL_val rfl rfl (by decide) (r_move (v := (.int .i64 j)) rfl) ?_
    refine WpL_val rfl rfl (by decide) (r_lss (k := .i64) (a := ((i : Nat) : Int)) (b := j) rfl rfl) ?_
    refine WpL_nil ?_
    refine Wp_cond (b := decide ((((i : Nat) : Int) : Int) < j)) rfl (fun hlt => ?_) (fun hlt => ?_)
    · have khlt := hlt
      replace hlt := of_decide_eq_true hlt
      obtain ⟨x, hx⟩ := get_of_lt (l := cur) (i := i) (by omega)
      obtain ⟨y, hy⟩ := get_of_lt (l := cur) (i := l.length - 1 - i) (by omega)
      refine Wp_skip ?_
      refine thn_normal ?_
      refine Wp_seq ?_
      refine Wp_block ?_
      obtain ⟨Fs3, hFs3⟩ : ∃ Fs : List (FactT ((fun x => x = b))), Fs = [.eq (.slice (some ⟨b, 0, none⟩) l.length c), .eq (.int .i64 ((i : Nat) : Int)), .eq (.slice (some ⟨b, 0, none⟩) l.length c), .eq (.int .i64 j), .eq (.slice (some ⟨b, 0, none⟩) l.length c), .eq (.int .i64 j), .eq (.pointer (some ⟨b, 0 + (l.length - 1 - i), none⟩)), .eq (.int .i64 y), .eq (.slice (some ⟨b, 0, none⟩) l.length c), .eq (.int .i64 ((i : Nat) : Int)), .eq (.pointer (some ⟨b, 0 + i, none⟩)), .eq (.int .i64 x), .eq (.pointer (some ⟨b, 0 + i, none⟩)), .own (fun _ w => Blk w b ((cur.set i y).map (Value.int .i64) ++ rest).toArray T) (fun _ _ _ e h => Ext.keep e h)] := ⟨_, rfl⟩
      refine Wp_dagT ((fun x => x = b)) 14 13 [14, 15, 16, 17, 18, 19, 20, 21, 22, 23, 24, 25, 26, 41] [[], [], [], [], [], [], [4, 5], [6], [], [], [8, 9], [10], [0, 1, 4, 5, 6, 7, 11], [0, 1, 4, 5, 6, 7, 11, 12]] Fs3 hFs3 rfl mixed (by kernel_rfl) (by kernel_rfl) (by kernel_rfl) ?_ ?_
      · intro wd X0
        refine DagStepsT.cons (fun s' w' X U H => ?_) ?_
        · exact DoesT_val (r_move (v := (.slice (some ⟨b, 0, none⟩) l.length c)) (U 0 rfl)) (Chg.refl _ _) rfl
        refine DagStepsT.cons (fun s' w' X U H => ?_) ?_
        · exact DoesT_val (r_move (v := (.int .i64 ((i : Nat) : Int))) (U 2 rfl)) (Chg.refl _ _) rfl
        refine DagStepsT.cons (fun s' w' X U H => ?_) ?_
        · exact DoesT_val (r_move (v := (.slice (some ⟨b, 0, none⟩) l.length c)) (U 0 rfl)) (Chg.refl _ _) rfl
        refine DagStepsT.cons (fun s' w' X U H => ?_) ?_
        · exact DoesT_val (r_move (v := (.int .i64 j)) (U 3 rfl)) (Chg.refl _ _) rfl
        refine DagStepsT.cons (fun s' w' X U H => ?_) ?_
        · exact DoesT_val (r_move (v := (.slice (some ⟨b, 0, none⟩) l.length c)) (U 0 rfl)) (Chg.refl _ _) rfl
        refine DagStepsT.cons (fun s' w' X U H => ?_) ?_
        · exact DoesT_val (r_move (v := (.int .i64 j)) (U 3 rfl)) (Chg.refl _ _) rfl
        refine DagStepsT.cons (fun s' w' X U H => ?_) ?_
        · have e18 : s' 18 = (.slice (some ⟨b, 0, none⟩) l.length c) := H 4 rfl 18 (.eq (.slice (some ⟨b, 0, none⟩) l.length c)) rfl (by rw [hFs3]; rfl)
          have e19 : s' 19 = (.int .i64 j) := H 5 rfl 19 (.eq (.int .i64 j)) rfl (by rw [hFs3]; rfl)
          exact DoesT_val (r_indexSlice (b := b) (o := 0) (len := l.length) (cap := c) (i := l.length - 1 - i) (o' := 0 + (l.length - 1 - i)) e18 e19 (by omega) Try.underlying22 siz3 (by omega) (by omega)) (Chg.refl _ _) rfl
        refine DagStepsT.cons (fun s' w' X U H => ?_) ?_
        · have e20 : s' 20 = (.pointer (some ⟨b, 0 + (l.length - 1 - i), none⟩)) := H 6 rfl 20 (.eq (.pointer (some ⟨b, 0 + (l.length - 1 - i), none⟩))) rfl (by rw [hFs3]; rfl)
          exact DoesT_val (r_load (v := (.int .i64 y)) e20 flat3 (by rw [Nat.zero_add]; exact (Chg.keep X (fun f => f) (X0.keep hB) |> fun h => ints_get h hy))) (Chg.refl _ _) rfl
        refine DagStepsT.cons (fun s' w' X U H => ?_) ?_
        · exact DoesT_val (r_move (v := (.slice (some ⟨b, 0, none⟩) l.length c)) (U 0 rfl)) (Chg.refl _ _) rfl
        refine DagStepsT.cons (fun s' w' X U H => ?_) ?_
        · exact DoesT_val (r_move (v := (.int .i64 ((i : Nat) : Int))) (U 2 rfl)) (Chg.refl _ _) rfl
        refine DagStepsT.cons (fun s' w' X U H => ?_) ?_
        · have e22 : s' 22 = (.slice (some ⟨b, 0, none⟩) l.length c) := H 8 rfl 22 (.eq (.slice (some ⟨b, 0, none⟩) l.length c)) rfl (by rw [hFs3]; rfl)
          have e23 : s' 23 = (.int .i64 ((i : Nat) : Int)) := H 9 rfl 23 (.eq (.int .i64 ((i : Nat) : Int))) rfl (by rw [hFs3]; rfl)
          exact DoesT_val (r_indexSlice (b := b) (o := 0) (len := l.length) (cap := c) (i := i) (o' := 0 + i) e22 e23 (by omega) Try.underlying22 siz3 (by omega) (by omega)) (Chg.refl _ _) rfl
        refine DagStepsT.cons (fun s' w' X U H => ?_) ?_
        · have e24 : s' 24 = (.pointer (some ⟨b, 0 + i, none⟩)) := H 10 rfl 24 (.eq (.pointer (some ⟨b, 0 + i, none⟩))) rfl (by rw [hFs3]; rfl)
          exact DoesT_val (r_load (v := (.int .i64 x)) e24 flat3 (by rw [Nat.zero_add]; exact (Chg.keep X (fun f => f) (X0.keep hB) |> fun h => ints_get h hx))) (Chg.refl _ _) rfl
        refine DagStepsT.cons (fun s' w' X U H => ?_) ?_
        · have e14 : s' 14 = (.slice (some ⟨b, 0, none⟩) l.length c) := H 0 rfl 14 (.eq (.slice (some ⟨b, 0, none⟩) l.length c)) rfl (by rw [hFs3]; rfl)
          have e15 : s' 15 = (.int .i64 ((i : Nat) : Int)) := H 1 rfl 15 (.eq (.int .i64 ((i : Nat) : Int))) rfl (by rw [hFs3]; rfl)
          exact DoesT_val (r_indexSlice (b := b) (o := 0) (len := l.length) (cap := c) (i := i) (o' := 0 + i) e14 e15 (by omega) Try.underlying22 siz3 (by omega) (by omega)) (Chg.refl _ _) rfl
        refine DagStepsT.cons (fun s' w' X U H => ?_) ?_
        · have e26 : s' 26 = (.pointer (some ⟨b, 0 + i, none⟩)) := H 12 rfl 26 (.eq (.pointer (some ⟨b, 0 + i, none⟩))) rfl (by rw [hFs3]; rfl)
          have e21 : s' 21 = (.int .i64 y) := H 7 rfl 21 (.eq (.int .i64 y)) rfl (by rw [hFs3]; rfl)
          exact DoesT_store e26 e21 rfl siz3 (Chg.keep X (fun f => f) (X0.keep hB)) (by simp; omega) rfl (fun w9 h => by have h2 := h.blk; rw [Nat.zero_add, ints_set (by omega) y] at h2; exact h2)
        exact DagStepsT.nil
      · intro s' wd3 w3 X0 X3 U H
        have e16 : s' 16 = (.slice (some ⟨b, 0, none⟩) l.length c) := H 2 16 (.eq (.slice (some ⟨b, 0, none⟩) l.length c)) rfl (by rw [hFs3]; rfl)
        have e17 : s' 17 = (.int .i64 j) := H 3 17 (.eq (.int .i64 j)) rfl (by rw [hFs3]; rfl)
        have e25 : s' 25 = (.int .i64 x) := H 11 25 (.eq (.int .i64 x)) rfl (by rw [hFs3]; rfl)
        obtain hB := (show (.own (fun _ w => Blk w b ((cur.set i y).map (Value.int .i64) ++ rest).toArray T) (fun _ _ _ e h => Ext.keep e h) : FactT ((fun x => x = b))).In (s' 41) w3 from H 13 41 (.own (fun _ w => Blk w b ((cur.set i y).map (Value.int .i64) ++ rest).toArray T) (fun _ _ _ e h => Ext.keep e h)) rfl (by rw [hFs3]; rfl))
        obtain ⟨j3, rfl⟩ := Fits.out (σ := s') (l := [(0, (.slice (some ⟨b, 0, none⟩) l.length c)), (2, (.int .i64 ((i : Nat) : Int))), (3, (.int .i64 j)), (16, (.slice (some ⟨b, 0, none⟩) l.length c)), (17, (.int .i64 j)), (25, (.int .i64 x))]) ⟨U 0 rfl, U 2 rfl, U 3 rfl, e16, e17, e25, trivial⟩
        clear U H
        replace E := (E.ext X0).step X3 (fun x _ h => h)
        refine WpL_val rfl rfl (by decide) (r_indexSlice (b := b) (o := 0) (len := l.length) (cap := c) (i := l.length - 1 - i) (o' := 0 + (l.length - 1 - i)) rfl rfl (by omega) Try.underlying22 siz3 (by omega) (by omega)) ?_
        refine s_store (b := b) (o := 0 + (l.length - 1 - i)) (c' := (((cur.set i y).set (l.length - 1 - i) x).map (Value.int .i64) ++ rest).toArray) (v := (.int .i64 x)) rfl rfl rfl siz3 hB (by simp; omega) (by rw [Nat.zero_add]; exact ints_set (by simp; omega) x) ?_
        intro w4 S4
        replace E := S4.step E (by first | exact Or.inl (by omega) | exact Or.inr rfl | exact Or.inr (by assumption) | exact Or.inr (by simp) | exact Or.inr (by omega) | exact Or.inr (by dsimp only; omega))
        replace hB := S4.blk
        refine WpL_nil ?_
        refine inB_normal ?_
        refine thn_normal ?_
        refine Wp_region ?_
        refine WpL_val rfl rfl (by decide) (r_move (v := (.int .i64 ((i : Nat) : Int))) rfl) ?_
        refine WpL_val rfl rfl (by decide) (r_add (k := .i64) (a := ((i : Nat) : Int)) (b := 1) (c := ((i : Nat) : Int) + 1) rfl rfl (wI64 (by omega))) ?_
        refine WpL_val rfl rfl (by decide) (r_move (v := (.int .i64 j)) rfl) ?_
        refine WpL_val rfl rfl (by decide) (r_sub (k := .i64) (a := j) (b := 1) (c := j - 1) rfl rfl (wI64 (by omega))) ?_
        refine WpL_val rfl rfl (by decide) (r_assign (v := (.int .i64 (((i : Nat) : Int) + 1))) rfl) ?_
        refine WpL_val rfl rfl (by decide) (r_assign (v := (.int .i64 (j - 1))) rfl) ?_
        refine WpL_nil ?_
        refine thn_normal ?_
        exact ⟨l.length - (i + 1), by omega, i + 1, j - 1, (cur.set i y).set (l.length - 1 - i) x, Fits.out ⟨rfl, rfl, rfl, trivial⟩, E, hB, (by omega), (by simpa using hcl), rev_step hcl (by omega) hget hx hy, (by omega), rfl⟩
    · have khlt := hlt
      replace hlt := of_decide_eq_false hlt
      refine Wp_exit ?_
      refine thn_exit ?_
      refine thn_exit ?_
      refine inB_here ?_
      refine fin_none Try.results53 ?_
      rw [← rev_done rfl hcl (by omega) hget]; exact ⟨hB, E⟩
theorem revi0_c (w0 : World) (a : Option Addr) (c : Nat) :
    Ret Try.prog 53 #[.slice a 0 c] w0 fun _ w => Ext w0 w := by
  refine Ret_of Try.func53 rfl Try.ntmps53 (Nat.le_of_ble_eq_true rfl) ?_
  have E : Chg none1 w0 w0 := Chg.refl _ _
  refine Wp_seq_region ?_
  refine WpL_val rfl rfl (by decide) (r_move (v := (.slice a 0 c)) rfl) ?_
  refine WpL_val rfl rfl (by decide) (r_lenSlice (ad := a) (n := 0) (cap := c) Try.underlying22 rfl) ?_
  refine WpL_val rfl rfl (by decide) (r_sub (k := .i64) (a := 0) (b := 1) (c := (-1)) rfl rfl (by decide)) ?_
  refine WpL_val rfl rfl (by decide) (r_assign (v := (.int .i64 0)) rfl) ?_
  refine WpL_val rfl rfl (by decide) (r_assign (v := (.int .i64 (-1))) rfl) ?_
  refine WpL_nil ?_
  refine Wp_block ?_
  refine Wp_loop (fun nn_ σ W1 => (∃ jj_, σ = upds jj_ [(0, (.slice a 0 c)), (2, (.int .i64 0)), (3, (.int .i64 (-1)))]) ∧ Chg none1 w0 W1 ∧ nn_ = 0) (n := 0) ?_ ?_
  · exact ⟨Fits.out ⟨rfl, rfl, rfl, trivial⟩, E, rfl⟩
  · clear E
    rintro _ _ W1 ⟨⟨j1, rfl⟩, E, rfl⟩
    refine Wp_seq ?_
    refine Wp_seq_region ?_
    refine WpL_val rfl rfl (by decide) (r_move (v := (.int .i64 0)) rfl) ?_
    refine WpL_val rfl rfl (by decide) (r_move (v := (.int .i64 (-1))) rfl) ?_
    refine WpL_val rfl rfl (by decide) (r_lss (k := .i64) (a := 0) (b := (-1)) rfl rfl) ?_
    refine WpL_nil ?_
    refine Wp_cond_false rfl ?_
    refine Wp_exit ?_
    refine thn_exit ?_
    refine thn_exit ?_
    refine inB_here ?_
    refine fin_none Try.results53 ?_
    exact E

set_option maxHeartbeats 400000 in
theorem clonei_c (w0 : World) (v : Value) (l : List Int) (h : IntsAt w0 v l) (hl : l.length ≤ 2000000) :
    Ret Try.prog 74 #[v] w0 fun r w => ∃ a c, r = .slice a l.length c ∧ l.length ≤ c ∧ (l = [] ∨ ∃ b rest, a = some ⟨b, 0, none⟩ ∧ w0.heap.size ≤ b ∧ Blk w b (l.map (Value.int .i64) ++ rest).toArray 3) ∧ Ext w0 w := by
  obtain ⟨a, c, rfl⟩ := SlAt.form h
  simp only [List.length_map] at h ⊢
  obtain ⟨base, hbase⟩ : ∃ base, base = w0.heap.size := ⟨_, rfl⟩
  refine Ret_of Try.func74 rfl Try.ntmps74 (Nat.le_of_ble_eq_true rfl) ?_
  have E : Chg none1 w0 w0 := Chg.refl _ _
  refine Wp_seq_region ?_
  refine WpL_val rfl rfl (by decide) (r_assign (v := (.slice none 0 0)) rfl) ?_
  refine WpL_nil ?_
  refine Wp_seq ?_
  refine Wp_seq_region ?_
  refine WpL_val rfl rfl (by decide) (r_move (v := (.slice a l.length c)) rfl) ?_
  refine WpL_val (v := (.bool a.isNone)) rfl rfl (by decide) (r_eqlNil Try.underlying22 rfl rfl) ?_
  refine WpL_nil ?_
  refine Wp_cond (b := a.isNone) rfl (fun hn => ?_) (fun hn => ?_)
  · have khn := hn
    have hl0 : l.length = 0 := by rcases Nat.eq_zero_or_pos l.length with h0 | h0; exact h0; obtain ⟨b, o, rfl, _⟩ := ints_cells h h0; simp at hn
    have hl1 : l = [] := List.eq_nil_of_length_eq_zero hl0
    refine Wp_seq_region ?_
    refine WpL_val rfl rfl (by decide) (r_assign (v := (.slice none 0 0)) rfl) ?_
    refine WpL_nil ?_
    refine Wp_ret ?_
    refine thn_ret ?_
    refine fin_tmp Try.results74 (v := (.slice none 0 0)) rfl ?_
    exact ⟨none, 0, by rw [hl0], by omega, .inl hl1, E⟩
  · have khn := hn
    rcases Bool.eq_false_or_eq_true (decide (l.length = 0)) with hz | hz
    · have khz := hz
      replace khz := of_decide_eq_true khz
      refine Wp_skip ?_
      refine thn_normal ?_
      refine Wp_seq_region ?_
      refine s_build0 (by decide) Try.underlying22 siz3 ?_
      intro bq wq Nq
      have Fq := Nq.ge E
      replace E := E.ext Nq.ext
      have Bq := Nq.blk
      refine WpL_val rfl rfl (by decide) (r_move (v := (.slice a l.length c)) rfl) ?_
      refine WpL_val rfl rfl (by decide) (r_append0 Try.underlying22 siz3 (a' := a) (c' := c) rfl (Nat.le_refl _) (by show Value.slice a l.length c = _; rw [khz])) ?_
      refine WpL_val rfl rfl (by decide) (r_assign (v := (.slice (some ⟨bq, 0, none⟩) 0 0)) rfl) ?_
      refine WpL_nil ?_
      refine Wp_ret ?_
      refine fin_tmp Try.results74 (v := (.slice (some ⟨bq, 0, none⟩) 0 0)) rfl ?_
      have hl1 : l = [] := List.eq_nil_of_length_eq_zero khz
      exact ⟨some ⟨bq, 0, none⟩, 0, by rw [khz], by omega, .inl hl1, E⟩
    · have khz := hz
      replace khz := of_decide_eq_false khz
      obtain ⟨b, o, rfl, hcl⟩ := ints_cells h (by omega)
      refine Wp_skip ?_
      refine thn_normal ?_
      refine Wp_seq_region ?_
      refine s_build0 (by decide) Try.underlying22 siz3 ?_
      intro bq wq Nq
      have Fq := Nq.ge E
      replace E := E.ext Nq.ext
      have Bq := Nq.blk
      refine WpL_val rfl rfl (by decide) (r_move (v := (.slice (some ⟨b, o, none⟩) l.length c)) rfl) ?_
      have hown := own_empty (base := base) (size := 1) Bq (by omega)
      have hbs : base ≤ wq.heap.size := by have := Nq.ext.size; omega
      refine s_append (base := base) (n := 0) (m := l.length) (xs := []) (news := l.map (Value.int .i64)) (size := 1) (bytes := 8) (v := (.slice (some ⟨bq, 0, none⟩) 0 0)) (by decide) Try.underlying22 siz3 byt3 zer3 rfl (by decide) rfl hown rfl (by simp) (fun i u hu => by rw [List.getElem?_map, Option.map_eq_some_iff] at hu; obtain ⟨x, hx, rfl⟩ := hu; exact Nq.ext.cell (hcl i x hx)) (by simp [Value.oneCell']) (by unfold maxLen; omega) (by omega) (hbs) ?_
      intro v9 w29 Ov9 Cv9 Dv9
      replace E := E.step Cv9 (fun x hx h => absurd (hown.lt x h).1 (by omega))
      obtain ⟨la, lc, rfl⟩ := own_form Ov9
      refine WpL_val rfl rfl (by decide) (r_assign (v := (.slice la (0 + l.length) lc)) rfl) ?_
      refine WpL_nil ?_
      refine Wp_ret ?_
      refine fin_tmp Try.results74 (v := (.slice la (0 + l.length) lc)) rfl ?_
      simp only [Nat.zero_add, List.nil_append] at Ov9
      simp only [Nat.zero_add]
      rcases Ov9.2 with ⟨_, h2⟩ | ⟨g, cap, cur, h1, h2, h3, h4, h5, h6, h7⟩
      · omega
      · simp only [Value.slice.injEq] at h1
        obtain ⟨rfl, _, rfl⟩ := h1
        refine ⟨some ⟨g, 0, none⟩, lc, rfl, h4, .inr ⟨g, cur.toList.drop (l.length * 1), rfl, by omega, ?_⟩, E⟩
        have : (l.map (Value.int .i64) ++ cur.toList.drop (l.length * 1)).toArray = cur := by rw [← h7, List.take_append_drop]
        rw [this]; exact h3
theorem ints_own {w : World} {b T c : Nat} {l : List Int} {rest : List Value} (h : Blk w b (l.map (Value.int .i64) ++ rest).toArray T) (hl : l.length ≤ c) (hm : l.length ≤ 2000000) : IntsAt w (.slice (some ⟨b, 0, none⟩) l.length c) l := by
  refine ⟨_, c, by simp, by simp; omega, by simpa using hl, .inr ⟨b, 0, rfl, fun i r hr => ?_⟩⟩
  rw [List.getElem?_map, Option.map_eq_some_iff] at hr
  obtain ⟨x, hx, rfl⟩ := hr
  intro j u hu
  match j, hu with
  | 0, hu =>
    simp [intV] at hu; subst hu
    have := ints_get h hx
    simpa using this

end Go.Proofs
