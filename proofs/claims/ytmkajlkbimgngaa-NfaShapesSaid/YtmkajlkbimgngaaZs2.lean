/- Contracts and plain lemmas, part 2. -/
import Derived.Tactics
import Derived.Deep.Quiet
import Derived.Laws.AppendOwn
import Derived.KernelRfl
import Derived.Laws.Entries
import Derived.Laws.Build
import Derived.Below
import Derived.RowKit3
import Derived.StillTail
import Derived.Sort.Grow
import Derived.Deep.Draws
import Derived.Test.YtmkajlkbimgngaaChecked
import Derived.Laws.StructEq
import Derived.MapKept
import Derived.Laws.BytesArg
import Derived.Defers
import Derived.Recover
import Derived.Test.YtmkajlkbimgngaaZs1
namespace Go.Proofs
open Go Go.Eng
set_option maxRecDepth 100000
section
variable {P : Program} {σ : Env} {w : World} {dst : Option Tmp} {ty : TypeId} {pos : String} {af : Array Edge} {g : Option (Nat × Bool)} {t t' e : TypeId} {x y : Operand}
theorem r_eqlNil {a : Option Addr} {n c n' c' : Nat} (hu : P.underlying t = some (.slice e)) (hx : ev σ x = .slice a n c) (hy : ev σ y = .slice none n' c') :
  (execOp (ev σ) ⟨dst, .binOp .eql t x y t', ty, pos, af, g⟩).run P w = .ok (.value (.bool a.isNone)) w := by
 have h : (Op.equalIn 10000 t (.slice a n c) (.slice none n' c')).run P w = .ok a.isNone w := by
  rw [Op.equalIn]
  cases a <;> simp [run_underlying hu]
 cases a <;> simp_all [execOp, eqGuard, binOp, Op.equal, Op.maxDepth]
theorem r_append0 {s : Operand} {a a' : Option Addr} {n c c' size : Nat} (hu : P.underlying t = some (.slice e)) (hs : Siz P e size) (hx : ev σ s = .slice a n c) (hn : n ≤ c) (hy : ev σ x = .slice a' 0 c') :
  (execOp (ev σ) ⟨dst, .call ⟨.builtin .append, #[s, x], #[t, t]⟩, ty, pos, af, g⟩).run P w = .ok (.value (.slice a n c)) w := by
 have hz : size * 0 = 0 := Nat.mul_zero _
 cases a <;> cases a' <;> simp [execOp, resolve, invoke, builtin, Builtin.append_, hx, hy, run_underlying hu, hs.run, Builtin.lenOf, Builtin.firstCells, loadCells, loadCellsFrom, storeCells, hn]
theorem s_build0 {N : Nat} {Q : Post} {K : Env → World → Prop} {ops : Array Oper} {rest : List Oper} {d size : Nat} (hN : d < N) (hu : P.underlying t = some (.slice e)) (hs : Siz P e size)
  (k : ∀ b w', New w w' b #[] e → WpL P N ops K Q rest (upd σ d (.slice (some ⟨b, 0, none⟩) 0 0)) w') : WpL P N ops K Q (⟨some d, .buildSlice t 0 #[], ty, pos, af, none⟩ :: rest) σ w := by
 refine WpL_val (v := .slice (some ⟨w.heap.size, 0, none⟩) 0 0) (w' := { w with heap := w.heap.push (.cells #[] e (0, 0)) }) rfl rfl hN ?_ (k _ _ (New.mk' w #[] e))
 have h0 : Array.range 0 = #[] := rfl
 simp [execOp, Instr.buildSlice, run_underlying hu, hs.run, Instr.fill, newRow, h0]
end
theorem own_empty {w : World} {b e base size : Nat} (h : Blk w b #[] e) (hb : base ≤ b) : w.ownsRow base e size (.slice (some ⟨b, 0, none⟩) 0 0) 0 [] :=
 ⟨by simp, .inr ⟨b, 0, #[], rfl, hb, h, Nat.le_refl _, by simp [maxLen], by simp, by simp⟩⟩
theorem rev_step {α : Type} {l cur : List α} {n i : Nat} (hc : cur.length = n) (hi : 2 * i + 1 < n) (h : ∀ k, k < n → cur[k]? = if k < i ∨ n - i ≤ k then l[n - 1 - k]? else l[k]?) {x y : α} (hx : cur[i]? = some x) (hy : cur[n - 1 - i]? = some y) :
  ∀ k, k < n → ((cur.set i y).set (n - 1 - i) x)[k]? = if k < i + 1 ∨ n - (i + 1) ≤ k then l[n - 1 - k]? else l[k]? := by
 intro k hk
 have h1 := h i (by omega)
 rw [hx, if_neg (by omega)] at h1
 have h2 := h (n - 1 - i) (by omega)
 rw [hy, if_neg (by omega)] at h2
 by_cases hk1 : k = n - 1 - i
 ·subst hk1
  rw [List.getElem?_set_self (by simp; omega), if_pos (by omega), show n - 1 - (n - 1 - i) = i from by omega, h1]
 ·rw [List.getElem?_set_ne (by omega)]
  by_cases hk2 : k = i
  ·subst hk2
   rw [List.getElem?_set_self (by omega), if_pos (by omega), h2]
  ·rw [List.getElem?_set_ne (by omega), h k hk]
   by_cases hk3 : k < i ∨ n - i ≤ k
   ·rw [if_pos hk3, if_pos (by omega)]
   ·rw [if_neg hk3, if_neg (by omega)]
theorem rev_done {α : Type} {l cur : List α} {n i : Nat} (hn : l.length = n) (hc : cur.length = n) (hi : n ≤ 2 * i + 1) (h : ∀ k, k < n → cur[k]? = if k < i ∨ n - i ≤ k then l[n - 1 - k]? else l[k]?) : cur = l.reverse := by
 apply List.ext_getElem?
 intro k
 by_cases hk : k < n
 ·rw [h k hk, List.getElem?_reverse (by omega), hn]
  by_cases hk2 : k < i ∨ n - i ≤ k
  ·rw [if_pos hk2]
  ·rw [if_neg hk2, show n - 1 - k = k from by omega]
 ·rw [List.getElem?_eq_none (by omega), List.getElem?_eq_none (by simp; omega)]
theorem ints_set {l : List Int} {rest : List Value} {i : Nat} (hi : i < l.length) (y : Int) : (l.map (Value.int .i64) ++ rest).toArray.setIfInBounds i (.int .i64 y) = ((l.set i y).map (Value.int .i64) ++ rest).toArray := by
 apply Array.ext'
 rw [Array.toList_setIfInBounds, List.map_set]
 simp only
 rw [List.set_append, if_pos (by simpa using hi)]
theorem ints_get {w : World} {b T : Nat} {l : List Int} {rest : List Value} (h : Blk w b (l.map (Value.int .i64) ++ rest).toArray T) {i : Nat} {x : Int} (hx : l[i]? = some x) : w.cell? ⟨b, i, none⟩ = some (.int .i64 x) := by
 refine h.cell ?_
 have := lt_of_get hx
 simp only [List.getElem?_toArray]
 rw [List.getElem?_append_left (by simpa using this)]
 simp [hx]
set_option maxHeartbeats 1000000 in
theorem revi_c (w0 : World) (b c T : Nat) (l : List Int) (rest : List Value) (hB : Blk w0 b (l.map (Value.int .i64) ++ rest).toArray T) (hl : l.length ≤ 1000000000) :
  Ret Try.prog 13 #[.slice (some ⟨b, 0, none⟩) l.length c] w0 fun _ w => Blk w b (l.reverse.map (Value.int .i64) ++ rest).toArray T ∧ Chg (fun x => x = b) w0 w := by
 refine Ret_of Try.func13 rfl Try.ntmps13 (Nat.le_of_ble_eq_true rfl) ?_
 have E : Chg (fun x => x = b) w0 w0 := Chg.refl _ _
 refine Wp_seq_region ?_
 refine qM (.slice (some ⟨b, 0, none⟩) l.length c) rfl ?_
 refine qV (r_lenSlice (ad := some ⟨b, 0, none⟩) (n := l.length) (cap := c) Try.underlying22 rfl) ?_
 refine qV (r_sub (k := .i64) (a := (l.length : Int)) (b := 1) (c := (l.length : Int) - 1) rfl rfl (wI64 (by omega))) ?_
 refine qA (I6 0) rfl ?_
 refine qA (I6 ((l.length : Int) - 1)) rfl ?_
 refine WpL_nil (Wp_block ?_)
 refine Wp_loop (fun nn_ σ W1 => ∃ (i : Nat) (j : Int) (cur : List Int), (∃ jj_, σ = upds jj_ [(0, (.slice (some ⟨b, 0, none⟩) l.length c)), (2, (I6 (i : Int))), (3, (I6 j))]) ∧ Chg (fun x => x = b) w0 W1 ∧ Blk W1 b ((cur.map (Value.int .i64) ++ rest).toArray) T ∧ (j = (l.length : Int) - 1 - (i : Int)) ∧ (cur.length = l.length) ∧ (∀ k, k < l.length → cur[k]? = if k < i ∨ l.length - i ≤ k then l[l.length - 1 - k]? else l[k]?) ∧ (i ≤ l.length) ∧ nn_ = l.length - i) (n := l.length - 0) ?_ ?_
 ·exact ⟨0, ((l.length : Nat) : Int) - 1, l, Fits.out ⟨rfl, rfl, rfl, trivial⟩, E, hB, (by omega), rfl, (fun k hk => by rw [if_neg (by omega)]), Nat.zero_le _, rfl⟩
 ·clear E hB
  rintro _ _ W1 ⟨i, j, cur, ⟨j1, rfl⟩, E, hB, hj, hcl, hget, hi, rfl⟩
  refine Wp_seq (Wp_seq_region ?_)
  refine qM (I6 (i : Int)) rfl ?_
  refine qM (I6 j) rfl ?_
  refine qV (r_lss (k := .i64) (a := (i : Int)) (b := j) rfl rfl) ?_
  refine WpL_nil ?_
  refine Wp_cond (b := decide (((i : Int) : Int) < j)) rfl (fun hlt => ?_) (fun hlt => ?_)
  ·have khlt := hlt
   replace hlt := of_decide_eq_true hlt
   obtain ⟨x, hx⟩ := get_of_lt (l := cur) (i := i) (by omega)
   obtain ⟨y, hy⟩ := get_of_lt (l := cur) (i := l.length - 1 - i) (by omega)
   refine Wp_skip (thn_normal (Wp_seq (Wp_block ?_)))
   obtain ⟨Fs3, hFs3⟩ : ∃ Fs : List (FactT ((fun x => x = b))), Fs = [.eq (.slice (some ⟨b, 0, none⟩) l.length c), .eq (I6 (i : Int)), .eq (.slice (some ⟨b, 0, none⟩) l.length c), .eq (I6 j), .eq (.slice (some ⟨b, 0, none⟩) l.length c), .eq (I6 j), .eq (.pointer (some ⟨b, 0 + (l.length - 1 - i), none⟩)), .eq (I6 y), .eq (.slice (some ⟨b, 0, none⟩) l.length c), .eq (I6 (i : Int)), .eq (.pointer (some ⟨b, 0 + i, none⟩)), .eq (I6 x), .eq (.pointer (some ⟨b, 0 + i, none⟩)), .own (fun _ w => Blk w b ((cur.set i y).map (Value.int .i64) ++ rest).toArray T) (fun _ _ _ e h => Ext.keep e h)] := ⟨_, rfl⟩
   refine Wp_dagT ((fun x => x = b)) 14 13 [14, 15, 16, 17, 18, 19, 20, 21, 22, 23, 24, 25, 26, 41] [[], [], [], [], [], [], [4, 5], [6], [], [], [8, 9], [10], [0, 1, 4, 5, 6, 7, 11], [0, 1, 4, 5, 6, 7, 11, 12]] Fs3 hFs3 rfl mixed (by kernel_rfl) (by kernel_rfl) (by kernel_rfl) ?_ ?_
   ·intro wd X0
    refine DagStepsT.cons (fun s' w' X U H => ?_) ?_
    ·exact DoesT_val (r_move (v := (.slice (some ⟨b, 0, none⟩) l.length c)) (U 0 rfl)) (Chg.refl _ _) rfl
    refine DagStepsT.cons (fun s' w' X U H => ?_) ?_
    ·exact DoesT_val (r_move (v := (I6 (i : Int))) (U 2 rfl)) (Chg.refl _ _) rfl
    refine DagStepsT.cons (fun s' w' X U H => ?_) ?_
    ·exact DoesT_val (r_move (v := (.slice (some ⟨b, 0, none⟩) l.length c)) (U 0 rfl)) (Chg.refl _ _) rfl
    refine DagStepsT.cons (fun s' w' X U H => ?_) ?_
    ·exact DoesT_val (r_move (v := (I6 j)) (U 3 rfl)) (Chg.refl _ _) rfl
    refine DagStepsT.cons (fun s' w' X U H => ?_) ?_
    ·exact DoesT_val (r_move (v := (.slice (some ⟨b, 0, none⟩) l.length c)) (U 0 rfl)) (Chg.refl _ _) rfl
    refine DagStepsT.cons (fun s' w' X U H => ?_) ?_
    ·exact DoesT_val (r_move (v := (I6 j)) (U 3 rfl)) (Chg.refl _ _) rfl
    refine DagStepsT.cons (fun s' w' X U H => ?_) ?_
    ·have e18 : s' 18 = (.slice (some ⟨b, 0, none⟩) l.length c) := H 4 rfl 18 (.eq (.slice (some ⟨b, 0, none⟩) l.length c)) rfl (by rw [hFs3]; rfl)
     have e19 : s' 19 = (.int .i64 j) := H 5 rfl 19 (.eq (.int .i64 j)) rfl (by rw [hFs3]; rfl)
     exact DoesT_val (r_indexSlice (b := b) (o := 0) (len := l.length) (cap := c) (i := l.length - 1 - i) (o' := 0 + (l.length - 1 - i)) e18 e19 (by omega) Try.underlying22 siz3 (by omega) (by omega)) (Chg.refl _ _) rfl
    refine DagStepsT.cons (fun s' w' X U H => ?_) ?_
    ·have e20 : s' 20 = (.pointer (some ⟨b, 0 + (l.length - 1 - i), none⟩)) := H 6 rfl 20 (.eq (.pointer (some ⟨b, 0 + (l.length - 1 - i), none⟩))) rfl (by rw [hFs3]; rfl)
     exact DoesT_val (r_load (v := (I6 y)) e20 flat3 (by rw [Nat.zero_add]; exact (Chg.keep X (fun f => f) (X0.keep hB) |> fun h => ints_get h hy))) (Chg.refl _ _) rfl
    refine DagStepsT.cons (fun s' w' X U H => ?_) ?_
    ·exact DoesT_val (r_move (v := (.slice (some ⟨b, 0, none⟩) l.length c)) (U 0 rfl)) (Chg.refl _ _) rfl
    refine DagStepsT.cons (fun s' w' X U H => ?_) ?_
    ·exact DoesT_val (r_move (v := (I6 (i : Int))) (U 2 rfl)) (Chg.refl _ _) rfl
    refine DagStepsT.cons (fun s' w' X U H => ?_) ?_
    ·have e22 : s' 22 = (.slice (some ⟨b, 0, none⟩) l.length c) := H 8 rfl 22 (.eq (.slice (some ⟨b, 0, none⟩) l.length c)) rfl (by rw [hFs3]; rfl)
     have e23 : s' 23 = (.int .i64 ((i : Nat) : Int)) := H 9 rfl 23 (.eq (.int .i64 ((i : Nat) : Int))) rfl (by rw [hFs3]; rfl)
     exact DoesT_val (r_indexSlice (b := b) (o := 0) (len := l.length) (cap := c) (i := i) (o' := 0 + i) e22 e23 (by omega) Try.underlying22 siz3 (by omega) (by omega)) (Chg.refl _ _) rfl
    refine DagStepsT.cons (fun s' w' X U H => ?_) ?_
    ·have e24 : s' 24 = (.pointer (some ⟨b, 0 + i, none⟩)) := H 10 rfl 24 (.eq (.pointer (some ⟨b, 0 + i, none⟩))) rfl (by rw [hFs3]; rfl)
     exact DoesT_val (r_load (v := (I6 x)) e24 flat3 (by rw [Nat.zero_add]; exact (Chg.keep X (fun f => f) (X0.keep hB) |> fun h => ints_get h hx))) (Chg.refl _ _) rfl
    refine DagStepsT.cons (fun s' w' X U H => ?_) ?_
    ·have e14 : s' 14 = (.slice (some ⟨b, 0, none⟩) l.length c) := H 0 rfl 14 (.eq (.slice (some ⟨b, 0, none⟩) l.length c)) rfl (by rw [hFs3]; rfl)
     have e15 : s' 15 = (.int .i64 ((i : Nat) : Int)) := H 1 rfl 15 (.eq (.int .i64 ((i : Nat) : Int))) rfl (by rw [hFs3]; rfl)
     exact DoesT_val (r_indexSlice (b := b) (o := 0) (len := l.length) (cap := c) (i := i) (o' := 0 + i) e14 e15 (by omega) Try.underlying22 siz3 (by omega) (by omega)) (Chg.refl _ _) rfl
    refine DagStepsT.cons (fun s' w' X U H => ?_) ?_
    ·have e26 : s' 26 = (.pointer (some ⟨b, 0 + i, none⟩)) := H 12 rfl 26 (.eq (.pointer (some ⟨b, 0 + i, none⟩))) rfl (by rw [hFs3]; rfl)
     have e21 : s' 21 = (.int .i64 y) := H 7 rfl 21 (.eq (.int .i64 y)) rfl (by rw [hFs3]; rfl)
     exact DoesT_store e26 e21 rfl siz3 (Chg.keep X (fun f => f) (X0.keep hB)) (by simp; omega) rfl (fun w9 h => by have h2 := h.blk; rw [Nat.zero_add, ints_set (by omega) y] at h2; exact h2)
    exact DagStepsT.nil
   ·intro s' wd3 w3 X0 X3 U H
    have e16 : s' 16 = (.slice (some ⟨b, 0, none⟩) l.length c) := H 2 16 (.eq (.slice (some ⟨b, 0, none⟩) l.length c)) rfl (by rw [hFs3]; rfl)
    have e17 : s' 17 = (.int .i64 j) := H 3 17 (.eq (.int .i64 j)) rfl (by rw [hFs3]; rfl)
    have e25 : s' 25 = (.int .i64 x) := H 11 25 (.eq (.int .i64 x)) rfl (by rw [hFs3]; rfl)
    obtain hB := (show (.own (fun _ w => Blk w b ((cur.set i y).map (Value.int .i64) ++ rest).toArray T) (fun _ _ _ e h => Ext.keep e h) : FactT ((fun x => x = b))).In (s' 41) w3 from H 13 41 (.own (fun _ w => Blk w b ((cur.set i y).map (Value.int .i64) ++ rest).toArray T) (fun _ _ _ e h => Ext.keep e h)) rfl (by rw [hFs3]; rfl))
    obtain ⟨j3, rfl⟩ := Fits.out (σ := s') (l := [(0, (.slice (some ⟨b, 0, none⟩) l.length c)), (2, (.int .i64 ((i : Nat) : Int))), (3, (.int .i64 j)), (16, (.slice (some ⟨b, 0, none⟩) l.length c)), (17, (.int .i64 j)), (25, (.int .i64 x))]) ⟨U 0 rfl, U 2 rfl, U 3 rfl, e16, e17, e25, trivial⟩
    clear U H
    replace E := (E.ext X0).step X3 (fun x _ h => h)
    refine qV (r_indexSlice (b := b) (o := 0) (len := l.length) (cap := c) (i := l.length - 1 - i) (o' := 0 + (l.length - 1 - i)) rfl rfl (by omega) Try.underlying22 siz3 (by omega) (by omega)) ?_
    refine s_store (b := b) (o := 0 + (l.length - 1 - i)) (c' := (((cur.set i y).set (l.length - 1 - i) x).map (Value.int .i64) ++ rest).toArray) (v := (I6 x)) rfl rfl rfl siz3 hB (by simp; omega) (by rw [Nat.zero_add]; exact ints_set (by simp; omega) x) ?_
    intro w4 S4
    replace E := S4.step E (by first | exact Or.inl (by omega) | exact Or.inr rfl | exact Or.inr (by assumption) | exact Or.inr (by simp) | exact Or.inr (by omega) | exact Or.inr (by dsimp only; omega))
    replace hB := S4.blk
    refine WpL_nil (inB_normal (thn_normal (Wp_region ?_)))
    refine qM (I6 (i : Int)) rfl ?_
    refine qV (r_add (k := .i64) (a := (i : Int)) (b := 1) (c := (i : Int) + 1) rfl rfl (wI64 (by omega))) ?_
    refine qM (I6 j) rfl ?_
    refine qV (r_sub (k := .i64) (a := j) (b := 1) (c := j - 1) rfl rfl (wI64 (by omega))) ?_
    refine qA (I6 ((i : Int) + 1)) rfl ?_
    refine qA (I6 (j - 1)) rfl ?_
    refine WpL_nil (thn_normal ?_)
    exact ⟨l.length - (i + 1), by omega, i + 1, j - 1, (cur.set i y).set (l.length - 1 - i) x, Fits.out ⟨rfl, rfl, rfl, trivial⟩, E, hB, (by omega), (by simpa using hcl), rev_step hcl (by omega) hget hx hy, (by omega), rfl⟩
  ·have khlt := hlt
   replace hlt := of_decide_eq_false hlt
   refine Wp_exit (thn_exit (thn_exit (inB_here ?_)))
   refine fin_none Try.results13 ?_
   rw [← rev_done rfl hcl (by omega) hget]; exact ⟨hB, E⟩
theorem revi0_c (w0 : World) (a : Option Addr) (c : Nat) :
  Ret Try.prog 13 #[.slice a 0 c] w0 fun _ w => Ext w0 w := by
 refine Ret_of Try.func13 rfl Try.ntmps13 (Nat.le_of_ble_eq_true rfl) ?_
 have E : Chg none1 w0 w0 := Chg.refl _ _
 refine Wp_seq_region ?_
 refine qM (.slice a 0 c) rfl ?_
 refine qV (r_lenSlice (ad := a) (n := 0) (cap := c) Try.underlying22 rfl) ?_
 refine qV (r_sub (k := .i64) (a := 0) (b := 1) (c := (-1)) rfl rfl (by decide)) ?_
 refine qA (I6 0) rfl ?_
 refine qA (I6 (-1)) rfl ?_
 refine WpL_nil (Wp_block ?_)
 refine Wp_loop (fun nn_ σ W1 => (∃ jj_, σ = upds jj_ [(0, (.slice a 0 c)), (2, (I6 0)), (3, (I6 (-1)))]) ∧ Chg none1 w0 W1 ∧ nn_ = 0) (n := 0) ?_ ?_
 ·exact ⟨Fits.out ⟨rfl, rfl, rfl, trivial⟩, E, rfl⟩
 ·clear E
  rintro _ _ W1 ⟨⟨j1, rfl⟩, E, rfl⟩
  refine Wp_seq (Wp_seq_region ?_)
  refine qM (I6 0) rfl ?_
  refine qM (I6 (-1)) rfl ?_
  refine qV (r_lss (k := .i64) (a := 0) (b := (-1)) rfl rfl) ?_
  refine WpL_nil ?_
  refine Wp_cond_false rfl ?_
  refine Wp_exit (thn_exit (thn_exit (inB_here ?_)))
  refine fin_none Try.results13 ?_
  exact E
theorem idxi_c (w0 : World) (v : Value) (x : Int) (l : List Int) (hs : IntsAt w0 v l) :
  Ret Try.prog 117 #[v, .int .i64 x] w0 fun r w => r = .int .i64 (idx (fun y => decide (x = y)) l) ∧ Ext w0 w := by
 obtain ⟨a, c, rfl⟩ := SlAt.form hs
 have hlen : l.length ≤ 9223372036854775807 := by simpa using SlAt.le hs
 simp only [List.length_map] at hs ⊢
 refine Ret_of Try.func117 rfl Try.ntmps117 (Nat.le_of_ble_eq_true rfl) ?_
 have E : Chg none1 w0 w0 := Chg.refl _ _
 refine Wp_seq_region ?_
 refine qA (I6 0) rfl ?_
 refine WpL_nil (Wp_seq (Wp_seq_region ?_))
 refine qM (.slice a l.length c) rfl ?_
 refine qV (r_lenSlice (ad := a) (n := l.length) (cap := c) Try.underlying22 rfl) ?_
 refine qM (I6 0) rfl ?_
 refine WpL_nil (Wp_block ?_)
 refine Wp_loop (fun nn_ σ W1 => ∃ (k : Nat), (∃ jj_, σ = upds jj_ [(0, (.slice a l.length c)), (1, (I6 x)), (7, (I6 (l.length : Int))), (8, (I6 (k : Int)))]) ∧ Chg none1 w0 W1 ∧ (k ≤ l.length) ∧ (∀ (i : Nat) (y : Int), i < k → l[i]? = some y → decide (x = y) = false) ∧ nn_ = l.length - k) (n := l.length - 0) ?_ ?_
 ·exact ⟨0, Fits.out ⟨rfl, rfl, rfl, rfl, trivial⟩, E, Nat.zero_le _, (fun i y h => absurd h (Nat.not_lt_zero _)), rfl⟩
 ·clear E
  rintro _ _ W1 ⟨k, ⟨j1, rfl⟩, E, hk, hno, rfl⟩
  refine Wp_seq_region ?_
  refine qV (r_lss (k := .i64) (a := (k : Int)) (b := (l.length : Int)) rfl rfl) ?_
  refine WpL_nil (Wp_seq ?_)
  refine Wp_cond (b := decide (((k : Int) : Int) < (l.length : Int))) rfl (fun hlt => ?_) (fun hlt => ?_)
  ·have khlt := hlt
   replace hlt := of_decide_eq_true hlt
   obtain ⟨y, hy⟩ := get_of_lt (l := l) (i := k) (by omega)
   obtain ⟨b, o, rfl, hcells⟩ := ints_cells hs (by omega)
   refine Wp_skip (thn_normal (Wp_seq (Wp_block (Wp_seq_region ?_))))
   refine qM (I6 (k : Int)) rfl ?_
   refine qA (I6 (k : Int)) rfl ?_
   refine WpL_nil (Wp_seq_region ?_)
   refine qM (I6 x) rfl ?_
   refine qM (.slice (some ⟨b, o, none⟩) l.length c) rfl ?_
   refine qM (I6 (k : Int)) rfl ?_
   refine qV (r_indexSlice (b := b) (o := o) (len := l.length) (cap := c) (i := k) (o' := o + k) rfl rfl rfl Try.underlying22 siz3 (by omega) (by omega)) ?_
   refine qV (r_load (v := (I6 y)) rfl flat3 (E.cell (fun f => f) (hcells k y hy))) ?_
   refine qV (r_eql (k := .i64) (a := x) (b := y) rfl rfl) ?_
   refine WpL_nil ?_
   refine Wp_cond (b := decide ((x : Int) = y)) rfl (fun hp => ?_) (fun hp => ?_)
   ·have khp := hp
    replace hp := of_decide_eq_true hp
    refine Wp_seq_region ?_
    refine qM (I6 (k : Int)) rfl ?_
    refine qA (I6 (k : Int)) rfl ?_
    refine WpL_nil (Wp_ret (inB_ret (thn_ret (thn_ret (inB_ret (thn_ret ?_))))))
    refine fin_tmp Try.results117 (v := (.int .i64 ((k : Nat) : Int))) rfl ?_
    exact ⟨int_eq (idx_hit hy (by simpa using hp) hno).symm, E⟩
   ·have khp := hp
    replace hp := of_decide_eq_false hp
    refine Wp_skip (inB_normal (thn_normal (Wp_region ?_)))
    refine qV (r_add (k := .i64) (a := (k : Int)) (b := 1) (c := (k : Int) + 1) rfl rfl (wI64 (by omega))) ?_
    refine qM (I6 ((k : Int) + 1)) rfl ?_
    refine WpL_nil (thn_normal ?_)
    exact ⟨l.length - (k + 1), by omega, k + 1, Fits.out ⟨rfl, rfl, rfl, rfl, trivial⟩, E, (by omega), below_next hy (by simpa using hp) hno, rfl⟩
  ·have khlt := hlt
   replace hlt := of_decide_eq_false hlt
   have hkk : k = l.length := by omega
   refine Wp_exit (thn_exit (thn_exit (inB_here (thn_normal (Wp_seq_region ?_)))))
   refine qA (I6 (-1)) rfl ?_
   refine WpL_nil (Wp_ret ?_)
   refine fin_tmp Try.results117 (v := (.int .i64 (-1))) rfl ?_
   exact ⟨int_eq (idx_miss fun i y hy => hno i y (by have := lt_of_get hy; omega) hy).symm, E⟩
theorem hasi_c (w0 : World) (v : Value) (x : Int) (l : List Int) (hs : IntsAt w0 v l) :
  Ret Try.prog 91 #[v, .int .i64 x] w0 fun r w => r = .bool (l.contains x) ∧ Ext w0 w := by
 refine Ret_of Try.func91 rfl Try.ntmps91 (Nat.le_of_ble_eq_true rfl) ?_
 have E : Chg none1 w0 w0 := Chg.refl _ _
 refine Wp_seq_region ?_
 refine qA (.bool false) rfl ?_
 refine WpL_nil (Wp_seq_region ?_)
 refine qM v rfl ?_
 refine qM (I6 x) rfl ?_
 refine WpL_enter rfl rfl (by decide) (r_callF (vs := [v, (I6 x)]) Try.func117 nm117 bd117 rfl) (idxi_c _ v x l hs) ?_
 rintro _ w9 ⟨rfl, X9⟩
 replace E := E.ext X9
 refine qV (r_geq (k := .i64) (a := idx (fun y => decide (x = y)) l) (b := 0) rfl rfl) ?_
 refine qA (.bool (decide ((0 : Int) ≤ idx (fun y => decide (x = y)) l))) rfl ?_
 refine WpL_nil (Wp_ret ?_)
 refine fin_tmp Try.results91 (v := (.bool (decide ((0 : Int) ≤ idx (fun y => decide (x = y)) l)))) rfl ?_
 exact ⟨bool_eq ((idx_any _ l).trans (by rw [List.contains_eq_any_beq]; congr 1)), E⟩
end Go.Proofs
namespace Go.Proofs
open Go Go.Eng
set_option maxRecDepth 100000
theorem below_tmod (x n : Int) (hn : 0 < n) : (if x.tmod n < 0 then x.tmod n + n else x.tmod n) = x % n := by
 have h := Int.tmod_eq_emod (a := x) (b := n)
 have h1 := Int.emod_nonneg x (Int.ne_of_gt hn)
 have h2 := Int.emod_lt_of_pos x hn
 have h3 : n.natAbs = n := by omega
 split at h <;> split <;> omega
theorem below_c (x n : Int) (hn : 0 < n) (hm : n ≤ 2000) (w0 : World) :
  Ret Try.prog 36 #[.int .i64 x, .int .i64 n] w0 fun v w => v = .int .i64 (x % n) ∧ w = w0 := by
 have hb := below_tmod x n hn
 have h1 := Int.emod_nonneg x (Int.ne_of_gt hn)
 have h2 := Int.emod_lt_of_pos x hn
 refine Ret_of Try.func36 rfl Try.ntmps36 (Nat.le_of_ble_eq_true rfl) ?_
 have E : Chg none1 w0 w0 := Chg.refl _ _
 refine Wp_seq_region ?_
 refine qA (I6 0) rfl ?_
 refine WpL_nil (Wp_seq_region ?_)
 refine qM (I6 x) rfl ?_
 refine qM (I6 n) rfl ?_
 refine qV (r_rem (k := .i64) (a := x) (b := n) (c := x.tmod n) rfl rfl (by omega) rfl) ?_
 refine qA (I6 (x.tmod n)) rfl ?_
 refine WpL_nil (Wp_seq (Wp_seq_region ?_))
 refine qM (I6 (x.tmod n)) rfl ?_
 refine qV (r_lss (k := .i64) (a := x.tmod n) (b := 0) rfl rfl) ?_
 refine WpL_nil ?_
 refine Wp_cond (b := decide ((x.tmod n : Int) < 0)) rfl (fun h => ?_) (fun h => ?_)
 ·have kh := h
  replace h := of_decide_eq_true h
  rw [if_pos h] at hb
  refine Wp_region ?_
  refine qM (I6 (x.tmod n)) rfl ?_
  refine qM (I6 n) rfl ?_
  refine qV (r_add (k := .i64) (a := x.tmod n) (b := n) (c := (x.tmod n) + n) rfl rfl (wI64 (by omega))) ?_
  refine qA (I6 ((x.tmod n) + n)) rfl ?_
  refine WpL_nil (thn_normal (Wp_seq_region ?_))
  refine qM (I6 ((x.tmod n) + n)) rfl ?_
  refine qA (I6 ((x.tmod n) + n)) rfl ?_
  refine WpL_nil (Wp_ret ?_)
  refine fin_tmp Try.results36 (v := (.int .i64 ((x.tmod n) + n))) rfl ?_
  exact ⟨by rw [hb], rfl⟩
 ·have kh := h
  replace h := of_decide_eq_false h
  rw [if_neg h] at hb
  refine Wp_skip (thn_normal (Wp_seq_region ?_))
  refine qM (I6 (x.tmod n)) rfl ?_
  refine qA (I6 (x.tmod n)) rfl ?_
  refine WpL_nil (Wp_ret ?_)
  refine fin_tmp Try.results36 (v := (.int .i64 (x.tmod n))) rfl ?_
  exact ⟨by rw [hb], rfl⟩
end Go.Proofs
namespace Go.Proofs
open Go Go.Eng
set_option maxRecDepth 100000
def fitF (most : Int) : Int × Int → Re → Bool × (Int × Int) := fun s t =>
 let n := IntKind.i64.wrap (s.1 + 1)
 let e := if most < n then 2 else nodeE t
 (decide (e = 0), (n, e))
def fitsE (t : Re) (most : Int) : Int := (walkF (fitF most) t (0, 0)).2.2
theorem fits1_c (wb w0 : World) (t : Re) (vs : List Value) (ht : ReAt wb t vs) (hE : Ext wb w0) (b1' b2' b3' : Nat) (s : Int × Int) (most : Int) (h0 : wb.heap.size ≤ b2') (h12 : b2' < b1') (h13 : b1' < b3')
  (hB1 : Blk w0 b1' #[.int .i64 s.1] 3) (hB2 : Blk w0 b2' #[.int .i64 most] 3) (hB3 : Blk w0 b3' #[.int .i64 s.2] 27) :
  Ret Try.prog 115 #[.agg vs.toArray, .pointer (some ⟨b1', 0, none⟩), .pointer (some ⟨b2', 0, none⟩), .pointer (some ⟨b3', 0, none⟩)] w0
   fun v w => v = .bool (fitF most s t).1 ∧ Chg (fun x => x = b1' ∨ x = b3') w0 w ∧ Blk w b1' #[.int .i64 (fitF most s t).2.1] 3 ∧ Blk w b2' #[.int .i64 most] 3 ∧ Blk w b3' #[.int .i64 (fitF most s t).2.2] 27 := by
 have ht0 := ht
 obtain ⟨sa, sc, aa, ac, rfl, hset, hlen, hargs⟩ := ht.form
 refine Ret_of Try.func115 rfl Try.ntmps115 (Nat.le_of_ble_eq_true rfl) ?_
 have E : Chg (fun x => x = b1' ∨ x = b3') w0 w0 := Chg.refl _ _
 refine Wp_seq_region ?_
 refine s_box (v := (.agg (R6 t sa sc aa ac))) (c := (R6 t sa sc aa ac)) (by decide) rfl rfl ?_
 intro b1 w1 N1
 have F1 := N1.ge E
 have O1_b1' := N1.lt hB1
 have O1_b2' := N1.lt hB2
 have O1_b3' := N1.lt hB3
 replace hB1 := N1.keep hB1
 replace hB2 := N1.keep hB2
 replace hB3 := N1.keep hB3
 replace E := E.ext N1.ext
 have B1 := N1.blk
 refine qA (.bool false) rfl ?_
 refine WpL_nil (Wp_seq (Wp_seq_region ?_))
 refine qV (r_load (v := (I6 s.1)) rfl flat3 (hB1.cell rfl)) ?_
 refine qV (r_add (k := .i64) (a := s.1) (b := 1) (c := IntKind.i64.wrap (s.1 + 1)) rfl rfl (rfl)) ?_
 refine s_store (b := b1') (o := 0) (c' := #[(I6 (IntKind.i64.wrap (s.1 + 1)))]) (v := (I6 (IntKind.i64.wrap (s.1 + 1)))) rfl rfl rfl siz3 hB1 (by simp) rfl ?_
 intro w2 S2
 replace hB2 := S2.keep (by omega) hB2
 replace hB3 := S2.keep (by omega) hB3
 replace B1 := S2.keep (by omega) B1
 replace E := S2.step E (by first | exact Or.inl (by omega) | exact Or.inr rfl | exact Or.inr (by assumption) | exact Or.inr (by simp) | exact Or.inr (by omega) | exact Or.inr (by dsimp only; omega))
 replace hB1 := S2.blk
 refine WpL_nil (Wp_seq_region ?_)
 refine qV (r_load (v := (I6 (IntKind.i64.wrap (s.1 + 1)))) rfl flat3 (hB1.cell rfl)) ?_
 refine qV (r_load (v := (I6 most)) rfl flat3 (hB2.cell rfl)) ?_
 refine qV (r_gtr (k := .i64) (a := IntKind.i64.wrap (s.1 + 1)) (b := most) rfl rfl) ?_
 refine WpL_nil ?_
 refine Wp_cond (b := decide ((most : Int) < IntKind.i64.wrap (s.1 + 1))) rfl (fun h => ?_) (fun h => ?_)
 ·have kh := h
  replace h := of_decide_eq_true h
  refine Wp_region ?_
  refine s_store (b := b3') (o := 0) (c' := #[(I6 2)]) (v := (I6 2)) rfl rfl rfl siz27 hB3 (by simp) rfl ?_
  intro w4 S4
  replace hB1 := S4.keep (by omega) hB1
  replace hB2 := S4.keep (by omega) hB2
  replace B1 := S4.keep (by omega) B1
  replace E := S4.step E (by first | exact Or.inl (by omega) | exact Or.inr rfl | exact Or.inr (by assumption) | exact Or.inr (by simp) | exact Or.inr (by omega) | exact Or.inr (by dsimp only; omega))
  replace hB3 := S4.blk
  refine WpL_nil (thn_normal (Wp_seq_region ?_))
  refine qV (r_load (v := (I6 2)) rfl flat27 (hB3.cell rfl)) ?_
  refine qV (r_eql (k := .i64) (a := 2) (b := 0) rfl rfl) ?_
  refine qA (.bool false) rfl ?_
  refine WpL_nil (Wp_ret ?_)
  refine fin_tmp Try.results115 (v := (.bool false)) rfl ?_
  exact ⟨by simp [fitF, h], E, by simpa [fitF] using hB1, hB2, by simpa [fitF, h] using hB3⟩
 ·have kh := h
  replace h := of_decide_eq_false h
  refine Wp_region ?_
  refine qV (r_loadAgg (vs := [(I6 t.kind), (.slice sa t.set.length sc), (.slice aa t.args.length ac), (I6 t.mn), (I6 t.mx), (.bool t.neg)]) rfl agg33 siz33 rfl (B1.cells rfl)) ?_
  refine WpL_enter rfl rfl (by decide) (r_callF (vs := [(.agg (R6 t sa sc aa ac))]) Try.func116 nm116 bd116 rfl) (node_c wb _ t _ ht0 (Chg.step hE E fun x hx hm => by rcases hm with hm | hm <;> omega)) ?_
  rintro _ w9 ⟨rfl, X9⟩
  replace hB1 := X9.keep hB1
  replace hB2 := X9.keep hB2
  replace hB3 := X9.keep hB3
  replace B1 := X9.keep B1
  replace E := E.ext X9
  refine s_store (b := b3') (o := 0) (c' := #[(I6 (nodeE t))]) (v := (I6 (nodeE t))) rfl rfl rfl siz27 hB3 (by simp) rfl ?_
  intro w5 S5
  replace hB1 := S5.keep (by omega) hB1
  replace hB2 := S5.keep (by omega) hB2
  replace B1 := S5.keep (by omega) B1
  replace E := S5.step E (by first | exact Or.inl (by omega) | exact Or.inr rfl | exact Or.inr (by assumption) | exact Or.inr (by simp) | exact Or.inr (by omega) | exact Or.inr (by dsimp only; omega))
  replace hB3 := S5.blk
  refine WpL_nil (thn_normal (Wp_seq_region ?_))
  refine qV (r_load (v := (I6 (nodeE t))) rfl flat27 (hB3.cell rfl)) ?_
  refine qV (r_eql (k := .i64) (a := nodeE t) (b := 0) rfl rfl) ?_
  refine qA (.bool (decide ((nodeE t : Int) = 0))) rfl ?_
  refine WpL_nil (Wp_ret ?_)
  refine fin_tmp Try.results115 (v := (.bool (decide ((nodeE t : Int) = 0)))) rfl ?_
  exact ⟨by simp [fitF, h], E, by simpa [fitF] using hB1, hB2, by simpa [fitF, h] using hB3⟩
theorem fits_c (w0 : World) (t : Re) (vs : List Value) (ht : ReAt w0 t vs) (most : Int) :
  Ret Try.prog 88 #[.agg vs.toArray, .int .i64 most] w0 fun v w => v = .int .i64 (fitsE t most) ∧ Ext w0 w := by
 have ht0 := ht
 obtain ⟨sa, sc, aa, ac, rfl, hset, hlen, hargs⟩ := ht.form
 refine Ret_of Try.func88 rfl Try.ntmps88 (Nat.le_of_ble_eq_true rfl) ?_
 have E : Chg none1 w0 w0 := Chg.refl _ _
 refine Wp_seq_region ?_
 refine s_box (v := (.agg (R6 t sa sc aa ac))) (c := (R6 t sa sc aa ac)) (by decide) rfl rfl ?_
 intro b1 w1 N1
 have F1 := N1.ge E
 replace E := E.ext N1.ext
 have B1 := N1.blk
 refine s_box (v := (I6 most)) (c := #[(I6 most)]) (by decide) rfl rfl ?_
 intro b2 w2 N2
 have F2 := N2.ge E
 have O2_b1 := N2.lt B1
 replace B1 := N2.keep B1
 replace E := E.ext N2.ext
 have B2 := N2.blk
 refine qA (I6 0) rfl ?_
 refine WpL_nil (Wp_seq_region ?_)
 refine s_alloc (c := #[(I6 0)]) (by decide) zer3 rfl ?_
 intro b3 w3 N3
 have F3 := N3.ge E
 have O3_b1 := N3.lt B1
 have O3_b2 := N3.lt B2
 replace B1 := N3.keep B1
 replace B2 := N3.keep B2
 replace E := E.ext N3.ext
 have B3 := N3.blk
 refine s_alloc (c := #[(I6 0)]) (by decide) zer27 rfl ?_
 intro b4 w4 N4
 have F4 := N4.ge E
 have O4_b1 := N4.lt B1
 have O4_b2 := N4.lt B2
 have O4_b3 := N4.lt B3
 replace B1 := N4.keep B1
 replace B2 := N4.keep B2
 replace B3 := N4.keep B3
 replace E := E.ext N4.ext
 have B4 := N4.blk
 refine s_store (b := b3) (o := 0) (c' := #[(I6 0)]) (v := (I6 0)) rfl rfl rfl siz3 B3 (by simp) rfl ?_
 intro w5 S5
 replace B1 := S5.keep (by omega) B1
 replace B2 := S5.keep (by omega) B2
 replace B4 := S5.keep (by omega) B4
 replace E := S5.step E (by first | exact Or.inl (by omega) | exact Or.inr rfl | exact Or.inr (by assumption) | exact Or.inr (by simp) | exact Or.inr (by omega) | exact Or.inr (by dsimp only; omega))
 replace B3 := S5.blk
 refine s_store (b := b4) (o := 0) (c' := #[(I6 0)]) (v := (I6 0)) rfl rfl rfl siz27 B4 (by simp) rfl ?_
 intro w6 S6
 replace B1 := S6.keep (by omega) B1
 replace B2 := S6.keep (by omega) B2
 replace B3 := S6.keep (by omega) B3
 replace E := S6.step E (by first | exact Or.inl (by omega) | exact Or.inr rfl | exact Or.inr (by assumption) | exact Or.inr (by simp) | exact Or.inr (by omega) | exact Or.inr (by dsimp only; omega))
 replace B4 := S6.blk
 refine WpL_nil (Wp_seq_region ?_)
 refine qV (r_loadAgg (vs := [(I6 t.kind), (.slice sa t.set.length sc), (.slice aa t.args.length ac), (I6 t.mn), (I6 t.mx), (.bool t.neg)]) rfl agg33 siz33 rfl (B1.cells rfl)) ?_
 refine qV (r_makeFunc (vs := []) (us := [(P6 b3 0), (P6 b2 0), (P6 b4 0)]) rfl rfl) ?_
 have hf : ∀ (s : Int × Int) (w : World) (t : Re) (vs : List Value), b4 + 1 ≤ w.heap.size → Ext w0 w → (Blk w b3 #[.int .i64 s.1] 3 ∧ Blk w b2 #[.int .i64 most] 3 ∧ Blk w b4 #[.int .i64 s.2] 27) → ReAt w0 t vs → CallV Try.prog (.func (.func 115) #[] #[.pointer (some ⟨b3, 0, none⟩), .pointer (some ⟨b2, 0, none⟩), .pointer (some ⟨b4, 0, none⟩)]) #[.agg vs.toArray] w fun v w' => v = .bool (fitF most s t).1 ∧ Chg (fun x => x = b3 ∨ x = b4) w w' ∧ (Blk w' b3 #[.int .i64 (fitF most s t).2.1] 3 ∧ Blk w' b2 #[.int .i64 most] 3 ∧ Blk w' b4 #[.int .i64 (fitF most s t).2.2] 27) := fun s w t vs _ hE hI ht => CallV.mk (first := #[]) (cap := #[.pointer (some ⟨b3, 0, none⟩), .pointer (some ⟨b2, 0, none⟩), .pointer (some ⟨b4, 0, none⟩)]) (args := #[.agg vs.toArray]) Try.func115 nm115 bd115 rfl (fits1_c w0 w t vs ht hE b3 b2 b4 s most (by omega) (by omega) (by omega) hI.1 hI.2.1 hI.2.2)
 refine WpL_enter rfl rfl (by decide) (r_callF (vs := [(.agg (R6 t sa sc aa ac)), (.func (.func 115) #[] #[(P6 b3 0), (P6 b2 0), (P6 b4 0)])]) Try.func89 nm89 bd89 rfl) (walk_c (fitF most) (fun s w => Blk w b3 #[.int .i64 s.1] 3 ∧ Blk w b2 #[.int .i64 most] 3 ∧ Blk w b4 #[.int .i64 s.2] 27) (fun x => x = b3 ∨ x = b4) (b4 + 1) _ w0 (fun b hb => by omega) (fun s w w' hI e => ⟨e.keep hI.1, e.keep hI.2.1, e.keep hI.2.2⟩) hf t.size t (Nat.le_refl _) (0, 0) _ _ (by have := B4.lt; omega) E ⟨B3, B2, B4⟩ ht0) ?_
 rintro _ w9 ⟨rfl, C9, B3', B2', B4'⟩
 replace B1 := C9.keep (by omega) B1
 replace E := E.step C9 (by intro x hx hm; omega)
 refine WpL_nil (Wp_seq_region ?_)
 refine qV (r_load (v := (I6 ((walkF (fitF most) t (0, 0)).2.2))) rfl flat27 (B4'.cell rfl)) ?_
 refine qA (I6 ((walkF (fitF most) t (0, 0)).2.2)) rfl ?_
 refine WpL_nil (Wp_ret ?_)
 refine fin_tmp Try.results88 (v := (.int .i64 ((walkF (fitF most) t (0, 0)).2.2))) rfl ?_
 exact ⟨rfl, E⟩
theorem check_c (w0 : World) (t : Re) (vs : List Value) (ht : ReAt w0 t vs) :
  Ret Try.prog 37 #[.agg vs.toArray] w0 fun v w => v = .int .i64 (fitsE t 40) ∧ Ext w0 w := by
 have ht0 := ht
 obtain ⟨sa, sc, aa, ac, rfl, hset, hlen, hargs⟩ := ht.form
 refine Ret_of Try.func37 rfl Try.ntmps37 (Nat.le_of_ble_eq_true rfl) ?_
 have E : Chg none1 w0 w0 := Chg.refl _ _
 refine Wp_seq_region ?_
 refine s_box (v := (.agg (R6 t sa sc aa ac))) (c := (R6 t sa sc aa ac)) (by decide) rfl rfl ?_
 intro b1 w1 N1
 have F1 := N1.ge E
 replace E := E.ext N1.ext
 have B1 := N1.blk
 refine qA (I6 0) rfl ?_
 refine WpL_nil (Wp_seq_region ?_)
 refine qV (r_loadAgg (vs := [(I6 t.kind), (.slice sa t.set.length sc), (.slice aa t.args.length ac), (I6 t.mn), (I6 t.mx), (.bool t.neg)]) rfl agg33 siz33 rfl (B1.cells rfl)) ?_
 refine WpL_enter rfl rfl (by decide) (r_callF (vs := [(.agg (R6 t sa sc aa ac)), (I6 40)]) Try.func88 nm88 bd88 rfl) (fits_c _ t _ (ReAt.ext E t ht0) 40) ?_
 rintro _ w9 ⟨rfl, X9⟩
 replace B1 := X9.keep B1
 replace E := E.ext X9
 refine qA (I6 (fitsE t 40)) rfl ?_
 refine WpL_nil (Wp_ret ?_)
 refine fin_tmp Try.results37 (v := (.int .i64 (fitsE t 40))) rfl ?_
 exact ⟨rfl, E⟩
end Go.Proofs
namespace Go.Proofs
open Go Go.Eng
set_option maxRecDepth 100000
theorem fitF_eq {most : Int} {n e : Int} (t : Re) (h0 : 0 ≤ n) (h1 : n ≤ 1000000) : fitF most (n, e) t = (decide ((if most < n + 1 then 2 else nodeE t) = 0), (n + 1, if most < n + 1 then 2 else nodeE t)) := by
 simp only [fitF]; rw [wI64 (by omega)]
mutual
theorem fits_yes {most : Int} (hm : most ≤ 1000000) : ∀ (t : Re) (n e : Int), 0 ≤ n → n + t.size ≤ most → okRe t → walkF (fitF most) t (n, e) = (true, (n + t.size, 0))
  | .mk k set args mn mx ng, n, e, h0, h1, hok => by
    simp only [Re.size] at h1 ⊢
    rw [walkF_eq, fitF_eq _ h0 (by omega)]
    have hn := okRe_node hok
    have hlt : ¬ most < n + 1 := by omega
    simp only [if_neg hlt, hn, decide_true, if_true, Re.args]
    have ha := okRe_args hok
    simp only [Re.args] at ha
    rw [fits_yess hm args (n + 1) 0 (by omega) (by omega) ha rfl]
    simp; omega
theorem fits_yess {most : Int} (hm : most ≤ 1000000) : ∀ (ts : List Re) (n e : Int), 0 ≤ n → n + Re.sizes ts ≤ most → okRes ts → e = 0 → walkFs (fitF most) ts (n, e) = (true, (n + Re.sizes ts, 0))
  | [], n, e, _, _, _, he => by simp [walkFs, Re.sizes, he]
  | t :: ts, n, e, h0, h1, hok, he => by
    simp only [Re.sizes] at h1 ⊢
    simp only [okRes] at hok
    rw [walkFs_cons, fits_yes hm t n e h0 (by omega) hok.1]
    simp only [if_true]
    rw [fits_yess hm ts _ _ (by omega) (by omega) hok.2 rfl]
    simp; omega
end
mutual
theorem fits_no {most : Int} (hm : most ≤ 1000000) : ∀ (t : Re) (n e : Int), 0 ≤ n → n ≤ most → (walkF (fitF most) t (n, e)).1 = true → okRe t ∧ n + t.size ≤ most ∧ (walkF (fitF most) t (n, e)).2 = (n + t.size, 0)
  | .mk k set args mn mx ng, n, e, h0, h1, h => by
    rw [walkF_eq, fitF_eq _ h0 (by omega)] at h ⊢
    by_cases hc : (if most < n + 1 then 2 else nodeE (.mk k set args mn mx ng)) = 0
    · have hlt : ¬ most < n + 1 := by intro h'; rw [if_pos h'] at hc; omega
      rw [if_neg hlt] at hc
      simp only [if_neg hlt, hc, decide_true, if_true, Re.args] at h ⊢
      obtain ⟨a, b, c⟩ := fits_nos hm args (n + 1) 0 (by omega) (by omega) h rfl
      refine ⟨by simp only [okRe]; exact ⟨hc, a⟩, by simp only [Re.size]; omega, by rw [c]; simp only [Re.size]; simp; omega⟩
    · simp [hc] at h
theorem fits_nos {most : Int} (hm : most ≤ 1000000) : ∀ (ts : List Re) (n e : Int), 0 ≤ n → n ≤ most → (walkFs (fitF most) ts (n, e)).1 = true → e = 0 → okRes ts ∧ n + Re.sizes ts ≤ most ∧ (walkFs (fitF most) ts (n, e)).2 = (n + Re.sizes ts, 0)
  | [], n, e, _, h1, _, he => by simp [walkFs, Re.sizes, okRes, he]; omega
  | t :: ts, n, e, h0, h1, h, he => by
    rw [walkFs_cons] at h ⊢
    by_cases hc : (walkF (fitF most) t (n, e)).1 = true
    · rw [if_pos hc] at h ⊢
      obtain ⟨a, b, c⟩ := fits_no hm t n e h0 h1 hc
      rw [c] at h ⊢
      obtain ⟨a', b', c'⟩ := fits_nos hm ts _ _ (by omega) b h rfl
      exact ⟨by simp only [okRes]; exact ⟨a, a'⟩, by simp only [Re.sizes]; omega, by rw [c']; simp only [Re.sizes]; simp; omega⟩
    · rw [if_neg hc] at h; simp at h
end
mutual
theorem fits_last {most : Int} : ∀ (t : Re) (s : Int × Int), (walkF (fitF most) t s).1 = decide ((walkF (fitF most) t s).2.2 = 0)
  | .mk k set args mn mx ng, s => by
    rw [walkF_eq]
    by_cases hc : (fitF most s (.mk k set args mn mx ng)).1 = true
    · rw [if_pos hc]
      exact fits_lasts args _ (by simpa [fitF] using hc)
    · rw [if_neg hc]
      have h2 : (fitF most s (.mk k set args mn mx ng)).1 = false := by simpa using hc
      simp only [fitF] at h2 ⊢
      exact h2.symm
theorem fits_lasts {most : Int} : ∀ (ts : List Re) (s : Int × Int), s.2 = 0 → (walkFs (fitF most) ts s).1 = decide ((walkFs (fitF most) ts s).2.2 = 0)
  | [], s, h => by simp [walkFs, h]
  | t :: ts, s, h => by
    rw [walkFs_cons]
    have := fits_last (most := most) t s
    by_cases hc : (walkF (fitF most) t s).1 = true
    · rw [if_pos hc]
      rw [hc] at this
      exact fits_lasts ts _ (by simpa using this.symm)
    · rw [if_neg hc]
      have h2 : (walkF (fitF most) t s).1 = false := by simpa using hc
      rw [h2] at this
      exact this
end
theorem fitsE_zero {t : Re} {most : Int} (h0 : 0 ≤ most) (hm : most ≤ 1000000) : fitsE t most = 0 ↔ okRe t ∧ (t.size : Int) ≤ most := by
 unfold fitsE
 constructor
 ·intro h
  have h1 := fits_last (most := most) t (0, 0)
  rw [h] at h1
  obtain ⟨a, b, _⟩ := fits_no hm t 0 0 (Int.le_refl 0) h0 (by simpa using h1)
  exact ⟨a, by omega⟩
 ·rintro ⟨a, b⟩
  rw [fits_yes hm t 0 0 (Int.le_refl 0) (by omega) a]
end Go.Proofs
namespace Go.Proofs
open Go Go.Eng
set_option maxRecDepth 100000
theorem spans_flat {w : World} {b o : Nat} {l : List (Int × Int)} (h : ∀ i s, l[i]? = some s → CellsAt w b (o + i * 2) [.int .i64 s.1, .int .i64 s.2]) : CellsAt w b o (l.map spanV).flatten := by
  induction l generalizing o with
  | nil => intro i v hv; simp at hv
  | cons s l ih =>
    have h0 := h 0 s rfl
    have h1 := ih (o := o + 2) (fun i u hu => by have := h (i + 1) u (by simpa using hu); rwa [show o + (i + 1) * 2 = o + 2 + i * 2 from by omega] at this)
    intro i v hv
    simp only [List.map_cons, List.flatten_cons] at hv
    have hl : (spanV s).length = 2 := rfl
    rcases Nat.lt_or_ge i 2 with hi | hi
    · rw [List.getElem?_append_left (by omega)] at hv
      have := h0 i v hv
      simpa using this
    · rw [List.getElem?_append_right (by omega)] at hv
      have := h1 (i - 2) v (by rw [hl] at hv; exact hv)
      rwa [show o + 2 + (i - 2) = o + i from by omega] at this
theorem spans_six (l : List (Int × Int)) : (l.map spanV).flatten.length = l.length * 2 := by
  induction l with
  | nil => rfl
  | cons s l ih => simp only [List.map_cons, List.flatten_cons, List.length_append, ih, List.length_cons]; have : (spanV s).length = 2 := rfl; omega
theorem spans_one (l : List (Int × Int)) : ∀ u ∈ (l.map spanV).flatten, u.oneCell' = true := by
 intro u hu
 simp only [List.mem_flatten, List.mem_map] at hu
 obtain ⟨r, ⟨s, _, rfl⟩, hu⟩ := hu
 simp [spanV] at hu
 rcases hu with rfl | rfl <;> rfl
end Go.Proofs
namespace Go.Eng
open Go
def SlIn (S : Nat → Prop) (w : World) (k : Nat) (v : Value) (rows : List (List Value)) : Prop :=
 ∃ a cap, v = .slice a rows.length cap ∧ rows.length ≤ 9223372036854775807 ∧ rows.length ≤ cap ∧ (rows = [] ∨ ∃ b o, S b ∧ a = some ⟨b, o, none⟩ ∧ ∀ i r, rows[i]? = some r → CellsAt w b (o + i * k) r)
theorem SlIn.at {S : Nat → Prop} {w : World} {k : Nat} {v : Value} {rows : List (List Value)} (h : SlIn S w k v rows) : SlAt w k v rows := by
 obtain ⟨a, cap, h1, h2, h3, h4⟩ := h
 refine ⟨a, cap, h1, h2, h3, ?_⟩
 rcases h4 with h | ⟨b, o, _, h5, h6⟩
 ·exact .inl h
 ·exact .inr ⟨b, o, h5, h6⟩
theorem SlIn.chg {S M : Nat → Prop} {w w' : World} {k : Nat} {v : Value} {rows : List (List Value)} (h : SlIn S w k v rows) (c : Chg M w w') (hm : ∀ b, S b → ¬ M b) : SlIn S w' k v rows := by
 obtain ⟨a, cap, h1, h2, h3, h4⟩ := h
 refine ⟨a, cap, h1, h2, h3, ?_⟩
 rcases h4 with h | ⟨b, o, hb, h5, h6⟩
 ·exact .inl h
 ·exact .inr ⟨b, o, hb, h5, fun i r hr => (h6 i r hr).chg c (hm b hb)⟩
theorem SlIn.mono {S S' : Nat → Prop} {w : World} {k : Nat} {v : Value} {rows : List (List Value)} (h : SlIn S w k v rows) (hs : ∀ b, S b → S' b) : SlIn S' w k v rows := by
 obtain ⟨a, cap, h1, h2, h3, h4⟩ := h
 refine ⟨a, cap, h1, h2, h3, ?_⟩
 rcases h4 with h | ⟨b, o, hb, h5⟩
 ·exact .inl h
 ·exact .inr ⟨b, o, hs b hb, h5⟩
theorem SlIn.nil (S : Nat → Prop) (w : World) (k : Nat) (a : Option Addr) (cap : Nat) : SlIn S w k (.slice a 0 cap) [] := ⟨a, cap, rfl, by simp, by simp, .inl rfl⟩
theorem SlIn.mk {S : Nat → Prop} {w : World} {k : Nat} {b o n c : Nat} {rows : List (List Value)} (h : SlAt w k (.slice (some ⟨b, o, none⟩) n c) rows) (hs : S b) : SlIn S w k (.slice (some ⟨b, o, none⟩) n c) rows := by
 obtain ⟨a, cap, h1, h2, h3, h4⟩ := h
 refine ⟨a, cap, h1, h2, h3, ?_⟩
 rcases h4 with h | ⟨b', o', h5, h6⟩
 ·exact .inl h
 ·simp only [Value.slice.injEq] at h1
  have : b' = b := by rw [← h1.1] at h5; simp at h5; exact h5.1.symm
  exact .inr ⟨b', o', this ▸ hs, h5, h6⟩
mutual
def ReIn (S : Nat → Prop) (w : World) : Re → List Value → Prop
  | .mk k set args mn mx ng, vs => ∃ sa sc aa ac, vs = [.int .i64 k, .slice sa set.length sc, .slice aa args.length ac, .int .i64 mn, .int .i64 mx, .bool ng] ∧ SlIn S w 2 (.slice sa set.length sc) (set.map spanV) ∧ (args.length ≤ ac ∧ ac ≤ 9223372036854775807) ∧
      (args = [] ∨ ∃ b o, S b ∧ aa = some ⟨b, o, none⟩ ∧ ResIn S w b o args)
def ResIn (S : Nat → Prop) (w : World) (b : Nat) : Nat → List Re → Prop
  | _, [] => True
  | o, t :: ts => (∃ vs, CellsAt w b o vs ∧ ReIn S w t vs) ∧ ResIn S w b (o + 6) ts
end
mutual
theorem ReIn.at {S : Nat → Prop} {w : World} : ∀ (t : Re) {vs : List Value}, ReIn S w t vs → ReAt w t vs
  | .mk k set args mn mx ng, vs, h => by
    simp only [ReIn] at h
    simp only [ReAt]
    obtain ⟨sa, sc, aa, ac, hv, hs, hl, ha⟩ := h
    refine ⟨sa, sc, aa, ac, hv, hs.at, hl, ?_⟩
    rcases ha with h | ⟨b, o, _, h1, h2⟩
    · exact .inl h
    · exact .inr ⟨b, o, h1, ResIn.at args h2⟩
theorem ResIn.at {S : Nat → Prop} {w : World} {b : Nat} : ∀ (ts : List Re) {o : Nat}, ResIn S w b o ts → ResAt w b o ts
  | [], _, _ => by simp only [ResAt]
  | t :: ts, o, h => by
    simp only [ResIn] at h
    simp only [ResAt]
    obtain ⟨⟨vs, h1, h2⟩, h3⟩ := h
    exact ⟨⟨vs, h1, ReIn.at t h2⟩, ResIn.at ts h3⟩
end
mutual
theorem ReIn.chg {S M : Nat → Prop} {w w' : World} (c : Chg M w w') (hm : ∀ b, S b → ¬ M b) : ∀ (t : Re) {vs : List Value}, ReIn S w t vs → ReIn S w' t vs
  | .mk k set args mn mx ng, vs, h => by
    simp only [ReIn] at h ⊢
    obtain ⟨sa, sc, aa, ac, hv, hs, hl, ha⟩ := h
    refine ⟨sa, sc, aa, ac, hv, hs.chg c hm, hl, ?_⟩
    rcases ha with h | ⟨b, o, hb, h1, h2⟩
    · exact .inl h
    · exact .inr ⟨b, o, hb, h1, ResIn.chg c hm args hb h2⟩
theorem ResIn.chg {S M : Nat → Prop} {w w' : World} (c : Chg M w w') (hm : ∀ b, S b → ¬ M b) {b : Nat} : ∀ (ts : List Re) {o : Nat}, S b → ResIn S w b o ts → ResIn S w' b o ts
  | [], _, _, _ => by simp only [ResIn]
  | t :: ts, o, hb, h => by
    simp only [ResIn] at h ⊢
    obtain ⟨⟨vs, h1, h2⟩, h3⟩ := h
    exact ⟨⟨vs, h1.chg c (hm b hb), ReIn.chg c hm t h2⟩, ResIn.chg c hm ts hb h3⟩
end
mutual
theorem ReIn.mono {S S' : Nat → Prop} {w : World} (hs : ∀ b, S b → S' b) : ∀ (t : Re) {vs : List Value}, ReIn S w t vs → ReIn S' w t vs
  | .mk k set args mn mx ng, vs, h => by
    simp only [ReIn] at h ⊢
    obtain ⟨sa, sc, aa, ac, hv, h0, hl, ha⟩ := h
    refine ⟨sa, sc, aa, ac, hv, h0.mono hs, hl, ?_⟩
    rcases ha with h | ⟨b, o, hb, h1, h2⟩
    · exact .inl h
    · exact .inr ⟨b, o, hs b hb, h1, ResIn.mono hs args h2⟩
theorem ResIn.mono {S S' : Nat → Prop} {w : World} (hs : ∀ b, S b → S' b) {b : Nat} : ∀ (ts : List Re) {o : Nat}, ResIn S w b o ts → ResIn S' w b o ts
  | [], _, _ => by simp only [ResIn]
  | t :: ts, o, h => by
    simp only [ResIn] at h ⊢
    obtain ⟨⟨vs, h1, h2⟩, h3⟩ := h
    exact ⟨⟨vs, h1, ReIn.mono hs t h2⟩, ResIn.mono hs ts h3⟩
end
theorem ReIn.ext {S : Nat → Prop} {w w' : World} (e : Ext w w') (t : Re) {vs : List Value} (h : ReIn S w t vs) : ReIn S w' t vs := ReIn.chg e (fun _ _ f => f) t h
theorem ReIn.form {S : Nat → Prop} {w : World} {t : Re} {vs : List Value} (h : ReIn S w t vs) : ∃ sa sc aa ac, vs = [.int .i64 t.kind, .slice sa t.set.length sc, .slice aa t.args.length ac, .int .i64 t.mn, .int .i64 t.mx, .bool t.neg] ∧ SlIn S w 2 (.slice sa t.set.length sc) (t.set.map spanV) ∧ (t.args.length ≤ ac ∧ ac ≤ 9223372036854775807) ∧
  (t.args = [] ∨ ∃ b o, S b ∧ aa = some ⟨b, o, none⟩ ∧ ResIn S w b o t.args) := by
 cases t; simp only [ReIn] at h; exact h
theorem ReIn.of {S : Nat → Prop} {w : World} {k : Int} {set : List (Int × Int)} {args : List Re} {mn mx : Int} {ng : Bool} {sa aa : Option Addr} {sc ac : Nat} (hs : SlIn S w 2 (.slice sa set.length sc) (set.map spanV)) (hl : (args.length ≤ ac ∧ ac ≤ 9223372036854775807)) (ha : args = [] ∨ ∃ b o, S b ∧ aa = some ⟨b, o, none⟩ ∧ ResIn S w b o args) :
  ReIn S w (.mk k set args mn mx ng) [.int .i64 k, .slice sa set.length sc, .slice aa args.length ac, .int .i64 mn, .int .i64 mx, .bool ng] := by
 simp only [ReIn]; exact ⟨sa, sc, aa, ac, rfl, hs, hl, ha⟩
theorem ResIn.one {S : Nat → Prop} {w : World} {b o : Nat} {t : Re} {vs : List Value} (hc : CellsAt w b o vs) (h : ReIn S w t vs) : ResIn S w b o [t] := by
 simp only [ResIn]; exact ⟨⟨vs, hc, h⟩, trivial⟩
theorem ResIn.two {S : Nat → Prop} {w : World} {b o : Nat} {t u : Re} {vs us : List Value} (hc : CellsAt w b o vs) (h : ReIn S w t vs) (hc' : CellsAt w b (o + 6) us) (h' : ReIn S w u us) : ResIn S w b o [t, u] := by
 simp only [ResIn]; exact ⟨⟨vs, hc, h⟩, ⟨us, hc', h'⟩, trivial⟩
end Go.Eng
namespace Go.Proofs
open Go Go.Eng
set_option maxRecDepth 100000
abbrev TS : Nat := 85
def StrAt (wb w : World) (bs : Nat) (l : List Int) : Prop := ∃ a c, Blk w bs #[.slice a l.length c] TS ∧ IntsAt wb (.slice a l.length c) l
theorem StrAt.ext {wb w w' : World} {bs : Nat} {l : List Int} (h : StrAt wb w bs l) (e : Ext w w') : StrAt wb w' bs l := let ⟨a, c, h1, h2⟩ := h; ⟨a, c, e.keep h1, h2⟩
theorem StrAt.lt {wb w : World} {bs : Nat} {l : List Int} (h : StrAt wb w bs l) : bs < w.heap.size := let ⟨_, _, h1, _⟩ := h; h1.lt
theorem next_c (wb w0 : World) (bs : Nat) (l : List Int) (n : Int) (hn : 0 < n) (hm : n ≤ 2000) (hE : Ext wb w0) (hb : wb.heap.size ≤ bs) (hS : StrAt wb w0 bs l) :
  Ret Try.prog 87 #[.pointer (some ⟨bs, 0, none⟩), .int .i64 n] w0 fun v w => ∃ x l', v = .int .i64 x ∧ 0 ≤ x ∧ x < n ∧ StrAt wb w bs l' ∧ Chg (fun x => x = bs) w0 w := by
 obtain ⟨a, c, hB, hl⟩ := hS
 have hcap := SlAt.cap hl
 have hlen : l.length ≤ 9223372036854775807 := by simpa using SlAt.le hl
 refine Ret_of Try.func87 rfl Try.ntmps87 (Nat.le_of_ble_eq_true rfl) ?_
 have E : Chg (fun x => x = bs) w0 w0 := Chg.refl _ _
 refine Wp_seq_region ?_
 refine qA (I6 0) rfl ?_
 refine WpL_nil (Wp_seq (Wp_seq_region ?_))
 refine qM (P6 bs 0) rfl ?_
 refine qV (r_nilCheck (a := ⟨bs, 0, none⟩) rfl) ?_
 refine qF bs 0 0 rfl Try.underlying85 rfl siz22 rfl ?_
 refine qV (r_load (v := (.slice a l.length c)) rfl flat22 (hB.cell rfl)) ?_
 refine qV (r_lenSlice (ad := a) (n := l.length) (cap := c) Try.underlying22 rfl) ?_
 refine qV (r_eql (k := .i64) (a := (l.length : Int)) (b := 0) rfl rfl) ?_
 refine WpL_nil ?_
 refine Wp_cond (b := decide (((l.length : Int) : Int) = 0)) rfl (fun h0 => ?_) (fun h0 => ?_)
 ·have kh0 := h0
  replace h0 := of_decide_eq_true h0
  refine Wp_seq_region ?_
  refine qA (I6 0) rfl ?_
  refine WpL_nil (Wp_ret (thn_ret ?_))
  refine fin_tmp Try.results87 (v := (.int .i64 0)) rfl ?_
  exact ⟨0, l, rfl, Int.le_refl _, hn, ⟨a, c, hB, hl⟩, E⟩
 ·have kh0 := h0
  replace h0 := of_decide_eq_false h0
  obtain ⟨x, hx⟩ := get_of_lt (l := l) (i := 0) (by omega)
  obtain ⟨b, o, rfl, hcl⟩ := ints_cells hl (by omega)
  refine Wp_skip (thn_normal (Wp_seq_region ?_))
  refine qM (P6 bs 0) rfl ?_
  refine qV (r_nilCheck (a := ⟨bs, 0, none⟩) rfl) ?_
  refine qF bs 0 0 rfl Try.underlying85 rfl siz22 rfl ?_
  refine qV (r_load (v := (.slice (some ⟨b, o, none⟩) l.length c)) rfl flat22 (hB.cell rfl)) ?_
  refine qV (r_indexSlice (b := b) (o := o) (len := l.length) (cap := c) (i := 0) (o' := o + 0) rfl rfl rfl Try.underlying22 siz3 (by omega) (by omega)) ?_
  refine qV (r_load (v := (I6 x)) rfl flat3 ((hE.cell (hcl 0 x hx)))) ?_
  refine qA (I6 x) rfl ?_
  refine WpL_nil (Wp_seq_region ?_)
  refine qM (P6 bs 0) rfl ?_
  refine qM (P6 bs 0) rfl ?_
  refine qV (r_nilCheck (a := ⟨bs, 0, none⟩) rfl) ?_
  refine qF bs 0 0 rfl Try.underlying85 rfl siz22 rfl ?_
  refine qV (r_load (v := (.slice (some ⟨b, o, none⟩) l.length c)) rfl flat22 (hB.cell rfl)) ?_
  obtain ⟨sl, hsl⟩ : ∃ a' : Option Addr, (if c = 1 then (some ⟨b, o, none⟩) else Option.map (fun q : Addr => q.add (1 * 1)) (some ⟨b, o, none⟩)) = a' := ⟨_, rfl⟩
  refine qV (r_sliceLo (a := (some ⟨b, o, none⟩)) (len := l.length) (cap := c) (lo := 1) (l := 1) (n' := (l.length - 1)) (c' := (c - 1)) Try.underlying22 siz3 rfl rfl (by omega) (by omega) hsl (by omega) (by omega)) ?_
  refine qV (r_nilCheck (a := ⟨bs, 0, none⟩) rfl) ?_
  refine qF bs 0 0 rfl Try.underlying85 rfl siz22 rfl ?_
  refine s_store (b := bs) (o := 0) (c' := #[(.slice sl (l.length - 1) (c - 1))]) (v := (.slice sl (l.length - 1) (c - 1))) rfl rfl rfl siz22 hB (by simp) rfl ?_
  intro w2 S2
  replace E := S2.step E (by first | exact Or.inl (by omega) | exact Or.inr rfl | exact Or.inr (by assumption) | exact Or.inr (by simp) | exact Or.inr (by omega) | exact Or.inr (by dsimp only; omega))
  replace hB := S2.blk
  refine WpL_nil (Wp_seq_region ?_)
  refine qM (I6 x) rfl ?_
  refine qM (I6 n) rfl ?_
  refine WpL_enter rfl rfl (by decide) (r_callF (vs := [(I6 x), (I6 n)]) Try.func36 nm36 bd36 rfl) (below_c x n hn hm _) ?_
  rintro _ _ ⟨rfl, rfl⟩
  have hcut := SlAt.cut (lo := 1) (hi := l.length) hl (by omega) (Nat.le_refl _) hsl rfl rfl
  have hdl : ((l.map intV).drop 1).take (l.length - 1) = (l.drop 1).map intV := by rw [List.take_of_length_le (by simp), List.map_drop]
  rw [hdl] at hcut
  have hll : (l.drop 1).length = l.length - 1 := by simp
  refine qA (I6 (x % n)) rfl ?_
  refine WpL_nil (Wp_ret ?_)
  refine fin_tmp Try.results87 (v := (.int .i64 (x % n))) rfl ?_
  exact ⟨x % n, l.drop 1, rfl, Int.emod_nonneg x (by omega), Int.emod_lt_of_pos x hn, ⟨sl, c - 1, by rw [hll]; exact hB, by rw [hll]; exact hcut⟩, E⟩
end Go.Proofs
namespace Go.Proofs
open Go Go.Eng
set_option maxRecDepth 100000
theorem span_c (w0 : World) (lo hi : Int) : Ret Try.prog 34 #[.int .i64 lo, .int .i64 hi] w0 fun v w => ∃ b, v = .slice (some ⟨b, 0, none⟩) 1 1 ∧ SpansAt w v [(lo, hi)] ∧ w0.heap.size ≤ b ∧ Ext w0 w := by
 refine Ret_of Try.func34 rfl Try.ntmps34 (Nat.le_of_ble_eq_true rfl) ?_
 have E : Chg none1 w0 w0 := Chg.refl _ _
 refine Wp_seq_region ?_
 refine qA (.slice none 0 0) rfl ?_
 refine WpL_nil (Wp_seq_region ?_)
 refine qM (I6 lo) rfl ?_
 refine qM (I6 hi) rfl ?_
 refine qV (r_build (ps := [(0, (I6 lo)), (1, (I6 hi))]) (v := (.agg #[(I6 lo), (I6 hi)])) rfl (by kernel_rfl)) ?_
 refine s_buildSlice (ps := [(0, (.agg #[(I6 lo), (I6 hi)]))]) (c := #[(I6 lo), (I6 hi)]) (by decide) rfl Try.underlying30 siz90 zer90 (by decide) (by decide) (by kernel_rfl) ?_
 intro b1 w1 N1
 have F1 := N1.ge E
 replace E := E.ext N1.ext
 have B1 := N1.blk
 refine qA (.slice (some ⟨b1, 0, none⟩) 1 1) rfl ?_
 refine WpL_nil (Wp_ret ?_)
 refine fin_tmp Try.results34 (v := (.slice (some ⟨b1, 0, none⟩) 1 1)) rfl ?_
 exact ⟨b1, rfl, spans_of_blk [(lo, hi)] B1 (by simp) (by simp), by omega, E⟩
theorem one_c (w0 : World) (r : Int) : Ret Try.prog 7 #[.int .i64 r] w0 fun v w => ∃ b, v = .agg #[.int .i64 2, .slice (some ⟨b, 0, none⟩) 1 1, .slice none 0 0, .int .i64 0, .int .i64 0, .bool false] ∧ SpansAt w (.slice (some ⟨b, 0, none⟩) 1 1) [(r, r)] ∧ Ext w0 w := by
 refine Ret_of Try.func7 rfl Try.ntmps7 (Nat.le_of_ble_eq_true rfl) ?_
 have E : Chg none1 w0 w0 := Chg.refl _ _
 refine Wp_seq_region ?_
 refine s_alloc (c := #[(I6 0), (.slice none 0 0), (.slice none 0 0), (I6 0), (I6 0), (.bool false)]) (by decide) zer33 rfl ?_
 intro b1 w1 N1
 have F1 := N1.ge E
 replace E := E.ext N1.ext
 have B1 := N1.blk
 refine WpL_nil (Wp_seq_region ?_)
 refine qM (I6 r) rfl ?_
 refine qM (I6 r) rfl ?_
 refine WpL_enter rfl rfl (by decide) (r_callF (vs := [(I6 r), (I6 r)]) Try.func34 nm34 bd34 rfl) (span_c _ r r) ?_
 rintro _ w9 ⟨b, rfl, hsp, hb, X9⟩
 replace B1 := X9.keep B1
 replace E := E.ext X9
 have hbne : b ≠ b1 := by have := N1.size; have := N1.eq; omega
 refine qV (r_build (ps := [(0, (I6 2)), (1, (.slice (some ⟨b, 0, none⟩) 1 1))]) (v := (.agg #[(I6 2), (.slice (some ⟨b, 0, none⟩) 1 1), (.slice none 0 0), (I6 0), (I6 0), (.bool false)])) rfl (by kernel_rfl)) ?_
 refine s_storeAgg (b := b1) (o := 0) (c' := #[(I6 2), (.slice (some ⟨b, 0, none⟩) 1 1), (.slice none 0 0), (I6 0), (I6 0), (.bool false)]) rfl rfl (by simp [Value.oneCell']) siz33 rfl B1 (by first | (simp; done) | exact Nat.le_of_ble_eq_true rfl) rfl ?_
 intro w2 S2
 replace E := S2.step E (by first | exact Or.inl (by omega) | exact Or.inr rfl | exact Or.inr (by assumption) | exact Or.inr (by simp) | exact Or.inr (by omega) | exact Or.inr (by dsimp only; omega))
 replace B1 := S2.blk
 refine WpL_nil (Wp_ret ?_)
 refine fin_agg Try.results7 (vs := [(.int .i64 2), (.slice (some ⟨b, 0, none⟩) 1 1), (.slice none 0 0), (.int .i64 0), (.int .i64 0), (.bool false)]) (b := b1) rfl agg33 siz33 rfl (B1.cells rfl) ?_
 exact ⟨b, rfl, (SlIn.mk hsp (S := fun x => x = b) rfl).chg S2.chg (fun x h => by omega) |>.at, E⟩
end Go.Proofs
namespace Go.Proofs
open Go Go.Eng
set_option maxRecDepth 100000
mutual
def allRe (p : Re → Prop) : Re → Prop
  | .mk k set args mn mx ng => p (.mk k set args mn mx ng) ∧ allRes p args
def allRes (p : Re → Prop) : List Re → Prop
  | [] => True
  | t :: ts => allRe p t ∧ allRes p ts
end
def genP (kinds : Int) (t : Re) : Prop := nodeE t = 0 ∧ t.kind ≤ kinds ∧ (t.kind = 2 → ∃ lo hi, t.set = [(lo, hi)] ∧ 97 ≤ lo ∧ lo ≤ hi ∧ hi ≤ 100)
theorem StrAt.put {wb w w' : World} {bs b : Nat} {l : List Int} {c : Array Value} {t : TypeId} (h : StrAt wb w bs l) (s : Put w w' b c t) (hne : bs ≠ b) : StrAt wb w' bs l :=
 let ⟨a, c, h1, h2⟩ := h; ⟨a, c, s.keep hne h1, h2⟩
theorem node_leaf {k : Int} (h : k = 0 ∨ k = 1) : nodeE (.mk k [] [] 0 0 false) = 0 := by
 rcases h with rfl | rfl <;> decide
theorem node_set {lo hi : Int} (h1 : 0 ≤ lo) (h2 : lo ≤ hi) (h3 : hi ≤ 1114111) : nodeE (.mk 2 [(lo, hi)] [] 0 0 false) = 0 := by
 simp [nodeE, formB, okB, checkE, checkL, validB, Re.kind, Re.set, Re.args, Re.mn, Re.mx, Re.neg, h1, h2, h3]
theorem node_two {k : Int} (h : k = 3 ∨ k = 4 ∨ k = 7) (t u : Re) : nodeE (.mk k [] [t, u] 0 0 false) = 0 := by
 rcases h with rfl | rfl | rfl <;> simp [nodeE, formB, okB, Re.kind, Re.set, Re.args, Re.mn, Re.mx, Re.neg]
theorem node_rep {mn mx : Int} (h0 : 0 ≤ mn) (h1 : mn ≤ mx) (h2 : mx ≤ 8) (t : Re) : nodeE (.mk 6 [] [t] mn mx false) = 0 := by
 simp [nodeE, formB, okB, Re.kind, Re.set, Re.args, Re.mn, Re.mx, Re.neg]; omega
theorem node_group {mn : Int} (h0 : 0 ≤ mn) (h1 : mn ≤ 9) (t : Re) : nodeE (.mk 9 [] [t] mn 0 false) = 0 := by
 simp [nodeE, formB, okB, Re.kind, Re.set, Re.args, Re.mn, Re.mx, Re.neg]; omega
theorem node_look (ng : Bool) (t : Re) : nodeE (.mk 10 [] [t] 0 0 ng) = 0 := by
 simp [nodeE, formB, okB, Re.kind, Re.set, Re.args, Re.mn, Re.mx, Re.neg]
theorem node_one {k : Int} (h : k = 5 ∨ k = 8) (t : Re) : nodeE (.mk k [] [t] 0 0 false) = 0 := by
 rcases h with rfl | rfl <;> simp [nodeE, formB, okB, Re.kind, Re.set, Re.args, Re.mn, Re.mx, Re.neg]
theorem gen_mk {kinds k mn mx : Int} {ng : Bool} {ts : List Re} (hk : k ≤ kinds) (h2 : k ≠ 2) (hn : nodeE (.mk k [] ts mn mx ng) = 0) (ht : allRes (genP kinds) ts) : allRe (genP kinds) (.mk k [] ts mn mx ng) := by
 simp only [allRe]; exact ⟨⟨hn, hk, fun h => absurd h h2⟩, ht⟩
theorem gen_pow {d : Nat} (h : 1 ≤ d) : 2 ^ (d - 1 + 1) = 2 ^ d := by rw [Nat.sub_add_cancel h]
theorem gen_size1 {d : Nat} (h : 1 ≤ d) {t : Re} (hs : t.size + 1 ≤ 2 ^ (d - 1 + 1)) {k mn mx : Int} {set : List (Int × Int)} {ng : Bool} : (Re.mk k set [t] mn mx ng).size + 1 ≤ 2 ^ (d + 1) := by
 rw [gen_pow h] at hs
 simp only [Re.size, Re.sizes, Nat.pow_succ]; have := t.size_pos; omega
theorem gen_size2 {d : Nat} (h : 1 ≤ d) {t u : Re} (hs : t.size + 1 ≤ 2 ^ (d - 1 + 1)) (hu : u.size + 1 ≤ 2 ^ (d - 1 + 1)) {k mn mx : Int} {set : List (Int × Int)} {ng : Bool} : (Re.mk k set [t, u] mn mx ng).size + 1 ≤ 2 ^ (d + 1) := by
 rw [gen_pow h] at hs hu
 simp only [Re.size, Re.sizes, Nat.pow_succ]; omega
set_option maxHeartbeats 4000000 in
theorem gen_c (wb : World) (bs : Nat) (kinds : Int) (hk : kinds = 8 ∨ kinds = 10) (hb : wb.heap.size ≤ bs) : ∀ (d : Nat), d ≤ 4 → ∀ (w0 : World) (l : List Int), Ext wb w0 → StrAt wb w0 bs l →
    Ret Try.prog 35 #[.pointer (some ⟨bs, 0, none⟩), .int .i64 ((d : Nat) : Int), .int .i64 kinds] w0 fun v w => ∃ t vs l', v = .agg vs.toArray ∧ allRe (genP kinds) t ∧ t.size + 1 ≤ 2 ^ (d + 1) ∧ ReIn (fun b => w0.heap.size ≤ b) w t vs ∧ StrAt wb w bs l' ∧ Chg (fun x => x = bs) w0 w := by
  intro d
  induction d using Nat.strongRecOn with
  | _ d ih =>
  intro hd4 w0 l hE hS
  have hbs0 := hS.lt
  have toE : ∀ {w : World}, Chg (fun x => x = bs) w0 w → Ext wb w := fun c => Chg.step hE c fun x hx hm => by have hm' : x = bs := hm; omega
  refine Ret_of Try.func35 rfl Try.ntmps35 (Nat.le_of_ble_eq_true rfl) ?_
  have E : Chg (fun x => x = bs) w0 w0 := Chg.refl _ _
  refine Wp_seq_region ?_
  refine s_alloc (c := #[(I6 0), (.slice none 0 0), (.slice none 0 0), (I6 0), (I6 0), (.bool false)]) (by decide) zer33 rfl ?_
  intro b1 w1 N1
  have F1 := N1.ge E
  replace hS := hS.ext N1.ext
  replace E := E.ext N1.ext
  have B1 := N1.blk
  refine WpL_nil (Wp_seq_region ?_)
  refine qM (P6 bs 0) rfl ?_
  refine qM (I6 kinds) rfl ?_
  refine qV (r_add (k := .i64) (a := kinds) (b := 1) (c := kinds + 1) rfl rfl (wI64 (by omega))) ?_
  have hne1 : b1 ≠ bs := by omega
  refine WpL_enter rfl rfl (by decide) (r_callF (vs := [(P6 bs 0), (I6 (kinds + 1))]) Try.func87 nm87 bd87 rfl) (next_c wb _ bs _ _ (by omega) (by omega) (toE E) hb hS) ?_
  rintro _ w2 ⟨k0, l1, rfl, hk0, hk1, hS, C2⟩
  replace B1 := C2.keep (hne1) B1
  replace E := E.trans C2
  refine qA (I6 k0) rfl ?_
  refine WpL_nil ?_
  refine Wp_cut (fun σ W2 => ∃ (k : Int) (l1 : List Int), (∃ jj_, σ = upds jj_ [(0, (P6 bs 0)), (1, (I6 (d : Int))), (2, (I6 kinds)), (6, (P6 b1 0)), (7, (I6 k))]) ∧ Chg (fun x => x = bs) w0 W2 ∧ Blk W2 b1 #[(I6 0), (.slice none 0 0), (.slice none 0 0), (I6 0), (I6 0), (.bool false)] 33 ∧ (StrAt wb W2 bs l1) ∧ (0 ≤ k ∧ k ≤ kinds ∧ (d = 0 → k < 3))) ?_ ?_
  · skip
    refine Wp_seq_region ?_
    refine qM (I6 (d : Int)) rfl ?_
    refine qV (r_eql (k := .i64) (a := (d : Int)) (b := 0) rfl rfl) ?_
    refine WpL_nil ?_
    refine Wp_cond (b := decide (((d : Int) : Int) = 0)) rfl (fun hd => ?_) (fun hd => ?_)
    · have khd := hd
      replace hd := of_decide_eq_true hd
      refine Wp_region ?_
      refine qM (P6 bs 0) rfl ?_
      refine WpL_enter rfl rfl (by decide) (r_callF (vs := [(P6 bs 0), (I6 3)]) Try.func87 nm87 bd87 rfl) (next_c wb _ bs _ _ (by omega) (by omega) (toE E) hb hS) ?_
      rintro _ w3 ⟨k2, l2, rfl, hk2, hk3, hS, C3⟩
      replace B1 := C3.keep (hne1) B1
      replace E := E.trans C3
      refine qA (I6 k2) rfl ?_
      refine WpL_nil (thn_normal ?_)
      exact ⟨k2, l2, Fits.out ⟨rfl, rfl, rfl, rfl, rfl, trivial⟩, E, B1, hS, (by omega)⟩
    · have khd := hd
      replace hd := of_decide_eq_false hd
      refine Wp_skip (thn_normal ?_)
      exact ⟨k0, l1, Fits.out ⟨rfl, rfl, rfl, rfl, rfl, trivial⟩, E, B1, hS, (by omega)⟩
  · clear E B1
    rintro _ W2 ⟨k, l1, ⟨j2, rfl⟩, E, B1, hS, hkk⟩
    refine Wp_seq (Wp_seq_region ?_)
    refine qM (I6 k) rfl ?_
    refine WpL_nil (Wp_block (Wp_seq (Wp_seq_region ?_)))
    refine qV (r_eql (k := .i64) (a := k) (b := 0) rfl rfl) ?_
    refine qA (.bool (decide ((k : Int) = 0))) rfl ?_
    refine WpL_nil ?_
    refine Wp_cond (b := decide ((k : Int) = 0)) rfl (fun h0 => ?_) (fun h0 => ?_)
    · have kh0 := h0
      replace h0 := of_decide_eq_true h0
      refine Wp_skip (thn_normal ?_)
      refine Wp_cond_true (congrArg Value.bool kh0) ?_
      refine Wp_seq_region ?_
      refine qM (I6 k) rfl ?_
      refine qV (r_build (ps := [(0, (I6 k))]) (v := (.agg #[(I6 k), (.slice none 0 0), (.slice none 0 0), (I6 0), (I6 0), (.bool false)])) rfl (by kernel_rfl)) ?_
      refine s_storeAgg (b := b1) (o := 0) (c' := #[(I6 k), (.slice none 0 0), (.slice none 0 0), (I6 0), (I6 0), (.bool false)]) rfl rfl (by simp [Value.oneCell']) siz33 rfl B1 (by first | (simp; done) | exact Nat.le_of_ble_eq_true rfl) rfl ?_
      intro w5 S5
      replace hS := hS.put S5 (Ne.symm hne1)
      replace E := S5.step E (by first | exact Or.inl (by omega) | exact Or.inr rfl | exact Or.inr (by assumption) | exact Or.inr (by simp) | exact Or.inr (by omega) | exact Or.inr (by dsimp only; omega))
      replace B1 := S5.blk
      refine WpL_nil (Wp_ret (inB_ret (thn_ret ?_)))
      refine fin_agg Try.results35 (vs := [(.int .i64 k), (.slice none 0 0), (.slice none 0 0), (.int .i64 0), (.int .i64 0), (.bool false)]) (b := b1) rfl agg33 siz33 rfl (B1.cells rfl) ?_
      exact ⟨.mk k [] [] 0 0 false, _, l1, rfl, gen_mk hkk.2.1 (by omega) (node_leaf (by omega)) (by simp only [allRes]), by simp only [Re.size, Re.sizes]; have := Nat.two_pow_pos d; rw [Nat.pow_succ]; omega, ReIn.of (set := []) (SlIn.nil _ _ _ _ _) (by simp) (.inl rfl), hS, E⟩
    · have kh0 := h0
      replace h0 := of_decide_eq_false h0
      refine Wp_region ?_
      refine qV (r_eql (k := .i64) (a := k) (b := 1) rfl rfl) ?_
      refine qA (.bool (decide ((k : Int) = 1))) rfl ?_
      refine WpL_nil (thn_normal ?_)
      refine Wp_cond (b := decide ((k : Int) = 1)) rfl (fun h1 => ?_) (fun h1 => ?_)
      · have kh1 := h1
        replace h1 := of_decide_eq_true h1
        refine Wp_seq_region ?_
        refine qM (I6 k) rfl ?_
        refine qV (r_build (ps := [(0, (I6 k))]) (v := (.agg #[(I6 k), (.slice none 0 0), (.slice none 0 0), (I6 0), (I6 0), (.bool false)])) rfl (by kernel_rfl)) ?_
        refine s_storeAgg (b := b1) (o := 0) (c' := #[(I6 k), (.slice none 0 0), (.slice none 0 0), (I6 0), (I6 0), (.bool false)]) rfl rfl (by simp [Value.oneCell']) siz33 rfl B1 (by first | (simp; done) | exact Nat.le_of_ble_eq_true rfl) rfl ?_
        intro w7 S7
        replace hS := hS.put S7 (Ne.symm hne1)
        replace E := S7.step E (by first | exact Or.inl (by omega) | exact Or.inr rfl | exact Or.inr (by assumption) | exact Or.inr (by simp) | exact Or.inr (by omega) | exact Or.inr (by dsimp only; omega))
        replace B1 := S7.blk
        refine WpL_nil (Wp_ret (inB_ret (thn_ret ?_)))
        refine fin_agg Try.results35 (vs := [(.int .i64 k), (.slice none 0 0), (.slice none 0 0), (.int .i64 0), (.int .i64 0), (.bool false)]) (b := b1) rfl agg33 siz33 rfl (B1.cells rfl) ?_
        exact ⟨.mk k [] [] 0 0 false, _, l1, rfl, gen_mk hkk.2.1 (by omega) (node_leaf (by omega)) (by simp only [allRes]), by simp only [Re.size, Re.sizes]; have := Nat.two_pow_pos d; rw [Nat.pow_succ]; omega, ReIn.of (set := []) (SlIn.nil _ _ _ _ _) (by simp) (.inl rfl), hS, E⟩
      · have kh1 := h1
        replace h1 := of_decide_eq_false h1
        refine Wp_seq_region ?_
        refine qV (r_eql (k := .i64) (a := k) (b := 2) rfl rfl) ?_
        refine qA (.bool (decide ((k : Int) = 2))) rfl ?_
        refine WpL_nil ?_
        refine Wp_cond (b := decide ((k : Int) = 2)) rfl (fun h2 => ?_) (fun h2 => ?_)
        · have kh2 := h2
          replace h2 := of_decide_eq_true h2
          refine Wp_seq_region ?_
          refine qM (P6 bs 0) rfl ?_
          refine WpL_enter rfl rfl (by decide) (r_callF (vs := [(P6 bs 0), (I6 3)]) Try.func87 nm87 bd87 rfl) (next_c wb _ bs _ _ (by omega) (by omega) (toE E) hb hS) ?_
          rintro _ w5 ⟨x, l2, rfl, hx0, hx1, hS, C5⟩
          replace B1 := C5.keep (hne1) B1
          replace E := E.trans C5
          refine qV (r_add (k := .i64) (a := 97) (b := x) (c := 97 + x) rfl rfl (wI64 (by omega))) ?_
          refine qA (I6 (97 + x)) rfl ?_
          refine WpL_nil (Wp_seq_region ?_)
          refine qM (I6 k) rfl ?_
          refine qM (I6 (97 + x)) rfl ?_
          refine qM (I6 (97 + x)) rfl ?_
          refine qM (P6 bs 0) rfl ?_
          refine WpL_enter rfl rfl (by decide) (r_callF (vs := [(P6 bs 0), (I6 2)]) Try.func87 nm87 bd87 rfl) (next_c wb _ bs _ _ (by omega) (by omega) (toE E) hb hS) ?_
          rintro _ w6 ⟨y, l3, rfl, hy0, hy1, hS, C6⟩
          replace B1 := C6.keep (hne1) B1
          replace E := E.trans C6
          refine qV (r_add (k := .i64) (a := 97 + x) (b := y) (c := (97 + x) + y) rfl rfl (wI64 (by omega))) ?_
          refine qV (r_build (ps := [(0, (I6 (97 + x))), (1, (I6 ((97 + x) + y)))]) (v := (.agg #[(I6 (97 + x)), (I6 ((97 + x) + y))])) rfl (by kernel_rfl)) ?_
          refine s_buildSlice (ps := [(0, (.agg #[(I6 (97 + x)), (I6 ((97 + x) + y))]))]) (c := #[(I6 (97 + x)), (I6 ((97 + x) + y))]) (by decide) rfl Try.underlying30 siz90 zer90 (by decide) (by decide) (by kernel_rfl) ?_
          intro bq wq Nq
          have Fq := Nq.ge E
          have Oq_b1 := Nq.lt B1
          replace B1 := Nq.keep B1
          replace hS := hS.ext Nq.ext
          replace E := E.ext Nq.ext
          have Bq := Nq.blk
          refine qV (r_build (ps := [(0, (I6 k)), (1, (.slice (some ⟨bq, 0, none⟩) 1 1))]) (v := (.agg #[(I6 k), (.slice (some ⟨bq, 0, none⟩) 1 1), (.slice none 0 0), (I6 0), (I6 0), (.bool false)])) rfl (by kernel_rfl)) ?_
          refine s_storeAgg (b := b1) (o := 0) (c' := #[(I6 k), (.slice (some ⟨bq, 0, none⟩) 1 1), (.slice none 0 0), (I6 0), (I6 0), (.bool false)]) rfl rfl (by simp [Value.oneCell']) siz33 rfl B1 (by first | (simp; done) | exact Nat.le_of_ble_eq_true rfl) rfl ?_
          intro w9 S9
          replace hS := hS.put S9 (Ne.symm hne1)
          replace Bq := S9.keep (by omega) Bq
          replace E := S9.step E (by first | exact Or.inl (by omega) | exact Or.inr rfl | exact Or.inr (by assumption) | exact Or.inr (by simp) | exact Or.inr (by omega) | exact Or.inr (by dsimp only; omega))
          replace B1 := S9.blk
          refine WpL_nil (Wp_ret (inB_ret (thn_ret ?_)))
          refine fin_agg Try.results35 (vs := [(.int .i64 k), (.slice (some ⟨bq, 0, none⟩) 1 1), (.slice none 0 0), (.int .i64 0), (.int .i64 0), (.bool false)]) (b := b1) rfl agg33 siz33 rfl (B1.cells rfl) ?_
          exact ⟨.mk k [(97 + x, 97 + x + y)] [] 0 0 false, _, l3, rfl, by subst h2; simp only [allRe, allRes]; exact ⟨⟨node_set (by omega) (by omega) (by omega), hkk.2.1, fun _ => ⟨_, _, rfl, by omega, by omega, by omega⟩⟩, trivial⟩, by simp only [Re.size, Re.sizes]; have := Nat.two_pow_pos d; rw [Nat.pow_succ]; omega, ReIn.of (set := [(97 + x, 97 + x + y)]) (SlIn.mk (spans_of_blk [(97 + x, 97 + x + y)] Bq (by simp) (by simp)) (by omega)) (by simp) (.inl rfl), hS, E⟩
        · have kh2 := h2
          replace h2 := of_decide_eq_false h2
          refine Wp_seq (Wp_seq_region ?_)
          refine qV (r_eql (k := .i64) (a := k) (b := 3) rfl rfl) ?_
          refine qA (.bool (decide ((k : Int) = 3))) rfl ?_
          refine WpL_nil ?_
          refine Wp_cond (b := decide ((k : Int) = 3)) rfl (fun h3 => ?_) (fun h3 => ?_)
          · have kh3 := h3
            replace h3 := of_decide_eq_true h3
            have hd1 : 1 ≤ d := by omega
            have hlt1 := B1.lt
            have hz1 := E.size
            refine Wp_skip (thn_normal ?_)
            refine Wp_cond_true (congrArg Value.bool kh3) ?_
            refine Wp_seq_region ?_
            refine qM (I6 k) rfl ?_
            refine qM (P6 bs 0) rfl ?_
            refine qM (I6 (d : Int)) rfl ?_
            refine qV (r_sub (k := .i64) (a := (d : Int)) (b := 1) (c := ((d - 1 : Nat) : Int)) rfl rfl (by rw [wI64 (by omega)]; omega)) ?_
            refine qM (I6 kinds) rfl ?_
            refine WpL_enter rfl rfl (by decide) (r_callF (vs := [(P6 bs 0), (I6 ((d - 1 : Nat) : Int)), (I6 kinds)]) Try.func35 nm35 bd35 rfl) (ih (d - 1) (by omega) (by omega) _ _ (toE E) hS) ?_
            rintro _ w5 ⟨t1, us1, l5, rfl, hg1, hs1, ht1, hS, C5⟩
            replace B1 := C5.keep (hne1) B1
            replace E := E.trans C5
            obtain ⟨sa1, sc1, aa1, ac1, rfl, _, _, _⟩ := ht1.form
            have hlt2 := B1.lt
            have hz2 := E.size
            refine qM (P6 bs 0) rfl ?_
            refine qM (I6 (d : Int)) rfl ?_
            refine qV (r_sub (k := .i64) (a := (d : Int)) (b := 1) (c := ((d - 1 : Nat) : Int)) rfl rfl (by rw [wI64 (by omega)]; omega)) ?_
            refine qM (I6 kinds) rfl ?_
            refine WpL_enter rfl rfl (by decide) (r_callF (vs := [(P6 bs 0), (I6 ((d - 1 : Nat) : Int)), (I6 kinds)]) Try.func35 nm35 bd35 rfl) (ih (d - 1) (by omega) (by omega) _ _ (toE E) hS) ?_
            rintro _ w6 ⟨t2, us2, l6, rfl, hg2, hs2, ht2, hS, C6⟩
            replace B1 := C6.keep (hne1) B1
            replace E := E.trans C6
            obtain ⟨sa2, sc2, aa2, ac2, rfl, _, _, _⟩ := ht2.form
            replace ht1 := ReIn.chg C6 (fun x hx hm => by have hx' := hx; have hm' : x = bs := hm; have := E.size; omega) t1 ht1
            refine s_buildSlice (ps := [(0, (.agg (R6 t1 sa1 sc1 aa1 ac1))), (1, (.agg (R6 t2 sa2 sc2 aa2 ac2)))]) (c := #[(I6 t1.kind), (.slice sa1 t1.set.length sc1), (.slice aa1 t1.args.length ac1), (I6 t1.mn), (I6 t1.mx), (.bool t1.neg), (I6 t2.kind), (.slice sa2 t2.set.length sc2), (.slice aa2 t2.args.length ac2), (I6 t2.mn), (I6 t2.mx), (.bool t2.neg)]) (by decide) rfl Try.underlying31 siz33 zer33 (by decide) (by decide) (by kernel_rfl) ?_
            intro bq wq Nq
            have Fq := Nq.ge E
            have Oq_b1 := Nq.lt B1
            replace B1 := Nq.keep B1
            replace hS := hS.ext Nq.ext
            replace ht1 := ReIn.ext Nq.ext t1 ht1
            replace ht2 := ReIn.ext Nq.ext t2 ht2
            replace E := E.ext Nq.ext
            have Bq := Nq.blk
            refine qV (r_build (ps := [(0, (I6 k)), (2, (.slice (some ⟨bq, 0, none⟩) 2 2))]) (v := (.agg #[(I6 k), (.slice none 0 0), (.slice (some ⟨bq, 0, none⟩) 2 2), (I6 0), (I6 0), (.bool false)])) rfl (by kernel_rfl)) ?_
            refine s_storeAgg (b := b1) (o := 0) (c' := #[(I6 k), (.slice none 0 0), (.slice (some ⟨bq, 0, none⟩) 2 2), (I6 0), (I6 0), (.bool false)]) rfl rfl (by simp [Value.oneCell']) siz33 rfl B1 (by first | (simp; done) | exact Nat.le_of_ble_eq_true rfl) rfl ?_
            intro w11 S11
            replace hS := hS.put S11 (Ne.symm hne1)
            replace ht1 := ReIn.chg S11.chg (fun x hx hm => by have hx' := hx; have hm' : x = b1 := hm; omega) t1 ht1
            replace ht2 := ReIn.chg S11.chg (fun x hx hm => by have hx' := hx; have hm' : x = b1 := hm; omega) t2 ht2
            replace Bq := S11.keep (by omega) Bq
            replace E := S11.step E (by first | exact Or.inl (by omega) | exact Or.inr rfl | exact Or.inr (by assumption) | exact Or.inr (by simp) | exact Or.inr (by omega) | exact Or.inr (by dsimp only; omega))
            replace B1 := S11.blk
            refine WpL_nil (Wp_ret (inB_ret (thn_ret ?_)))
            refine fin_agg Try.results35 (vs := [(.int .i64 k), (.slice none 0 0), (.slice (some ⟨bq, 0, none⟩) 2 2), (.int .i64 0), (.int .i64 0), (.bool false)]) (b := b1) rfl agg33 siz33 rfl (B1.cells rfl) ?_
            exact ⟨.mk k [] [t1, t2] 0 0 false, _, l6, rfl, gen_mk hkk.2.1 (by omega) (node_two (by omega) t1 t2) (by simp only [allRes]; exact ⟨hg1, hg2, trivial⟩), gen_size2 hd1 hs1 hs2, ReIn.of (set := []) (SlIn.nil _ _ _ _ _) (by simp) (.inr ⟨bq, 0, by omega, rfl, ResIn.two (Bq.cells rfl) (ReIn.mono (fun b (h : _ ≤ b) => by omega) t1 ht1) (Bq.cells rfl) (ReIn.mono (fun b (h : _ ≤ b) => by omega) t2 ht2)⟩), hS, E⟩
          · have kh3 := h3
            replace h3 := of_decide_eq_false h3
            refine Wp_seq_region ?_
            refine qV (r_eql (k := .i64) (a := k) (b := 4) rfl rfl) ?_
            refine qA (.bool (decide ((k : Int) = 4))) rfl ?_
            refine WpL_nil ?_
            refine Wp_cond (b := decide ((k : Int) = 4)) rfl (fun h4 => ?_) (fun h4 => ?_)
            · have kh4 := h4
              replace h4 := of_decide_eq_true h4
              have hd1 : 1 ≤ d := by omega
              have hlt1 := B1.lt
              have hz1 := E.size
              refine Wp_skip (thn_normal ?_)
              refine Wp_cond_true (congrArg Value.bool kh4) ?_
              refine Wp_seq_region ?_
              refine qM (I6 k) rfl ?_
              refine qM (P6 bs 0) rfl ?_
              refine qM (I6 (d : Int)) rfl ?_
              refine qV (r_sub (k := .i64) (a := (d : Int)) (b := 1) (c := ((d - 1 : Nat) : Int)) rfl rfl (by rw [wI64 (by omega)]; omega)) ?_
              refine qM (I6 kinds) rfl ?_
              refine WpL_enter rfl rfl (by decide) (r_callF (vs := [(P6 bs 0), (I6 ((d - 1 : Nat) : Int)), (I6 kinds)]) Try.func35 nm35 bd35 rfl) (ih (d - 1) (by omega) (by omega) _ _ (toE E) hS) ?_
              rintro _ w5 ⟨t1, us1, l5, rfl, hg1, hs1, ht1, hS, C5⟩
              replace B1 := C5.keep (hne1) B1
              replace E := E.trans C5
              obtain ⟨sa1, sc1, aa1, ac1, rfl, _, _, _⟩ := ht1.form
              have hlt2 := B1.lt
              have hz2 := E.size
              refine qM (P6 bs 0) rfl ?_
              refine qM (I6 (d : Int)) rfl ?_
              refine qV (r_sub (k := .i64) (a := (d : Int)) (b := 1) (c := ((d - 1 : Nat) : Int)) rfl rfl (by rw [wI64 (by omega)]; omega)) ?_
              refine qM (I6 kinds) rfl ?_
              refine WpL_enter rfl rfl (by decide) (r_callF (vs := [(P6 bs 0), (I6 ((d - 1 : Nat) : Int)), (I6 kinds)]) Try.func35 nm35 bd35 rfl) (ih (d - 1) (by omega) (by omega) _ _ (toE E) hS) ?_
              rintro _ w6 ⟨t2, us2, l6, rfl, hg2, hs2, ht2, hS, C6⟩
              replace B1 := C6.keep (hne1) B1
              replace E := E.trans C6
              obtain ⟨sa2, sc2, aa2, ac2, rfl, _, _, _⟩ := ht2.form
              replace ht1 := ReIn.chg C6 (fun x hx hm => by have hx' := hx; have hm' : x = bs := hm; have := E.size; omega) t1 ht1
              refine s_buildSlice (ps := [(0, (.agg (R6 t1 sa1 sc1 aa1 ac1))), (1, (.agg (R6 t2 sa2 sc2 aa2 ac2)))]) (c := #[(I6 t1.kind), (.slice sa1 t1.set.length sc1), (.slice aa1 t1.args.length ac1), (I6 t1.mn), (I6 t1.mx), (.bool t1.neg), (I6 t2.kind), (.slice sa2 t2.set.length sc2), (.slice aa2 t2.args.length ac2), (I6 t2.mn), (I6 t2.mx), (.bool t2.neg)]) (by decide) rfl Try.underlying31 siz33 zer33 (by decide) (by decide) (by kernel_rfl) ?_
              intro bq wq Nq
              have Fq := Nq.ge E
              have Oq_b1 := Nq.lt B1
              replace B1 := Nq.keep B1
              replace hS := hS.ext Nq.ext
              replace ht1 := ReIn.ext Nq.ext t1 ht1
              replace ht2 := ReIn.ext Nq.ext t2 ht2
              replace E := E.ext Nq.ext
              have Bq := Nq.blk
              refine qV (r_build (ps := [(0, (I6 k)), (2, (.slice (some ⟨bq, 0, none⟩) 2 2))]) (v := (.agg #[(I6 k), (.slice none 0 0), (.slice (some ⟨bq, 0, none⟩) 2 2), (I6 0), (I6 0), (.bool false)])) rfl (by kernel_rfl)) ?_
              refine s_storeAgg (b := b1) (o := 0) (c' := #[(I6 k), (.slice none 0 0), (.slice (some ⟨bq, 0, none⟩) 2 2), (I6 0), (I6 0), (.bool false)]) rfl rfl (by simp [Value.oneCell']) siz33 rfl B1 (by first | (simp; done) | exact Nat.le_of_ble_eq_true rfl) rfl ?_
              intro w13 S13
              replace hS := hS.put S13 (Ne.symm hne1)
              replace ht1 := ReIn.chg S13.chg (fun x hx hm => by have hx' := hx; have hm' : x = b1 := hm; omega) t1 ht1
              replace ht2 := ReIn.chg S13.chg (fun x hx hm => by have hx' := hx; have hm' : x = b1 := hm; omega) t2 ht2
              replace Bq := S13.keep (by omega) Bq
              replace E := S13.step E (by first | exact Or.inl (by omega) | exact Or.inr rfl | exact Or.inr (by assumption) | exact Or.inr (by simp) | exact Or.inr (by omega) | exact Or.inr (by dsimp only; omega))
              replace B1 := S13.blk
              refine WpL_nil (Wp_ret (inB_ret (thn_ret ?_)))
              refine fin_agg Try.results35 (vs := [(.int .i64 k), (.slice none 0 0), (.slice (some ⟨bq, 0, none⟩) 2 2), (.int .i64 0), (.int .i64 0), (.bool false)]) (b := b1) rfl agg33 siz33 rfl (B1.cells rfl) ?_
              exact ⟨.mk k [] [t1, t2] 0 0 false, _, l6, rfl, gen_mk hkk.2.1 (by omega) (node_two (by omega) t1 t2) (by simp only [allRes]; exact ⟨hg1, hg2, trivial⟩), gen_size2 hd1 hs1 hs2, ReIn.of (set := []) (SlIn.nil _ _ _ _ _) (by simp) (.inr ⟨bq, 0, by omega, rfl, ResIn.two (Bq.cells rfl) (ReIn.mono (fun b (h : _ ≤ b) => by omega) t1 ht1) (Bq.cells rfl) (ReIn.mono (fun b (h : _ ≤ b) => by omega) t2 ht2)⟩), hS, E⟩
            · have kh4 := h4
              replace h4 := of_decide_eq_false h4
              refine Wp_region ?_
              refine qV (r_eql (k := .i64) (a := k) (b := 7) rfl rfl) ?_
              refine qA (.bool (decide ((k : Int) = 7))) rfl ?_
              refine WpL_nil (thn_normal ?_)
              refine Wp_cond (b := decide ((k : Int) = 7)) rfl (fun h7 => ?_) (fun h7 => ?_)
              · have kh7 := h7
                replace h7 := of_decide_eq_true h7
                have hd1 : 1 ≤ d := by omega
                have hlt1 := B1.lt
                have hz1 := E.size
                refine Wp_seq_region ?_
                refine qM (I6 k) rfl ?_
                refine qM (P6 bs 0) rfl ?_
                refine qM (I6 (d : Int)) rfl ?_
                refine qV (r_sub (k := .i64) (a := (d : Int)) (b := 1) (c := ((d - 1 : Nat) : Int)) rfl rfl (by rw [wI64 (by omega)]; omega)) ?_
                refine qM (I6 kinds) rfl ?_
                refine WpL_enter rfl rfl (by decide) (r_callF (vs := [(P6 bs 0), (I6 ((d - 1 : Nat) : Int)), (I6 kinds)]) Try.func35 nm35 bd35 rfl) (ih (d - 1) (by omega) (by omega) _ _ (toE E) hS) ?_
                rintro _ w5 ⟨t1, us1, l5, rfl, hg1, hs1, ht1, hS, C5⟩
                replace B1 := C5.keep (hne1) B1
                replace E := E.trans C5
                obtain ⟨sa1, sc1, aa1, ac1, rfl, _, _, _⟩ := ht1.form
                have hlt2 := B1.lt
                have hz2 := E.size
                refine qM (P6 bs 0) rfl ?_
                refine qM (I6 (d : Int)) rfl ?_
                refine qV (r_sub (k := .i64) (a := (d : Int)) (b := 1) (c := ((d - 1 : Nat) : Int)) rfl rfl (by rw [wI64 (by omega)]; omega)) ?_
                refine qM (I6 kinds) rfl ?_
                refine WpL_enter rfl rfl (by decide) (r_callF (vs := [(P6 bs 0), (I6 ((d - 1 : Nat) : Int)), (I6 kinds)]) Try.func35 nm35 bd35 rfl) (ih (d - 1) (by omega) (by omega) _ _ (toE E) hS) ?_
                rintro _ w6 ⟨t2, us2, l6, rfl, hg2, hs2, ht2, hS, C6⟩
                replace B1 := C6.keep (hne1) B1
                replace E := E.trans C6
                obtain ⟨sa2, sc2, aa2, ac2, rfl, _, _, _⟩ := ht2.form
                replace ht1 := ReIn.chg C6 (fun x hx hm => by have hx' := hx; have hm' : x = bs := hm; have := E.size; omega) t1 ht1
                refine s_buildSlice (ps := [(0, (.agg (R6 t1 sa1 sc1 aa1 ac1))), (1, (.agg (R6 t2 sa2 sc2 aa2 ac2)))]) (c := #[(I6 t1.kind), (.slice sa1 t1.set.length sc1), (.slice aa1 t1.args.length ac1), (I6 t1.mn), (I6 t1.mx), (.bool t1.neg), (I6 t2.kind), (.slice sa2 t2.set.length sc2), (.slice aa2 t2.args.length ac2), (I6 t2.mn), (I6 t2.mx), (.bool t2.neg)]) (by decide) rfl Try.underlying31 siz33 zer33 (by decide) (by decide) (by kernel_rfl) ?_
                intro bq wq Nq
                have Fq := Nq.ge E
                have Oq_b1 := Nq.lt B1
                replace B1 := Nq.keep B1
                replace hS := hS.ext Nq.ext
                replace ht1 := ReIn.ext Nq.ext t1 ht1
                replace ht2 := ReIn.ext Nq.ext t2 ht2
                replace E := E.ext Nq.ext
                have Bq := Nq.blk
                refine qV (r_build (ps := [(0, (I6 k)), (2, (.slice (some ⟨bq, 0, none⟩) 2 2))]) (v := (.agg #[(I6 k), (.slice none 0 0), (.slice (some ⟨bq, 0, none⟩) 2 2), (I6 0), (I6 0), (.bool false)])) rfl (by kernel_rfl)) ?_
                refine s_storeAgg (b := b1) (o := 0) (c' := #[(I6 k), (.slice none 0 0), (.slice (some ⟨bq, 0, none⟩) 2 2), (I6 0), (I6 0), (.bool false)]) rfl rfl (by simp [Value.oneCell']) siz33 rfl B1 (by first | (simp; done) | exact Nat.le_of_ble_eq_true rfl) rfl ?_
                intro w15 S15
                replace hS := hS.put S15 (Ne.symm hne1)
                replace ht1 := ReIn.chg S15.chg (fun x hx hm => by have hx' := hx; have hm' : x = b1 := hm; omega) t1 ht1
                replace ht2 := ReIn.chg S15.chg (fun x hx hm => by have hx' := hx; have hm' : x = b1 := hm; omega) t2 ht2
                replace Bq := S15.keep (by omega) Bq
                replace E := S15.step E (by first | exact Or.inl (by omega) | exact Or.inr rfl | exact Or.inr (by assumption) | exact Or.inr (by simp) | exact Or.inr (by omega) | exact Or.inr (by dsimp only; omega))
                replace B1 := S15.blk
                refine WpL_nil (Wp_ret (inB_ret (thn_ret ?_)))
                refine fin_agg Try.results35 (vs := [(.int .i64 k), (.slice none 0 0), (.slice (some ⟨bq, 0, none⟩) 2 2), (.int .i64 0), (.int .i64 0), (.bool false)]) (b := b1) rfl agg33 siz33 rfl (B1.cells rfl) ?_
                exact ⟨.mk k [] [t1, t2] 0 0 false, _, l6, rfl, gen_mk hkk.2.1 (by omega) (node_two (by omega) t1 t2) (by simp only [allRes]; exact ⟨hg1, hg2, trivial⟩), gen_size2 hd1 hs1 hs2, ReIn.of (set := []) (SlIn.nil _ _ _ _ _) (by simp) (.inr ⟨bq, 0, by omega, rfl, ResIn.two (Bq.cells rfl) (ReIn.mono (fun b (h : _ ≤ b) => by omega) t1 ht1) (Bq.cells rfl) (ReIn.mono (fun b (h : _ ≤ b) => by omega) t2 ht2)⟩), hS, E⟩
              · have kh7 := h7
                replace h7 := of_decide_eq_false h7
                refine Wp_seq_region ?_
                refine qV (r_eql (k := .i64) (a := k) (b := 6) rfl rfl) ?_
                refine qA (.bool (decide ((k : Int) = 6))) rfl ?_
                refine WpL_nil ?_
                refine Wp_cond (b := decide ((k : Int) = 6)) rfl (fun h6 => ?_) (fun h6 => ?_)
                · have kh6 := h6
                  replace h6 := of_decide_eq_true h6
                  refine Wp_seq_region ?_
                  refine qM (P6 bs 0) rfl ?_
                  refine WpL_enter rfl rfl (by decide) (r_callF (vs := [(P6 bs 0), (I6 3)]) Try.func87 nm87 bd87 rfl) (next_c wb _ bs _ _ (by omega) (by omega) (toE E) hb hS) ?_
                  rintro _ w3 ⟨x, l2, rfl, hx0, hx1, hS, C3⟩
                  replace B1 := C3.keep (hne1) B1
                  replace E := E.trans C3
                  refine qA (I6 x) rfl ?_
                  refine WpL_nil (Wp_seq_region ?_)
                  refine qM (I6 k) rfl ?_
                  refine qM (I6 x) rfl ?_
                  refine qM (I6 x) rfl ?_
                  refine qM (P6 bs 0) rfl ?_
                  refine WpL_enter rfl rfl (by decide) (r_callF (vs := [(P6 bs 0), (I6 3)]) Try.func87 nm87 bd87 rfl) (next_c wb _ bs _ _ (by omega) (by omega) (toE E) hb hS) ?_
                  rintro _ w4 ⟨y, l3, rfl, hy0, hy1, hS, C4⟩
                  replace B1 := C4.keep (hne1) B1
                  replace E := E.trans C4
                  refine qV (r_add (k := .i64) (a := x) (b := y) (c := x + y) rfl rfl (wI64 (by omega))) ?_
                  refine qM (P6 bs 0) rfl ?_
                  refine qM (I6 (d : Int)) rfl ?_
                  have hd1 : 1 ≤ d := by omega
                  have hlt1 := B1.lt
                  have hz1 := E.size
                  refine qV (r_sub (k := .i64) (a := (d : Int)) (b := 1) (c := ((d - 1 : Nat) : Int)) rfl rfl (by rw [wI64 (by omega)]; omega)) ?_
                  refine qM (I6 kinds) rfl ?_
                  refine WpL_enter rfl rfl (by decide) (r_callF (vs := [(P6 bs 0), (I6 ((d - 1 : Nat) : Int)), (I6 kinds)]) Try.func35 nm35 bd35 rfl) (ih (d - 1) (by omega) (by omega) _ _ (toE E) hS) ?_
                  rintro _ w5 ⟨t1, us1, l5, rfl, hg1, hs1, ht1, hS, C5⟩
                  replace B1 := C5.keep (hne1) B1
                  replace E := E.trans C5
                  obtain ⟨sa1, sc1, aa1, ac1, rfl, _, _, _⟩ := ht1.form
                  refine s_buildSlice (ps := [(0, (.agg (R6 t1 sa1 sc1 aa1 ac1)))]) (c := (R6 t1 sa1 sc1 aa1 ac1)) (by decide) rfl Try.underlying31 siz33 zer33 (by decide) (by decide) (by kernel_rfl) ?_
                  intro bq wq Nq
                  have Fq := Nq.ge E
                  have Oq_b1 := Nq.lt B1
                  replace B1 := Nq.keep B1
                  replace hS := hS.ext Nq.ext
                  replace ht1 := ReIn.ext Nq.ext t1 ht1
                  replace E := E.ext Nq.ext
                  have Bq := Nq.blk
                  refine qV (r_build (ps := [(0, (I6 k)), (3, (I6 x)), (4, (I6 (x + y))), (2, (.slice (some ⟨bq, 0, none⟩) 1 1))]) (v := (.agg #[(I6 k), (.slice none 0 0), (.slice (some ⟨bq, 0, none⟩) 1 1), (I6 x), (I6 (x + y)), (.bool false)])) rfl (by kernel_rfl)) ?_
                  refine s_storeAgg (b := b1) (o := 0) (c' := #[(I6 k), (.slice none 0 0), (.slice (some ⟨bq, 0, none⟩) 1 1), (I6 x), (I6 (x + y)), (.bool false)]) rfl rfl (by simp [Value.oneCell']) siz33 rfl B1 (by first | (simp; done) | exact Nat.le_of_ble_eq_true rfl) rfl ?_
                  intro w17 S17
                  replace hS := hS.put S17 (Ne.symm hne1)
                  replace ht1 := ReIn.chg S17.chg (fun x hx hm => by have hx' := hx; have hm' : x = b1 := hm; omega) t1 ht1
                  replace Bq := S17.keep (by omega) Bq
                  replace E := S17.step E (by first | exact Or.inl (by omega) | exact Or.inr rfl | exact Or.inr (by assumption) | exact Or.inr (by simp) | exact Or.inr (by omega) | exact Or.inr (by dsimp only; omega))
                  replace B1 := S17.blk
                  refine WpL_nil (Wp_ret (inB_ret (thn_ret ?_)))
                  refine fin_agg Try.results35 (vs := [(.int .i64 k), (.slice none 0 0), (.slice (some ⟨bq, 0, none⟩) 1 1), (.int .i64 x), (.int .i64 (x + y)), (.bool false)]) (b := b1) rfl agg33 siz33 rfl (B1.cells rfl) ?_
                  exact ⟨.mk k [] [t1] x (x + y) false, _, l5, rfl, gen_mk (by omega) (by omega) (by subst h6; exact node_rep (by omega) (by omega) (by omega) t1) (by simp only [allRes]; exact ⟨hg1, trivial⟩), gen_size1 hd1 hs1, ReIn.of (set := []) (SlIn.nil _ _ _ _ _) (by simp) (.inr ⟨bq, 0, by omega, rfl, ResIn.one (Bq.cells rfl) (ReIn.mono (fun b (h : _ ≤ b) => by omega) t1 ht1)⟩), hS, E⟩
                · have kh6 := h6
                  replace h6 := of_decide_eq_false h6
                  refine Wp_seq_region ?_
                  refine qV (r_eql (k := .i64) (a := k) (b := 9) rfl rfl) ?_
                  refine qA (.bool (decide ((k : Int) = 9))) rfl ?_
                  refine WpL_nil ?_
                  refine Wp_cond (b := decide ((k : Int) = 9)) rfl (fun h9 => ?_) (fun h9 => ?_)
                  · have kh9 := h9
                    replace h9 := of_decide_eq_true h9
                    refine Wp_seq_region ?_
                    refine qM (I6 k) rfl ?_
                    refine qM (P6 bs 0) rfl ?_
                    refine WpL_enter rfl rfl (by decide) (r_callF (vs := [(P6 bs 0), (I6 4)]) Try.func87 nm87 bd87 rfl) (next_c wb _ bs _ _ (by omega) (by omega) (toE E) hb hS) ?_
                    rintro _ w3 ⟨x, l2, rfl, hx0, hx1, hS, C3⟩
                    replace B1 := C3.keep (hne1) B1
                    replace E := E.trans C3
                    have hd1 : 1 ≤ d := by omega
                    have hlt1 := B1.lt
                    have hz1 := E.size
                    refine qM (P6 bs 0) rfl ?_
                    refine qM (I6 (d : Int)) rfl ?_
                    refine qV (r_sub (k := .i64) (a := (d : Int)) (b := 1) (c := ((d - 1 : Nat) : Int)) rfl rfl (by rw [wI64 (by omega)]; omega)) ?_
                    refine qM (I6 kinds) rfl ?_
                    refine WpL_enter rfl rfl (by decide) (r_callF (vs := [(P6 bs 0), (I6 ((d - 1 : Nat) : Int)), (I6 kinds)]) Try.func35 nm35 bd35 rfl) (ih (d - 1) (by omega) (by omega) _ _ (toE E) hS) ?_
                    rintro _ w5 ⟨t1, us1, l5, rfl, hg1, hs1, ht1, hS, C5⟩
                    replace B1 := C5.keep (hne1) B1
                    replace E := E.trans C5
                    obtain ⟨sa1, sc1, aa1, ac1, rfl, _, _, _⟩ := ht1.form
                    refine s_buildSlice (ps := [(0, (.agg (R6 t1 sa1 sc1 aa1 ac1)))]) (c := (R6 t1 sa1 sc1 aa1 ac1)) (by decide) rfl Try.underlying31 siz33 zer33 (by decide) (by decide) (by kernel_rfl) ?_
                    intro bq wq Nq
                    have Fq := Nq.ge E
                    have Oq_b1 := Nq.lt B1
                    replace B1 := Nq.keep B1
                    replace hS := hS.ext Nq.ext
                    replace ht1 := ReIn.ext Nq.ext t1 ht1
                    replace E := E.ext Nq.ext
                    have Bq := Nq.blk
                    refine qV (r_build (ps := [(0, (I6 k)), (3, (I6 x)), (2, (.slice (some ⟨bq, 0, none⟩) 1 1))]) (v := (.agg #[(I6 k), (.slice none 0 0), (.slice (some ⟨bq, 0, none⟩) 1 1), (I6 x), (I6 0), (.bool false)])) rfl (by kernel_rfl)) ?_
                    refine s_storeAgg (b := b1) (o := 0) (c' := #[(I6 k), (.slice none 0 0), (.slice (some ⟨bq, 0, none⟩) 1 1), (I6 x), (I6 0), (.bool false)]) rfl rfl (by simp [Value.oneCell']) siz33 rfl B1 (by first | (simp; done) | exact Nat.le_of_ble_eq_true rfl) rfl ?_
                    intro w19 S19
                    replace hS := hS.put S19 (Ne.symm hne1)
                    replace ht1 := ReIn.chg S19.chg (fun x hx hm => by have hx' := hx; have hm' : x = b1 := hm; omega) t1 ht1
                    replace Bq := S19.keep (by omega) Bq
                    replace E := S19.step E (by first | exact Or.inl (by omega) | exact Or.inr rfl | exact Or.inr (by assumption) | exact Or.inr (by simp) | exact Or.inr (by omega) | exact Or.inr (by dsimp only; omega))
                    replace B1 := S19.blk
                    refine WpL_nil (Wp_ret (inB_ret (thn_ret ?_)))
                    refine fin_agg Try.results35 (vs := [(.int .i64 k), (.slice none 0 0), (.slice (some ⟨bq, 0, none⟩) 1 1), (.int .i64 x), (.int .i64 0), (.bool false)]) (b := b1) rfl agg33 siz33 rfl (B1.cells rfl) ?_
                    exact ⟨.mk k [] [t1] x 0 false, _, l5, rfl, gen_mk (by omega) (by omega) (by subst h9; exact node_group (by omega) (by omega) t1) (by simp only [allRes]; exact ⟨hg1, trivial⟩), gen_size1 hd1 hs1, ReIn.of (set := []) (SlIn.nil _ _ _ _ _) (by simp) (.inr ⟨bq, 0, by omega, rfl, ResIn.one (Bq.cells rfl) (ReIn.mono (fun b (h : _ ≤ b) => by omega) t1 ht1)⟩), hS, E⟩
                  · have kh9 := h9
                    replace h9 := of_decide_eq_false h9
                    refine Wp_seq_region ?_
                    refine qV (r_eql (k := .i64) (a := k) (b := 10) rfl rfl) ?_
                    refine qA (.bool (decide ((k : Int) = 10))) rfl ?_
                    refine WpL_nil ?_
                    refine Wp_cond (b := decide ((k : Int) = 10)) rfl (fun h10 => ?_) (fun h10 => ?_)
                    · have kh10 := h10
                      replace h10 := of_decide_eq_true h10
                      refine Wp_seq_region ?_
                      refine qM (I6 k) rfl ?_
                      refine qM (P6 bs 0) rfl ?_
                      refine WpL_enter rfl rfl (by decide) (r_callF (vs := [(P6 bs 0), (I6 2)]) Try.func87 nm87 bd87 rfl) (next_c wb _ bs _ _ (by omega) (by omega) (toE E) hb hS) ?_
                      rintro _ w3 ⟨x, l2, rfl, hx0, hx1, hS, C3⟩
                      replace B1 := C3.keep (hne1) B1
                      replace E := E.trans C3
                      have hd1 : 1 ≤ d := by omega
                      have hlt1 := B1.lt
                      have hz1 := E.size
                      refine qV (r_eql (k := .i64) (a := x) (b := 1) rfl rfl) ?_
                      refine qM (P6 bs 0) rfl ?_
                      refine qM (I6 (d : Int)) rfl ?_
                      refine qV (r_sub (k := .i64) (a := (d : Int)) (b := 1) (c := ((d - 1 : Nat) : Int)) rfl rfl (by rw [wI64 (by omega)]; omega)) ?_
                      refine qM (I6 kinds) rfl ?_
                      refine WpL_enter rfl rfl (by decide) (r_callF (vs := [(P6 bs 0), (I6 ((d - 1 : Nat) : Int)), (I6 kinds)]) Try.func35 nm35 bd35 rfl) (ih (d - 1) (by omega) (by omega) _ _ (toE E) hS) ?_
                      rintro _ w5 ⟨t1, us1, l5, rfl, hg1, hs1, ht1, hS, C5⟩
                      replace B1 := C5.keep (hne1) B1
                      replace E := E.trans C5
                      obtain ⟨sa1, sc1, aa1, ac1, rfl, _, _, _⟩ := ht1.form
                      refine s_buildSlice (ps := [(0, (.agg (R6 t1 sa1 sc1 aa1 ac1)))]) (c := (R6 t1 sa1 sc1 aa1 ac1)) (by decide) rfl Try.underlying31 siz33 zer33 (by decide) (by decide) (by kernel_rfl) ?_
                      intro bq wq Nq
                      have Fq := Nq.ge E
                      have Oq_b1 := Nq.lt B1
                      replace B1 := Nq.keep B1
                      replace hS := hS.ext Nq.ext
                      replace ht1 := ReIn.ext Nq.ext t1 ht1
                      replace E := E.ext Nq.ext
                      have Bq := Nq.blk
                      refine qV (r_build (ps := [(0, (I6 k)), (5, (.bool (decide ((x : Int) = 1)))), (2, (.slice (some ⟨bq, 0, none⟩) 1 1))]) (v := (.agg #[(I6 k), (.slice none 0 0), (.slice (some ⟨bq, 0, none⟩) 1 1), (I6 0), (I6 0), (.bool (decide ((x : Int) = 1)))])) rfl (by kernel_rfl)) ?_
                      refine s_storeAgg (b := b1) (o := 0) (c' := #[(I6 k), (.slice none 0 0), (.slice (some ⟨bq, 0, none⟩) 1 1), (I6 0), (I6 0), (.bool (decide ((x : Int) = 1)))]) rfl rfl (by simp [Value.oneCell']) siz33 rfl B1 (by first | (simp; done) | exact Nat.le_of_ble_eq_true rfl) rfl ?_
                      intro w21 S21
                      replace hS := hS.put S21 (Ne.symm hne1)
                      replace ht1 := ReIn.chg S21.chg (fun x hx hm => by have hx' := hx; have hm' : x = b1 := hm; omega) t1 ht1
                      replace Bq := S21.keep (by omega) Bq
                      replace E := S21.step E (by first | exact Or.inl (by omega) | exact Or.inr rfl | exact Or.inr (by assumption) | exact Or.inr (by simp) | exact Or.inr (by omega) | exact Or.inr (by dsimp only; omega))
                      replace B1 := S21.blk
                      refine WpL_nil (Wp_ret (inB_ret (thn_ret ?_)))
                      refine fin_agg Try.results35 (vs := [(.int .i64 k), (.slice none 0 0), (.slice (some ⟨bq, 0, none⟩) 1 1), (.int .i64 0), (.int .i64 0), (.bool (decide ((x : Int) = 1)))]) (b := b1) rfl agg33 siz33 rfl (B1.cells rfl) ?_
                      exact ⟨.mk k [] [t1] 0 0 (decide (x = 1)), _, l5, rfl, gen_mk (by omega) (by omega) (by subst h10; exact node_look _ t1) (by simp only [allRes]; exact ⟨hg1, trivial⟩), gen_size1 hd1 hs1, ReIn.of (set := []) (SlIn.nil _ _ _ _ _) (by simp) (.inr ⟨bq, 0, by omega, rfl, ResIn.one (Bq.cells rfl) (ReIn.mono (fun b (h : _ ≤ b) => by omega) t1 ht1)⟩), hS, E⟩
                    · have kh10 := h10
                      replace h10 := of_decide_eq_false h10
                      have hd1 : 1 ≤ d := by omega
                      have hlt1 := B1.lt
                      have hz1 := E.size
                      refine Wp_skip (inB_normal (thn_normal (Wp_seq_region ?_)))
                      refine qM (I6 k) rfl ?_
                      refine qM (P6 bs 0) rfl ?_
                      refine qM (I6 (d : Int)) rfl ?_
                      refine qV (r_sub (k := .i64) (a := (d : Int)) (b := 1) (c := ((d - 1 : Nat) : Int)) rfl rfl (by rw [wI64 (by omega)]; omega)) ?_
                      refine qM (I6 kinds) rfl ?_
                      refine WpL_enter rfl rfl (by decide) (r_callF (vs := [(P6 bs 0), (I6 ((d - 1 : Nat) : Int)), (I6 kinds)]) Try.func35 nm35 bd35 rfl) (ih (d - 1) (by omega) (by omega) _ _ (toE E) hS) ?_
                      rintro _ w5 ⟨t1, us1, l5, rfl, hg1, hs1, ht1, hS, C5⟩
                      replace B1 := C5.keep (hne1) B1
                      replace E := E.trans C5
                      obtain ⟨sa1, sc1, aa1, ac1, rfl, _, _, _⟩ := ht1.form
                      refine s_buildSlice (ps := [(0, (.agg (R6 t1 sa1 sc1 aa1 ac1)))]) (c := (R6 t1 sa1 sc1 aa1 ac1)) (by decide) rfl Try.underlying31 siz33 zer33 (by decide) (by decide) (by kernel_rfl) ?_
                      intro bq wq Nq
                      have Fq := Nq.ge E
                      have Oq_b1 := Nq.lt B1
                      replace B1 := Nq.keep B1
                      replace hS := hS.ext Nq.ext
                      replace ht1 := ReIn.ext Nq.ext t1 ht1
                      replace E := E.ext Nq.ext
                      have Bq := Nq.blk
                      refine qV (r_build (ps := [(0, (I6 k)), (2, (.slice (some ⟨bq, 0, none⟩) 1 1))]) (v := (.agg #[(I6 k), (.slice none 0 0), (.slice (some ⟨bq, 0, none⟩) 1 1), (I6 0), (I6 0), (.bool false)])) rfl (by kernel_rfl)) ?_
                      refine s_storeAgg (b := b1) (o := 0) (c' := #[(I6 k), (.slice none 0 0), (.slice (some ⟨bq, 0, none⟩) 1 1), (I6 0), (I6 0), (.bool false)]) rfl rfl (by simp [Value.oneCell']) siz33 rfl B1 (by first | (simp; done) | exact Nat.le_of_ble_eq_true rfl) rfl ?_
                      intro w22 S22
                      replace hS := hS.put S22 (Ne.symm hne1)
                      replace ht1 := ReIn.chg S22.chg (fun x hx hm => by have hx' := hx; have hm' : x = b1 := hm; omega) t1 ht1
                      replace Bq := S22.keep (by omega) Bq
                      replace E := S22.step E (by first | exact Or.inl (by omega) | exact Or.inr rfl | exact Or.inr (by assumption) | exact Or.inr (by simp) | exact Or.inr (by omega) | exact Or.inr (by dsimp only; omega))
                      replace B1 := S22.blk
                      refine WpL_nil (Wp_ret ?_)
                      refine fin_agg Try.results35 (vs := [(.int .i64 k), (.slice none 0 0), (.slice (some ⟨bq, 0, none⟩) 1 1), (.int .i64 0), (.int .i64 0), (.bool false)]) (b := b1) rfl agg33 siz33 rfl (B1.cells rfl) ?_
                      exact ⟨.mk k [] [t1] 0 0 false, _, l5, rfl, gen_mk (by omega) (by omega) (node_one (by omega) t1) (by simp only [allRes]; exact ⟨hg1, trivial⟩), gen_size1 hd1 hs1, ReIn.of (set := []) (SlIn.nil _ _ _ _ _) (by simp) (.inr ⟨bq, 0, by omega, rfl, ResIn.one (Bq.cells rfl) (ReIn.mono (fun b (h : _ ≤ b) => by omega) t1 ht1)⟩), hS, E⟩
end Go.Proofs
namespace Go.Proofs
open Go Go.Eng
set_option maxRecDepth 100000
theorem mkRe_c (w0 : World) (v : Value) (l : List Int) (hl : IntsAt w0 v l) : Ret Try.prog 8 #[v] w0 fun r w => ∃ t vs, r = .agg vs.toArray ∧ allRe (genP 8) t ∧ t.size ≤ 31 ∧ ReIn (fun b => w0.heap.size ≤ b) w t vs ∧ Ext w0 w := by
 obtain ⟨a, c, rfl⟩ := SlAt.form hl
 simp only [List.length_map] at hl ⊢
 refine Ret_of Try.func8 rfl Try.ntmps8 (Nat.le_of_ble_eq_true rfl) ?_
 have E : Chg none1 w0 w0 := Chg.refl _ _
 refine Wp_seq_region ?_
 refine s_alloc (c := #[(I6 0), (.slice none 0 0), (.slice none 0 0), (I6 0), (I6 0), (.bool false)]) (by decide) zer33 rfl ?_
 intro br wr Nr
 have Fr := Nr.ge E
 replace E := E.ext Nr.ext
 have Br := Nr.blk
 refine WpL_nil (Wp_seq_region ?_)
 refine qM (.slice a l.length c) rfl ?_
 refine qV (r_build (ps := [(0, (.slice a l.length c))]) (v := (.agg #[(.slice a l.length c)])) rfl (by kernel_rfl)) ?_
 refine s_box (v := (.agg #[(.slice a l.length c)])) (c := #[(.slice a l.length c)]) (by decide) rfl rfl ?_
 intro bs ws Ns
 have Fs := Ns.ge E
 have Os_br := Ns.lt Br
 replace Br := Ns.keep Br
 replace E := E.ext Ns.ext
 have Bs := Ns.blk
 have hne : br < bs := by omega
 have hz1 := Br.lt
 have hz2 := E.size
 refine WpL_enter rfl rfl (by decide) (r_callF (vs := [(P6 bs 0), (I6 4), (I6 8)]) Try.func35 nm35 bd35 rfl) (gen_c wr bs 8 (by omega) (by have := Ns.eq; omega) 4 (by decide) ws l Ns.ext ⟨a, c, Bs, hl.ext Nr.ext⟩) ?_
 rintro _ w9 ⟨t, us, l', rfl, hg, hs, ht, hS, C9⟩
 replace Br := C9.keep (by omega) Br
 replace E := E.step C9 (by intro x hx hm; omega)
 obtain ⟨sa, sc, aa, ac, rfl, _, _, _⟩ := ht.form
 refine s_storeAgg (b := br) (o := 0) (c' := (R6 t sa sc aa ac)) rfl rfl (by simp [Value.oneCell']) siz33 rfl Br (by first | (simp; done) | exact Nat.le_of_ble_eq_true rfl) rfl ?_
 intro w1 S1
 replace ht := ReIn.chg S1.chg (fun x hx hm => by have hx' := hx; have hm' : x = br := hm; omega) t ht
 replace E := S1.step E (by first | exact Or.inl (by omega) | exact Or.inr rfl | exact Or.inr (by assumption) | exact Or.inr (by simp) | exact Or.inr (by omega) | exact Or.inr (by dsimp only; omega))
 replace Br := S1.blk
 refine WpL_nil (Wp_ret ?_)
 refine fin_agg Try.results8 (vs := [(.int .i64 t.kind), (.slice sa t.set.length sc), (.slice aa t.args.length ac), (.int .i64 t.mn), (.int .i64 t.mx), (.bool t.neg)]) (b := br) rfl agg33 siz33 rfl (Br.cells rfl) ?_
 exact ⟨t, _, rfl, hg, by omega, ReIn.mono (fun b (h : _ ≤ b) => by omega) t ht, E⟩
def textArr : Array Value := #[.int .i64 97, .int .i64 98, .int .i64 99, .int .i64 97, .int .i64 98, .int .i64 122, .int .i64 0, .int .i64 233, .int .i64 8364, .int .i64 1114111]
theorem text_tab : ∀ i, i < 10 → ∃ r, textArr[i]? = some (.int .i64 r) ∧ runeB r = true := by
  intro i h
  match i, h with
  | 0, _ => exact ⟨97, rfl, by decide⟩
  | 1, _ => exact ⟨98, rfl, by decide⟩
  | 2, _ => exact ⟨99, rfl, by decide⟩
  | 3, _ => exact ⟨97, rfl, by decide⟩
  | 4, _ => exact ⟨98, rfl, by decide⟩
  | 5, _ => exact ⟨122, rfl, by decide⟩
  | 6, _ => exact ⟨0, rfl, by decide⟩
  | 7, _ => exact ⟨233, rfl, by decide⟩
  | 8, _ => exact ⟨8364, rfl, by decide⟩
  | 9, _ => exact ⟨1114111, rfl, by decide⟩
theorem r_min2 {P : Program} {σ : Env} {w : World} {dst : Option Tmp} {ty : TypeId} {pos : String} {af : Array Edge} {g : Option (Nat × Bool)} {tys : Array TypeId} {x y : Operand} {k : IntKind} {a b c : Int} (hx : ev σ x = .int k a) (hy : ev σ y = .int k b) (hc : min a b = c) :
  (execOp (ev σ) ⟨dst, .call ⟨.builtin .min, #[x, y], tys⟩, ty, pos, af, g⟩).run P w = .ok (.value (.int k c)) w := by
 subst hc
 have : (if b < a then b else a) = min a b := by split <;> omega
 simp [execOp, resolve, invoke, builtin, Builtin.min_, Builtin.min2, hx, hy, this]
set_option maxHeartbeats 1000000 in
theorem text_o (w0 : World) (v : Value) (l : List Int) (hl : IntsAt w0 v l) : Ret Try.prog 9 #[v] w0 fun r w => ∃ (a : Option Addr) (c : Nat) (text : List Int), r = .slice a text.length c ∧ w.ownsRow w0.heap.size 3 1 (.slice a text.length c) text.length (text.map intV).flatten ∧ text.length ≤ 10 ∧ (∀ x ∈ text, runeB x = true) ∧ Ext w0 w := by
 obtain ⟨a, c, rfl⟩ := SlAt.form hl
 have hlen : l.length ≤ 9223372036854775807 := by simpa using SlAt.le hl
 have hcap := SlAt.cap hl
 simp only [List.length_map] at hl hcap ⊢
 obtain ⟨m, hm⟩ : ∃ m, m = min l.length 10 := ⟨_, rfl⟩
 obtain ⟨base, hbase⟩ : ∃ base, base = w0.heap.size := ⟨_, rfl⟩
 refine Ret_of Try.func9 rfl Try.ntmps9 (Nat.le_of_ble_eq_true rfl) ?_
 have E : Chg none1 w0 w0 := Chg.refl _ _
 refine Wp_seq_region ?_
 refine qA (.slice none 0 0) rfl ?_
 refine WpL_nil (Wp_seq_region ?_)
 refine qA (.slice none 0 0) rfl ?_
 refine WpL_nil (Wp_seq (Wp_seq_region ?_))
 refine qM (.slice a l.length c) rfl ?_
 refine qM (.slice a l.length c) rfl ?_
 refine qV (r_lenSlice (ad := a) (n := l.length) (cap := c) Try.underlying22 rfl) ?_
 refine qV (r_min2 (a := (l.length : Int)) (b := 10) (c := (m : Int)) rfl rfl (by omega)) ?_
 obtain ⟨sl, hsl⟩ : ∃ a' : Option Addr, (if c = 0 then a else Option.map (fun q : Addr => q.add (0 * 1)) a) = a' := ⟨_, rfl⟩
 refine qV (r_sliceHi (a := a) (len := l.length) (cap := c) (hi := m) (l := (m : Int)) Try.underlying22 siz3 rfl rfl (by omega) (by omega) hsl) ?_
 refine qV (r_lenSlice (ad := sl) (n := m) (cap := c) Try.underlying22 rfl) ?_
 refine qM (I6 0) rfl ?_
 refine WpL_nil (Wp_block ?_)
 have hcut := SlAt.cut (lo := 0) (hi := m) hl (by omega) (by omega) hsl rfl rfl
 simp only [Nat.sub_zero, List.drop_zero] at hcut
 have hcut2 : IntsAt w0 (.slice sl m c) (l.take m) := by unfold IntsAt; rw [List.map_take]; exact hcut
 refine Wp_loop (fun nn_ σ W1 => ∃ (k : Nat) (la : Option Addr) (lc : Nat) (ts : List Int), (∃ jj_, σ = upds jj_ [(10, (.slice sl m c)), (11, (I6 (m : Int))), (12, (I6 (k : Int))), (3, (.slice la k lc))]) ∧ Chg none1 w0 W1 ∧ (k ≤ m) ∧ (W1.ownsRow base 3 1 (.slice la k lc) k (ts.map intV).flatten) ∧ (ts.length = k ∧ ∀ x ∈ ts, runeB x = true) ∧ (base ≤ W1.heap.size) ∧ nn_ = m - k) (n := m - 0) ?_ ?_
 ·exact ⟨0, none, 0, [], Fits.out ⟨rfl, rfl, rfl, rfl, trivial⟩, E, Nat.zero_le _, World.ownsRow_nil _ _ _ _, ⟨rfl, by simp⟩, (by omega), rfl⟩
 ·clear E
  rintro _ _ W1 ⟨k, la, lc, ts, ⟨j1, rfl⟩, E, hk, hown, hts, hbs, rfl⟩
  refine Wp_seq_region ?_
  refine qV (r_lss (k := .i64) (a := (k : Int)) (b := (m : Int)) rfl rfl) ?_
  refine WpL_nil (Wp_seq ?_)
  refine Wp_cond (b := decide (((k : Int) : Int) < (m : Int))) rfl (fun hlt => ?_) (fun hlt => ?_)
  ·have khlt := hlt
   replace hlt := of_decide_eq_true hlt
   obtain ⟨x, hx⟩ := get_of_lt (l := l.take m) (i := k) (by simp; omega)
   obtain ⟨b, o, rfl, hcl⟩ := ints_cells hcut2 (by omega)
   refine Wp_skip (thn_normal (Wp_seq (Wp_block (Wp_seq_region ?_))))
   refine qV (r_indexSlice (b := b) (o := o) (len := m) (cap := c) (i := k) (o' := o + k) rfl rfl rfl Try.underlying22 siz3 (by omega) (by omega)) ?_
   refine qV (r_load (v := (I6 x)) rfl flat3 (E.cell (fun f => f) (hcl k x hx))) ?_
   have hx10 : 0 ≤ x % 10 ∧ x % 10 < 10 := by omega
   refine qA (I6 x) rfl ?_
   refine WpL_nil (Wp_region ?_)
   refine qM (.slice la k lc) rfl ?_
   refine s_buildSlice (ps := [(0, (I6 97)), (1, (I6 98)), (2, (I6 99)), (3, (I6 97)), (4, (I6 98)), (5, (I6 122)), (6, (I6 0)), (7, (I6 233)), (8, (I6 8364)), (9, (I6 1114111))]) (c := #[(I6 97), (I6 98), (I6 99), (I6 97), (I6 98), (I6 122), (I6 0), (I6 233), (I6 8364), (I6 1114111)]) (by decide) rfl Try.underlying22 siz3 zer3 (by decide) (by decide) (by kernel_rfl) ?_
   intro bq wq Nq
   have Fq := Nq.ge E
   replace hown := own_ext hown Nq.ext
   replace hbs := Nat.le_trans hbs Nq.ext.size
   replace E := E.ext Nq.ext
   have Bq := Nq.blk
   refine qM (I6 x) rfl ?_
   refine WpL_enter rfl rfl (by decide) (r_callF (vs := [(I6 x), (I6 10)]) Try.func36 nm36 bd36 rfl) (below_c x 10 (by decide) (by decide) _) ?_
   rintro _ _ ⟨rfl, rfl⟩
   obtain ⟨r, hr, hrb⟩ := text_tab (x % 10).toNat (by omega)
   refine qV (r_indexSlice (b := bq) (o := 0) (len := 10) (cap := 10) (i := (x % 10).toNat) (o' := 0 + ((x % 10).toNat)) rfl rfl (by omega) Try.underlying22 siz3 (by omega) (by omega)) ?_
   refine qV (r_load (v := (I6 r)) rfl flat3 (Bq.cell (by rw [Nat.zero_add]; exact hr))) ?_
   refine s_buildSlice (ps := [(0, (I6 r))]) (c := #[(I6 r)]) (by decide) rfl Try.underlying22 siz3 zer3 (by decide) (by decide) (by kernel_rfl) ?_
   intro b3 w3 N3
   have F3 := N3.ge E
   have O3_bq := N3.lt Bq
   replace Bq := N3.keep Bq
   replace hown := own_ext hown N3.ext
   replace hbs := Nat.le_trans hbs N3.ext.size
   replace E := E.ext N3.ext
   have B3 := N3.blk
   refine s_append (base := base) (n := k) (m := 1) (xs := (ts.map intV).flatten) (news := [(I6 r)]) (size := 1) (bytes := 8) (v := (.slice la k lc)) (by decide) Try.underlying22 siz3 byt3 zer3 rfl (by decide) rfl hown rfl (rfl) (B3.cells rfl) (by simp [Value.oneCell']) (by unfold maxLen; omega) (by omega) (hbs) ?_
   intro v9 w29 Ov9 Cv9 Dv9
   replace E := E.step Cv9 (fun x hx h => absurd (hown.lt x h).1 (by omega))
   obtain ⟨la2, lc2, rfl⟩ := own_form Ov9
   refine qA (.slice la2 (k + 1) lc2) rfl ?_
   refine WpL_nil (inB_normal (thn_normal (Wp_region ?_)))
   refine qV (r_add (k := .i64) (a := (k : Int)) (b := 1) (c := (k : Int) + 1) rfl rfl (wI64 (by omega))) ?_
   refine qM (I6 ((k : Int) + 1)) rfl ?_
   refine WpL_nil (thn_normal ?_)
   exact ⟨m - (k + 1), by omega, k + 1, la2, lc2, ts ++ [r], Fits.out ⟨rfl, rfl, rfl, rfl, trivial⟩, E, (by omega), (by simpa [intV] using Ov9), ⟨by simp [hts.1], by intro y hy; simp at hy; rcases hy with h | h; exact hts.2 y h; subst h; exact hrb⟩, Nat.le_trans hbs Cv9.size, rfl⟩
  ·have khlt := hlt
   replace hlt := of_decide_eq_false hlt
   obtain ⟨rfl, htr⟩ := hts
   refine Wp_exit (thn_exit (thn_exit (inB_here (thn_normal (Wp_seq_region ?_)))))
   refine qM (.slice la ts.length lc) rfl ?_
   refine qA (.slice la ts.length lc) rfl ?_
   refine WpL_nil (Wp_ret ?_)
   refine fin_tmp Try.results9 (v := (.slice la ts.length lc)) rfl ?_
   exact ⟨la, lc, ts, rfl, by rw [← hbase]; exact hown, by omega, htr, E⟩
end Go.Proofs
namespace Go.Proofs
open Go Go.Eng
set_option maxRecDepth 100000
mutual
def usesB (ks : List Int) : Re → Bool
  | .mk k _ args _ _ _ => ks.contains k || usesBs ks args
def usesBs (ks : List Int) : List Re → Bool
  | [] => false
  | t :: ts => usesB ks t || usesBs ks ts
end
def useF (ks : List Int) : Unit → Re → Bool × Unit := fun _ t => (!ks.contains t.kind, ())
mutual
theorem walk_use (ks : List Int) : ∀ (t : Re), (walkF (useF ks) t ()).1 = !usesB ks t
  | .mk k set args mn mx ng => by
    have h := walks_use ks args
    rw [walkF_eq]
    split
    · rename_i hk
      have hk : ks.contains k = false := by simpa only [useF, Re.kind, Bool.not_eq_true'] using hk
      show (walkFs (useF ks) args ()).1 = _
      rw [h]
      simp only [usesB, hk, Bool.false_or]
    · rename_i hk
      have hk : ks.contains k = true := by
        cases hc : ks.contains k with
        | true => rfl
        | false => exact absurd (show (useF ks () (.mk k set args mn mx ng)).1 = true by simp only [useF, Re.kind, hc, Bool.not_false]) hk
      simp only [usesB, hk, Bool.true_or, Bool.not_true]
theorem walks_use (ks : List Int) : ∀ (ts : List Re), (walkFs (useF ks) ts ()).1 = !usesBs ks ts
  | [] => rfl
  | t :: ts => by
    have h1 := walk_use ks t
    have h := walks_use ks ts
    rw [walkFs_cons]
    split
    · rename_i hk
      rw [hk] at h1
      have hu : usesB ks t = false := by simpa using h1.symm
      show (walkFs (useF ks) ts ()).1 = _
      rw [h]
      simp only [usesBs, hu, Bool.false_or]
    · rename_i hk
      have hu : usesB ks t = true := by
        cases hc : usesB ks t with
        | true => rfl
        | false => rw [hc] at h1; exact absurd h1 hk
      simp only [usesBs, hu, Bool.true_or, Bool.not_true]
end
theorem uses1_c (w0 : World) (t : Re) (vs : List Value) (ks : List Int) (v : Value) (b : Nat) (ht : ReAt w0 t vs) (hB : Blk w0 b #[v] 22) (hks : IntsAt w0 v ks) :
  Ret Try.prog 90 #[.agg vs.toArray, .pointer (some ⟨b, 0, none⟩)] w0 fun r w => r = .bool (!ks.contains t.kind) ∧ Ext w0 w := by
 obtain ⟨sa, sc, aa, ac, rfl, _, _, _⟩ := ht.form
 refine Ret_of Try.func90 rfl Try.ntmps90 (Nat.le_of_ble_eq_true rfl) ?_
 have E : Chg none1 w0 w0 := Chg.refl _ _
 refine Wp_seq_region ?_
 refine s_box (v := (.agg (R6 t sa sc aa ac))) (c := (R6 t sa sc aa ac)) (by decide) rfl rfl ?_
 intro b1 w1 N1
 have F1 := N1.ge E
 have O1_b := N1.lt hB
 replace hB := N1.keep hB
 replace E := E.ext N1.ext
 have B1 := N1.blk
 refine qA (.bool false) rfl ?_
 refine WpL_nil (Wp_seq_region ?_)
 refine qV (r_load (v := v) rfl flat22 (hB.cell rfl)) ?_
 refine qF b1 0 0 rfl Try.underlying33 rfl siz3 rfl ?_
 refine qV (r_load (v := (I6 t.kind)) rfl flat3 (B1.cell rfl)) ?_
 refine WpL_enter rfl rfl (by decide) (r_callF (vs := [v, (I6 t.kind)]) Try.func91 nm91 bd91 rfl) (hasi_c _ v t.kind ks (hks.ext E)) ?_
 rintro _ w9 ⟨rfl, X9⟩
 replace hB := X9.keep hB
 replace B1 := X9.keep B1
 replace E := E.ext X9
 refine qV (r_not (b := ks.contains t.kind) rfl) ?_
 refine qA (.bool (!(ks.contains t.kind))) rfl ?_
 refine WpL_nil (Wp_ret ?_)
 refine fin_tmp Try.results90 (v := (.bool (!(ks.contains t.kind)))) rfl ?_
 exact ⟨rfl, E⟩
set_option maxHeartbeats 1000000 in
theorem uses_c (w0 : World) (t : Re) (vs : List Value) (ks : List Int) (v : Value) (ht : ReAt w0 t vs) (hks : IntsAt w0 v ks) :
  Ret Try.prog 38 #[.agg vs.toArray, v] w0 fun r w => r = .bool (usesB ks t) ∧ Ext w0 w := by
 have ht0 := ht
 obtain ⟨sa, sc, aa, ac, rfl, _, _, _⟩ := ht.form
 obtain ⟨ka, kc, rfl⟩ := SlAt.form hks
 simp only [List.length_map] at hks ⊢
 refine Ret_of Try.func38 rfl Try.ntmps38 (Nat.le_of_ble_eq_true rfl) ?_
 have E : Chg none1 w0 w0 := Chg.refl _ _
 refine Wp_seq_region ?_
 refine s_box (v := (.agg (R6 t sa sc aa ac))) (c := (R6 t sa sc aa ac)) (by decide) rfl rfl ?_
 intro br wr Nr
 have Fr := Nr.ge E
 replace E := E.ext Nr.ext
 have Br := Nr.blk
 refine s_box (v := (.slice ka ks.length kc)) (c := #[(.slice ka ks.length kc)]) (by decide) rfl rfl ?_
 intro bp wp Np
 have Fp := Np.ge E
 have Op_br := Np.lt Br
 replace Br := Np.keep Br
 replace E := E.ext Np.ext
 have Bp := Np.blk
 refine qA (.bool false) rfl ?_
 refine WpL_nil (Wp_seq_region ?_)
 refine qV (r_loadAgg (vs := [(I6 t.kind), (.slice sa t.set.length sc), (.slice aa t.args.length ac), (I6 t.mn), (I6 t.mx), (.bool t.neg)]) rfl agg33 siz33 rfl (Br.cells rfl)) ?_
 refine qV (r_makeFunc (vs := []) (us := [(P6 bp 0)]) rfl rfl) ?_
 have hf : ∀ (s : Unit) (w : World) (t : Re) (vs : List Value), bp + 1 ≤ w.heap.size → Ext wp w → Blk w bp #[.slice ka ks.length kc] 22 → ReAt wp t vs → CallV Try.prog (.func (.func 90) #[] #[.pointer (some ⟨bp, 0, none⟩)]) #[.agg vs.toArray] w fun r w' => r = .bool (useF ks s t).1 ∧ Chg none1 w w' ∧ Blk w' bp #[.slice ka ks.length kc] 22 := fun s w t vs _ hE hI ht => CallV.mk (first := #[]) (cap := #[.pointer (some ⟨bp, 0, none⟩)]) Try.func90 nm90 bd90 rfl ((uses1_c w t vs ks (.slice ka ks.length kc) bp (ReAt.ext hE t ht) hI ((hks.ext E).ext hE)).mono fun r w' h => ⟨h.1, h.2, Ext.keep h.2 hI⟩)
 refine WpL_enter rfl rfl (by decide) (r_callF (vs := [(.agg (R6 t sa sc aa ac)), (.func (.func 90) #[] #[(P6 bp 0)])]) Try.func89 nm89 bd89 rfl) ((walk_c (useF ks) (fun _ w => Blk w bp #[.slice ka ks.length kc] 22) none1 (bp + 1) _ wp (fun b hb => hb.elim) (fun s w w' hI e => e.keep hI) hf t.size t (Nat.le_refl _) () _ _ (by have := Bp.lt; omega) (Ext.refl _) Bp (ReAt.ext E t ht0)).mono (R' := fun r w => r = .bool (walkF (useF ks) t ()).1 ∧ Ext wp w) (fun r w h => ⟨h.1, h.2.1⟩)) ?_
 rintro _ w9 ⟨rfl, X9⟩
 replace Br := X9.keep Br
 replace Bp := X9.keep Bp
 replace E := E.ext X9
 refine qV (r_not (b := (walkF (useF ks) t ()).1) rfl) ?_
 refine qA (.bool (!((walkF (useF ks) t ()).1))) rfl ?_
 refine WpL_nil (Wp_ret ?_)
 refine fin_tmp Try.results38 (v := (.bool (!((walkF (useF ks) t ()).1)))) rfl ?_
 exact ⟨bool_eq (by rw [walk_use]; simp), E⟩
structure NodeI (t : Re) : Prop where
 k : 0 ≤ t.kind ∧ t.kind ≤ 10
 two : t.kind = 3 ∨ t.kind = 4 ∨ t.kind = 7 → 2 ≤ t.args.length
 one : t.kind = 5 ∨ t.kind = 6 ∨ t.kind = 8 ∨ t.kind = 9 ∨ t.kind = 10 → t.args.length = 1
 rep : t.kind = 6 → 0 ≤ t.mn ∧ t.mn ≤ t.mx ∧ t.mx ≤ 8
 grp : t.kind = 9 → 0 ≤ t.mn ∧ t.mn ≤ 9
 sett : t.kind = 2 → t.set ≠ []
theorem node_inv {t : Re} (h : nodeE t = 0) : NodeI t := by
 unfold nodeE at h
 split at h
 ·cases h
 rename_i h1
 split at h
 ·cases h
 rename_i h2
 have h3 : formB t = true := by simpa using h2
 unfold formB at h3
 simp only [Bool.and_eq_true] at h3
 have h4 := h3.1.1.1.1
 unfold okB at h4
 refine ⟨by omega, fun hk => ?_, fun hk => ?_, fun hk => ?_, fun hk => ?_, fun hk => ?_⟩
 ·rw [if_pos hk] at h4
  have := of_decide_eq_true h4; omega
 ·rw [if_neg (by omega), if_pos hk] at h4
  have := of_decide_eq_true h4; omega
 ·rw [if_neg (by omega), if_pos hk] at h
  split at h
  ·cases h
  ·omega
 ·rw [if_neg (by omega), if_neg (by omega), if_pos hk] at h
  split at h
  ·cases h
  ·omega
 ·rw [if_pos hk] at h
  intro e
  rw [e] at h
  simp [checkE, checkL] at h
end Go.Proofs
namespace Go.Proofs
open Go Go.Eng
/-- What Check takes. -/
structure OkN (n : Nf) : Prop where
 st : n.states ≤ 500
 s0 : 0 ≤ n.start ∧ n.start < n.states
 el : n.ends.length ≤ 500
 pl : n.eps.length ≤ 20000
 xl : n.edges.length ≤ 20000
 en : ∀ s ∈ n.ends, 0 ≤ s ∧ s < n.states
 ep : ∀ p ∈ n.eps, (0 ≤ p.1 ∧ p.1 < n.states) ∧ 0 ≤ p.2 ∧ p.2 < n.states
 ed : ∀ e ∈ n.edges, (0 ≤ e.1 ∧ e.1 < n.states) ∧ (0 ≤ e.2.1 ∧ e.2.1 < n.states) ∧ checkE e.2.2 = 0
theorem OkN.rev {n : Nf} (h : OkN n) {e : Int} (he : n.ends = [e]) : OkN (n.rev e) := by
 refine ⟨h.st, h.en e (by rw [he]; exact List.mem_singleton_self e), by simp [Nf.rev], by simp [Nf.rev]; exact h.pl, by simp [Nf.rev]; exact h.xl, fun s hs => ?_, fun p hp => ?_, fun x hx => ?_⟩
 ·rw [List.mem_singleton.1 hs]; exact h.s0
 ·obtain ⟨q, hq, rfl⟩ := List.mem_map.1 hp
  have := h.ep q hq
  exact ⟨this.2, this.1⟩
 ·obtain ⟨q, hq, rfl⟩ := List.mem_map.1 hx
  have := h.ed q hq
  exact ⟨this.2.1, this.1, this.2.2⟩
abbrev ZOk : List Sp → Prop := fun z => checkE z = 0
theorem node_chk {t : Re} (h : nodeE t = 0) (hk : t.kind = 2) : checkE t.set = 0 := by
 unfold nodeE at h
 split at h
 ·cases h
 split at h
 ·cases h
 split at h
 ·assumption
 ·rename_i hc
  exact Classical.byContradiction hc
mutual
theorem frag_all : ∀ t : Re, okRe t → FragOk ZOk (tmO t)
  | .mk k z a mn mx g, h => by
    rw [tmO]
    exact node_frag (fun hk => node_chk (okRe_node h) hk) (frag_list a (okRe_args h))
theorem frag_list : ∀ l : List Re, okRes l → ∀ f ∈ tmL l, FragOk ZOk f
  | [], _, f, hf => by cases hf
  | x :: l, h, f, hf => by
    rw [tmL] at hf
    simp only [okRes] at h
    rcases List.mem_cons.1 hf with rfl | h1
    · exact frag_all x h.1
    · exact frag_list l h.2 f h1
end
theorem len_count {α : Type} (key : α → Int) (m : Nat) : ∀ (n : Nat) (l : List α), (∀ x ∈ l, 0 ≤ key x ∧ key x < n) → (∀ q : Nat, l.countP (fun x => key x == (q : Int)) ≤ m) → l.length ≤ n * m
  | 0, l, h, _ => by
    cases l with
    | nil => simp
    | cons x l => have := h x List.mem_cons_self; omega
  | n + 1, l, h, hq => by
    have h1 := len_count key m n (l.filter fun x => !(key x == (n : Int))) (fun x hx => by
      rw [List.mem_filter] at hx
      have := h x hx.1
      have h2 : ¬ key x = (n : Int) := by simpa using hx.2
      omega) (fun q => Nat.le_trans (by rw [List.countP_filter]; exact List.countP_mono_left fun x _ hx => by simp only [Bool.and_eq_true] at hx; exact hx.1) (hq q))
    have h2 := hq n
    have h3 := List.length_eq_countP_add_countP (fun x => key x == (n : Int)) (l := l)
    rw [List.countP_eq_length_filter] at h2 h3
    rw [List.countP_eq_length_filter] at h3
    rw [Nat.add_mul, Nat.one_mul]
    have h4 : (l.filter fun x => decide ¬ (key x == (n : Int)) = true) = l.filter fun x => !(key x == (n : Int)) := by
      congr 1; funext x; by_cases e : key x = (n : Int) <;> simp [e]
    rw [h4] at h3
    omega
/-- The automaton that is built. -/
def nfT (s : ThS) (a b : Nat) : Nf := ⟨(s.n : Int), (a : Int), [(b : Int)], s.eps, s.edges⟩
theorem thom_ok {t : Re} (h : okRe t) {s : ThS} {a b : Nat} (e : tmO t ⟨0, [], []⟩ = some (s, a, b)) : OkN (nfT s a b) ∧ Shp ZOk s := by
 have h0 : Shp ZOk ⟨0, [], []⟩ := ⟨by simp, fun p hp => (by cases hp), fun p hp => (by cases hp), fun q => by simp [edN, epN]⟩
 obtain ⟨k1, k2, k3, k4, k5, k6⟩ := frag_all t h _ _ _ _ h0 e
 have hs := k1.sh
 have hn := hs.nl
 simp only at k2 k3
 have l1 := len_count (fun p : Int × Int => p.1) 2 s.n s.eps (fun p hp => (hs.ep p hp).1) (fun q => (hs.dg q).2.1)
 have l2 := len_count (fun p : Ed => p.1) 1 s.n s.edges (fun p hp => (hs.ed p hp).1) (fun q => (hs.dg q).1)
 refine ⟨⟨?_, ?_, ?_, ?_, ?_, fun x hx => ?_, hs.ep, hs.ed⟩, hs⟩
 ·show ((s.n : Nat) : Int) ≤ 500; omega
 ·show 0 ≤ ((a : Nat) : Int) ∧ ((a : Nat) : Int) < ((s.n : Nat) : Int); omega
 ·simp [nfT]
 ·show s.eps.length ≤ 20000; omega
 ·show s.edges.length ≤ 20000; omega
 ·rw [List.mem_singleton.1 hx]
  show 0 ≤ ((b : Nat) : Int) ∧ ((b : Nat) : Int) < ((s.n : Nat) : Int); omega
end Go.Proofs
namespace Go.Proofs
open Go Go.Eng
set_option maxRecDepth 100000
abbrev TSp : Nat := 90
theorem own_low {w : World} {base base' e size n : Nat} {v : Value} {xs : List Value} (h : w.ownsRow base e size v n xs) (hb : base' ≤ base) : w.ownsRow base' e size v n xs := by
 obtain ⟨h1, h2⟩ := h
 refine ⟨h1, h2.imp id ?_⟩
 rintro ⟨g, cap, cur, a, b, r⟩
 exact ⟨g, cap, cur, a, Nat.le_trans hb b, r⟩
theorem own_le {w : World} {base e size n c : Nat} {a : Option Addr} {xs : List Value} (h : w.ownsRow base e size (.slice a n c) n xs) : n ≤ c := by
 rcases h.2 with ⟨h1, h2⟩ | ⟨g, cap, cur, hv, _, _, hnc, _⟩
 ·omega
 ·simp only [Value.slice.injEq] at hv
  obtain ⟨_, _, rfl⟩ := hv
  exact hnc
/-- A list of spans that lies in memory of one's own. -/
def OwnS (w : World) (base : Nat) (r : Value) (l : List Sp) : Prop := (∃ a c, r = .slice a l.length c) ∧ w.ownsRow base TSp 2 r l.length (l.map spanV).flatten
theorem OwnS.at {w : World} {base : Nat} {r : Value} {l : List Sp} (h : OwnS w base r l) : SpansAt w r l :=
 own_slat h.2 (by intro x hx; simp only [List.mem_map] at hx; obtain ⟨p, _, rfl⟩ := hx; rfl) (by simp) (by decide)
theorem OwnS.ext {w w' : World} {base : Nat} {r : Value} {l : List Sp} (h : OwnS w base r l) (e : Ext w w') : OwnS w' base r l := ⟨h.1, own_ext h.2 e⟩
set_option maxHeartbeats 1000000 in
theorem clones_c (w0 : World) (v : Value) (l : List Sp) (h : SpansAt w0 v l) (hl : l.length ≤ 8796093022208) :
  Ret Try.prog 40 #[v] w0 fun r w => OwnS w w0.heap.size r l ∧ Ext w0 w := by
 obtain ⟨a, c, rfl⟩ := SlAt.form h
 simp only [List.length_map] at h ⊢
 obtain ⟨base, hbase⟩ : ∃ base, base = w0.heap.size := ⟨_, rfl⟩
 rw [← hbase]
 refine Ret_of Try.func40 rfl Try.ntmps40 (Nat.le_of_ble_eq_true rfl) ?_
 have E : Chg none1 w0 w0 := Chg.refl _ _
 refine Wp_seq_region ?_
 refine qA (.slice none 0 0) rfl ?_
 refine WpL_nil (Wp_seq (Wp_seq_region ?_))
 refine qM (.slice a l.length c) rfl ?_
 refine WpL_val (v := (.bool a.isNone)) rfl rfl (by decide) (r_eqlNil Try.underlying30 rfl rfl) ?_
 refine WpL_nil ?_
 refine Wp_cond (b := a.isNone) rfl (fun hn => ?_) (fun hn => ?_)
 ·have khn := hn
  have hl0 : l.length = 0 := by rcases Nat.eq_zero_or_pos l.length with h0 | h0; exact h0; obtain ⟨b, o, rfl, _⟩ := spans_cells h h0; simp at hn
  have hl1 : l = [] := List.eq_nil_of_length_eq_zero hl0
  refine Wp_seq_region ?_
  refine qA (.slice none 0 0) rfl ?_
  refine WpL_nil (Wp_ret (thn_ret ?_))
  refine fin_tmp Try.results40 (v := (.slice none 0 0)) rfl ?_
  subst hl1; exact ⟨⟨⟨none, 0, rfl⟩, World.ownsRow_nil _ _ _ _⟩, E⟩
 ·have khn := hn
  rcases Bool.eq_false_or_eq_true (decide (l.length = 0)) with hz | hz
  ·have khz := hz
   replace khz := of_decide_eq_true khz
   refine Wp_skip (thn_normal (Wp_seq_region ?_))
   refine s_build0 (by decide) Try.underlying30 siz90 ?_
   intro bq wq Nq
   have Fq := Nq.ge E
   replace E := E.ext Nq.ext
   have Bq := Nq.blk
   refine qM (.slice a l.length c) rfl ?_
   refine qV (r_append0 Try.underlying30 siz90 (a' := a) (c' := c) rfl (Nat.le_refl _) (by show Value.slice a l.length c = _; rw [khz])) ?_
   refine qA (.slice (some ⟨bq, 0, none⟩) 0 0) rfl ?_
   refine WpL_nil (Wp_ret ?_)
   refine fin_tmp Try.results40 (v := (.slice (some ⟨bq, 0, none⟩) 0 0)) rfl ?_
   have hl1 : l = [] := List.eq_nil_of_length_eq_zero khz
   subst hl1; exact ⟨⟨⟨_, 0, rfl⟩, own_empty (base := base) (size := 2) Bq (by omega)⟩, E⟩
  ·have khz := hz
   replace khz := of_decide_eq_false khz
   obtain ⟨b, o, rfl, hcl⟩ := spans_cells h (by omega)
   refine Wp_skip (thn_normal (Wp_seq_region ?_))
   refine s_build0 (by decide) Try.underlying30 siz90 ?_
   intro bq wq Nq
   have Fq := Nq.ge E
   replace E := E.ext Nq.ext
   have Bq := Nq.blk
   refine qM (.slice (some ⟨b, o, none⟩) l.length c) rfl ?_
   have hown := own_empty (base := base) (size := 2) Bq (by omega)
   have hbs : base ≤ wq.heap.size := by have := Nq.ext.size; omega
   refine s_append (base := base) (n := 0) (m := l.length) (xs := []) (news := (l.map spanV).flatten) (size := 2) (bytes := 16) (v := (.slice (some ⟨bq, 0, none⟩) 0 0)) (by decide) Try.underlying30 siz90 byt90 zer90 rfl (by decide) rfl hown rfl (spans_six l) ((spans_flat hcl).ext Nq.ext) (spans_one l) (by unfold maxLen; omega) (by omega) (hbs) ?_
   intro v9 w29 Ov9 Cv9 Dv9
   replace E := E.step Cv9 (fun x hx h => absurd (hown.lt x h).1 (by omega))
   obtain ⟨la, lc, rfl⟩ := own_form Ov9
   refine qA (.slice la (0 + l.length) lc) rfl ?_
   refine WpL_nil (Wp_ret ?_)
   refine fin_tmp Try.results40 (v := (.slice la (0 + l.length) lc)) rfl ?_
   simp only [Nat.zero_add, List.nil_append] at Ov9 ⊢
   exact ⟨⟨⟨la, lc, rfl⟩, Ov9⟩, E⟩
theorem s_appendZ {P : Program} {N : Nat} {Q : Post} {σ : Env} {w : World} {K : Env → World → Prop} {ops : Array Oper} {rest : List Oper} {d : Nat} {ty : TypeId} {pos : String} {af : Array Edge} {t ti : TypeId} {s x : Operand} {ik : IntKind}
    {base e size bytes n : Nat} {z : Value} (hN : d < N) (hu : P.underlying t = some (.slice e)) (hti : P.underlying ti = some (.int ik)) (hsz : Siz P e size) (hby : Byt P e bytes) (hz : Zer P e z) (hzs : z.cells.size = size) (h0 : 0 < size)
    (hs : ev σ s = .slice none 0 0) (hx : ev σ x = .int .i64 ((n : Nat) : Int)) (hn : 0 < n) (hbytes : n * bytes ≤ 140737488355328 ∧ n ≤ 8796093022208) (hbase : base ≤ w.heap.size)
    (k : ∀ cc w', Ext w w' → w'.ownsRow base e size (.slice (some ⟨w.heap.size, 0, none⟩) 0 cc) 0 [] → n ≤ cc → WpL P N ops K Q rest (upd σ d (.slice (some ⟨w.heap.size, 0, none⟩) n cc)) w') :
    WpL P N ops K Q (⟨some d, .call ⟨.builtin .append, #[s, x], #[t, ti]⟩, ty, pos, af, none⟩ :: rest) σ w := by
  unfold Siz at hsz; unfold Byt at hby; unfold Zer at hz
  cases hi : P.info? e with
  | none => rw [hi] at hsz; simp at hsz
  | some i =>
  rw [hi] at hsz hby hz
  simp at hsz hby hz
  subst hsz; subst hby
  have hge := grownCap_ge w n 0 e
  have hcm := grownCap_le_maxLen w n 0 e (by simp only [maxLen]; omega)
  refine WpL_val (v := .slice (some ⟨w.heap.size, 0, none⟩) n (grownCap w n 0 e)) (w' := w.drew.alloc (.cells (Builtin.zeroCells z.cells n ++ Builtin.zeroCells z.cells (grownCap w n 0 e - n)) e)) rfl rfl hN ?_ (k _ _ ?_ ?_ hge)
  · have hn0 : n ≠ 0 := by omega
    have h1 : IntKind.i64.wrap ((n : Nat) : Int) = n := wI64 (by omega)
    have h2 : ¬ ((n : Int) < 0) := by omega
    have h3 : ¬ ((281474976710656 : Int) < (n : Int) * (i.bytes : Int)) := by
      have : ((n * i.bytes : Nat) : Int) = (n : Int) * (i.bytes : Int) := by simp
      omega
    have h4 : ¬ (9223372036854775807 < (n : Int)) := by omega
    have h5 : ¬ (281474976710656 < Builtin.nextslicecap n 0 * i.bytes) := by rw [nextslicecap_zero hn]; omega
    have h6 : ¬ (n * i.size = 0) := fun h => by rcases Nat.mul_eq_zero.1 h with h | h <;> omega
    have h7 : i.size ≠ 0 := by omega
    simp [execOp, resolve, invoke, builtin, hs, hx, Builtin.append_, run_underlying hu, run_underlying hti, sizeOf, typeInfo, zeroValue, hi, hz, hn0, h1, h2, h3, h4, h5, h7, asInt, asIntOf, Question.forced, run_firstCells_none, newRow, grownCap]
    exact fun h => absurd h h6
  · exact ⟨rfl, rfl, rfl, Nat.le_succ _, by simp, fun b hb _ => by first | exact heap_alloc_old w.drew _ b hb | exact heap_alloc_old w.drew _ hb⟩
  · refine ⟨by simp, .inr ⟨w.heap.size, _, _, rfl, hbase, heap_alloc_new w.drew _, Nat.zero_le _, hcm, ?_, by simp⟩⟩
    simp only [Array.size_append, size_zeroCells, hzs, ← Nat.add_mul]
    congr 1
    omega
theorem r_capSlice {P : Program} {σ : Env} {w : World} {dst : Option Tmp} {ty : TypeId} {pos : String} {af : Array Edge} {g : Option (Nat × Bool)} {t e : TypeId} {x : Operand} {ad : Option Addr} {n cap : Nat} (hu : P.underlying t = some (.slice e)) (hx : ev σ x = .slice ad n cap) :
  (execOp (ev σ) ⟨dst, .call ⟨.builtin .cap, #[x], #[t]⟩, ty, pos, af, g⟩).run P w = .ok (.value (.int .i64 cap)) w := by
 simp only [execOp, resolve, List.map_toArray, List.map_cons, List.map_nil, hx]
 simp [invoke, builtin, Builtin.cap_, run_underlying hu, goInt]
end Go.Proofs
namespace Go.Eng
open Go
section
variable {κ ν : Type} [DecidableEq κ]
def getM : List (κ × ν) → κ → Option ν
  | [], _ => none
  | p :: r, k => if p.1 = k then some p.2 else getM r k
def putM : List (κ × ν) → κ → ν → List (κ × ν)
  | [], k, v => [(k, v)]
  | p :: r, k, v => if p.1 = k then (k, v) :: r else p :: putM r k v
def findM (eV : ν → Value) : List (κ × ν) → κ → Nat → Option (Nat × Value)
  | [], _, _ => none
  | p :: r, k, i => if p.1 = k then some (i, eV p.2) else findM eV r k (i + 1)
theorem findM_none {eV : ν → Value} : ∀ {es : List (κ × ν)} {k : κ} {i : Nat}, getM es k = none → findM eV es k i = none
  | [], _, _, _ => rfl
  | p :: r, k, i, h => by
    unfold getM at h
    unfold findM
    split at h
    · cases h
    · rename_i hne; rw [if_neg hne]; exact findM_none h
theorem findM_some {eV : ν → Value} : ∀ {es : List (κ × ν)} {k : κ} {i : Nat} {v : ν}, getM es k = some v → ∃ j, findM eV es k i = some (i + j, eV v) ∧ es[j]? = some (k, v) ∧ ∀ u, putM es k u = es.set j (k, u)
  | [], _, _, _, h => by cases h
  | p :: r, k, i, v, h => by
    unfold getM at h
    unfold findM
    split at h
    · rename_i he
      cases h
      rw [if_pos he]
      exact ⟨0, rfl, by obtain ⟨a, b⟩ := p; simp at he; subst he; rfl, fun u => by unfold putM; rw [if_pos he]; rfl⟩
    · rename_i hne
      rw [if_neg hne]
      obtain ⟨j, h1, h2, h3⟩ := findM_some (eV := eV) (i := i + 1) h
      exact ⟨j + 1, by rw [h1]; congr 2; omega, by simpa using h2, fun u => by unfold putM; rw [if_neg hne, h3 u]; rfl⟩
theorem putM_none : ∀ {es : List (κ × ν)} {k : κ} (v : ν), getM es k = none → putM es k v = es ++ [(k, v)]
  | [], _, _, _ => rfl
  | p :: r, k, v, h => by
    unfold getM at h
    unfold putM
    split at h
    · cases h
    · rename_i hne; rw [if_neg hne, putM_none v h]; rfl
theorem getM_put (es : List (κ × ν)) (k : κ) (v : ν) (q : κ) : getM (putM es k v) q = if k = q then some v else getM es q := by
  induction es with
  | nil => unfold putM getM getM; rfl
  | cons p r ih =>
    unfold putM
    split
    · rename_i he
      unfold getM
      by_cases h : k = q
      · rw [if_pos h, if_pos h]
      · rw [if_neg h, if_neg h, if_neg (by rw [he]; exact h)]
    · rename_i hne
      unfold getM
      rw [ih]
      by_cases h : k = q
      · rw [if_pos h, if_neg (by rw [← h]; exact hne), if_pos h]
      · rw [if_neg h, if_neg h]
end
/-- A map in memory: its entries in the order in which the keys came. -/
def ents {κ ν : Type} (ek : κ → Value) (eV : ν → Value) (es : List (κ × ν)) : List MapEntry := es.zipIdx.map fun p => { key := ek p.1.1, val := eV p.1.2, born := p.2 }
def MapAt {κ ν : Type} (w : World) (b : Nat) (ek : κ → Value) (eV : ν → Value) (es : List (κ × ν)) : Prop := w.heap[b]? = some (.map (ents ek eV es).toArray es.length)
theorem ents_get {κ ν : Type} {ek : κ → Value} {eV : ν → Value} {es : List (κ × ν)} {i : Nat} : (ents ek eV es)[i]? = (es[i]?).map fun p => { key := ek p.1, val := eV p.2, born := i } := by
 unfold ents; rw [List.getElem?_map, List.getElem?_zipIdx]; cases es[i]? <;> simp
theorem ents_kv {κ ν : Type} (ek : κ → Value) (eV : ν → Value) (es : List (κ × ν)) : (ents ek eV es).map (fun e => (e.key, e.val)) = es.map fun p => (ek p.1, eV p.2) := by
 apply List.ext_getElem?
 intro i
 rw [List.getElem?_map, ents_get, List.getElem?_map]
 cases es[i]? <;> rfl
section
variable {κ ν : Type} {ek : κ → Value} {eV : ν → Value} {es : List (κ × ν)} {w w' : World} {b : Nat}
theorem MapAt.lt (h : MapAt w b ek eV es) : b < w.heap.size := (Array.getElem?_eq_some_iff.1 h).1
theorem Chg.keepM {M : Nat → Prop} (h : Chg M w w') (hm : ¬ M b) (hb : MapAt w b ek eV es) : MapAt w' b ek eV es := (h.blk b hb.lt hm).trans hb
theorem Ext.keepM (h : Ext w w') (hb : MapAt w b ek eV es) : MapAt w' b ek eV es := Chg.keepM h (fun f => f) hb
theorem New.keepM {n : Nat} {c : Array Value} {t : TypeId} (h : New w w' n c t) (hb : MapAt w b ek eV es) : MapAt w' b ek eV es := h.ext.keepM hb
theorem New.ltM {n : Nat} {c : Array Value} {t : TypeId} (h : New w w' n c t) (hb : MapAt w b ek eV es) : b < n := by rw [h.eq]; exact hb.lt
end
/-- A new object that is no row of cells. -/
structure NewO (w w' : World) (b : Nat) (o : Obj) : Prop where
 at' : w'.heap[b]? = some o
 ext : Ext w w'
 eq : b = w.heap.size
 size : w'.heap.size = w.heap.size + 1
theorem NewO.mk' (w : World) (o : Obj) : NewO w { w with heap := w.heap.push o } w.heap.size o :=
 ⟨by simp, ⟨rfl, rfl, rfl, Nat.le_refl _, by simp, fun x hx _ => by simp [Array.getElem?_push, Nat.ne_of_lt hx]⟩, rfl, by simp⟩
section
variable {w w' : World} {b : Nat} {o : Obj}
theorem NewO.keep (h : NewO w w' b o) {b' : Nat} {c' : Array Value} {t' : TypeId} (hb : Blk w b' c' t') : Blk w' b' c' t' := h.ext.keep hb
theorem NewO.lt (h : NewO w w' b o) {b' : Nat} {c' : Array Value} {t' : TypeId} (hb : Blk w b' c' t') : b' < b := by rw [h.eq]; exact hb.lt
theorem NewO.ge (h : NewO w w' b o) {w0 : World} {M : Nat → Prop} (e : Chg M w0 w) : w0.heap.size ≤ b := by rw [h.eq]; exact e.size
variable {κ ν : Type} {ek : κ → Value} {eV : ν → Value} {es : List (κ × ν)} {b' : Nat}
theorem NewO.keepM (h : NewO w w' b o) (hb : MapAt w b' ek eV es) : MapAt w' b' ek eV es := h.ext.keepM hb
theorem NewO.ltM (h : NewO w w' b o) (hb : MapAt w b' ek eV es) : b' < b := by rw [h.eq]; exact hb.lt
end
/-- An object that is no row of cells is replaced. -/
structure PutO (w w' : World) (b : Nat) (o : Obj) : Prop where
 at' : w'.heap[b]? = some o
 chg : Chg (fun x => x = b) w w'
 size : w'.heap.size = w.heap.size
theorem PutO.mk' {w : World} {b : Nat} (o : Obj) (hb : b < w.heap.size) : PutO w { w with heap := w.heap.setIfInBounds b o } b o :=
 ⟨by simp [hb], ⟨rfl, rfl, rfl, Nat.le_refl _, by simp, fun x hx hne => by simp [Array.getElem?_setIfInBounds, Ne.symm hne]⟩, by simp⟩
section
variable {w w' : World} {b : Nat} {o : Obj}
theorem PutO.keep (h : PutO w w' b o) {b' : Nat} {c' : Array Value} {t' : TypeId} (hne : b' ≠ b) (hb : Blk w b' c' t') : Blk w' b' c' t' := h.chg.keep hne hb
theorem PutO.step (h : PutO w w' b o) {w0 : World} {M : Nat → Prop} (e : Chg M w0 w) (hb : w0.heap.size ≤ b ∨ M b) : Chg M w0 w' :=
 e.step h.chg fun x hx hm => by subst hm; rcases hb with hb | hb; omega; exact hb
variable {κ ν : Type} {ek : κ → Value} {eV : ν → Value} {es : List (κ × ν)} {b' : Nat}
theorem PutO.keepM (h : PutO w w' b o) (hne : b' ≠ b) (hb : MapAt w b' ek eV es) : MapAt w' b' ek eV es := h.chg.keepM hne hb
end
/-- What is asked of a key's type. -/
structure KeyOk (P : Program) (kt : TypeId) {κ : Type} [DecidableEq κ] (ek : κ → Value) : Prop where
 check : ∀ (b : Bool) (w : World) (k : κ), (Instr.checkKey b 10000 kt (ek k)).run P w = .ok () w
 find : ∀ (ν : Type) (w : World) (k : κ) (es : List (κ × ν)) (eV : ν → Value) (L : List MapEntry), L.map (fun e => (e.key, e.val)) = es.map (fun p => (ek p.1, eV p.2)) → (Instr.findKey kt (ek k) L).run P w = .ok (findM eV es k 0) w
 same : ∀ k, Instr.sameBits 10000 (ek k) (ek k) = true
def kInt (x : Int) : Value := .int .i64 x
theorem keyInt {P : Program} {kt : TypeId} (hu : P.underlying kt = some (.int .i64)) : KeyOk P kt kInt where
  check := fun b w k => by rw [show (10000 : Nat) = 9999 + 1 from rfl, Instr.checkKey]; simp only [Sem.run_bind, run_underlying hu, Result.andThen_ok, kInt]; rfl
  find := fun ν w k es eV L hL => by
    have key : ∀ (L : List MapEntry) (es : List (Int × ν)) (i : Nat), L.map (fun e => (e.key, e.val)) = es.map (fun p => (kInt p.1, eV p.2)) → Instr.findNow (.int .i64) (kInt k) L i = some (findM eV es k i) := by
      intro L
      induction L with
      | nil =>
        intro es i h
        cases es with
        | nil => rfl
        | cons _ _ => simp at h
      | cons e L ih =>
        intro es i h
        cases es with
        | nil => simp at h
        | cons p es =>
          simp only [List.map_cons, List.cons.injEq, Prod.mk.injEq] at h
          obtain ⟨⟨h1, h2⟩, h3⟩ := h
          unfold Instr.findNow findM
          rw [h1]
          simp only [kInt, Instr.sameNow, if_true]
          by_cases hk : p.1 = k
          · rw [if_pos hk, hk]; simp [h2]
          · have : (k == p.1) = false := by simp; exact fun h => hk h.symm
            rw [if_neg hk, this]
            exact ih es (i + 1) h3
    simp [Instr.findKey, run_underlying hu, key L es 0 hL]
  same := fun k => by unfold kInt; rw [Instr.sameBits]; simp
section
variable {P : Program} {N : Nat} {Q : Post} {σ : Env} {w : World} {K : Env → World → Prop} {ops : Array Oper} {rest : List Oper} {d : Nat} {ty : TypeId} {pos : String} {af : Array Edge} {g : Option (Nat × Bool)} {dst : Option Tmp} {t kt et : TypeId} {m x y : Operand} {b : Nat}
variable {κ ν : Type} [DecidableEq κ] {ek : κ → Value} {eV : ν → Value} {es : List (κ × ν)} {k : κ} {v : ν}
omit [DecidableEq κ] in
theorem s_makeMap (ek : κ → Value) (eV : ν → Value) (hN : d < N) (kk : ∀ b w', NewO w w' b (.map #[] 0) → MapAt w' b ek eV [] → WpL P N ops K Q rest (upd σ d (.map (some b))) w') :
  WpL P N ops K Q (⟨some d, .makeMap t none, ty, pos, af, none⟩ :: rest) σ w := by
 refine WpL_val (v := .map (some w.heap.size)) (w' := { w with heap := w.heap.push (.map #[] 0) }) rfl rfl hN ?_ (kk _ _ (NewO.mk' w _) (NewO.mk' w _).at')
 simp [execOp, Instr.makeMap]
theorem run_mapUpdate (hu : P.underlying t = some (.map kt et)) (hk : KeyOk P kt ek) (hm : MapAt w b ek eV es) :
    (Instr.mapUpdate t (.map (some b)) (ek k) (eV v)).run P w = .ok () { w with heap := w.heap.setIfInBounds b (.map (ents ek eV (putM es k v)).toArray (putM es k v).length) } := by
  have hlt := hm.lt
  unfold MapAt at hm
  have hg : (getObj b).run P w = .ok (.map (ents ek eV es).toArray es.length) w := by simp [getObj, Sem.run, hm]
  have hs : ∀ o, (setObj b o).run P w = .ok () { w with heap := w.heap.setIfInBounds b o } := fun o => by simp [setObj, Sem.run, hm]
  have hf := hk.find ν w k es eV (ents ek eV es) (ents_kv ek eV es)
  simp only [Instr.mapUpdate, Sem.run_bind, run_underlying hu, Result.andThen_ok, hg, hk.check, hf]
  cases hgm : getM es k with
  | none =>
    rw [findM_none hgm]
    simp only [hs]
    congr 4
    · apply Array.ext'
      rw [putM_none v hgm]
      simp [ents, List.zipIdx_append]
    · rw [putM_none v hgm]; simp
  | some u =>
    obtain ⟨j, h1, h2, h3⟩ := findM_some (eV := eV) (i := 0) hgm
    rw [Nat.zero_add] at h1
    rw [h1]
    have hj := lt_of_get h2
    have he : (ents ek eV es).toArray[j]? = some { key := ek k, val := eV u, born := j } := by rw [List.getElem?_toArray, ents_get, h2]; rfl
    simp only [he, Option.map_some, Option.getD_some, Instr.keyThatStays, hk.same, if_true, Sem.run_bind, Sem.run_pure, Result.andThen_ok, hs]
    congr 4
    · apply Array.ext'
      rw [h3 v]
      apply List.ext_getElem?
      intro i
      rw [List.getElem?_toArray.symm.trans (by rfl)] <;> simp only [Array.getElem?_toList, Array.getElem?_modify, List.getElem?_toArray, ents_get, List.getElem?_set]
      by_cases hi : j = i
      · subst hi; simp [h2, hj]
      · simp [hi]
    · rw [h3 v]; simp
theorem s_mapUpdate (hu : P.underlying t = some (.map kt et)) (hk : KeyOk P kt ek) (hm : MapAt w b ek eV es) (h1 : ev σ m = .map (some b)) (h2 : ev σ x = ek k) (h3 : ev σ y = eV v)
  (kk : ∀ w', PutO w w' b (.map (ents ek eV (putM es k v)).toArray (putM es k v).length) → MapAt w' b ek eV (putM es k v) → WpL P N ops K Q rest σ w') :
  WpL P N ops K Q (⟨none, .mapUpdate t m x y, ty, pos, af, none⟩ :: rest) σ w := by
 have hr := run_mapUpdate (k := k) (v := v) hu hk hm
 refine WpL_skip rfl rfl (w' := { w with heap := w.heap.setIfInBounds b (.map (ents ek eV (putM es k v)).toArray (putM es k v).length) }) ?_ (kk _ (PutO.mk' _ hm.lt) (PutO.mk' _ hm.lt).at')
 simp [execOp, h1, h2, h3, hr]
theorem run_lookup (c : Bool) {z : ν} (hu : P.underlying t = some (.map kt et)) (hk : KeyOk P kt ek) (hz : Zer P et (eV z)) (hm : MapAt w b ek eV es) :
    (Instr.lookup t (.map (some b)) (ek k) c).run P w = .ok (if c then .tuple #[eV ((getM es k).getD z), .bool (getM es k).isSome] else eV ((getM es k).getD z)) w := by
  unfold MapAt at hm
  have hg : (getObj b).run P w = .ok (.map (ents ek eV es).toArray es.length) w := by simp [getObj, Sem.run, hm]
  have hf := hk.find ν w k es eV (ents ek eV es) (ents_kv ek eV es)
  simp only [Instr.lookup, Sem.run_bind, run_underlying hu, Result.andThen_ok, hg, Sem.run_pure, hk.check, hf]
  cases hgm : getM es k with
  | none => rw [findM_none hgm]; simp [hz.run]
  | some u =>
    obtain ⟨j, h1, _, _⟩ := findM_some (eV := eV) (i := 0) hgm
    rw [h1]; simp
theorem r_lookup {z : ν} (hu : P.underlying t = some (.map kt et)) (hk : KeyOk P kt ek) (hz : Zer P et (eV z)) (hm : MapAt w b ek eV es) (h1 : ev σ m = .map (some b)) (h2 : ev σ x = ek k) :
  (execOp (ev σ) ⟨dst, .lookup t m x false, ty, pos, af, g⟩).run P w = .ok (.value (eV ((getM es k).getD z))) w := by
 simp [execOp, h1, h2, run_lookup false hu hk hz hm]
end
def IterAt (w : World) (it b n : Nat) (seen : List Nat) : Prop := w.heap[it]? = some (.mapIter (some b) n seen.toArray n)
end Go.Eng
namespace Go.Proofs
open Go Go.Eng Go.Sort
section
variable {P : Program} {N : Nat} {Q : Post} {σ : Env} {w : World} {K : Env → World → Prop} {ops : Array Oper} {rest : List Oper} {d : Nat} {ty : TypeId} {pos : String} {af : Array Edge} {t : TypeId} {x y : Operand}
theorem s_make {e bytes n : Nat} {z : Value} (hN : d < N) (hu : P.underlying t = some (.slice e)) (hsz : Siz P e 1) (hby : Byt P e bytes) (hz : Zer P e z) (hz1 : z.cells = #[z]) (hx : ev σ x = .int .i64 ((n : Nat) : Int)) (hy : ev σ y = .int .i64 ((n : Nat) : Int)) (hb : n * bytes ≤ 140737488355328) (hn : n ≤ 140737488355328)
    (k : ∀ b w', New w w' b (List.replicate n z).toArray e → WpL P N ops K Q rest (upd σ d (.slice (some ⟨b, 0, none⟩) n n)) w') : WpL P N ops K Q (⟨some d, .makeSlice t x y, ty, pos, af, none⟩ :: rest) σ w := by
  refine WpL_val (v := .slice (some ⟨w.heap.size, 0, none⟩) n n) (w' := { w with heap := w.heap.push (.cells (List.replicate n z).toArray e (0, 0)) }) rfl rfl hN ?_ (k _ _ (New.mk' w _ e))
  unfold Siz at hsz; unfold Byt at hby; unfold Zer at hz
  cases hi : P.info? e with
  | none => rw [hi] at hsz; simp at hsz
  | some i =>
  rw [hi] at hsz hby hz
  simp at hsz hby hz
  have h := run_make (P := P) w t e i _ hu hi hz .i64 .i64 ((n : Nat) : Int) ((n : Nat) : Int) (by omega) (Int.le_refl _) (by rw [hby]; have : ((bytes : Nat) : Int) * ((n : Nat) : Int) = (((n * bytes : Nat) : Nat) : Int) := (by rw [Int.natCast_mul, Int.mul_comm]); rw [this]; omega) (by omega)
  have hc : madeCells z.cells (n * i.size) = (List.replicate n z).toArray := by
    rw [hsz, Nat.mul_one, hz1]
    apply Array.ext'
    simp only [madeCells]
    apply List.ext_getElem?
    intro j
    simp only [Array.toList_map, List.getElem?_map, List.getElem?_replicate]
    rcases Nat.lt_or_ge j n with hj | hj
    · have h1 : (Array.range n).toList[j]? = some j := by simp [hj]
      rw [h1, if_pos hj]
      simp [Nat.mod_one]
    · have h1 : (Array.range n).toList[j]? = none := by simp; omega
      rw [h1, if_neg (by omega)]; rfl
  simp only [Int.toNat_natCast, hc] at h
  simp only [execOp, hx, hy, Sem.run_bind, h, Result.andThen_ok]
  rfl
end
def appF (base e size n : Nat) (xs : List Value) (old : Value) (hs : Nat) : Fct := fun v w => (∃ a c, v = .slice a n c) ∧ w.ownsRow base e size v n xs ∧ ∀ k, v.ownBlock = some k → old.ownBlock = some k ∨ hs ≤ k
theorem appF_ext (base e size n : Nat) (xs : List Value) (old : Value) (hs : Nat) : ∀ v w w', Ext w w' → appF base e size n xs old hs v w → appF base e size n xs old hs v w' := by
 rintro v w w' e ⟨h1, h2, h3⟩
 exact ⟨h1, own_ext h2 e, h3⟩
/-- The append to a slice of one's own, in a region that draws its order. -/
theorem DoesT_append {P : Program} {N : Nat} {σ : Env} {w : World} {dst : Option Tmp} {ty : TypeId} {pos : String} {af : Array Edge} {g : Option (Nat × Bool)} {M : Nat → Prop} {t : TypeId} {s x : Operand} {base e size bytes n m c bx ox hs : Nat} {z v : Value} {xs news : List Value} (hu : P.underlying t = some (.slice e)) (hsz : Siz P e size) (hby : Byt P e bytes) (hz : Zer P e z) (hzs : z.cells.size = size) (h0 : 0 < size)
    (he : ev σ s = v) (hown : w.ownsRow base e size v n xs) (hx : ev σ x = .slice (some ⟨bx, ox, none⟩) m c) (hl : news.length = m * size) (hnews : CellsAt w bx ox news) (h1 : ∀ u ∈ news, u.oneCell' = true)
    (h63 : n + m ≤ maxLen) (hbytes : (n + m) * bytes ≤ 140737488355328) (hbase : base ≤ w.heap.size) (hM : ∀ y, v.ownBlock = some y → M y) (hhs : hs ≤ w.heap.size) :
    DoesT M P N ⟨dst, .call ⟨.builtin .append, #[s, x], #[t, t]⟩, ty, pos, af, g⟩ (appF base e size (n + m) (xs ++ news) v hs) σ w := by
  unfold Siz at hsz; unfold Byt at hby; unfold Zer at hz
  cases hi : P.info? e with
  | none => rw [hi] at hsz; simp at hsz
  | some i =>
  rw [hi] at hsz hby hz
  simp at hsz hby hz
  have hcells : ∀ j u, news[j]? = some u → w.cell? ((⟨bx, ox, none⟩ : Addr).add j) = some u := fun j u hj => by rw [Addr.add_lit]; exact hnews j u hj
  obtain ⟨v', w', hr, h2, h3, _⟩ := run_append_own (P := P) w base t ty e i z size bytes hu hi hz hsz hby hzs h0 v n xs hown ⟨bx, ox, none⟩ m c news hl hcells h1 h63 hbytes hbase
  have hC : Chg (fun x => v.ownBlock = some x) w w' := ⟨h3.os, h3.tape, h3.output, append_drawn (P := P) hu hi hz hsz hby hown hl hcells h1 h63 hbytes hr, h3.size, fun b hb hn => h3.block b hb (fun h => hn h.symm)⟩
  have hW := append_where (P := P) hu hi hz hsz hby hzs h0 hown hl hcells h1 h63 hbytes hr
  refine DoesT_val (v := v') (w' := w') (by simp [execOp, resolve, invoke, builtin, he, hx, hr]) (hC.mono fun y _ hy => hM y hy) ⟨own_form h2, h2, fun k hk => ?_⟩
  rcases hW k hk with h4 | h4
  · exact .inl h4
  · exact .inr (Nat.le_trans hhs h4)
/-- A slice of one new element, whose cells are known. -/
def litF (e : Nat) (c : Array Value) (hs : Nat) : Fct := fun v w => ∃ b, v = .slice (some ⟨b, 0, none⟩) 1 1 ∧ Blk w b c e ∧ hs ≤ b
theorem litF_ext (e : Nat) (c : Array Value) (hs : Nat) : ∀ v w w', Ext w w' → litF e c hs v w → litF e c hs v w' := by
 rintro v w w' x ⟨b, h1, h2, h3⟩
 exact ⟨b, h1, Ext.keep x h2, h3⟩
theorem DoesT_lit {P : Program} {N : Nat} {σ : Env} {w : World} {dst : Option Tmp} {ty : TypeId} {pos : String} {af : Array Edge} {g : Option (Nat × Bool)} {M : Nat → Prop} {t e n hs : Nat} {x : Operand} {v z : Value} {c : Array Value} (hu : P.underlying t = some (.slice e)) (hsz : Siz P e n) (hz : Zer P e z) (hx : ev σ x = v)
  (hl : ¬ (1 * n > 2 ^ 24)) (h0 : 1 * n ≠ 0) (hc : Instr.fill (fun i => some (i * n, n)) ((Array.range (1 * n)).map (z.cells[· % z.cells.size]!)) [(0, v)] = some c) (hhs : hs ≤ w.heap.size) :
  DoesT M P N ⟨dst, .buildSlice t 1 #[(0, x)], ty, pos, af, g⟩ (litF e c hs) σ w := by
 have hn := New.mk' w c e
 exact DoesT_val (run_buildSlice (parts := [(0, x)]) (ps := [(0, v)]) (by simp only [List.map, hx]) hu hsz hz hl h0 hc) (Ext.chg hn.ext) ⟨_, rfl, hn.blk, hhs⟩
structure LSt (To e sz : Nat) (w : World) (base : Nat) (vo : Value) (vs : List Value) (ns : List (Nat × List Value)) : Prop where
 o : w.ownsRow base To 1 vo ns.length vs
 len : vs.length = ns.length
 inn : ∀ (i : Nat) v p, vs[i]? = some v → ns[i]? = some p → w.ownsRow base e sz v p.1 p.2
 apo : ∀ (i : Nat) v b, vs[i]? = some v → v.ownBlock = some b → vo.ownBlock ≠ some b
theorem LSt.chg {M : Nat → Prop} {To e sz base : Nat} {w w' : World} {vo : Value} {vs : List Value} {ns : List (Nat × List Value)} (h : LSt To e sz w base vo vs ns) (c : Chg M w w') (hM : ∀ b, base ≤ b → b < w.heap.size → ¬ M b) : LSt To e sz w' base vo vs ns :=
 ⟨own_chg h.o c fun k hk => hM k (h.o.lt k hk).1 (h.o.lt k hk).2, h.len, fun i v l hv hl => own_chg (h.inn i v l hv hl) c fun k hk => hM k ((h.inn i v l hv hl).lt k hk).1 ((h.inn i v l hv hl).lt k hk).2, h.apo⟩
theorem LSt.ext {To e sz base : Nat} {w w' : World} {vo : Value} {vs : List Value} {ns : List (Nat × List Value)} (h : LSt To e sz w base vo vs ns) (c : Ext w w') : LSt To e sz w' base vo vs ns := h.chg c fun _ _ _ f => f
theorem LSt.on {To e sz base n : Nat} {w : World} {vo : Value} {vs : List Value} {ns : List (Nat × List Value)} (h : LSt To e sz w base vo vs ns) (hn : n = ns.length) : w.ownsRow base To 1 vo n vs := by subst hn; exact h.o
theorem own_writeG {w w' : World} {base e size n cap g i : Nat} {xs : List Value} {cur : Array Value} {v : Value} (h : w.ownsRow base e size (.slice (some ⟨g, 0, none⟩) n cap) n xs) (hB : Blk w g cur e) (hi : i < n * size) (hB' : Blk w' g (cur.setIfInBounds i v) e) : w'.ownsRow base e size (.slice (some ⟨g, 0, none⟩) n cap) n (xs.set i v) := by
 rcases h.2 with ⟨h1, _⟩ | ⟨g', cap', cur', hv, hbg, hg, hnc, hcm, hcs, htake⟩
 ·simp at h1
 ·simp only [Value.slice.injEq, Option.some.injEq, Addr.mk.injEq, and_true] at hv
  obtain ⟨rfl, _, rfl⟩ := hv
  unfold Blk at hB hB'
  rw [hB] at hg
  simp only [Option.some.injEq, Obj.cells.injEq, and_true] at hg
  obtain ⟨rfl, _⟩ := hg
  refine ⟨by simpa using h.1, .inr ⟨g, cap, _, rfl, hbg, hB', hnc, hcm, by simpa using hcs, ?_⟩⟩
  rw [← htake, Array.toList_setIfInBounds, List.take_set]
theorem own_blkG {w : World} {base e size n cap g : Nat} {xs : List Value} (h : w.ownsRow base e size (.slice (some ⟨g, 0, none⟩) n cap) n xs) : ∃ cur, Blk w g cur e ∧ n * size ≤ cur.size := by
 rcases h.2 with ⟨h1, _⟩ | ⟨g', cap', cur', hv, hbg, hg, hnc, hcm, hcs, htake⟩
 ·simp at h1
 ·simp only [Value.slice.injEq, Option.some.injEq, Addr.mk.injEq, and_true] at hv
  obtain ⟨rfl, _, rfl⟩ := hv
  exact ⟨cur', hg, by rw [hcs]; exact Nat.mul_le_mul_right _ hnc⟩
/-- The same, and no two members share a block: a member may grow. -/
structure GSt (To e sz : Nat) (w : World) (base : Nat) (vo : Value) (vs : List Value) (ns : List (Nat × List Value)) : Prop where
 l : LSt To e sz w base vo vs ns
 ap : ∀ (i j : Nat) v u b, vs[i]? = some v → vs[j]? = some u → v.ownBlock = some b → u.ownBlock = some b → i = j
theorem GSt.chg {M : Nat → Prop} {To e sz base : Nat} {w w' : World} {vo : Value} {vs : List Value} {ns : List (Nat × List Value)} (h : GSt To e sz w base vo vs ns) (c : Chg M w w') (hM : ∀ b, base ≤ b → b < w.heap.size → ¬ M b) : GSt To e sz w' base vo vs ns := ⟨h.l.chg c hM, h.ap⟩
theorem GSt.ext {To e sz base : Nat} {w w' : World} {vo : Value} {vs : List Value} {ns : List (Nat × List Value)} (h : GSt To e sz w base vo vs ns) (c : Ext w w') : GSt To e sz w' base vo vs ns := ⟨h.l.ext c, h.ap⟩
theorem GSt.made {To e sz base b n : Nat} {w : World} (hB : Blk w b (List.replicate n (Value.slice none 0 0)).toArray To) (hb : base ≤ b) (hn : n ≤ 9223372036854775807) (hbw : base ≤ b) : GSt To e sz w base (.slice (some ⟨b, 0, none⟩) n n) (List.replicate n (.slice none 0 0)) (List.replicate n (0, [])) := by
 have hv : ∀ (i : Nat) v, (List.replicate n (Value.slice none 0 0))[i]? = some v → v = .slice none 0 0 := fun i v h => by
  have := List.mem_of_getElem? h
  exact (List.mem_replicate.1 this).2
 refine ⟨⟨?_, by simp, fun i v p h hp => ?_, fun i v b h h2 => ?_⟩, fun i j v u b h _ h2 => ?_⟩
 ·rw [List.length_replicate]
  exact ⟨by simp, .inr ⟨b, n, _, rfl, hb, hB, Nat.le_refl _, hn, by simp, by simp⟩⟩
 ·have hp2 := (List.mem_replicate.1 (List.mem_of_getElem? hp)).2
  subst hp2
  rw [hv i v h]
  exact World.ownsRow_nil _ _ _ _
 ·rw [hv i v h] at h2; cases h2
 ·rw [hv i v h] at h2; cases h2
/-- One member grows, and its new slice is stored in the outer one. -/
theorem GSt.grow {To e sz : Nat} {w w' w2 : World} {base g cap k n m m' : Nat} {v v' : Value} {vs : List Value} {ns : List (Nat × List Value)} {xs xs' : List Value} {cur : Array Value} (h : GSt To e sz w base (.slice (some ⟨g, 0, none⟩) n cap) vs ns) (hn : n = ns.length) (hv : vs[k]? = some v) (hp : ns[k]? = some (m, xs))
  (Ov : w'.ownsRow base e sz v' m' xs') (Cv : Chg (fun x => v.ownBlock = some x) w w') (Wv : ∀ k, v'.ownBlock = some k → v.ownBlock = some k ∨ w.heap.size ≤ k)
  (hB : Blk w' g cur To) (P2 : Put w' w2 g (cur.setIfInBounds k v') To) : GSt To e sz w2 base (.slice (some ⟨g, 0, none⟩) n cap) (vs.set k v') (ns.set k (m', xs')) := by
 have hkl := lt_of_get hv
 have hgv : v.ownBlock ≠ some g := fun e => h.l.apo k v g hv e rfl
 have hgl := (h.l.o.lt g rfl).2
 have hv'g : v'.ownBlock ≠ some g := fun e => by rcases Wv g e with h1 | h1; exact hgv h1; omega
 have ho1 : w'.ownsRow base To 1 (.slice (some ⟨g, 0, none⟩) n cap) ns.length vs := own_chg h.l.o Cv fun q hq => by cases hq; exact hgv
 rw [← hn] at ho1
 have ho2 := own_writeG ho1 hB (i := k) (by have := h.l.len; omega) P2.blk
 have hset : ∀ (i : Nat) u, (vs.set k v')[i]? = some u → (i = k ∧ u = v') ∨ (i ≠ k ∧ vs[i]? = some u) := by
  intro i u hu
  rw [List.getElem?_set] at hu
  split at hu
  ·rename_i he
   exact .inl ⟨he.symm, (Option.some.inj hu).symm⟩
  ·rename_i he
   exact .inr ⟨fun e => he e.symm, hu⟩
 have hsome : ∀ (i : Nat) u, vs[i]? = some u → ∃ q, ns[i]? = some q := fun i u hu => get_of_lt (by have := lt_of_get hu; have := h.l.len; omega)
 have hne : ∀ (i : Nat) u b, i ≠ k → vs[i]? = some u → u.ownBlock = some b → v.ownBlock ≠ some b ∧ v'.ownBlock ≠ some b ∧ b ≠ g := by
  intro i u b hi hu hb
  have h1 : v.ownBlock ≠ some b := fun e => hi (h.ap i k u v b hu hv hb e)
  refine ⟨h1, fun e => ?_, fun e => h.l.apo i u b hu hb (by rw [e]; rfl)⟩
  rcases Wv b e with h2 | h2
  ·exact h1 h2
  ·obtain ⟨q, hq⟩ := hsome i u hu
   have := ((h.l.inn i u q hu hq).lt b hb).2
   omega
 refine ⟨⟨by rw [List.length_set, ← hn]; exact ho2, by simp [h.l.len], ?_, ?_⟩, ?_⟩
 ·intro i u q hu hq
  rcases hset i u hu with ⟨rfl, rfl⟩ | ⟨h1, h2⟩
  ·rw [List.getElem?_set, if_pos rfl, if_pos (by have := h.l.len; omega)] at hq
   have hq' := Option.some.inj hq
   subst hq'
   exact own_chg Ov P2.chg fun b hb e => hv'g (e ▸ hb)
  ·rw [List.getElem?_set, if_neg (fun e => h1 e.symm)] at hq
   exact own_chg (own_chg (h.l.inn i u q h2 hq) Cv fun b hb => (hne i u b h1 h2 hb).1) P2.chg fun b hb e => (hne i u b h1 h2 hb).2.2 e
 ·intro i u b hu hb
  rcases hset i u hu with ⟨rfl, rfl⟩ | ⟨h1, h2⟩
  ·intro e; cases e; exact hv'g hb
  ·exact h.l.apo i u b h2 hb
 ·intro i j u z b hu hz hb hb'
  rcases hset i u hu with ⟨rfl, rfl⟩ | ⟨h1, h2⟩ <;> rcases hset j z hz with ⟨rfl, rfl⟩ | ⟨h3, h4⟩
  ·rfl
  ·exact absurd hb (hne j z b h3 h4 hb').2.1
  ·exact absurd hb' (hne i u b h1 h2 hb).2.1
  ·exact h.ap i j u z b h2 h4 hb hb'
end Go.Proofs
namespace Go.Proofs
open Go Go.Eng Go.Sort
set_option maxRecDepth 100000
abbrev TEd : Nat := 40
abbrev TPr : Nat := 41
def edRow (e : Ed) (u : Value) : List Value := [.int .i64 e.1, .int .i64 e.2.1, u]
def EdgesAt (w : World) (v : Value) (es : List Ed) : Prop := ∃ rows : List (List Value), SlAt w 3 v rows ∧ rows.length = es.length ∧ ∀ (i : Nat) e row, es[i]? = some e → rows[i]? = some row → ∃ u, row = edRow e u ∧ SpansAt w u e.2.2
theorem EdgesAt.ext {w w' : World} {v : Value} {es : List Ed} (h : EdgesAt w v es) (x : Ext w w') : EdgesAt w' v es := by
 obtain ⟨rows, h1, h2, h3⟩ := h
 exact ⟨rows, h1.ext x, h2, fun i e row he hr => let ⟨u, h4, h5⟩ := h3 i e row he hr; ⟨u, h4, h5.ext x⟩⟩
theorem edges_cells {w : World} {a : Option Addr} {n c : Nat} {es : List Ed} (h : EdgesAt w (.slice a n c) es) (hn : 0 < n) :
  ∃ b o, a = some ⟨b, o, none⟩ ∧ ∀ (i : Nat) e, es[i]? = some e → ∃ ra rc, CellsAt w b (o + i * 3) [.int .i64 e.1, .int .i64 e.2.1, .slice ra e.2.2.length rc] ∧ SpansAt w (.slice ra e.2.2.length rc) e.2.2 := by
 obtain ⟨rows, h1, h2, h3⟩ := h
 obtain ⟨b, o, ha, h4⟩ := SlAt.at h1 hn
 refine ⟨b, o, ha, fun i e he => ?_⟩
 obtain ⟨row, hr⟩ := get_of_lt (l := rows) (i := i) (by have := lt_of_get he; omega)
 obtain ⟨u, rfl, h5⟩ := h3 i e row he hr
 obtain ⟨ra, rc, rfl⟩ := SlAt.form h5
 rw [List.length_map] at h5
 exact ⟨ra, rc, by simpa [edRow] using h4 i _ hr, h5⟩
def NfAt (w : World) (n : Nf) (vs : List Value) : Prop := ∃ ea ec pa pc xa xc, vs = [.int .i64 n.states, .int .i64 n.start, .slice ea n.ends.length ec, .slice pa n.eps.length pc, .slice xa n.edges.length xc] ∧
 IntsAt w (.slice ea n.ends.length ec) n.ends ∧ SpansAt w (.slice pa n.eps.length pc) n.eps ∧ EdgesAt w (.slice xa n.edges.length xc) n.edges
theorem NfAt.ext {w w' : World} {n : Nf} {vs : List Value} (h : NfAt w n vs) (x : Ext w w') : NfAt w' n vs := by
 obtain ⟨ea, ec, pa, pc, xa, xc, h1, h2, h3, h4⟩ := h
 exact ⟨ea, ec, pa, pc, xa, xc, h1, h2.ext x, h3.ext x, h4.ext x⟩
def SucP (eps : List (Int × Int)) (n k : Nat) (to : List (List Int)) : Prop := to.length = n ∧ ∀ s : Nat, s < n → to[s]? = some (sucL (eps.take k) s)
theorem SucP.start (eps : List (Int × Int)) (n : Nat) : SucP eps n 0 (List.replicate n []) := by
 refine ⟨by simp, fun s hs => ?_⟩
 rw [List.getElem?_replicate, if_pos hs]; rfl
theorem SucP.add {eps : List (Int × Int)} {n k : Nat} {to : List (List Int)} (h : SucP eps n k to) {p : Int × Int} (hp : eps[k]? = some p) {a : Nat} (ha : p.1 = (a : Int)) {l : List Int} (hl : to[a]? = some l) : SucP eps n (k + 1) (to.set a (l ++ [p.2])) := by
 refine ⟨by rw [List.length_set]; exact h.1, fun s hs => ?_⟩
 have ht : eps.take (k + 1) = eps.take k ++ [p] := by rw [List.take_add_one, hp]; rfl
 have hal := lt_of_get hl
 rw [ht, sucL_snoc ha, List.getElem?_set]
 by_cases e : a = s
 ·subst e
  have := h.2 a hs
  rw [hl] at this
  rw [if_pos rfl, if_pos hal, if_pos rfl, Option.some.inj this]
 ·rw [if_neg e, if_neg (fun h => e h.symm)]
  exact h.2 s hs
theorem SucP.len {eps : List (Int × Int)} {n k : Nat} {to : List (List Int)} (h : SucP eps n k to) {s : Nat} {l : List Int} (hl : to[s]? = some l) : l.length ≤ eps.length := by
 have h1 := h.2 s (by rw [← h.1]; exact lt_of_get hl)
 rw [hl] at h1
 rw [Option.some.inj h1]
 exact Nat.le_trans (sucL_len _ _) (by rw [List.length_take]; exact Nat.min_le_right _ _)
theorem SucP.full {eps : List (Int × Int)} {n k : Nat} {to : List (List Int)} (h : SucP eps n k to) (hk : eps.length ≤ k) {s : Nat} {l : List Int} (hl : to[s]? = some l) (t : Int) : t ∈ l ↔ ((s : Int), t) ∈ eps := by
 have h1 := h.2 s (by rw [← h.1]; exact lt_of_get hl)
 rw [hl, List.take_of_length_le hk] at h1
 rw [Option.some.inj h1]
 exact sucL_mem
end Go.Proofs
namespace Go.Eng
open Go
def edgeB (l : List Oper) (t u : Nat) : Bool := match l[t]? with
  | some o => o.after.any fun e => Region.binds .any e && Nat.beq e.on u
  | none => false
def guardB (hd : List Bool) (o : Oper) : Bool := match o.guard with | some p => hd.getD p.1 false | none => true
/-- Each operation is of the head or of the tail, and one of the tail waits for the whole head or for another of the tail. -/
def tailPB (l : List Oper) (hd : List Bool) (ts : List Nat) : Bool :=
 (List.range l.length).all fun i => hd.getD i false || (ts.contains i && ((List.range l.length).all (fun u => !hd.getD u false || edgeB l i u) || ts.any fun p => !hd.getD p true && edgeB l i p))
def permB (ops : Array Oper) : List Nat → Array Bool → Bool
  | [], listed => (Region.ready .any ops listed).isEmpty
  | k :: ks, listed => decide (Region.ready .any ops listed = [k]) && permB ops ks (listed.setIfInBounds k true)
theorem wpAny_of_perm {P : Program} {ops : Array Oper} {Q' : Exit → Act → World → Prop} : ∀ (ks : List Nat) (listed : Array Bool) (a : Act) (w : World), permB ops ks listed = true → wpList P ops Q' (ks.filterMap fun k => ops[k]?) a w → wpAny P .any ops Q' ks.length listed a w
  | [], _, _, _, hB, h => ⟨by simpa [permB] using hB, h⟩
  | k :: ks, listed, a, w, hB, h => by
    simp only [permB, Bool.and_eq_true, decide_eq_true_eq] at hB
    refine ⟨fun h1 => (by rw [hB.1] at h1; cases h1), fun i hi => ?_⟩
    have hi0 := hi
    rw [hB.1] at hi
    have hik : i = k := by simpa using hi
    subst hik
    obtain ⟨_, o, h0, _⟩ := mem_ready.1 hi0
    have hw : wpOp P ops Q' i (wpList P ops Q' (ks.filterMap fun k => ops[k]?)) a w := by
      rw [List.filterMap_cons, h0] at h
      unfold wpOp; simp only [h0]; exact h
    exact wpOp_mono (fun a' w' h' => wpAny_of_perm ks _ a' w' hB.2 h') hw
/-- How many of the head are yet to come. -/
def leftH (hd : List Bool) (listed : List Bool) : Nat := ((hd.zip listed).filter fun p => p.1 && !p.2).length
theorem leftH_set : ∀ {hd listed : List Bool} {i : Nat}, hd[i]? = some true → listed[i]? = some false → leftH hd (listed.set i true) + 1 = leftH hd listed
  | [], _, _, h, _ => by simp at h
  | _ :: _, [], _, _, h => by simp at h
  | h :: hd, x :: listed, 0, h1, h2 => by
    simp at h1 h2
    subst h1; subst h2
    simp [leftH]
  | h :: hd, x :: listed, i + 1, h1, h2 => by
    have := leftH_set (hd := hd) (listed := listed) (i := i) (by simpa using h1) (by simpa using h2)
    simp only [leftH, List.set_cons_succ, List.zip_cons_cons, List.filter_cons] at this ⊢
    split
    · simp only [List.length_cons]; omega
    · exact this
theorem leftH_zero : ∀ {hd listed : List Bool}, hd.length = listed.length → leftH hd listed = 0 → (∀ (i : Nat), hd[i]? = some false → listed[i]? = some false) → listed = hd
  | [], [], _, _, _ => rfl
  | [], _ :: _, h, _, _ => by simp at h
  | _ :: _, [], h, _, _ => by simp at h
  | h :: hd, x :: listed, hl, h0, ht => by
    have e1 : leftH hd listed = 0 := by
      simp only [leftH, List.zip_cons_cons, List.filter_cons] at h0 ⊢
      split at h0
      · simp at h0
      · exact h0
    have e2 := leftH_zero (by simpa using hl) e1 fun i hi => by have := ht (i + 1) (by simpa using hi); simpa using this
    have e3 : x = h := by
      cases h with
      | false => have := ht 0 rfl; simpa using this
      | true =>
        cases x with
        | true => rfl
        | false => simp [leftH] at h0
    rw [e2, e3]
theorem leftH_pos : ∀ {hd listed : List Bool}, 0 < leftH hd listed → ∃ i : Nat, hd[i]? = some true ∧ listed[i]? = some false
  | [], _, h => by simp [leftH] at h
  | _ :: _, [], h => by simp [leftH] at h
  | h :: hd, x :: listed, hp => by
    simp only [leftH, List.zip_cons_cons, List.filter_cons] at hp
    split at hp
    · rename_i hc
      simp at hc
      exact ⟨0, by simp [hc.1], by simp [hc.2]⟩
    · obtain ⟨i, h1, h2⟩ := leftH_pos (hd := hd) (listed := listed) hp
      exact ⟨i + 1, by simpa using h1, by simpa using h2⟩
theorem getD_arr {listed : Array Bool} {i : Nat} {b d : Bool} (h : listed.toList[i]? = some b) : listed.getD i d = b := by
 have : listed[i]? = some b := by simpa using h
 simp [Array.getD_eq_getD_getElem?, this]
section
variable {P : Program} {N : Nat} {σ : Env} {w : World} {dst : Option Tmp} {ty : TypeId} {pos : String} {af : Array Edge} {g : Option (Nat × Bool)} {t : TypeId} {x y z u : Operand} {a b c d : Value} {i j k m : Nat}
theorem bld1 (h : ev σ x = a) : ([(i, x)].map fun (i, x) => (i, ev σ x)) = [(i, a)] := by simp only [List.map, h]
theorem bld3 (h : ev σ x = a) (h2 : ev σ y = b) (h3 : ev σ z = c) : ([(i, x), (j, y), (k, z)].map fun (i, x) => (i, ev σ x)) = [(i, a), (j, b), (k, c)] := by simp only [List.map, h, h2, h3]
/-- A new variable, with its cells. -/
def alF (e : Nat) (c : Array Value) (hs : Nat) : Fct := fun v w => ∃ b, v = .pointer (some ⟨b, 0, none⟩) ∧ Blk w b c e ∧ hs ≤ b
theorem alF_ext (e : Nat) (c : Array Value) (hs : Nat) : Stable (alF e c hs) := by
 rintro v w w' x ⟨b, h1, h2, h3⟩
 exact ⟨b, h1, Ext.keep x h2, h3⟩
end
end Go.Eng
namespace Go.Eng
open Go
def two (c1 c2 : Nat) (M1 M2 : Nat → Prop) (p : Nat) : Nat → Prop := bif Nat.beq p c1 then M1 else bif Nat.beq p c2 then M2 else none1
/-- Waits that follow from the given ones. -/
def closB1 (wss cl : List (List Nat)) (i : Nat) : Bool := (cl.getD i []).all fun c => (wss.getD i []).contains c || (wss.getD i []).any fun e => (cl.getD e []).contains c
def closB (wss cl : List (List Nat)) : Bool := (List.range wss.length).all (closB1 wss cl)
theorem closB_get {wss cl : List (List Nat)} (h : closB wss cl = true) {i c : Nat} {ws : List Nat} (hw : wss[i]? = some ws) (hc : (cl.getD i []).contains c = true) : c ∈ ws ∨ ∃ e ∈ ws, (cl.getD e []).contains c = true := by
 have h1 := List.all_eq_true.1 h i (List.mem_range.2 (lt_of_get hw))
 have h2 := List.all_eq_true.1 h1 c (by simpa using hc)
 rw [List.getD_eq_getElem?_getD, hw, Option.getD_some, Bool.or_eq_true] at h2
 rcases h2 with h2 | h2
 ·exact .inl (by simpa using h2)
 ·obtain ⟨e, he, h3⟩ := List.any_eq_true.1 h2
  exact .inr ⟨e, he, h3⟩
end Go.Eng
namespace Go.Eng
open Go
abbrev FctS := (Nat → Bool) → Env → Fct
def HoldsS (ds : List Nat) (Fs : List FctS) (S : Nat → Bool) (j : Nat) (σ : Env) (w : World) : Prop := ∀ d F, ds[j]? = some d → Fs[j]? = some F → F S σ (σ d) w
def insS (S : Nat → Bool) (i : Nat) : Nat → Bool := fun j => bif Nat.beq j i then true else S j
theorem insS_self (S : Nat → Bool) (i : Nat) : insS S i i = true := by simp [insS]
theorem insS_ne {S : Nat → Bool} {i j : Nat} (h : j ≠ i) : insS S i j = S j := by
 have : Nat.beq j i = false := by cases hb : Nat.beq j i; rfl; exact absurd (Nat.eq_of_beq_eq_true hb) h
 simp [insS, this]
/-- The blocks that the operations change. -/
def MsL : List (Nat × (Nat → Prop)) → Nat → Nat → Prop
  | [], _, _ => False
  | p :: r, j, y => (j = p.1 ∧ p.2 y) ∨ MsL r j y
theorem MsL_or {c : Nat} {M : Nat → Prop} {r : List (Nat × (Nat → Prop))} {j y : Nat} (h : MsL ((c, M) :: r) j y) : (j = c ∧ M y) ∨ MsL r j y := h
def dagOneS (N i : Nat) (hd : List Bool) (o : Oper) (d : Nat) (ws : List Nat) : Bool :=
 (match o.dst with | some d' => Nat.beq d' d && Nat.blt d N | none => Nat.ble N d) && (o.after.all fun e => !Region.binds .any e || (Nat.blt e.on i && hd.getD e.on false)) && (ws.all fun j => o.after.any fun e => Region.binds .any e && Nat.beq e.on j) && guardB hd o
def dagSB (N : Nat) (hd : List Bool) : Nat → List Oper → List Nat → List (List Nat) → List Bool → Bool
  | _, [], [], [], [] => true
  | i, o :: l, d :: ds, ws :: wss, h :: hs => (bif h then dagOneS N i hd o d ws else Nat.ble N d) && dagSB N hd (i + 1) l ds wss hs
  | _, _, _, _, _ => false
theorem dagSB_get {N : Nat} {hd : List Bool} : ∀ {i : Nat} {l : List Oper} {ds : List Nat} {wss : List (List Nat)} {hs : List Bool}, dagSB N hd i l ds wss hs = true → ∀ {j : Nat} {o : Oper}, l[j]? = some o → ∃ d ws h, ds[j]? = some d ∧ wss[j]? = some ws ∧ hs[j]? = some h ∧ (bif h then dagOneS N (i + j) hd o d ws else Nat.ble N d) = true
  | _, [], _, _, _, _, j, o, h => by simp at h
  | i, x :: l, [], _, _, hB, _, _, _ => by simp [dagSB] at hB
  | i, x :: l, d :: ds, [], _, hB, _, _, _ => by simp [dagSB] at hB
  | i, x :: l, d :: ds, ws :: wss, [], hB, _, _, _ => by simp [dagSB] at hB
  | i, x :: l, d :: ds, ws :: wss, h0 :: hs, hB, j, o, h => by
    simp only [dagSB, Bool.and_eq_true] at hB
    cases j with
    | zero => simp at h; subst h; exact ⟨d, ws, h0, rfl, rfl, rfl, hB.1⟩
    | succ j =>
      simp at h
      obtain ⟨d', ws', h', h1, h2, h3, h4⟩ := dagSB_get hB.2 h
      exact ⟨d', ws', h', by simpa using h1, by simpa using h2, by simpa using h3, by rw [show i + (j + 1) = i + 1 + j from by omega]; exact h4⟩
theorem dagSB_len {N : Nat} {hd : List Bool} : ∀ {i : Nat} {l : List Oper} {ds : List Nat} {wss : List (List Nat)} {hs : List Bool}, dagSB N hd i l ds wss hs = true → ds.length = l.length ∧ hs.length = l.length ∧ wss.length = l.length
  | _, [], [], [], [], _ => ⟨rfl, rfl, rfl⟩
  | _, [], [], [], _ :: _, hB => by simp [dagSB] at hB
  | _, [], [], _ :: _, _, hB => by simp [dagSB] at hB
  | _, [], _ :: _, _, _, hB => by simp [dagSB] at hB
  | i, x :: l, [], _, _, hB => by simp [dagSB] at hB
  | i, x :: l, d :: ds, [], _, hB => by simp [dagSB] at hB
  | i, x :: l, d :: ds, ws :: wss, [], hB => by simp [dagSB] at hB
  | i, x :: l, d :: ds, ws :: wss, h0 :: hs, hB => by
    simp only [dagSB, Bool.and_eq_true] at hB
    have := dagSB_len hB.2
    simp [this.1, this.2.1, this.2.2]
def DagStepS (P : Program) (N : Nat) (ds : List Nat) (Fs : List FctS) (σ : Env) (w : World) (Ms : Nat → Nat → Prop) (cl : List (List Nat)) (i : Nat) (o : Oper) (ws : List Nat) (F : FctS) : Prop :=
 ∀ (S : Nat → Bool) σ' w', S i = false → (∀ j, (cl.getD j []).contains i = true → S j = false) → Chg (fun y => ∃ j, S j = true ∧ Ms j y) w w' → (∀ t, ds.contains t = false → σ' t = σ t) → (∀ j d, ds[j]? = some d → S j = false → σ' d = σ d) → (∀ j, ws.contains j = true → S j = true ∧ HoldsS ds Fs S j σ' w') →
  (Guarded ds o σ' ∧ DoesT (Ms i) P N o (fun v w => F (insS S i) σ' (Go.Eng.valOf o v) w) σ' w') ∨ (Unmet ds o σ' ∧ F (insS S i) σ' undef w')
/-- A fact lasts while other operations are done. -/
def StabS (Ms : Nat → Nat → Prop) (i : Nat) (ws : List Nat) (F : FctS) : Prop := ∀ p, p ≠ i → ws.contains p = false → ∀ S σ v w w', S i = true → S p = false → Chg (Ms p) w w' → F S σ v w → F (insS S p) σ v w'
/-- A fact speaks of the values of the operations that it waits for alone. -/
def LocS (ds : List Nat) (ws : List Nat) (F : FctS) : Prop := ∀ S (σ1 σ2 : Env), (∀ j d, ws.contains j = true → ds[j]? = some d → σ2 d = σ1 d) → ∀ v w, F S σ1 v w → F S σ2 v w
inductive DagStepsS (P : Program) (N : Nat) (ds : List Nat) (Fs : List FctS) (σ : Env) (w : World) (Ms : Nat → Nat → Prop) (cl : List (List Nat)) : Nat → List Oper → List (List Nat) → List Bool → List FctS → Prop where
  | nil {i : Nat} : DagStepsS P N ds Fs σ w Ms cl i [] [] [] []
  | cons {i : Nat} {o : Oper} {ws : List Nat} {F : FctS} {l : List Oper} {wss : List (List Nat)} {hs : List Bool} {Gs : List FctS} (s : StabS Ms i ws F) (lc : LocS ds ws F) (h : DagStepS P N ds Fs σ w Ms cl i o ws F) (t : DagStepsS P N ds Fs σ w Ms cl (i + 1) l wss hs Gs) : DagStepsS P N ds Fs σ w Ms cl i (o :: l) (ws :: wss) (true :: hs) (F :: Gs)
  | tail {i : Nat} {o : Oper} {ws : List Nat} {F : FctS} {l : List Oper} {wss : List (List Nat)} {hs : List Bool} {Gs : List FctS} (t : DagStepsS P N ds Fs σ w Ms cl (i + 1) l wss hs Gs) : DagStepsS P N ds Fs σ w Ms cl i (o :: l) (ws :: wss) (false :: hs) (F :: Gs)
def allS (hd : List Bool) : Nat → Bool := fun j => hd.getD j false
def DoesX (M : Nat → Prop) (ch : List PanicEntry) (X : World → Prop) (P : Program) (N : Nat) (o : Oper) (R : Fct) (σ : Env) (w : World) : Prop :=
 ∀ dz a, Ok dz N a → env a = σ → ∀ (Q : Exit → Act → World → Prop) (K : Act → World → Prop), (∀ v w', Chg M w w' → R v w' → K (a.put o.dst v) w') → (∀ w', Chg M w w' → X w' → Q (.panic ch) a w') → o.wp P a w K Q
theorem DoesT.x {M : Nat → Prop} {ch : List PanicEntry} {X : World → Prop} {P : Program} {N : Nat} {o : Oper} {R : Fct} {σ : Env} {w : World} (h : DoesT M P N o R σ w) : DoesX M ch X P N o R σ w := fun dz a ha he Q K hK _ => h dz a ha he Q K hK
theorem DoesX_enter {M : Nat → Prop} {ch : List PanicEntry} {X : World → Prop} {P : Program} {N : Nat} {o : Oper} {R : Fct} {σ : Env} {w : World} {f : FuncId} {args : Array Value} (hr : (execOp (ev σ) o).run P w = .ok (.enter f args) w) (hc : RetX P ch f args w (fun v w' => R v w' ∧ Chg M w w') (fun w' => X w' ∧ Chg M w w')) : DoesX M ch X P N o R σ w := by
 intro dz a ha he Q K hK hX
 unfold Oper.wp
 rw [eval_env, he, hr]
 simp only [Oper.upon]
 refine Calls.mono hc ?_
 rintro e w' (⟨v, rfl, r, c⟩ | ⟨rfl, x, c⟩)
 ·exact hK v w' c r
 ·exact hX w' c x
theorem DoesX.weak {M : Nat → Prop} {ch : List PanicEntry} {X : World → Prop} {P : Program} {N : Nat} {o : Oper} {R R' : Fct} {σ : Env} {w : World} (h : DoesX M ch X P N o R σ w) (hr : ∀ v w', Chg M w w' → R v w' → R' v w') : DoesX M ch X P N o R' σ w := fun dz a ha he Q K hK hX => h dz a ha he Q K (fun v w' c r => hK v w' c (hr v w' c r)) hX
def DagStepG (P : Program) (N : Nat) (ds : List Nat) (Fs : List FctS) (σ : Env) (w : World) (Ms : Nat → Nat → Prop) (Rs : Nat → World → World → Prop) (ch : List PanicEntry) (X : World → Prop) (cl : List (List Nat)) (i : Nat) (o : Oper) (ws : List Nat) (F : FctS) : Prop :=
 ∀ (S : Nat → Bool) σ' w', S i = false → (∀ j, (cl.getD j []).contains i = true → S j = false) → Chg (fun y => ∃ j, S j = true ∧ Ms j y) w w' → (∀ t, ds.contains t = false → σ' t = σ t) → (∀ j d, ds[j]? = some d → S j = false → σ' d = σ d) → (∀ j, ws.contains j = true → S j = true ∧ HoldsS ds Fs S j σ' w') →
  (Guarded ds o σ' ∧ DoesX (Ms i) ch X P N o (fun v w => F (insS S i) σ' (Go.Eng.valOf o v) w ∧ Rs i w' w) σ' w') ∨ (Unmet ds o σ' ∧ F (insS S i) σ' undef w' ∧ Rs i w' w')
/-- A fact lasts while other operations are done. -/
def StabG (Ms : Nat → Nat → Prop) (Rs : Nat → World → World → Prop) (cl : List (List Nat)) (i : Nat) (ws : List Nat) (F : FctS) : Prop := ∀ p, p ≠ i → ws.contains p = false → ∀ S σ v w w', S i = true → S p = false → (∀ j, (cl.getD p []).contains j = true → S j = true) → Chg (Ms p) w w' → Rs p w w' → F S σ v w → F (insS S p) σ v w'
inductive DagStepsG (P : Program) (N : Nat) (ds : List Nat) (Fs : List FctS) (σ : Env) (w : World) (Ms : Nat → Nat → Prop) (Rs : Nat → World → World → Prop) (ch : List PanicEntry) (X : World → Prop) (cl : List (List Nat)) : Nat → List Oper → List (List Nat) → List Bool → List FctS → Prop where
  | nil {i : Nat} : DagStepsG P N ds Fs σ w Ms Rs ch X cl i [] [] [] []
  | cons {i : Nat} {o : Oper} {ws : List Nat} {F : FctS} {l : List Oper} {wss : List (List Nat)} {hs : List Bool} {Gs : List FctS} (s : StabG Ms Rs cl i ws F) (lc : LocS ds ws F) (h : DagStepG P N ds Fs σ w Ms Rs ch X cl i o ws F) (t : DagStepsG P N ds Fs σ w Ms Rs ch X cl (i + 1) l wss hs Gs) : DagStepsG P N ds Fs σ w Ms Rs ch X cl i (o :: l) (ws :: wss) (true :: hs) (F :: Gs)
  | tail {i : Nat} {o : Oper} {ws : List Nat} {F : FctS} {l : List Oper} {wss : List (List Nat)} {hs : List Bool} {Gs : List FctS} (t : DagStepsG P N ds Fs σ w Ms Rs ch X cl (i + 1) l wss hs Gs) : DagStepsG P N ds Fs σ w Ms Rs ch X cl i (o :: l) (ws :: wss) (false :: hs) (F :: Gs)
theorem DagStepsG.get {P : Program} {N : Nat} {ds : List Nat} {Fs : List FctS} {σ : Env} {w : World} {Ms : Nat → Nat → Prop} {Rs : Nat → World → World → Prop} {ch : List PanicEntry} {X : World → Prop} {cl : List (List Nat)} : ∀ {i : Nat} {l : List Oper} {wss : List (List Nat)} {hs : List Bool} {Gs : List FctS}, DagStepsG P N ds Fs σ w Ms Rs ch X cl i l wss hs Gs → ∀ {j : Nat} {o : Oper}, l[j]? = some o → hs[j]? = some true → ∃ ws F, wss[j]? = some ws ∧ Gs[j]? = some F ∧ StabG Ms Rs cl (i + j) ws F ∧ LocS ds ws F ∧ DagStepG P N ds Fs σ w Ms Rs ch X cl (i + j) o ws F
  | _, _, _, _, _, .nil, j, o, h, _ => by simp at h
  | i, _, _, _, _, .cons s lc h t, 0, o, ho, _ => by
    simp at ho; subst ho
    exact ⟨_, _, rfl, rfl, s, lc, h⟩
  | _, _, _, _, _, .tail t, 0, o, h, ht => by simp at ht
  | i, _, _, _, _, .cons s lc h t, j + 1, o, ho, ht => by
    obtain ⟨ws, F, h1, h2, h3, h5, h4⟩ := t.get (j := j) (by simpa using ho) (by simpa using ht)
    exact ⟨ws, F, by simpa using h1, by simpa using h2, by rw [show i + (j + 1) = i + 1 + j from by omega]; exact h3, h5, by rw [show i + (j + 1) = i + 1 + j from by omega]; exact h4⟩
  | i, _, _, _, _, .tail t, j + 1, o, ho, ht => by
    obtain ⟨ws, F, h1, h2, h3, h5, h4⟩ := t.get (j := j) (by simpa using ho) (by simpa using ht)
    exact ⟨ws, F, by simpa using h1, by simpa using h2, by rw [show i + (j + 1) = i + 1 + j from by omega]; exact h3, h5, by rw [show i + (j + 1) = i + 1 + j from by omega]; exact h4⟩
theorem Wp_dagG {P : Program} {N : Nat} {Q : Post} {σ : Env} {w : World} {id : Nat} {l : List Oper} (Ms : Nat → Nat → Prop) (Rs : Nat → World → World → Prop) (ch : List PanicEntry) (X : World → Prop) (hd : List Bool) (ts : List Nat) (ds : List Nat) (wss cl : List (List Nat)) (Fs : List FctS) {Gs : List FctS} (hG : Fs = Gs) (hC : closB wss cl = true) (hm : P.follows .mixedOrders = true) (hB : dagSB N hd 0 l ds wss hd = true) (hn : nodupB ds = true)
    (hT : (tailPB l hd ts && permB l.toArray ts hd.toArray) = true) (hN : Nat.beq (leftH hd (List.replicate l.length false) + ts.length) l.length = true)
    (steps : ∀ w1, Ext w w1 → DagStepsG P N ds Fs σ w1 Ms Rs ch X cl 0 l cl hd Gs)
    (hX : ∀ σ' w1 w', Ext w w1 → Chg (fun y => ∃ j, Ms j y) w1 w' → X w' → Q (.panic ch) σ' w')
    (k : ∀ σ' w1 w', Ext w w1 → Chg (fun y => ∃ j, hd.getD j false = true ∧ Ms j y) w1 w' → (∀ t, ds.contains t = false → σ' t = σ t) → (∀ j, hd[j]? = some true → HoldsS ds Fs (allS hd) j σ' w') → WpL P N l.toArray (Q .normal) Q (ts.filterMap fun k => l[k]?) σ' w') : Wp P N (.region id l.toArray true) Q σ w := by
  intro dz a ha he
  have eQ : lift dz N (thn (Q .normal) Q) = lift dz N Q := by funext e a w; cases e <;> rfl
  refine wp_region_any hm ?_
  obtain ⟨w1, hw1⟩ : ∃ w1 : World, w1 = { w with drawn := w.drawn + 1 } := ⟨_, rfl⟩
  have hE1 : Ext w w1 := by rw [hw1]; exact drew_ext w
  rw [← hw1]
  have hst := steps w1 hE1
  rw [← hG] at hst
  rw [Bool.and_eq_true] at hT
  obtain ⟨hT1, hT2⟩ := hT
  obtain ⟨hlen, hlen2, hlen3⟩ := dagSB_len hB
  let Lf : Array Bool → Nat → Bool := fun listed j => listed.getD j false
  have key : ∀ (m : Nat) (listed : Array Bool) (a : Act) (w' : World), leftH hd listed.toList = m → listed.size = l.length → (∀ (t : Nat), hd[t]? = some false → listed.toList[t]? = some false) → (∀ (j : Nat) oj, l[j]? = some oj → listed.getD j false = true → ∀ e ∈ oj.after, Region.binds .any e = true → listed.getD e.on false = true) → Ok dz N a → Chg (fun y => ∃ j, listed.getD j false = true ∧ Ms j y) w1 w' → (∀ t, ds.contains t = false → env a t = σ t) → (∀ j d, ds[j]? = some d → listed.getD j false = false → env a d = σ d) → (∀ j, hd[j]? = some true → listed.getD j false = true → HoldsS ds Fs (Lf listed) j (env a) w') →
      wpAny P .any l.toArray (lift dz N Q) (m + ts.length) listed a w' := by
    intro m
    induction m with
    | zero =>
      intro listed a w' hc0 hsz htl hcd ha hx hu hv0 hh
      have hl : listed = hd.toArray := by
        apply Array.ext'
        exact leftH_zero (by simp; omega) hc0 htl
      have hLf : Lf listed = allS hd := by
        funext j
        show listed.getD j false = hd.getD j false
        rw [hl]; simp [List.getD_eq_getElem?_getD]
      rw [Nat.zero_add]
      have h1 := k (env a) w1 w' hE1 (hx.mono fun y _ h => by
        obtain ⟨j, h1, h2⟩ := h
        have : allS hd j = true := by rw [← hLf]; exact h1
        exact ⟨j, this, h2⟩) hu (fun j hj => by rw [← hLf]; exact hh j hj (getD_arr (by rw [hl]; exact hj))) dz a ha rfl
      rw [eQ] at h1
      exact wpAny_of_perm ts listed a w' (by rw [hl]; exact hT2) (by simpa using h1)
    | succ m ih =>
      intro listed a w' hcm hsz htl hcd ha hx hu hv0 hh
      obtain ⟨i0, hi0, hi1⟩ := leftH_pos (hd := hd) (listed := listed.toList) (by omega)
      rw [show m + 1 + ts.length = (m + ts.length) + 1 by omega]
      refine ⟨fun hr => ?_, fun i hi => ?_⟩
      · exfalso
        have hall : ∀ i : Nat, hd[i]? = some true → listed.getD i true = true := by
          intro i
          induction i using Nat.strongRecOn with
          | _ i ihi =>
            intro hi
            cases hv : listed.getD i true with
            | true => rfl
            | false =>
              exfalso
              obtain ⟨o, ho⟩ := get_of_lt (l := l) (i := i) (by have := lt_of_get hi; omega)
              obtain ⟨d, ws, h, _, _, h2, h3⟩ := dagSB_get hB ho
              rw [hi] at h2
              cases h2
              simp only [cond_true, dagOneS, Bool.and_eq_true, Nat.zero_add] at h3
              have : i ∈ Region.ready .any l.toArray listed := by
                refine mem_ready.2 ⟨hv, o, by simpa using ho, fun e he hb => ?_⟩
                have h4 := h3.1.1.2
                simp only [Array.all_eq_true_iff_forall_mem, Bool.or_eq_true, Bool.not_eq_true', Bool.and_eq_true] at h4
                have h6 := (h4 e he).resolve_left (by simp [hb])
                have hlt : e.on < i := by simpa [Nat.blt_eq] using h6.1
                have h7 := h6.2
                have hj0 : e.on < hd.length := by have := lt_of_get hi; omega
                have h8 : hd[e.on]? = some true := by
                  rw [List.getD_eq_getElem?_getD, List.getElem?_eq_getElem hj0, Option.getD_some] at h7
                  rw [List.getElem?_eq_getElem hj0, h7]
                have h9 := ihi e.on hlt h8
                have hj : e.on < listed.size := by omega
                simpa only [Array.getD_eq_getD_getElem?, Array.getElem?_eq_getElem hj, Option.getD_some] using h9
              rw [hr] at this
              cases this
        have := hall i0 hi0
        rw [getD_arr hi1] at this
        cases this
      · obtain ⟨h1, o, h2, h3⟩ := mem_ready.1 hi
        have ho : l[i]? = some o := by simpa using h2
        have hil : i < l.length := lt_of_get ho
        have hih : hd[i]? = some true := by
          obtain ⟨b, hb⟩ := get_of_lt (l := hd) (i := i) (by omega)
          cases b with
          | true => exact hb
          | false =>
            exfalso
            have h4 := List.all_eq_true.1 hT1 i (List.mem_range.2 hil)
            rw [List.getD_eq_getElem?_getD, hb, Option.getD_some, Bool.false_or, Bool.and_eq_true, Bool.or_eq_true] at h4
            have edge : ∀ u, edgeB l i u = true → listed.getD u false = true := fun u hu' => by
              unfold edgeB at hu'
              rw [ho] at hu'
              simp only [Array.any_eq_true', Bool.and_eq_true] at hu'
              obtain ⟨e, he, hb1, hb2⟩ := hu'
              have := Nat.eq_of_beq_eq_true hb2
              rw [← this]
              exact h3 e he hb1
            rcases h4.2 with h5 | h5
            · have h6 := List.all_eq_true.1 h5 i0 (List.mem_range.2 (by have := lt_of_get hi0; omega))
              rw [List.getD_eq_getElem?_getD, hi0, Option.getD_some, Bool.not_true, Bool.false_or] at h6
              have := edge i0 h6
              rw [getD_arr hi1] at this
              cases this
            · obtain ⟨p, _, h6⟩ := List.any_eq_true.1 h5
              rw [Bool.and_eq_true, Bool.not_eq_true'] at h6
              have h7 := edge p h6.2
              have hp : hd[p]? = some false := by
                have h8 := h6.1
                rw [List.getD_eq_getElem?_getD] at h8
                cases h9 : hd[p]? with
                | none => rw [h9] at h8; cases h8
                | some b => rw [h9, Option.getD_some] at h8; rw [h8]
              rw [getD_arr (htl p hp)] at h7
              cases h7
        obtain ⟨d, ws, h, hd', hws, hhs, h4⟩ := dagSB_get hB ho
        rw [hih] at hhs
        cases hhs
        obtain ⟨ci, F, hci, hF, hstab, hloc, hstep⟩ := hst.get ho hih
        rw [Nat.zero_add] at hstab hstep
        simp only [cond_true, dagOneS, Bool.and_eq_true, List.all_eq_true, Array.any_eq_true', Nat.zero_add] at h4
        obtain ⟨⟨⟨hdst, _⟩, hwait⟩, hgB⟩ := h4
        have hlisted : ∀ j, listed.getD j false = true → hd[j]? = some true := fun j hj => by
          obtain ⟨b, hb⟩ := get_of_lt (l := hd) (i := j) (by
            rcases Nat.lt_or_ge j listed.size with h9 | h9
            · omega
            · simp [Array.getD_eq_getD_getElem?, Array.getElem?_eq_none h9] at hj)
          cases b with
          | true => exact hb
          | false => rw [getD_arr (htl j hb)] at hj; cases hj
        have hcl : ∀ j, listed.getD j false = true → ∀ c, (cl.getD j []).contains c = true → listed.getD c false = true := by
          intro j
          induction j using Nat.strongRecOn with
          | _ j ihj =>
            intro hlj c hc
            have hjh := hlisted j hlj
            obtain ⟨oc, hoc⟩ := get_of_lt (l := l) (i := j) (by have := lt_of_get hjh; omega)
            obtain ⟨dc, wsc, hb, _, hwsc, hhb, h5⟩ := dagSB_get hB hoc
            rw [hjh] at hhb
            cases hhb
            simp only [cond_true, dagOneS, Bool.and_eq_true, List.all_eq_true, Array.any_eq_true', Array.all_eq_true_iff_forall_mem, Bool.or_eq_true, Bool.not_eq_true', Nat.zero_add] at h5
            have hdir : ∀ e' ∈ wsc, listed.getD e' false = true ∧ e' < j := by
              intro e' he'
              obtain ⟨e, he, hb1, hb2⟩ := h5.1.2 e' he'
              have hei : e.on = e' := Nat.eq_of_beq_eq_true hb2
              have h6 := hcd j oc hoc hlj e he hb1
              have h7 := (h5.1.1.2 e he).resolve_left (by simp [hb1])
              rw [hei] at h6 h7
              exact ⟨h6, by simpa [Nat.blt_eq] using h7.1⟩
            rcases closB_get hC hwsc hc with h6 | ⟨e', he', h6⟩
            · exact (hdir c h6).1
            · exact ihj e' (hdir e' he').2 (hdir e' he').1 c h6
        have hclo : ∀ j, ci.contains j = true → listed.getD j false = true := by
          intro j hj
          have hj' : (cl.getD i []).contains j = true := by rw [List.getD_eq_getElem?_getD, hci, Option.getD_some]; exact hj
          have hdir : ∀ e' ∈ ws, listed.getD e' false = true := by
            intro e' he'
            obtain ⟨e, he, hb1, hb2⟩ := hwait e' he'
            have : e.on = e' := Nat.eq_of_beq_eq_true hb2
            exact this ▸ h3 e he hb1
          rcases closB_get hC hws hj' with h6 | ⟨e', he', h6⟩
          · exact hdir j h6
          · exact hcl e' (hdir e' he') j h6
        have hclo0 : ∀ j, (cl.getD i []).contains j = true → Lf listed j = true := fun j hj => hclo j (by rw [List.getD_eq_getElem?_getD, hci, Option.getD_some] at hj; exact hj)
        have hSi : Lf listed i = false := getD_both h1
        have hSn : ∀ j, (cl.getD j []).contains i = true → Lf listed j = false := by
          intro j hj
          cases hlj : Lf listed j with
          | false => rfl
          | true =>
            exfalso
            have := hcl j hlj i hj
            rw [getD_both h1] at this; cases this
        have hH : ∀ j, ci.contains j = true → Lf listed j = true ∧ HoldsS ds Fs (Lf listed) j (env a) w' := fun j hj => ⟨hclo j hj, hh j (hlisted j (hclo j hj)) (hclo j hj)⟩
        have hil2 : i < listed.size := by omega
        have hLs : Lf (listed.setIfInBounds i true) = insS (Lf listed) i := by
          funext j
          by_cases hij : j = i
          · subst hij
            rw [insS_self]
            show (listed.setIfInBounds j true).getD j false = true
            simp [Array.getD_eq_getD_getElem?, hil2]
          · rw [insS_ne hij]
            exact getD_set_ne _ (Ne.symm hij)
        have hstep2 : ∀ w2, Chg (Ms i) w' w2 → Chg (fun y => ∃ j, (listed.setIfInBounds i true).getD j false = true ∧ Ms j y) w1 w2 := by
          intro w2 hx2
          have hg : (listed.setIfInBounds i true).getD i false = true := by simp [Array.getD_eq_getD_getElem?, hil2]
          refine Chg.step (hx.mono fun y _ h => ?_) hx2 (fun y _ h => ⟨i, hg, h⟩)
          obtain ⟨j, h5, h6⟩ := h
          by_cases hij : j = i
          · exact ⟨i, hg, hij ▸ h6⟩
          · exact ⟨j, by rw [getD_set_ne _ (Ne.symm hij)]; exact h5, h6⟩
        have cont : ∀ v w2, Chg (Ms i) w' w2 → F (insS (Lf listed) i) (env a) (Go.Eng.valOf o v) w2 ∧ Rs i w' w2 → wpAny P .any l.toArray (lift dz N Q) (m + ts.length) (listed.setIfInBounds i true) (a.put o.dst v) w2 := by
          rintro v w2 hx2 ⟨hv, hrs⟩
          have henv : (∀ t, t ≠ d → env (a.put o.dst v) t = env a t) ∧ env (a.put o.dst v) d = Go.Eng.valOf o v := by
            cases hod : o.dst with
            | none =>
              rw [hod] at hdst
              have hNd : N ≤ d := Nat.le_of_ble_eq_true hdst
              refine ⟨fun t _ => rfl, ?_⟩
              simp only [Go.Eng.valOf, hod]
              show a.tmps.getD d undef = undef
              have : a.tmps.size ≤ d := by rw [ha.size]; exact hNd
              simp [Array.getElem?_eq_none this]
            | some d' =>
              rw [hod] at hdst
              simp only [Bool.and_eq_true] at hdst
              have hd1 : d' = d := Nat.eq_of_beq_eq_true hdst.1
              have hd2 : d < N := by simpa [Nat.blt_eq] using hdst.2
              subst hd1
              rw [env_put ha hd2 v]
              refine ⟨fun t ht => ?_, ?_⟩
              · have : Nat.beq t d' = false := by cases hb : Nat.beq t d'; rfl; exact absurd (Nat.eq_of_beq_eq_true hb) ht
                simp [upd, this]
              · simp [upd, Go.Eng.valOf, hod]
          have hlf : listed.toList[i]? = some false := by
            simp only [Array.getD_eq_getD_getElem?, Array.getElem?_eq_getElem hil2, Option.getD_some] at h1
            rw [Array.getElem?_toList, Array.getElem?_eq_getElem hil2, h1]
          refine ih _ _ _ ?_ (by simpa using hsz) (fun t ht => ?_) (fun j oj hoj hlj e he hb => ?_) (ha.put _ _) (hstep2 w2 hx2) ?_ ?_ ?_
          · rw [Array.toList_setIfInBounds]
            have := leftH_set hih hlf
            omega
          · rw [Array.toList_setIfInBounds, List.getElem?_set]
            have hne : i ≠ t := fun e => by rw [← e, hih] at ht; cases ht
            rw [if_neg hne]
            exact htl t ht
          · refine getD_set_true ?_
            by_cases hij : j = i
            · subst hij
              rw [ho] at hoj; cases hoj
              exact h3 e he hb
            · rw [getD_set_ne _ (Ne.symm hij)] at hlj
              exact hcd j oj hoj hlj e he hb
          · intro t ht
            rw [henv.1 t (fun h => by
              subst h
              have := List.mem_of_getElem? hd'
              simp [this] at ht), hu t ht]
          · intro j d2 hd2 hj2
            by_cases hij : j = i
            · subst hij
              have hg2 : (listed.setIfInBounds j true).getD j false = true := by simp [Array.getD_eq_getD_getElem?, hil2]
              rw [hg2] at hj2; cases hj2
            · rw [getD_set_ne _ (Ne.symm hij)] at hj2
              rw [henv.1 d2 (fun h => by subst h; exact hij (nodupB_get hn hd2 hd')), hv0 j d2 hd2 hj2]
          · intro j hjh hj d2 F2 hd2 hF2
            rw [hLs]
            by_cases hij : j = i
            · subst hij
              rw [hd'] at hd2; cases hd2
              rw [hF] at hF2; cases hF2
              rw [henv.2]
              refine hloc _ (env a) _ (fun j' d2 hj' hd2 => henv.1 d2 fun he => ?_) _ _ hv
              have := nodupB_get hn (he ▸ hd2) hd'
              subst this
              have := hclo j' hj'
              rw [getD_both h1] at this
              cases this
            · have hne : d2 ≠ d := by
                intro h
                subst h
                exact hij (nodupB_get hn hd2 hd')
              rw [henv.1 d2 hne]
              rw [getD_set_ne _ (Ne.symm hij)] at hj
              have h6 := hh j hjh hj d2 F2 hd2 hF2
              obtain ⟨oj, hoj⟩ := get_of_lt (l := l) (i := j) (by have := lt_of_get hjh; omega)
              obtain ⟨cj, Fj, hcj, hFj, hsj, hlj, _⟩ := hst.get hoj hjh
              rw [hF2] at hFj; cases hFj
              rw [Nat.zero_add] at hsj
              have hgc : cl.getD j [] = cj := by rw [List.getD_eq_getElem?_getD, hcj, Option.getD_some]
              have hcji : cj.contains i = false := by
                cases hcji : cj.contains i with
                | false => rfl
                | true =>
                  exfalso
                  have := hSn j (by rw [hgc]; exact hcji)
                  have hj' : Lf listed j = true := hj
                  rw [hj'] at this; cases this
              refine hlj _ (env a) _ (fun j' d3 hj' hd3 => henv.1 d3 fun he => ?_) _ _ (hsj i (Ne.symm hij) hcji (Lf listed) (env a) _ _ _ hj hSi hclo0 hx2 hrs h6)
              have h8 := nodupB_get hn (he ▸ hd3) hd'
              subst h8
              rw [hcji] at hj'
              cases hj'
        have gd : ∀ j b, o.guard = some (j, b) → ∀ dj, ds[j]? = some dj → ((∃ oj, l[j]? = some oj ∧ oj.dst = some dj) ∧ dj < N) ∨ (N ≤ dj ∧ ∃ oj, l[j]? = some oj ∧ oj.dst = none) := fun j b hgd dj hdj => by
          obtain ⟨oj, hoj⟩ := get_of_lt (l := l) (i := j) (by have := lt_of_get hdj; omega)
          obtain ⟨dj', _, hj, hdj', _, h5, h6⟩ := dagSB_get hB hoj
          rw [hdj] at hdj'
          cases hdj'
          unfold guardB at hgB
          rw [hgd] at hgB
          simp only at hgB
          have h7 : hj = true := by rw [List.getD_eq_getElem?_getD, h5, Option.getD_some] at hgB; exact hgB
          rw [h7] at h6
          simp only [cond_true, Bool.and_eq_true, dagOneS] at h6
          have hdst2 := h6.1.1.1
          split at hdst2
          · rename_i d2 hq
            rw [Bool.and_eq_true] at hdst2
            exact .inl ⟨⟨oj, hoj, by rw [hq, Nat.eq_of_beq_eq_true hdst2.1]⟩, by simpa [Nat.blt_eq] using hdst2.2⟩
          · rename_i hq
            exact .inr ⟨Nat.le_of_ble_eq_true hdst2, oj, hoj, hq⟩
        rcases hstep (Lf listed) (env a) w' hSi hSn hx hu hv0 hH with ⟨hg, hdo⟩ | ⟨⟨j, b, dj, hgd, hdj, hvj⟩, hund, hrs⟩
        · have hw : Region.wanted o (yielded l.toArray a.tmps) = true := by
            cases hgd : o.guard with
            | none => simp [Region.wanted, hgd]
            | some p =>
              obtain ⟨j, b⟩ := p
              obtain ⟨dj, hdj, hvj⟩ := hg j b hgd
              rcases gd j b hgd dj hdj with ⟨hdst2, hdN2⟩ | ⟨hge, _⟩
              · have h6 : a.tmps[dj]? = some (Value.bool b) := by
                  have h2 : a.tmps.getD dj undef = .bool b := hvj
                  have hlt : dj < a.tmps.size := by rw [ha.size]; exact hdN2
                  rw [Array.getElem?_eq_getElem hlt]
                  simpa [hlt] using h2
                obtain ⟨oj, hoj, hdst2⟩ := hdst2
                simp [Region.wanted, hgd, yielded, hoj, hdst2, h6]
              · exfalso
                have h2 : a.tmps.getD dj undef = .bool b := hvj
                have : a.tmps.size ≤ dj := by rw [ha.size]; exact hge
                simp [Array.getElem?_eq_none this, undef] at h2
          unfold wpOp
          simp only [h2, hw, if_true]
          exact Or.inl (hdo _ a ha rfl _ _ cont (fun w2 hx2 hX2 => ⟨ha, hX (env a) w1 w2 hE1 ((hstep2 w2 hx2).mono fun y _ h => h.imp fun j h => h.2) hX2⟩))
        · have hw : Region.wanted o (yielded l.toArray a.tmps) = false := by
            rcases gd j b hgd dj hdj with ⟨hdst2, hdN2⟩ | ⟨_, oj, hoj, hq⟩
            · have hlt : dj < a.tmps.size := by rw [ha.size]; exact hdN2
              have h6 : a.tmps[dj]? = some (env a dj) := by
                rw [Array.getElem?_eq_getElem hlt]
                simp [env, hlt]
              obtain ⟨oj, hoj, hdst2⟩ := hdst2
              rcases hvj with hvj | hvj
              · rw [hvj] at h6
                cases b <;> simp [Region.wanted, hgd, yielded, hoj, hdst2, h6]
              · rw [hvj] at h6
                simp [Region.wanted, hgd, yielded, hoj, hdst2, h6, undef]
            · simp [Region.wanted, hgd, yielded, hoj, hq]
          unfold wpOp
          simp only [h2, hw, Bool.false_eq_true, if_false]
          exact cont undef w' (Chg.refl _ _) (by
            have : Go.Eng.valOf o undef = undef := by unfold Go.Eng.valOf; split <;> rfl
            rw [this]; exact ⟨hund, hrs⟩)
  have h1 := key (leftH hd (Array.replicate l.toArray.size false).toList) (Array.replicate l.toArray.size false) a w1 rfl (by simp) (fun t ht => by have h9 := lt_of_get ht; rw [Array.toList_replicate, List.getElem?_replicate, if_pos (by rw [List.size_toArray]; omega)]) (fun j oj _ hl => (by rw [getD_replicate_false] at hl; cases hl)) ha (Chg.refl _ _) (fun t _ => by rw [he]) (fun j d _ _ => by rw [he]) (fun j _ hj => by rw [getD_replicate_false] at hj; cases hj)
  have e3 : leftH hd (Array.replicate l.toArray.size false).toList + ts.length = l.toArray.size := by have h9 := Nat.eq_of_beq_eq_true hN; simpa using h9
  rw [e3] at h1
  exact h1
theorem DagStepS.toG {P : Program} {N : Nat} {ds : List Nat} {Fs : List FctS} {σ : Env} {w : World} {Ms : Nat → Nat → Prop} {cl : List (List Nat)} {i : Nat} {o : Oper} {ws : List Nat} {F : FctS} (h : DagStepS P N ds Fs σ w Ms cl i o ws F) : DagStepG P N ds Fs σ w Ms (fun _ _ _ => True) [] (fun _ => False) cl i o ws F := fun S σ' w' a b c d e f =>
 (h S σ' w' a b c d e f).imp (fun ⟨g, h⟩ => ⟨g, (DoesT.x h).weak fun _ _ _ r => ⟨r, trivial⟩⟩) fun ⟨u, f⟩ => ⟨u, f, trivial⟩
theorem DagStepsS.toG {P : Program} {N : Nat} {ds : List Nat} {Fs : List FctS} {σ : Env} {w : World} {Ms : Nat → Nat → Prop} {cl : List (List Nat)} : ∀ {i : Nat} {l : List Oper} {wss : List (List Nat)} {hs : List Bool} {Gs : List FctS}, DagStepsS P N ds Fs σ w Ms cl i l wss hs Gs → DagStepsG P N ds Fs σ w Ms (fun _ _ _ => True) [] (fun _ => False) cl i l wss hs Gs
  | _, _, _, _, _, .nil => .nil
  | _, _, _, _, _, .cons s lc h t => .cons (fun p hp hw S σ v w w' hi hS _ hC _ hF => s p hp hw S σ v w w' hi hS hC hF) lc h.toG t.toG
  | _, _, _, _, _, .tail t => .tail t.toG
theorem Wp_dagS {P : Program} {N : Nat} {Q : Post} {σ : Env} {w : World} {id : Nat} {l : List Oper} (Ms : Nat → Nat → Prop) (hd : List Bool) (ts : List Nat) (ds : List Nat) (wss cl : List (List Nat)) (Fs : List FctS) {Gs : List FctS} (hG : Fs = Gs) (hC : closB wss cl = true) (hm : P.follows .mixedOrders = true) (hB : dagSB N hd 0 l ds wss hd = true) (hn : nodupB ds = true)
  (hT : (tailPB l hd ts && permB l.toArray ts hd.toArray) = true) (hN : Nat.beq (leftH hd (List.replicate l.length false) + ts.length) l.length = true)
  (steps : ∀ w1, Ext w w1 → DagStepsS P N ds Fs σ w1 Ms cl 0 l cl hd Gs)
  (k : ∀ σ' w1 w', Ext w w1 → Chg (fun y => ∃ j, hd.getD j false = true ∧ Ms j y) w1 w' → (∀ t, ds.contains t = false → σ' t = σ t) → (∀ j, hd[j]? = some true → HoldsS ds Fs (allS hd) j σ' w') → WpL P N l.toArray (Q .normal) Q (ts.filterMap fun k => l[k]?) σ' w') : Wp P N (.region id l.toArray true) Q σ w :=
 Wp_dagG Ms (fun _ _ _ => True) [] (fun _ => False) hd ts ds wss cl Fs hG hC hm hB hn hT hN (fun w1 e => (steps w1 e).toG) (fun _ _ _ _ _ h => h.elim) k
section
variable {Ms : Nat → Nat → Prop} {i : Nat} {ws ds : List Nat}
theorem StabS.eq {u : Value} : StabS Ms i ws (fun _ _ v _ => v = u) := fun _ _ _ _ _ _ _ _ _ _ _ h => h
theorem StabS.chg {F : Fct} {U : Nat → Prop} (hF : ∀ v w w', Chg U w w' → F v w → F v w') (hM : ∀ p y, p ≠ i → ws.contains p = false → Ms p y → U y) : StabS Ms i ws (fun _ _ => F) :=
 fun p h1 h2 _ _ v w w' _ _ x h => hF v w w' (x.mono fun y _ hy => hM p y h1 h2 hy) h
theorem LocS.const {G : (Nat → Bool) → Fct} : LocS ds ws (fun S _ => G S) := fun _ _ _ _ _ _ h => h
end
theorem qZ {P : Program} {N : Nat} {ds : List Nat} {Fs : List FctS} {σ : Env} {w : World} {Ms : Nat → Nat → Prop} {cl : List (List Nat)} {i : Nat} {dst : Option Tmp} {op : Op} {ty : TypeId} {pos : String} {af : Array Edge} {ws : List Nat} {u : Value} {l : List Oper} {wss : List (List Nat)} {hs : List Bool} {Gs : List FctS}
  (h : ∀ (S : Nat → Bool) σ' w', S i = false → (∀ j, (cl.getD j []).contains i = true → S j = false) → Chg (fun y => ∃ j, S j = true ∧ Ms j y) w w' → (∀ t, ds.contains t = false → σ' t = σ t) → (∀ j d, ds[j]? = some d → S j = false → σ' d = σ d) → (∀ j, ws.contains j = true → S j = true ∧ HoldsS ds Fs S j σ' w') → DoesT (Ms i) P N ⟨dst, op, ty, pos, af, none⟩ (fun v _ => Go.Eng.valOf ⟨dst, op, ty, pos, af, none⟩ v = u) σ' w')
  (t : DagStepsS P N ds Fs σ w Ms cl (i + 1) l wss hs Gs) : DagStepsS P N ds Fs σ w Ms cl i (⟨dst, op, ty, pos, af, none⟩ :: l) (ws :: wss) (true :: hs) ((fun _ _ v _ => v = u) :: Gs) :=
 .cons StabS.eq LocS.const (fun S s' w' a b c d e f => .inl ⟨Guarded_none rfl, h S s' w' a b c d e f⟩) t
section
variable {M : Nat → Prop} {P : Program} {N : Nat} {o : Oper} {R : Fct} {σ : Env} {w : World} {dst : Option Tmp} {ty : TypeId} {pos : String} {af : Array Edge} {g : Option (Nat × Bool)} {t : TypeId}
theorem DoesT_pure {v : Value} (hr : (execOp (ev σ) o).run P w = .ok (.value v) w) (h : R v w) : DoesT M P N o R σ w := DoesT_val hr (Chg.refl _ _) h
theorem DoesT_callE {f : FuncId} {args : Array Value} (hr : (execOp (ev σ) o).run P w = .ok (.enter f args) w) (hc : Ret P f args w fun v w' => R v w' ∧ Ext w w') : DoesT M P N o R σ w :=
 DoesT_enter hr (hc.mono fun _ _ h => ⟨h.1, Ext.chg h.2⟩)
theorem DoesT_alloc {d hs : Nat} {z : Value} {c : Array Value} (hz : Zer P t z) (hc : z.cells = c) (hh : hs ≤ w.heap.size) : DoesT M P N ⟨some d, .alloc t, ty, pos, af, g⟩ (alF t c hs) σ w := by
 subst hc
 have hn := New.mk' w z.cells t
 exact DoesT_val (v := .pointer (some ⟨w.heap.size, 0, none⟩)) (by simp [execOp, Instr.alloc, hz.run, newVar, newRow]) (Ext.chg hn.ext) ⟨_, rfl, hn.blk, hh⟩
end
end Go.Eng
namespace Go.Eng
open Go
theorem finX_ret {P : Program} {ch : List PanicEntry} {fn : Func} {R : Value → World → Prop} {X : World → Prop} {σ : Env} {w : World} (h : fin P fn R .ret σ w) : finX P ch fn R X .ret σ w := h
section
variable {P : Program} {N : Nat} {Q : Post} {σ : Env} {w : World} {K : Env → World → Prop} {ops : Array Oper} {rest : List Oper}
theorem WpL_panic {o : Oper} (hg : o.guard = none) {v : Value} (hr : (execOp (ev σ) o).run P w = .halt (.panic v) w) (k : Q (.panic [{ v, recovered := false }]) σ w) : WpL P N ops K Q (o :: rest) σ w := by
 intro dz a ha he
 refine wpList_plain hg fun K' hK => ?_
 unfold Oper.wp
 rw [eval_env, he, hr]
 simp only [Oper.upon]
 exact ⟨ha, by rw [he]; exact k⟩
theorem r_panic {dst : Option Tmp} {ty : TypeId} {pos : String} {af : Array Edge} {g : Option (Nat × Bool)} {x : Operand} {u : TypeId} {v : Value} (hx : ev σ x = .iface u v) : (execOp (ev σ) ⟨dst, .panic x, ty, pos, af, g⟩).run P w = .halt (.panic (.iface u v)) w := by
 simp [execOp, hx, Instr.panic]
theorem r_makeIface {dst : Option Tmp} {ty : TypeId} {pos : String} {af : Array Edge} {g : Option (Nat × Bool)} {x : Operand} {t : TypeId} {fs : Array Field} {v : Value} (hu : P.underlying t = some (.struct fs)) (hx : ev σ x = v) : (execOp (ev σ) ⟨dst, .makeInterface t x, ty, pos, af, g⟩).run P w = .ok (.value (.iface t v)) w := by
 subst hx; simp [execOp, Instr.makeInterface, run_underlying hu]
end
/-- Where the body ends with the deferred call d still to be made. -/
def finD (P : Program) (fn : Func) (R : Ending → World → Prop) (d : Deferred) : Post
  | .normal, σ, w | .ret, σ, w => ∀ a : Act, env a = σ → Leaves P fn a.tmps R [d] .returning w
  | .panic ch, σ, w => ∀ a : Act, env a = σ → Leaves P fn a.tmps R [d] (.panicking ch) w
  | _, _, _ => False
def WpA (P : Program) (N : Nat) (c : Code) (Q : Exit → Act → World → Prop) (σ : Env) (w : World) : Prop := ∀ a, Ok [] N a → env a = σ → c.wp P Q a w
def WpLA (P : Program) (N : Nat) (ops : Array Oper) (Q : Exit → Act → World → Prop) (l : List Oper) (σ : Env) (w : World) : Prop := ∀ a, Ok [] N a → env a = σ → wpList P ops Q l a w
section
variable {P : Program} {N : Nat} {QA : Exit → Act → World → Prop} {σ : Env} {w : World} {ops : Array Oper} {rest : List Oper} {y : Code}
theorem CallsA_of {f : FuncId} {fn : Func} {c : Code} {args : Array Value} {R : Ending → World → Prop}
  (hf : P.funcs[f]? = some fn) (hb : fn.body = some c) (hn : fn.ntmps = N) (hsz : args.size ≤ N)
  (h : WpA P N c (bodyPostD P fn R) (fun t => args.getD t undef) w) : Calls P f args w R := by
 refine calls_of_wp_defers hf hb (h _ ⟨?_, rfl⟩ ?_)
 ·simp [hn]; omega
 ·funext t
  simp only [env, Array.getD_eq_getD_getElem?, Array.getElem?_append]
  split
  ·rfl
  ·rename_i hlt
   rw [Array.getElem?_replicate, Array.getElem?_eq_none (xs := args) (by omega)]
   split <;> rfl
theorem WpA_seq_region {id : Nat} {l : List Oper} (h : WpL P N l.toArray (WpA P N y QA) (fun _ _ _ => False) l σ w) : WpA P N (.seq (.region id l.toArray false) y) QA σ w := fun a ha he => by
 refine wp_seq (Code.wp_mono ?_ (wp_region_lit (h [] a ha he)))
 rintro e a' w' ⟨o, q⟩
 cases e <;> first | exact q a' o rfl | exact (show False from q).elim
theorem WpA_seq_regionD {id : Nat} {l : List Oper} (h : WpLA P N l.toArray (Exit.then (y.wp P QA) QA) l σ w) : WpA P N (.seq (.region id l.toArray false) y) QA σ w := fun a ha he => wp_seq (wp_region_lit (h a ha he))
theorem WpLA_val {o : Oper} (hg : o.guard = none) {d : Nat} (hd : o.dst = some d) (hN : d < N) {v : Value} {w' : World}
  (hr : (execOp (ev σ) o).run P w = .ok (.value v) w') (k : WpLA P N ops QA rest (upd σ d v) w') : WpLA P N ops QA (o :: rest) σ w := by
 intro a ha he
 refine wpList_plain hg fun K' hK => ?_
 unfold Oper.wp
 rw [eval_env, he, hr]
 simp only [Oper.upon, hd]
 exact hK _ _ (k _ (ha.put _ _) (by rw [env_put ha hN, he]))
theorem WpLA_defer {fn : Func} {R : Ending → World → Prop} {o : Oper} {d : Deferred} (hg : o.guard = none) (hd : o.dst = none)
  (hr : (execOp (ev σ) o).run P w = .ok (.defer d) w) (k : Wp P N y (finD P fn R d) σ w) : WpLA P N ops (Exit.then (y.wp P (bodyPostD P fn R)) (bodyPostD P fn R)) [o] σ w := by
 intro a ha he
 refine wpList_plain hg fun K' hK => ?_
 unfold Oper.wp
 rw [eval_env, he, hr]
 simp only [Oper.upon, hd]
 refine hK _ _ ?_
 have hd0 := ha.defers
 have h1 := k [d] { a with defers := d :: a.defers } ⟨ha.size, by simp [hd0]⟩ (by rw [← he]; rfl)
 show y.wp P (bodyPostD P fn R) { a with defers := d :: a.defers } w
 refine Code.wp_mono ?_ h1
 rintro e a' w' ⟨o', q⟩
 have ho := o'.defers
 cases e <;> simp only [finD] at q <;> simp only [bodyPostD]
 ·rw [ho]; exact q a' rfl
 ·rw [ho]; exact q a' rfl
 ·rw [ho]; exact q a' rfl
theorem r_defer {ty : TypeId} {pos : String} {af : Array Edge} {g : Option (Nat × Bool)} {x : Operand} {ts : Array TypeId} {f : FuncId} {cap : Array Value} (hx : ev σ x = .func (.func f) #[] cap) : (execOp (ev σ) ⟨none, .defer ⟨.value x, #[], ts⟩, ty, pos, af, g⟩).run P w = .ok (.defer { target := .fn (.func f) cap, args := #[] }) w := by
 simp [execOp, resolve, hx, Deferred.ofValue]
theorem leaves_end {fn : Func} {tmps : Array Value} {R : Ending → World → Prop} {d : Deferred} {f : FuncId} {cap : Array Value} {u : FrameMode} {X : World → Prop} (hd : d = { target := .fn (.func f) cap, args := #[] }) (hu : u ≠ .run)
  (hi : (callFunc f cap).run P w = .ok (.enter f cap) w) (hc : CallsD P f cap u w fun e u' w' => (∃ r, e = .returned r) ∧ settle u' = .returning ∧ X w') (hX : ∀ w', X w' → ∃ v, (results fn tmps).run P w' = .ok v w' ∧ R (.returned v) w') : Leaves P fn tmps R [d] u w := by
 subst hd
 refine leaves_cons (f := f) (args := cap) hu (by simpa [invoke] using hi) (hc.mono ?_)
 rintro e u' w' ⟨⟨r, rfl⟩, h1, h2⟩
 simp only
 rw [h1]
 exact hX w' h2
end
theorem r_recover {P : Program} {w : World} {ρ : Operand → Value} {dst : Option Tmp} {ty : TypeId} {pos : String} {af : Array Edge} {g : Option (Nat × Bool)} {ts : Array TypeId} : (execOp ρ ⟨dst, .call ⟨.builtin .recover, #[], ts⟩, ty, pos, af, g⟩).run P w = .ok .recover w := by
 simp [execOp, resolve, invoke, builtin]
section
variable {P : Program} {σ : Env} {w : World} {dst : Option Tmp} {ty : TypeId} {pos : String} {af : Array Edge} {g : Option (Nat × Bool)} {x : Operand} {t s : TypeId} {v : Value} {fs : Array Field}
theorem r_assertYes (hu : P.underlying t = some (.struct fs)) (hx : ev σ x = .iface t v) : (execOp (ev σ) ⟨dst, .typeAssert x s t true, ty, pos, af, g⟩).run P w = .ok (.value (.tuple #[v, .bool true])) w := by
 simp [execOp, hx, Instr.typeAssert, run_underlying hu]
theorem r_assertNil (hu : P.underlying t = some (.struct fs)) (hz : Zer P t v) (hx : ev σ x = .nilIface) : (execOp (ev σ) ⟨dst, .typeAssert x s t true, ty, pos, af, g⟩).run P w = .ok (.value (.tuple #[v, .bool false])) w := by
 have h := hz.run w
 simp [execOp, hx, Instr.typeAssert, run_underlying hu, h]
end
theorem res_agg_cell {P : Program} {fn : Func} {a0 a1 t u b b1 n : Nat} (hr : fn.results = #[.cell a0 t, .cell a1 u]) {σ : Env} {w : World} {vs : List Value} {v' : Value} (hv : σ a0 = .pointer (some ⟨b, 0, none⟩)) (hv1 : σ a1 = .pointer (some ⟨b1, 0, none⟩)) (hf : aggB P t = true) (hs : Siz P t n) (hn : vs.length = n) (hc : CellsAt w b 0 vs) (hf1 : flatB P u = true) (hc1 : w.cell? ⟨b1, 0, none⟩ = some v') {a : Act} (ha : env a = σ) : (results fn a.tmps).run P w = .ok (.tuple #[.agg vs.toArray, v']) w := by
 subst ha
 have h0 : a.tmps.getD a0 undef = .pointer (some ⟨b, 0, none⟩) := hv
 have h1 : a.tmps.getD a1 undef = .pointer (some ⟨b1, 0, none⟩) := hv1
 simp only [Array.getD_eq_getD_getElem?] at h0 h1
 have h2 := run_loadVar (P := P) (w := w) hf hs hn hc
 have h3 : (loadVar u ⟨b1, 0, none⟩).run P w = .ok v' w := by simp [loadVar, flatB.run hf1, hc1]
 simp [results, hr, h0, h1, asAddr, h2, h3]
theorem letsOut_mono {Q Q' : Exit → Act → World → Prop} (hq : ∀ e a w, Q e a w → Q' e a w) (h : LetsOut Q) : LetsOut Q' := by
 obtain ⟨a, w, h⟩ := h; exact ⟨a, w, hq _ _ _ h⟩
theorem oper_mono {P : Program} {o : Oper} {a : Act} {w : World} {K K' : Act → World → Prop} {Q Q' : Exit → Act → World → Prop} (h : ∀ a w, K a w → K' a w) (hq : ∀ e a w, Q e a w → Q' e a w)
    (hh : o.wp P a w K Q) : o.wp P a w K' Q' := by
  unfold Oper.wp at *
  generalize (execOp a.eval o).run P w = r at *
  cases r with
  | ok n w' =>
    cases n <;> simp only [Oper.upon] at hh ⊢ <;>
      first
        | exact h _ _ hh
        | exact Calls.mono hh (fun e w'' he => by cases e <;> first | exact h _ _ he | exact letsOut_mono hq he | exact hq _ _ _ he)
        | exact Rows.mono hh (fun _ _ he => h _ _ he)
  | halt x w' => cases x <;> simp only [Oper.upon] at hh ⊢ <;> first | exact hq _ _ _ hh | exact hh
theorem wpList_monoQ {P : Program} {ops : Array Oper} {Q Q' : Exit → Act → World → Prop} (hq : ∀ e a w, Q e a w → Q' e a w) : ∀ (l : List Oper) (a : Act) (w : World), wpList P ops Q l a w → wpList P ops Q' l a w := by
  intro l
  induction l with
  | nil => intro a w h; exact hq _ _ _ h
  | cons o l ih =>
    intro a w h
    unfold wpList at h ⊢
    by_cases hw : Region.wanted o (yielded ops a.tmps) = true
    · rw [if_pos hw] at h ⊢
      rcases h with h | h
      · exact .inl (oper_mono (fun a w h => ih a w h) hq h)
      · exact .inr ⟨h.1, letsOut_mono hq h.2⟩
    · rw [if_neg hw] at h ⊢
      exact ih _ _ h
theorem wpS_of_list {P : Program} {ops : Array Oper} {Q : Exit → Act → List Frame → World → Prop} {cs : List Frame} (hL : ∀ (a : Act) (w : World), ¬ Q .outgrown a cs w) : ∀ (l : List Oper) (k : Nat) (a : Act) (w : World), (∀ j, l[j]? = ops[k + j]?) → wpList P ops (fun e a w => Q e a cs w) l a w → wpOpsS P ops Q (List.range' k l.length) a cs w := by
  intro l
  induction l with
  | nil => intro k a w _ h; exact h
  | cons o l ih =>
    intro k a w hj h
    have h0 : ops[k]? = some o := by simpa using (hj 0).symm
    have hj' : ∀ j, l[j]? = ops[k + 1 + j]? := fun j => by have := hj (j + 1); simpa [Nat.add_assoc, Nat.add_comm 1 j] using this
    rw [List.length_cons, List.range'_succ]
    unfold wpList at h
    unfold wpOpsS
    simp only [h0]
    by_cases hw : Region.wanted o (yielded ops a.tmps) = true
    · rw [if_pos hw] at h ⊢
      rcases h with h | ⟨_, a1, w1, h⟩
      · have h2 := oper_mono (K' := fun a' w' => wpOpsS P ops Q (List.range' (k + 1) l.length) a' cs w') (fun a w h => ih (k + 1) a w hj' h) (fun _ _ _ h => h) h
        unfold Oper.wp at h2
        split
        · rename_i heq
          rw [heq] at h2
          exact (show False from h2).elim
        · exact h2
      · exact absurd h (hL a1 w1)
    · rw [if_neg hw] at h ⊢
      exact ih (k + 1) _ _ hj' h
theorem CallsD_recover {P : Program} {N : Nat} {f : FuncId} {fn : Func} {id d0 : Nat} {o0 : Oper} {rest : List Oper} {y : Code} {args : Array Value} {u u' : FrameMode} {w : World} {v : Value} {R : Value → World → Prop}
    (hf : P.funcs[f]? = some fn) (hb : fn.body = some (.seq (.region id (o0 :: rest).toArray false) y)) (hn : fn.ntmps = N) (hsz : args.size ≤ N) (hg : o0.guard = none) (hd : o0.dst = some d0) (hN : d0 < N)
    (hop : ∀ (ρ : Operand → Value) (w : World), (execOp ρ o0).run P w = .ok .recover w)
    (hu : (u = .returning ∧ v = .nilIface ∧ u' = u) ∨ ∃ older, u = .panicking ({ v := v, recovered := false } :: older) ∧ u' = .panicking ({ v := v, recovered := true } :: older))
    (h : WpL P N (o0 :: rest).toArray (Wp P N y (fin P fn R)) (fin P fn R) rest (upd (fun t => args.getD t undef) d0 v) w) : CallsD P f args u w fun e u1 w' => (∃ r, e = .returned r ∧ R r w') ∧ u1 = u' := by
  refine callsD_of_wpS hf hb fun c₀ cs hu0 => ?_
  apply wpS_seq
  apply wpS_region
  have hsz2 : (o0 :: rest).toArray.size = rest.length + 1 := by simp
  rw [hsz2, List.range_eq_range', List.range'_succ]
  obtain ⟨a0, ha0⟩ : ∃ a0 : Act, a0 = { tmps := args ++ Array.replicate (fn.ntmps - args.size) undef, defers := [] } := ⟨_, rfl⟩
  rw [← ha0]
  have hok : Ok [] N a0 := ⟨by rw [ha0]; simp [hn]; omega, by rw [ha0]⟩
  have henv : env a0 = fun t => args.getD t undef := by
    rw [ha0]
    funext t
    simp only [env, Array.getD_eq_getD_getElem?, Array.getElem?_append]
    split
    · rfl
    · rename_i hlt
      rw [Array.getElem?_replicate, Array.getElem?_eq_none (xs := args) (by omega)]
      split <;> rfl
  have h1 := h [] (a0.put (some d0) v) (hok.put _ _) (by rw [env_put hok hN, henv])
  have hrec : (match recoverD (c₀ :: cs) with | some (v, cs') => some (v, cs') | none => some (Value.nilIface, c₀ :: cs)) = some (v, { c₀ with mode := u' } :: cs) := by
    rcases hu with ⟨rfl, rfl, rfl⟩ | ⟨older, rfl, rfl⟩
    · have : ({ c₀ with mode := FrameMode.returning } : Frame) = c₀ := by cases c₀; simp at hu0; subst hu0; rfl
      simp [recoverD, hu0, this]
    · simp [recoverD, hu0]
  have h2 : wpOpsS P (o0 :: rest).toArray (Exit.thenS (y.wpS P (bodyPostS P fn c₀ cs fun e u1 w' => (∃ r, e = .returned r ∧ R r w') ∧ u1 = u')) (bodyPostS P fn c₀ cs fun e u1 w' => (∃ r, e = .returned r ∧ R r w') ∧ u1 = u')) (List.range' (0 + 1) rest.length) (a0.put (some d0) v) ({ c₀ with mode := u' } :: cs) w := by
    refine wpS_of_list ?_ rest (0 + 1) _ _ (fun j => by simp [Nat.add_comm]) (wpList_monoQ ?_ rest _ _ h1)
    · rintro a w1 ⟨u9, ⟨r, h9, _⟩, _⟩; cases h9
    · rintro e a w1 ⟨o, q⟩
      cases e <;> simp only [thn] at q <;> simp only [Exit.thenS]
      · refine wpS_of_wp (Code.wp_mono ?_ (q [] a o rfl))
        rintro e a w1 ⟨o, q⟩
        cases e <;> simp only [fin] at q <;> simp only [bodyPostS]
        · obtain ⟨v9, hv, r⟩ := q; exact ⟨o.defers, u', rfl, v9, hv a rfl, ⟨v9, rfl, r⟩, rfl⟩
        · obtain ⟨v9, hv, r⟩ := q; exact ⟨o.defers, u', rfl, v9, hv a rfl, ⟨v9, rfl, r⟩, rfl⟩
      all_goals simp only [fin] at q
      · obtain ⟨v9, hv, r⟩ := q; exact ⟨o.defers, u', rfl, v9, hv a rfl, ⟨v9, rfl, r⟩, rfl⟩
  unfold wpOpsS
  have h0 : (o0 :: rest).toArray[0]? = some o0 := by simp
  have hw : Region.wanted o0 (yielded (o0 :: rest).toArray a0.tmps) = true := by simp [Region.wanted, hg]
  simp only [h0, hop]
  rw [if_pos hw, hd]
  cases hr : recoverD (c₀ :: cs) with
  | none => rw [hr] at hrec; simp only [Option.some.injEq, Prod.mk.injEq] at hrec; rw [← hrec.1, ← hrec.2] at h2; exact h2
  | some p => rw [hr] at hrec; obtain ⟨p1, p2⟩ := p; simp only [Option.some.injEq, Prod.mk.injEq] at hrec; rw [← hrec.1, ← hrec.2] at h2; exact h2
end Go.Eng
