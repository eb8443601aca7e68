/- Contracts: slices reversed, expressions reversed. -/
import Derived.Test.YtiepeobnpmoghaaW29
import Derived.Test.YtiepeobnpmoghaaLr
namespace Go.Proofs
open Go Go.Eng
set_option maxRecDepth 100000

theorem rev_step {α : Type} {l cur : List α} {n i : Nat} (hc : cur.length = n) (hi : 2 * i + 1 < n) (h : ∀ k, k < n → cur[k]? = if k < i ∨ n - i ≤ k then l[n - 1 - k]? else l[k]?) {x y : α} (hx : cur[i]? = some x) (hy : cur[n - 1 - i]? = some y) :
    ∀ k, k < n → ((cur.set i y).set (n - 1 - i) x)[k]? = if k < i + 1 ∨ n - (i + 1) ≤ k then l[n - 1 - k]? else l[k]? := by
  intro k hk
  have h1 := h i (by omega)
  rw [hx, if_neg (by omega)] at h1
  have h2 := h (n - 1 - i) (by omega)
  rw [hy, if_neg (by omega)] at h2
  by_cases hk1 : k = n - 1 - i
  · subst hk1
    rw [List.getElem?_set_self (by simp; omega), if_pos (by omega), show n - 1 - (n - 1 - i) = i from by omega, h1]
  · rw [List.getElem?_set_ne (by omega)]
    by_cases hk2 : k = i
    · subst hk2
      rw [List.getElem?_set_self (by omega), if_pos (by omega), h2]
    · rw [List.getElem?_set_ne (by omega), h k hk]
      by_cases hk3 : k < i ∨ n - i ≤ k
      · rw [if_pos hk3, if_pos (by omega)]
      · rw [if_neg hk3, if_neg (by omega)]
theorem rev_done {α : Type} {l cur : List α} {n i : Nat} (hn : l.length = n) (hc : cur.length = n) (hi : n ≤ 2 * i + 1) (h : ∀ k, k < n → cur[k]? = if k < i ∨ n - i ≤ k then l[n - 1 - k]? else l[k]?) : cur = l.reverse := by
  apply List.ext_getElem?
  intro k
  by_cases hk : k < n
  · rw [h k hk, List.getElem?_reverse (by omega), hn]
    by_cases hk2 : k < i ∨ n - i ≤ k
    · rw [if_pos hk2]
    · rw [if_neg hk2, show n - 1 - k = k from by omega]
  · rw [List.getElem?_eq_none (by omega), List.getElem?_eq_none (by simp; omega)]
theorem flat_intV (l : List Int) : (l.map intV).flatten = l.map (Value.int .i64) := by
  induction l with
  | nil => rfl
  | cons x l ih => simp only [List.map_cons, List.flatten_cons, ih]; rfl
theorem ints_set {l : List Int} {rest : List Value} {i : Nat} (hi : i < l.length) (y : Int) : (l.map (Value.int .i64) ++ rest).toArray.setIfInBounds i (.int .i64 y) = ((l.set i y).map (Value.int .i64) ++ rest).toArray := by
  apply Array.ext'
  rw [Array.toList_setIfInBounds, List.map_set]
  simp only
  rw [List.set_append, if_pos (by simpa using hi)]
theorem ints_get {w : World} {b T : Nat} {l : List Int} {rest : List Value} (h : Blk w b (l.map (Value.int .i64) ++ rest).toArray T) {i : Nat} {x : Int} (hx : l[i]? = some x) : w.cell? ⟨b, i, none⟩ = some (.int .i64 x) := by
  refine h.cell ?_
  have := lt_of_get hx
  simp only [List.getElem?_toArray]
  rw [List.getElem?_append_left (by simpa using this)]
  simp [hx]

theorem RowsIn.reverse {S : Nat → Prop} {w : World} : ∀ {ts : List Re} {rows : List (List Value)}, RowsIn S w ts rows → RowsIn S w ts.reverse rows.reverse
  | [], _, h => by simp only [RowsIn] at h; subst h; rfl
  | t :: ts, rows, h => by
    obtain ⟨r, rs, rfl, h2, h3⟩ := h
    rw [List.reverse_cons, List.reverse_cons]
    exact RowsIn.append (RowsIn.single h2) (RowsIn.reverse h3)

end Go.Proofs
