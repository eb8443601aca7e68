/- dfa.Count, walked. -/
import Derived.Test.YtncmfkibflogkaaAq
namespace Go.Proofs
open Go Go.Eng Go.Sort
set_option maxRecDepth 100000

def wt (c : Nat) (d : Dfa) (j : Nat) (i : Nat) : Int := cntF c j (beh d ((i : Nat) : Int))
/-- A vector of ways. -/
structure Ways (n c : Nat) (d : Dfa) (k : Nat) (l : List Int) : Prop where
  len : l.length = n
  nn : ∀ x ∈ l, 0 ≤ x
  sum : l.sum ≤ ((c ^ k : Nat) : Int)
  dot : ∀ j, dotF (wt c d j) 0 l = cntF c (k + j) (beh d d.start)
theorem Ways.start {n c : Nat} {d : Dfa} (ok : OkD n c d) {s : Nat} (hs : d.start = ((s : Nat) : Int)) : Ways n c d 0 ((List.replicate n (0 : Int)).set s 1) := by
  have hst := ok.st
  have h0 : (List.replicate n (0 : Int))[s]? = some 0 := by rw [List.getElem?_replicate, if_pos (by omega)]
  have e : (List.replicate n (0 : Int)).set s 1 = (List.replicate n (0 : Int)).set s (0 + 1) := rfl
  refine ⟨by simp, ?_, ?_, fun j => ?_⟩
  · rw [e]; exact set_nn (fun x hx => by rw [List.eq_of_mem_replicate hx]; decide) (by decide)
  · rw [e, sum_set h0]
    have : (List.replicate n (0 : Int)).sum = 0 := by clear e h0 hst ok; induction n with | zero => rfl | succ n ih => rw [List.replicate_succ, List.sum_cons, ih]; rfl
    rw [this]; simp
  · rw [e, dotF_set _ h0, dotF_zero, Nat.zero_add, Nat.zero_add, wt, hs]; omega
/-- The next vector while it is made: the states below s done, of state s the symbols below x. -/
structure Nxt (n c : Nat) (d : Dfa) (ways : List Int) (s x : Nat) (l : List Int) : Prop where
  len : l.length = n
  nn : ∀ y ∈ l, 0 ≤ y
  sum : l.sum ≤ c * (ways.take s).sum + x * ways.getD s 0
  dot : ∀ j, dotF (wt c d j) 0 l = dotF (wt c d (j + 1)) 0 (ways.take s) + ways.getD s 0 * ((List.range x).map fun y => cntF c j (beh d (toD d ((s : Nat) : Int) y))).sum
theorem Nxt.start (n c : Nat) (d : Dfa) (ways : List Int) : Nxt n c d ways 0 0 (List.replicate n 0) := by
  refine ⟨by simp, fun y hy => by rw [List.eq_of_mem_replicate hy]; decide, ?_, fun j => ?_⟩
  · have : (List.replicate n (0 : Int)).sum = 0 := by induction n with | zero => rfl | succ n ih => rw [List.replicate_succ, List.sum_cons, ih]; rfl
    rw [this]; simp
  · rw [dotF_zero]; simp [dotF]
theorem Nxt.skip {n c : Nat} {d : Dfa} {ways l : List Int} {s x : Nat} (h : Nxt n c d ways s x l) (hw : 0 ≤ ways.getD s 0) (ht : toD d ((s : Nat) : Int) x < 0) : Nxt n c d ways s (x + 1) l := by
  refine ⟨h.len, h.nn, ?_, fun j => ?_⟩
  · have := h.sum
    rw [show ((x + 1 : Nat) : Int) * ways.getD s 0 = x * ways.getD s 0 + ways.getD s 0 by rw [Int.natCast_add, Int.add_mul]; simp]
    omega
  · rw [h.dot j, List.range_succ, List.map_append, List.sum_append]
    simp only [List.map_cons, List.map_nil, List.sum_cons, List.sum_nil]
    rw [cntF_neg fun w _ => by rw [beh_neg ht]; decide]
    simp
theorem Nxt.put {n c : Nat} {d : Dfa} {ways l : List Int} {s x t : Nat} {y : Int} (h : Nxt n c d ways s x l) (hw : 0 ≤ ways.getD s 0) (ht : toD d ((s : Nat) : Int) x = ((t : Nat) : Int)) (hy : l[t]? = some y) : Nxt n c d ways s (x + 1) (l.set t (y + ways.getD s 0)) := by
  have hyn := h.nn y (List.mem_of_getElem? hy)
  refine ⟨by simp [h.len], set_nn h.nn (by omega), ?_, fun j => ?_⟩
  · have := h.sum
    rw [sum_set hy, show ((x + 1 : Nat) : Int) * ways.getD s 0 = x * ways.getD s 0 + ways.getD s 0 by rw [Int.natCast_add, Int.add_mul]; simp]
    omega
  · rw [dotF_set _ hy, h.dot j, List.range_succ, List.map_append, List.sum_append, Nat.zero_add]
    simp only [List.map_cons, List.map_nil, List.sum_cons, List.sum_nil]
    rw [ht, Int.mul_add, wt, Int.add_zero]
    omega
theorem Nxt.row {n c : Nat} {d : Dfa} {ways l : List Int} {s : Nat} {w : Int} (h : Nxt n c d ways s c l) (hw : ways[s]? = some w) : Nxt n c d ways (s + 1) 0 l := by
  have hg : ways.getD s 0 = w := by rw [List.getD_eq_getElem?_getD, hw, Option.getD_some]
  refine ⟨h.len, h.nn, ?_, fun j => ?_⟩
  · have := h.sum
    rw [hg] at this
    rw [sum_take hw, Int.mul_add]
    simp only [Int.natCast_zero, Int.zero_mul]
    omega
  · rw [h.dot j, hg, dotF_take _ hw]
    simp only [List.range_zero, List.map_nil, List.sum_nil, Int.mul_zero, Int.add_zero]
    rfl
theorem Nxt.done {n c k : Nat} {d : Dfa} {ways l : List Int} {s : Nat} (h : Nxt n c d ways s 0 l) (hs : s = ways.length) (hW : Ways n c d k ways) : Ways n c d (k + 1) l := by
  subst hs
  refine ⟨h.len, h.nn, ?_, fun j => ?_⟩
  · have h1 := h.sum
    have h2 := hW.sum
    rw [List.take_length] at h1
    simp only [Int.natCast_zero, Int.zero_mul, Int.add_zero] at h1
    have h3 : (c : Int) * ways.sum ≤ c * ((c ^ k : Nat) : Int) := Int.mul_le_mul_of_nonneg_left h2 (by omega)
    rw [Nat.pow_succ, Nat.mul_comm, Int.natCast_mul]
    omega
  · rw [h.dot j, List.take_length, hW.dot (j + 1)]
    simp only [List.range_zero, List.map_nil, List.sum_nil, Int.mul_zero, Int.add_zero]
    congr 1
    omega
theorem wt_le (c : Nat) (d : Dfa) (i : Nat) : 0 ≤ wt c d 0 i ∧ wt c d 0 i ≤ 1 := by
  unfold wt cntF
  split <;> decide
theorem dot_le (c : Nat) (d : Dfa) : ∀ {l : List Int} {i : Nat}, (∀ x ∈ l, 0 ≤ x) → dotF (wt c d 0) i l ≤ l.sum
  | [], _, _ => by simp [dotF]
  | x :: l, i, h => by
    have h1 := dot_le c d (i := i + 1) fun y hy => h y (List.mem_cons_of_mem _ hy)
    have h2 := h x List.mem_cons_self
    have h3 := wt_le c d i
    have h4 : x * wt c d 0 i ≤ x * 1 := Int.mul_le_mul_of_nonneg_left h3.2 h2
    simp only [dotF, List.sum_cons]
    omega
theorem dot_nn (c : Nat) (d : Dfa) : ∀ {l : List Int} {i : Nat}, (∀ x ∈ l, 0 ≤ x) → 0 ≤ dotF (wt c d 0) i l
  | [], _, _ => by simp [dotF]
  | x :: l, i, h => by
    have h1 := dot_nn c d (i := i + 1) fun y hy => h y (List.mem_cons_of_mem _ hy)
    have h2 := h x List.mem_cons_self
    have h4 := Int.mul_nonneg h2 (wt_le c d i).1
    simp only [dotF]
    omega
theorem Nxt.bound {n c k : Nat} {d : Dfa} {ways l : List Int} {s j : Nat} (h : Nxt n c d ways s j l) (hW : Ways n c d k ways) (hj : j ≤ c) {x : Int} (hx : x ∈ l) : x ≤ ((c ^ (k + 1) : Nat) : Int) := by
  obtain ⟨t, ht⟩ := List.mem_iff_getElem?.1 hx
  have h1 := le_sum h.nn ht
  have h2 := h.sum
  have h3 := hW.sum
  have h4 := take_sum_le hW.nn (s + 1)
  have h5 : (ways.take s).sum + ways.getD s 0 ≤ ways.sum := by
    cases hw : ways[s]? with
    | none => rw [List.getD_eq_getElem?_getD, hw]; have := take_sum_le hW.nn s; simpa using this
    | some w => rw [List.getD_eq_getElem?_getD, hw, Option.getD_some, ← sum_take hw]; exact h4
  have h6 : 0 ≤ ways.getD s 0 := by
    cases hw : ways[s]? with
    | none => rw [List.getD_eq_getElem?_getD, hw]; decide
    | some w => rw [List.getD_eq_getElem?_getD, hw, Option.getD_some]; exact hW.nn w (List.mem_of_getElem? hw)
  have h7 : (j : Int) * ways.getD s 0 ≤ c * ways.getD s 0 := Int.mul_le_mul_of_nonneg_right (by omega) h6
  have h8 : (c : Int) * ((ways.take s).sum + ways.getD s 0) ≤ c * ((c ^ k : Nat) : Int) := Int.mul_le_mul_of_nonneg_left (by omega) (by omega)
  rw [Int.mul_add] at h8
  rw [Nat.pow_succ, Nat.mul_comm, Int.natCast_mul]
  omega
theorem wt_at {c : Nat} {d : Dfa} {i : Nat} {y : Int} (h : d.accept[i]? = some y) : wt c d 0 i = if 0 ≤ y then 1 else 0 := by
  have e : beh d ((i : Nat) : Int) [] = y := atD_get h
  simp only [wt, cntF, e]
end Go.Proofs
