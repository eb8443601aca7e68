/- Counting the accepted words of a length, plain. -/
import Derived.Test.YtncmfkibflogkaaAp
namespace Go.Proofs
open Go Go.Eng

--BEGIN
def cntF (c : Nat) : Nat → (List Nat → Int) → Int
  | 0, f => if 0 ≤ f [] then 1 else 0
  | k + 1, f => ((List.range c).map fun x => cntF c k fun w => f (x :: w)).sum
def dotF (g : Nat → Int) : Nat → List Int → Int
  | _, [] => 0
  | i, x :: l => x * g i + dotF g (i + 1) l
theorem sum_congr {c : Nat} {g h : Nat → Int} (e : ∀ x, x < c → g x = h x) : ((List.range c).map g).sum = ((List.range c).map h).sum := by
  congr 1
  exact List.map_congr_left fun x hx => e x (List.mem_range.1 hx)
theorem cntF_congr {c : Nat} : ∀ {k : Nat} {f g : List Nat → Int}, (∀ w, inW c w → f w = g w) → cntF c k f = cntF c k g
  | 0, f, g, h => by simp only [cntF]; rw [h [] (inW.nil c)]
  | k + 1, f, g, h => sum_congr fun x hx => cntF_congr fun w hw => h (x :: w) (inW.cons hx hw)
theorem cntF_neg {c : Nat} : ∀ {k : Nat} {f : List Nat → Int}, (∀ w, inW c w → f w < 0) → cntF c k f = 0
  | 0, f, h => by simp only [cntF]; rw [if_neg (by have := h [] (inW.nil c); omega)]
  | k + 1, f, h => by
    have : ((List.range c).map fun x => cntF c k fun w => f (x :: w)).sum = ((List.range c).map fun _ => (0 : Int)).sum := sum_congr fun x hx => cntF_neg fun w hw => h (x :: w) (inW.cons hx hw)
    simp only [cntF]
    rw [this]
    clear this h
    induction c with
    | zero => rfl
    | succ c ih => rw [List.range_succ, List.map_append, List.sum_append, ih]; rfl
theorem sum_add {c : Nat} {g h : Nat → Int} {z : Int} (e : ∀ x, x < c → g x + h x = z) : ((List.range c).map g).sum + ((List.range c).map h).sum = c * z := by
  induction c with
  | zero => simp
  | succ c ih =>
    have h1 := ih fun x hx => e x (by omega)
    have h2 := e c (by omega)
    rw [List.range_succ, List.map_append, List.sum_append, List.map_append, List.sum_append]
    simp only [List.map_cons, List.map_nil, List.sum_cons, List.sum_nil]
    rw [show ((c + 1 : Nat) : Int) * z = c * z + z by rw [Int.natCast_add, Int.add_mul]; simp]
    omega
/-- Each word is accepted by one of the two. -/
theorem cntF_not {c : Nat} : ∀ {k : Nat} {f : List Nat → Int}, cntF c k f + cntF c k (fun w => fl (f w)) = ((c ^ k : Nat) : Int)
  | 0, f => by
    simp only [cntF, fl]
    by_cases h : f [] < 0
    · simp [h]; omega
    · simp [h]
  | k + 1, f => by
    simp only [cntF]
    rw [sum_add (z := ((c ^ k : Nat) : Int)) fun x _ => cntF_not, Nat.pow_succ, Nat.mul_comm, Int.natCast_mul]
theorem cntF_nn {c : Nat} : ∀ {k : Nat} {f : List Nat → Int}, 0 ≤ cntF c k f
  | 0, f => by simp only [cntF]; split <;> decide
  | k + 1, f => by
    simp only [cntF]
    generalize hL : List.range c = L
    clear hL
    induction L with
    | nil => simp
    | cons x L ih => simp only [List.map_cons, List.sum_cons]; have := cntF_nn (c := c) (k := k) (f := fun w => f (x :: w)); omega
theorem cntF_pos {c : Nat} : ∀ {w : List Nat} {f : List Nat → Int}, inW c w → 0 ≤ f w → 0 < cntF c w.length f
  | [], f, _, h => by simp only [List.length_nil, cntF]; rw [if_pos h]; decide
  | x :: w, f, hw, h => by
    have h1 := cntF_pos (f := fun w => f (x :: w)) hw.tail h
    simp only [List.length_cons, cntF]
    have hx := List.mem_range.2 hw.head
    revert hx
    generalize List.range c = L
    intro hx
    induction L with
    | nil => cases hx
    | cons y L ih =>
      simp only [List.map_cons, List.sum_cons]
      have h2 : ∀ L : List Nat, 0 ≤ (L.map fun x => cntF c w.length fun w => f (x :: w)).sum := fun L => by
        induction L with
        | nil => simp
        | cons z L ih => simp only [List.map_cons, List.sum_cons]; have := cntF_nn (c := c) (k := w.length) (f := fun w => f (z :: w)); omega
      rcases List.mem_cons.1 hx with rfl | hx
      · have := h2 L; omega
      · have := ih hx
        have := cntF_nn (c := c) (k := w.length) (f := fun w => f (y :: w))
        omega
theorem cntF_some {c : Nat} : ∀ {k : Nat} {f : List Nat → Int}, 0 < cntF c k f → ∃ w, w.length = k ∧ inW c w ∧ 0 ≤ f w
  | 0, f, h => by
    simp only [cntF] at h
    split at h
    · exact ⟨[], rfl, inW.nil c, by assumption⟩
    · omega
  | k + 1, f, h => by
    simp only [cntF] at h
    have key : ∀ L : List Nat, (∀ x ∈ L, x < c) → 0 < (L.map fun x => cntF c k fun w => f (x :: w)).sum → ∃ x ∈ L, 0 < cntF c k fun w => f (x :: w) := by
      intro L
      induction L with
      | nil => intro _ h; simp at h
      | cons x L ih =>
        intro hL h
        simp only [List.map_cons, List.sum_cons] at h
        by_cases h1 : 0 < cntF c k fun w => f (x :: w)
        · exact ⟨x, List.mem_cons_self, h1⟩
        · obtain ⟨y, hy, h2⟩ := ih (fun z hz => hL z (List.mem_cons_of_mem _ hz)) (by omega)
          exact ⟨y, List.mem_cons_of_mem _ hy, h2⟩
    obtain ⟨x, hx, h1⟩ := key _ (fun x hx => List.mem_range.1 hx) h
    obtain ⟨w, hw, hw2, h2⟩ := cntF_some h1
    exact ⟨x :: w, by simp [hw], inW.cons (List.mem_range.1 hx) hw2, h2⟩
/-! Vectors. -/
theorem dotF_append (g : Nat → Int) : ∀ (l m : List Int) (i : Nat), dotF g i (l ++ m) = dotF g i l + dotF g (i + l.length) m
  | [], m, i => by simp [dotF]
  | x :: l, m, i => by
    simp only [List.cons_append, dotF]
    rw [dotF_append g l m (i + 1), List.length_cons, show i + 1 + l.length = i + (l.length + 1) by omega]
    omega
theorem dotF_take (g : Nat → Int) {l : List Int} {s : Nat} {w : Int} (h : l[s]? = some w) : dotF g 0 (l.take (s + 1)) = dotF g 0 (l.take s) + w * g s := by
  have hs := lt_of_get h
  rw [List.take_add_one, h, dotF_append]
  simp only [Option.toList_some, dotF, List.length_take]
  rw [show 0 + min s l.length = s by omega]
  omega
theorem dotF_set (g : Nat → Int) : ∀ {l : List Int} {t i : Nat} {y w : Int}, l[t]? = some y → dotF g i (l.set t (y + w)) = dotF g i l + w * g (i + t)
  | [], _, _, _, _, h => by simp at h
  | x :: l, 0, i, y, w, h => by
    simp at h
    subst h
    simp only [List.set_cons_zero, dotF, Nat.add_zero, Int.add_mul]
    omega
  | x :: l, t + 1, i, y, w, h => by
    simp only [List.set_cons_succ, dotF]
    rw [dotF_set g (by simpa using h), show i + 1 + t = i + (t + 1) by omega]
    omega
theorem dotF_zero (g : Nat → Int) : ∀ (n i : Nat), dotF g i (List.replicate n 0) = 0
  | 0, _ => rfl
  | n + 1, i => by simp only [List.replicate_succ, dotF]; rw [dotF_zero g n]; simp
theorem sum_take {l : List Int} {s : Nat} {w : Int} (h : l[s]? = some w) : (l.take (s + 1)).sum = (l.take s).sum + w := by
  rw [List.take_add_one, h, List.sum_append]; simp
theorem sum_set : ∀ {l : List Int} {t : Nat} {y w : Int}, l[t]? = some y → (l.set t (y + w)).sum = l.sum + w
  | [], _, _, _, h => by simp at h
  | x :: l, 0, y, w, h => by simp at h; subst h; simp only [List.set_cons_zero, List.sum_cons]; omega
  | x :: l, t + 1, y, w, h => by simp only [List.set_cons_succ, List.sum_cons]; rw [sum_set (by simpa using h)]; omega
theorem sum_nn : ∀ {l : List Int}, (∀ x ∈ l, 0 ≤ x) → 0 ≤ l.sum
  | [], _ => by simp
  | x :: l, h => by simp only [List.sum_cons]; have := h x List.mem_cons_self; have := sum_nn fun y hy => h y (List.mem_cons_of_mem _ hy); omega
theorem le_sum : ∀ {l : List Int} {t : Nat} {y : Int}, (∀ x ∈ l, 0 ≤ x) → l[t]? = some y → y ≤ l.sum
  | [], _, _, _, h => by simp at h
  | x :: l, 0, y, hn, h => by simp at h; subst h; simp only [List.sum_cons]; have := sum_nn fun y hy => hn y (List.mem_cons_of_mem _ hy); omega
  | x :: l, t + 1, y, hn, h => by simp only [List.sum_cons]; have := le_sum (fun y hy => hn y (List.mem_cons_of_mem _ hy)) (show l[t]? = some y by simpa using h); have := hn x List.mem_cons_self; omega
theorem take_sum_le {l : List Int} (h : ∀ x ∈ l, 0 ≤ x) (s : Nat) : (l.take s).sum ≤ l.sum := by
  have e : l.sum = (l.take s).sum + (l.drop s).sum := by rw [← List.sum_append, List.take_append_drop]
  have := sum_nn (l := l.drop s) fun x hx => h x (List.mem_of_mem_drop hx)
  omega
theorem set_nn {l : List Int} {t : Nat} {y w : Int} (h : ∀ x ∈ l, 0 ≤ x) (hy : 0 ≤ y + w) : ∀ x ∈ l.set t (y + w), 0 ≤ x := fun x hx => by
  rcases List.mem_or_eq_of_mem_set hx with h1 | h1
  · exact h x h1
  · omega
--END
end Go.Proofs
