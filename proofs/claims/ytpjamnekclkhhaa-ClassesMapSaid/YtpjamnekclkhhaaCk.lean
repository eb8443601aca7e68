/- Sorted numbers without repeats: slices.Compact; the cuts of a list of sets. -/
import Derived.Test.YtpjamnekclkhhaaCl
import Derived.Shelf.Slices.CompactI
namespace Go.Proofs
open Go Go.Eng Go.Sort

theorem sorti_h (w0 : World) (base g c : Nat) (l : List Int) (h : w0.ownsRow base TInt 1 (.slice (some ⟨g, 0, none⟩) l.length c) l.length (l.map (Value.int .i64))) (hl : l.length ≤ 17592186044416) :
    Ret Try.prog 82 #[.slice (some ⟨g, 0, none⟩) l.length c] w0 fun r w => r = .tuple #[] ∧ Sort.Holds (Value.int .i64) w g 0 (l.mergeSort leB).toArray ∧ Chg (fun x => x = g) w0 w := by
  have hH := ownI_holds h
  have hblk : g < w0.heap.size := (h.lt g rfl).2
  refine Calls.mono (Any.slices_Sort_int Try.sortI g 0 c l w0 hH hblk (by omega)) ?_
  rintro e w' ⟨rfl, n, os, rfl⟩
  refine ⟨_, rfl, rfl, ?_, putRow_chg _ w0 g 0 n _ os⟩
  exact holds_grow _ _ os g 0 _ (by simpa [putRow, mapBlock, Sort.ahead] using hblk) (holds_putRow _ (Sort.ahead w0 n) g 0 l.toArray _ hH (by simp))
theorem compi_c (w0 : World) (g c : Nat) (l : List Int) (hH : Sort.Holds (Value.int .i64) w0 g 0 l.toArray) (hc : l.length ≤ c ∧ c ≤ 9223372036854775807) :
    Ret Try.prog 83 #[.slice (some ⟨g, 0, none⟩) l.length c] w0 fun r w => r = .slice (some ⟨g, 0, none⟩) (Lib.compact l).length c ∧ IntsAt w r (Lib.compact l) ∧ Chg (fun x => x = g) w0 w := by
  refine Calls.mono (Any.slices_Compact_int Try.compI g 0 c l w0 hH (by omega) hc.1) ?_
  rintro e w' ⟨rfl, q, rfl⟩
  have hlen : (Lib.compact l).length ≤ l.length := by
    unfold Lib.compact Lib.compactUpTo
    rw [List.length_map]
    exact Nat.le_trans (List.length_filter_le _ _) (by simp)
  have hcg := putRow_chg (Value.int .i64) w0 g 0 q (Lib.compact l ++ List.replicate (l.length - (Lib.compact l).length) 0).toArray #[]
  have hgr : ∀ w : World, grow w #[] = w := fun w => by simp [grow]
  rw [hgr] at hcg
  refine ⟨_, rfl, rfl, ?_, hcg⟩
  have hh : Sort.Holds (Value.int .i64) (putRow (Value.int .i64) (Sort.ahead w0 q) g 0 (Lib.compact l ++ List.replicate (l.length - (Lib.compact l).length) 0).toArray) g 0 (Lib.compact l ++ List.replicate (l.length - (Lib.compact l).length) 0).toArray :=
    holds_putRow _ (Sort.ahead w0 q) g 0 l.toArray _ hH (by simp; omega)
  have hh2 : Sort.Holds (Value.int .i64) (putRow (Value.int .i64) (Sort.ahead w0 q) g 0 (Lib.compact l ++ List.replicate (l.length - (Lib.compact l).length) 0).toArray) g 0 (Lib.compact l).toArray := by
    intro j hj
    simp only [List.size_toArray] at hj
    have h1 := hh j (by simp; omega)
    rw [getElem!_pos _ j (by simp; omega)] at h1
    rw [getElem!_pos _ j (by simpa using hj)]
    simpa [List.getElem_append_left hj] using h1
  exact holds_ints (l := Lib.compact l) hh2 rfl (by omega) (by omega)
theorem compact_step {l : List Int} (hs : l.Pairwise (· ≤ ·)) : ∀ m, m ≤ l.length → (Lib.compactUpTo l.toArray m).Pairwise (· < ·) ∧ ∀ x, x ∈ Lib.compactUpTo l.toArray m ↔ x ∈ l.take m := by
  intro m
  induction m with
  | zero => intro _; simp [Lib.compactUpTo]
  | succ m ih =>
    intro hm
    obtain ⟨h1, h2⟩ := ih (by omega)
    have hx : l[m]? = some l[m] := List.getElem?_eq_getElem (by omega)
    have hg : l.toArray[m]! = l[m] := by rw [getElem!_pos _ m (by simp; omega)]; simp
    rw [Lib.compactUpTo_succ, take_snoc hx]
    have hle : ∀ x ∈ l.take m, ∃ j, j < m ∧ ∃ hj : j < l.length, l[j] = x := fun x hx => by
      obtain ⟨j, hj⟩ := List.mem_iff_getElem?.1 hx
      have h3 := lt_of_get hj
      rw [List.length_take] at h3
      have h31 : j < m := by omega
      have h32 : j < l.length := by omega
      rw [List.getElem?_take, if_pos h31, List.getElem?_eq_getElem h32] at hj
      exact ⟨j, h31, h32, Option.some.inj hj⟩
    have hmono : ∀ (i j : Nat) (hi : i < l.length) (hj : j < l.length), i ≤ j → l[i] ≤ l[j] := fun i j hi hj hij => by
      rcases Nat.eq_or_lt_of_le hij with h3 | h3
      · subst h3; exact Int.le_refl _
      · exact List.pairwise_iff_getElem.1 hs i j hi hj h3
    by_cases hk : Lib.keeps l.toArray m = true
    · rw [if_pos hk, hg]
      have hlt : ∀ x ∈ l.take m, x < l[m] := fun x hx => by
        obtain ⟨j, hjm, hj, rfl⟩ := hle x hx
        have h4 : l[j] ≤ l[m - 1] := hmono j (m - 1) hj (by omega) (by omega)
        have h5 : l[m - 1] ≤ l[m] := hmono (m - 1) m (by omega) (by omega) (by omega)
        have h6 : l[m] ≠ l[m - 1] := by
          unfold Lib.keeps at hk
          rw [decide_eq_true_eq] at hk
          rcases hk with h7 | h7
          · omega
          · rw [hg, getElem!_pos _ (m - 1) (by simp; omega)] at h7; simpa using h7
        omega
      refine ⟨?_, fun x => by rw [List.mem_append, List.mem_append, h2 x]⟩
      rw [List.pairwise_append]
      exact ⟨h1, by simp, fun x hx y hy => by rw [List.mem_singleton] at hy; subst hy; exact hlt x ((h2 x).1 hx)⟩
    · rw [if_neg hk, List.append_nil]
      refine ⟨h1, fun x => ?_⟩
      rw [h2 x, List.mem_append, List.mem_singleton]
      constructor
      · exact .inl
      · rintro (h3 | h3)
        · exact h3
        · have h4 : m ≠ 0 ∧ l.toArray[m]! = l.toArray[m - 1]! := by
            unfold Lib.keeps at hk
            simp only [decide_eq_true_eq, not_or, Decidable.not_not] at hk
            exact hk
          rw [hg, getElem!_pos _ (m - 1) (by simp; omega)] at h4
          have h5 : l[m] = l[m - 1] := by simpa using h4.2
          rw [h3, h5]
          exact List.mem_iff_getElem?.2 ⟨m - 1, by rw [List.getElem?_take, if_pos (by omega), List.getElem?_eq_getElem (by omega)]⟩
theorem compact_sorted (l : List Int) : (Lib.compact (l.mergeSort leB)).Pairwise (· < ·) ∧ ∀ x, x ∈ Lib.compact (l.mergeSort leB) ↔ x ∈ l := by
  have hs : (l.mergeSort leB).Pairwise (· ≤ ·) := by
    have := List.pairwise_mergeSort (le := leB) (fun a b c h1 h2 => by simp [leB] at *; omega) (fun a b => by simp [leB]; omega) l
    exact this.imp fun h => by simpa [leB] using h
  have h := compact_step hs (l.mergeSort leB).length (Nat.le_refl _)
  refine ⟨h.1, fun x => ?_⟩
  have h2 := h.2 x
  rw [List.take_length, List.mem_mergeSort] at h2
  exact h2
def rawC (l : List Sp) : List Int := 0 :: l.flatMap fun s => [s.1, s.2 + 1]
theorem rawC_mem {l : List Sp} {k : Int} : k ∈ rawC l ↔ k = 0 ∨ ∃ s ∈ l, k = s.1 ∨ k = s.2 + 1 := by
  unfold rawC
  simp [List.mem_flatMap]
theorem rawC_len (l : List Sp) : (rawC l).length = 1 + 2 * l.length := by
  unfold rawC
  rw [List.length_cons]
  have : (l.flatMap fun s => [s.1, s.2 + 1]).length = 2 * l.length := by
    induction l with
    | nil => rfl
    | cons x l ih => rw [List.flatMap_cons, List.length_append, ih]; simp; omega
  omega
theorem cuts_pcs {l : List Sp} {q : List Int} (hok : ∀ s ∈ l, vSp s) (hq : q.Pairwise (· < ·)) (hm : ∀ x, x ∈ q ↔ x ∈ rawC l) : ∃ p, PcsOf l p ∧ (q = p ∨ q = p ++ [1114112]) := by
  have hb : ∀ x ∈ q, 0 ≤ x ∧ x ≤ 1114112 := fun x hx => by
    rcases rawC_mem.1 ((hm x).1 hx) with h1 | ⟨s, hs, h1⟩
    · omega
    · have := hok s hs; unfold vSp at this; omega
  have hP : ∀ k, k ≤ 1114111 → (k ∈ rawC l ↔ PieceP l k) := fun k hk => by
    rw [rawC_mem]
    unfold PieceP
    constructor
    · rintro (h1 | ⟨s, hs, h1 | h1⟩)
      · exact .inl h1
      · exact .inr ⟨s, hs, .inl h1⟩
      · exact .inr ⟨s, hs, .inr ⟨by omega, h1⟩⟩
    · rintro (h1 | ⟨s, hs, h1 | h1⟩)
      · exact .inl h1
      · exact .inr ⟨s, hs, .inl h1⟩
      · exact .inr ⟨s, hs, .inr h1.2⟩
  have hP2 : ∀ k, PieceP l k → k ≤ 1114111 := fun k hk => by
    rcases hk with h1 | ⟨s, hs, h1⟩
    · omega
    · have := hok s hs; unfold vSp at this; omega
  rcases List.eq_nil_or_concat q with rfl | ⟨q', x, rfl⟩
  · exact ⟨[], ⟨hq, fun k => ⟨fun h => (hP k (by cases h)).1 ((hm k).1 h), fun h => (hm k).2 ((hP k (hP2 k h)).2 h)⟩⟩, .inl rfl⟩
  · rw [List.concat_eq_append] at *
    have hlt : ∀ y ∈ q', y < x := fun y hy => (List.pairwise_append.1 hq).2.2 y hy x (by simp)
    have hxb := hb x (by simp)
    by_cases hx : x = 1114112
    · subst hx
      refine ⟨q', ⟨(List.pairwise_append.1 hq).1, fun k => ⟨fun h => ?_, fun h => ?_⟩⟩, .inr rfl⟩
      · have := hlt k h
        exact (hP k (by omega)).1 ((hm k).1 (by simp [h]))
      · have h1 := hP2 k h
        have h2 := (hm k).2 ((hP k h1).2 h)
        rcases List.mem_append.1 h2 with h3 | h3
        · exact h3
        · rw [List.mem_singleton] at h3; omega
    · refine ⟨q' ++ [x], ⟨hq, fun k => ⟨fun h => ?_, fun h => (hm k).2 ((hP k (hP2 k h)).2 h)⟩⟩, .inl rfl⟩
      have : k ≤ 1114111 := by
        rcases List.mem_append.1 h with h3 | h3
        · have := hlt k h3; omega
        · rw [List.mem_singleton] at h3; omega
      exact (hP k this).1 ((hm k).1 h)
end Go.Proofs
