/- Plain: automata, and tables whose rows are packed into one list of slots. -/
import Derived.Test.YtncmfkibflogkaaDat
namespace Go.Proofs
open Go Go.Eng

structure Dfa where
  start : Int
  accept : List Int
  next : List (List Int)

/-- The symbols of the entries of a row, the first k symbols. -/
def idxsN (row : List Int) (k : Nat) : List Nat := (List.range k).filter fun c => decide (0 ≤ row.getD c (-1))
def idxs (row : List Int) : List Nat := idxsN row row.length
theorem mem_idxsN {row : List Int} {k c : Nat} (hk : k ≤ row.length) : c ∈ idxsN row k ↔ c < k ∧ ∃ x, row[c]? = some x ∧ 0 ≤ x := by
  unfold idxsN
  rw [List.mem_filter, List.mem_range, decide_eq_true_eq]
  constructor
  · rintro ⟨h1, h2⟩
    refine ⟨h1, row[c]'(by omega), List.getElem?_eq_getElem _, ?_⟩
    rwa [List.getD_eq_getElem?_getD, List.getElem?_eq_getElem (by omega), Option.getD_some] at h2
  · rintro ⟨h1, x, h2, h3⟩
    refine ⟨h1, ?_⟩
    rw [List.getD_eq_getElem?_getD, h2]; exact h3
theorem mem_idxs {row : List Int} {c : Nat} : c ∈ idxs row ↔ ∃ x, row[c]? = some x ∧ 0 ≤ x := by
  unfold idxs
  rw [mem_idxsN (Nat.le_refl _)]
  constructor
  · rintro ⟨_, h⟩; exact h
  · rintro ⟨x, h1, h2⟩; exact ⟨lt_of_get h1, x, h1, h2⟩
theorem idxsN_succ {row : List Int} {k : Nat} {x : Int} (hx : row[k]? = some x) : idxsN row (k + 1) = idxsN row k ++ (if 0 ≤ x then [k] else []) := by
  unfold idxsN
  rw [List.range_succ, List.filter_append]
  congr 1
  have : row.getD k (-1) = x := by rw [List.getD_eq_getElem?_getD, hx]; rfl
  by_cases h : 0 ≤ x
  · rw [if_pos h]; simp only [List.filter_cons, this, h, decide_true, if_true, List.filter_nil]
  · rw [if_neg h]; simp only [List.filter_cons, this, h, decide_false, List.filter_nil]; rfl
theorem idxs_nodup (row : List Int) : (idxs row).Nodup := List.Pairwise.filter _ List.nodup_range
theorem idxsN_le (row : List Int) (k : Nat) : (idxsN row k).length ≤ k := by
  have := List.length_filter_le (fun c => decide (0 ≤ row.getD c (-1))) (List.range k)
  rw [List.length_range] at this
  exact this

/-- Slots that hold the entries of a list. -/
structure Packed (rows : List (List Int)) (P : List (Nat × Nat)) (owner nxt : List Int) (bs : List Nat) : Prop where
  len : owner.length = nxt.length
  slot : ∀ i, i < owner.length → (owner[i]? = some (-1) ∧ nxt[i]? = some (-1)) ∨ ∃ s c b x row, (s, c) ∈ P ∧ bs[s]? = some b ∧ i = b + c ∧ owner[i]? = some (s : Int) ∧ rows[s]? = some row ∧ row[c]? = some x ∧ 0 ≤ x ∧ nxt[i]? = some x
  own : ∀ s c, (s, c) ∈ P → ∃ b, bs[s]? = some b ∧ owner[b + c]? = some (s : Int)
  count : owner.countP (fun o => decide (0 ≤ o)) = P.length

theorem Packed.nil (rows : List (List Int)) (bs : List Nat) : Packed rows [] [] [] bs :=
  ⟨rfl, fun i h => by simp at h, fun s c h => by simp at h, rfl⟩
theorem Packed.pad {rows : List (List Int)} {P : List (Nat × Nat)} {owner nxt : List Int} {bs : List Nat} (h : Packed rows P owner nxt bs) : Packed rows P (owner ++ [-1]) (nxt ++ [-1]) bs := by
  refine ⟨by simp [h.len], fun i hi => ?_, fun s c hs => ?_, ?_⟩
  · rcases Nat.lt_or_ge i owner.length with h1 | h1
    · rw [List.getElem?_append_left h1, List.getElem?_append_left (by rw [← h.len]; exact h1)]
      exact h.slot i h1
    · have : i = owner.length := by simp at hi; omega
      left
      subst this
      rw [List.getElem?_append_right (Nat.le_refl _), List.getElem?_append_right (by rw [h.len]; exact Nat.le_refl _), h.len]
      simp
  · obtain ⟨b, h1, h2⟩ := h.own s c hs
    exact ⟨b, h1, by rw [List.getElem?_append_left (lt_of_get h2)]; exact h2⟩
  · rw [List.countP_append, h.count]; simp
theorem Packed.put {rows : List (List Int)} {P : List (Nat × Nat)} {owner nxt : List Int} {bs : List Nat} (h : Packed rows P owner nxt bs) {s c b : Nat} {row : List Int} {x : Int} (hb : bs[s]? = some b) (hi : owner[b + c]? = some (-1)) (hrow : rows[s]? = some row) (hx : row[c]? = some x) (h0 : 0 ≤ x) :
    Packed rows (P ++ [(s, c)]) (owner.set (b + c) (s : Int)) (nxt.set (b + c) x) bs := by
  have hlt := lt_of_get hi
  refine ⟨by simp [h.len], fun i hi2 => ?_, fun s' c' hs => ?_, ?_⟩
  · by_cases he : i = b + c
    · subst he
      right
      refine ⟨s, c, b, x, row, by simp, hb, rfl, List.getElem?_set_self hlt, hrow, hx, h0, List.getElem?_set_self (by rw [← h.len]; exact hlt)⟩
    · rw [List.getElem?_set_ne (by omega), List.getElem?_set_ne (by omega)]
      rcases h.slot i (by simpa using hi2) with h1 | ⟨s', c', b', x', row', h1, h2⟩
      · exact .inl h1
      · exact .inr ⟨s', c', b', x', row', by simp [h1], h2⟩
  · rcases List.mem_append.1 hs with hs | hs
    · obtain ⟨b', h1, h2⟩ := h.own s' c' hs
      refine ⟨b', h1, ?_⟩
      rw [List.getElem?_set_ne]
      · exact h2
      · intro he
        rw [← he, hi] at h2
        simp at h2
    · simp at hs
      obtain ⟨rfl, rfl⟩ := hs
      exact ⟨b, hb, List.getElem?_set_self hlt⟩
  · have h1 : owner = owner.take (b + c) ++ (-1) :: owner.drop (b + c + 1) := by rw [← drop_cons hi, List.take_append_drop]
    have h2 : owner.set (b + c) (s : Int) = owner.take (b + c) ++ (s : Int) :: owner.drop (b + c + 1) := List.set_eq_take_append_cons_drop.trans (if_pos hlt)
    have h3 := h.count
    rw [h1, List.countP_append, List.countP_cons] at h3
    rw [h2, List.countP_append, List.countP_cons, List.length_append]
    simp at h3 ⊢
    omega
theorem Packed.base {rows : List (List Int)} {P : List (Nat × Nat)} {owner nxt : List Int} {bs : List Nat} (h : Packed rows P owner nxt bs) {s : Nat} (hs : ∀ c, (s, c) ∉ P) (b : Nat) : Packed rows P owner nxt (bs.set s b) := by
  refine ⟨h.len, fun i hi => ?_, fun s' c hc => ?_, h.count⟩
  · rcases h.slot i hi with h1 | ⟨s', c', b', x', row', h1, h2, h3⟩
    · exact .inl h1
    · exact .inr ⟨s', c', b', x', row', h1, by rw [List.getElem?_set_ne (fun he => hs c' (by rw [he]; exact h1))]; exact h2, h3⟩
  · obtain ⟨b', h1, h2⟩ := h.own s' c hc
    exact ⟨b', by rw [List.getElem?_set_ne (fun he => hs c (by rw [he]; exact hc))]; exact h1, h2⟩

def rowF (rows : List (List Int)) (s : Nat) : List (Nat × Nat) := (idxs (rows.getD s [])).map fun c => (s, c)
def allF (rows : List (List Int)) (order : List Nat) : List (Nat × Nat) := order.flatMap (rowF rows)
theorem mem_rowF {rows : List (List Int)} {s s' c : Nat} : (s', c) ∈ rowF rows s ↔ s' = s ∧ c ∈ idxs (rows.getD s []) := by
  unfold rowF
  rw [List.mem_map]
  constructor
  · rintro ⟨c', h, he⟩; simp at he; obtain ⟨rfl, rfl⟩ := he; exact ⟨rfl, h⟩
  · rintro ⟨rfl, h⟩; exact ⟨c, h, rfl⟩
theorem mem_allF {rows : List (List Int)} {order : List Nat} {s c : Nat} : (s, c) ∈ allF rows order ↔ s ∈ order ∧ c ∈ idxs (rows.getD s []) := by
  unfold allF
  rw [List.mem_flatMap]
  constructor
  · rintro ⟨s', h, h2⟩; rw [mem_rowF] at h2; obtain ⟨rfl, h2⟩ := h2; exact ⟨h, h2⟩
  · rintro ⟨h, h2⟩; exact ⟨s, h, mem_rowF.2 ⟨rfl, h2⟩⟩
theorem allF_take {rows : List (List Int)} {order : List Nat} {j s : Nat} (h : order[j]? = some s) : allF rows (order.take (j + 1)) = allF rows (order.take j) ++ rowF rows s := by
  unfold allF
  rw [List.take_add_one, h, List.flatMap_append]; simp
theorem allF_perm {rows : List (List Int)} {l m : List Nat} (h : List.Perm l m) : (allF rows l).length = (allF rows m).length := (h.flatMap_right _).length_eq

/-- What is read out of a table. -/
def atT (owner nxt : List Int) (bs : List Nat) (s c : Nat) : Int :=
  match bs[s]? with
  | some b => if owner[b + c]? = some (s : Int) then nxt.getD (b + c) (-1) else -1
  | none => -1
theorem Packed.at {rows : List (List Int)} {order : List Nat} {owner nxt : List Int} {bs : List Nat} (h : Packed rows (allF rows order) owner nxt bs) {s c : Nat} {row : List Int} {x : Int} (hrow : rows[s]? = some row) (hx : row[c]? = some x) (hx1 : -1 ≤ x) (hall : s ∈ order) (hbs : s < bs.length) : atT owner nxt bs s c = x := by
  have hg : rows.getD s [] = row := by rw [List.getD_eq_getElem?_getD, hrow]; rfl
  have key : ∀ b, bs[s]? = some b → owner[b + c]? = some (s : Int) → nxt[b + c]? = some x ∧ 0 ≤ x := by
    intro b hb ho
    rcases h.slot (b + c) (lt_of_get ho) with ⟨h1, _⟩ | ⟨s', c', b', x', row', h1, h2, h3, h4, h5, h6, h7, h8⟩
    · rw [h1] at ho; simp at ho
    · rw [h4] at ho
      have hss : s' = s := by simp at ho; omega
      subst hss
      rw [hb] at h2; cases h2
      have : c' = c := by omega
      subst this
      rw [hrow] at h5; cases h5
      rw [hx] at h6; cases h6
      exact ⟨h8, h7⟩
  unfold atT
  rw [List.getElem?_eq_getElem hbs]
  simp only
  by_cases h0 : 0 ≤ x
  · obtain ⟨b, hb, ho⟩ := h.own s c (mem_allF.2 ⟨hall, by rw [hg]; exact mem_idxs.2 ⟨x, hx, h0⟩⟩)
    rw [List.getElem?_eq_getElem hbs] at hb
    have hb2 : bs[s] = b := by simpa using hb
    rw [hb2, if_pos ho, List.getD_eq_getElem?_getD, (key b (by rw [List.getElem?_eq_getElem hbs, hb2]) ho).1]
    rfl
  · rw [if_neg]
    · omega
    · intro ho
      exact h0 (key _ (List.getElem?_eq_getElem hbs) ho).2
end Go.Proofs
