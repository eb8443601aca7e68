/- Live states, plain. -/
import Derived.Test.YtncmfkibflogkaaAb
namespace Go.Proofs
open Go Go.Eng Go.Sort

--BEGIN
structure IntoP (n c : Nat) (d : Dfa) (into : List (List Int)) (s k : Nat) : Prop where
  len : into.length = n
  snd : ∀ (t : Nat) l, into[t]? = some l → ∀ x ∈ l, 0 ≤ x ∧ x < n ∧ ∃ y, y < c ∧ toD d x y = ((t : Nat) : Int)
  cmp : ∀ s' y : Nat, y < c → (s' < s ∨ (s' = s ∧ y < k)) → 0 ≤ toD d ((s' : Nat) : Int) y → ∃ l, into[(toD d ((s' : Nat) : Int) y).toNat]? = some l ∧ ((s' : Nat) : Int) ∈ l
  sht : ∀ l ∈ into, l.length ≤ s * c + k
theorem IntoP.start (n c : Nat) (d : Dfa) : IntoP n c d (List.replicate n []) 0 0 := by
  have hv : ∀ (t : Nat) l, (List.replicate n ([] : List Int))[t]? = some l → l = [] := fun t l h => (List.mem_replicate.1 (List.mem_of_getElem? h)).2
  exact ⟨by simp, fun t l h x hx => (by rw [hv t l h] at hx; cases hx), fun s' y _ h => by omega, fun l hl => by rw [(List.mem_replicate.1 hl).2]; exact Nat.zero_le _⟩
theorem IntoP.row {n c s k : Nat} {d : Dfa} {into : List (List Int)} (h : IntoP n c d into s k) (hk : k = c) : IntoP n c d into (s + 1) 0 := by
  subst hk
  exact ⟨h.len, h.snd, fun s' y hy h1 h2 => h.cmp s' y hy (by omega) h2, fun l hl => by have := h.sht l hl; rw [Nat.add_mul]; omega⟩
theorem IntoP.skip {n c s k : Nat} {d : Dfa} {into : List (List Int)} (h : IntoP n c d into s k) (ht : toD d ((s : Nat) : Int) k < 0) : IntoP n c d into s (k + 1) := by
  refine ⟨h.len, h.snd, fun s' y hy h1 h2 => ?_, fun l hl => by have := h.sht l hl; omega⟩
  by_cases he : s' = s ∧ y = k
  · obtain ⟨rfl, rfl⟩ := he; omega
  · exact h.cmp s' y hy (by omega) h2
theorem IntoP.add {n c s k t : Nat} {d : Dfa} {into : List (List Int)} {l : List Int} (h : IntoP n c d into s k) (hs : s < n) (hk : k < c) (ht : toD d ((s : Nat) : Int) k = ((t : Nat) : Int)) (hl : into[t]? = some l) : IntoP n c d (into.set t (l ++ [((s : Nat) : Int)])) s (k + 1) := by
  have htl := lt_of_get hl
  have hset : ∀ (i : Nat) q, (into.set t (l ++ [((s : Nat) : Int)]))[i]? = some q → (i = t ∧ q = l ++ [((s : Nat) : Int)]) ∨ (i ≠ t ∧ into[i]? = some q) := by
    intro i q hq
    rw [List.getElem?_set] at hq
    split at hq
    · rename_i he
      exact .inl ⟨he.symm, (Option.some.inj hq).symm⟩
    · rename_i he
      exact .inr ⟨fun e => he e.symm, hq⟩
  refine ⟨by simp [h.len], fun i q hq x hx => ?_, fun s' y hy h1 h2 => ?_, fun q hq => ?_⟩
  · rcases hset i q hq with ⟨rfl, rfl⟩ | ⟨_, h3⟩
    · rcases List.mem_append.1 hx with h4 | h4
      · exact h.snd i l hl x h4
      · rw [List.mem_singleton] at h4
        subst h4
        exact ⟨by omega, by omega, k, hk, ht⟩
    · exact h.snd i q h3 x hx
  · have hold : (∃ q, into[(toD d ((s' : Nat) : Int) y).toNat]? = some q ∧ ((s' : Nat) : Int) ∈ q) → ∃ q, (into.set t (l ++ [((s : Nat) : Int)]))[(toD d ((s' : Nat) : Int) y).toNat]? = some q ∧ ((s' : Nat) : Int) ∈ q := by
      rintro ⟨q, h3, h4⟩
      by_cases he : (toD d ((s' : Nat) : Int) y).toNat = t
      · rw [he] at h3 ⊢
        rw [hl] at h3; cases h3
        exact ⟨_, by rw [List.getElem?_set, if_pos rfl, if_pos htl], List.mem_append_left _ h4⟩
      · exact ⟨q, by rw [List.getElem?_set, if_neg (fun e => he e.symm)]; exact h3, h4⟩
    by_cases he : s' = s ∧ y = k
    · obtain ⟨rfl, rfl⟩ := he
      rw [ht, Int.toNat_natCast]
      exact ⟨_, by rw [List.getElem?_set, if_pos rfl, if_pos htl], by simp⟩
    · exact hold (h.cmp s' y hy (by omega) h2)
  · obtain ⟨i, hi⟩ := List.getElem?_of_mem hq
    rcases hset i q hi with ⟨_, rfl⟩ | ⟨_, h3⟩
    · have := h.sht l (List.mem_of_getElem? hl)
      simp; omega
    · have := h.sht q (List.mem_of_getElem? h3); omega
/-- What is marked and what is still to be done. -/
structure LiveP (n c : Nat) (d : Dfa) (M : List Bool) (work : List Int) (k : Nat) : Prop where
  len : M.length = n
  wrk : ∀ x ∈ work, ∃ i : Nat, x = ((i : Nat) : Int) ∧ M[i]? = some true
  snd : ∀ i : Nat, M[i]? = some true → liveD c d ((i : Nat) : Int)
  acc : ∀ i : Nat, i < k → 0 ≤ atD d ((i : Nat) : Int) → M[i]? = some true
  cnt : work.length + M.countP (fun b => !b) ≤ n
theorem LiveP.start (n c : Nat) (d : Dfa) : LiveP n c d (List.replicate n false) [] 0 := by
  refine ⟨by simp, fun x h => (by cases h), fun i h => ?_, fun i h => by omega, ?_⟩
  · have := (List.mem_replicate.1 (List.mem_of_getElem? h)).2; cases this
  · simp [List.countP_replicate]
theorem count_set {M : List Bool} {i : Nat} (h : M[i]? = some false) : (M.set i true).countP (fun b => !b) + 1 = M.countP fun b => !b := by
  have hi := lt_of_get h
  have e : M = M.take i ++ false :: M.drop (i + 1) := by
    have h1 : M.drop i = false :: M.drop (i + 1) := by
      rw [List.drop_eq_getElem_cons hi]; rw [List.getElem?_eq_getElem hi] at h; rw [Option.some.inj h]
    rw [← h1, List.take_append_drop]
  have e2 : M.set i true = M.take i ++ true :: M.drop (i + 1) := by rw [List.set_eq_take_append_cons_drop, if_pos hi]
  rw [e2]
  conv => rhs; rw [e]
  rw [List.countP_append, List.countP_append, List.countP_cons, List.countP_cons]
  simp
  omega
theorem set_true {M : List Bool} {i j : Nat} (h : M[j]? = some true) : (M.set i true)[j]? = some true := by
  rw [List.getElem?_set]
  split
  · rename_i he
    subst he
    rw [if_pos (lt_of_get h)]
  · exact h
theorem set_old {M : List Bool} {i j : Nat} (h : (M.set i true)[j]? = some true) : j = i ∨ M[j]? = some true := by
  rw [List.getElem?_set] at h
  split at h
  · rename_i he; exact .inl he.symm
  · exact .inr h
theorem LiveP.mark {n c k i : Nat} {d : Dfa} {M : List Bool} {work : List Int} (h : LiveP n c d M work k) (hM : M[i]? = some false) (hl : liveD c d ((i : Nat) : Int)) : LiveP n c d (M.set i true) (work ++ [((i : Nat) : Int)]) k := by
  have hi := lt_of_get hM
  refine ⟨by simp [h.len], fun x hx => ?_, fun j hj => ?_, fun j hj ha => set_true (h.acc j hj ha), ?_⟩
  · rcases List.mem_append.1 hx with h1 | h1
    · obtain ⟨j, h2, h3⟩ := h.wrk x h1
      exact ⟨j, h2, set_true h3⟩
    · rw [List.mem_singleton] at h1
      exact ⟨i, h1, by rw [List.getElem?_set, if_pos rfl, if_pos hi]⟩
  · rcases set_old hj with h1 | h1
    · rw [h1]; exact hl
    · exact h.snd j h1
  · have := count_set hM
    have := h.cnt
    simp
    omega
theorem LiveP.next {n c k : Nat} {d : Dfa} {M : List Bool} {work : List Int} (h : LiveP n c d M work k) (ha : 0 ≤ atD d ((k : Nat) : Int) → M[k]? = some true) : LiveP n c d M work (k + 1) :=
  ⟨h.len, h.wrk, h.snd, fun i hi h1 => by rcases Nat.lt_or_ge i k with h2 | h2; exact h.acc i h2 h1; obtain rfl : i = k := (by omega); exact ha h1, h.cnt⟩
/-- All that leads to what is marked is marked, but for what is still to be done. -/
def ClosP (into : List (List Int)) (M : List Bool) (work : List Int) : Prop := ∀ t : Nat, M[t]? = some true → ((t : Nat) : Int) ∈ work ∨ ∀ l, into[t]? = some l → ∀ x ∈ l, M[x.toNat]? = some true
theorem ClosP.mark {into : List (List Int)} {M : List Bool} {work : List Int} {i : Nat} (h : ClosP into M work) : ClosP into (M.set i true) (work ++ [((i : Nat) : Int)]) := by
  intro t ht
  rcases set_old ht with h1 | h1
  · left; rw [h1]; simp
  · rcases h t h1 with h2 | h2
    · exact .inl (List.mem_append_left _ h2)
    · exact .inr fun l hl x hx => set_true (h2 l hl x hx)
/-- The same while the lists of one state are gone through: its first k are marked. -/
def ClosQ (into : List (List Int)) (M : List Bool) (work : List Int) (u : Nat) (lu : List Int) (k : Nat) : Prop :=
  (∀ t : Nat, M[t]? = some true → t ≠ u → ((t : Nat) : Int) ∈ work ∨ ∀ l, into[t]? = some l → ∀ x ∈ l, M[x.toNat]? = some true) ∧ ∀ x ∈ lu.take k, M[x.toNat]? = some true
theorem ClosP.open {into : List (List Int)} {M : List Bool} {work : List Int} {u : Nat} (h : ClosP into M (work ++ [((u : Nat) : Int)])) (lu : List Int) : ClosQ into M work u lu 0 := by
  refine ⟨fun t ht hne => ?_, fun x hx => by simp at hx⟩
  rcases h t ht with h1 | h1
  · rcases List.mem_append.1 h1 with h2 | h2
    · exact .inl h2
    · rw [List.mem_singleton] at h2; omega
  · exact .inr h1
theorem ClosQ.seen {into : List (List Int)} {M : List Bool} {work : List Int} {u k : Nat} {lu : List Int} {x : Int} (h : ClosQ into M work u lu k) (hx : lu[k]? = some x) (hM : M[x.toNat]? = some true) : ClosQ into M work u lu (k + 1) := by
  refine ⟨h.1, fun y hy => ?_⟩
  rw [List.take_add_one, hx] at hy
  rcases List.mem_append.1 hy with h1 | h1
  · exact h.2 y h1
  · simp at h1; subst h1; exact hM
theorem ClosQ.mark {into : List (List Int)} {M : List Bool} {work : List Int} {u k i : Nat} {lu : List Int} (h : ClosQ into M work u lu k) (hx : lu[k]? = some ((i : Nat) : Int)) (hM : M[i]? = some false) : ClosQ into (M.set i true) (work ++ [((i : Nat) : Int)]) u lu (k + 1) := by
  have hi := lt_of_get hM
  refine ⟨fun t ht hne => ?_, fun y hy => ?_⟩
  · rcases set_old ht with h1 | h1
    · left; rw [h1]; simp
    · rcases h.1 t h1 hne with h2 | h2
      · exact .inl (List.mem_append_left _ h2)
      · exact .inr fun l hl x hx => set_true (h2 l hl x hx)
  · rw [List.take_add_one, hx] at hy
    rcases List.mem_append.1 hy with h1 | h1
    · exact set_true (h.2 y h1)
    · simp at h1; subst h1
      rw [Int.toNat_natCast, List.getElem?_set, if_pos rfl, if_pos hi]
theorem ClosQ.done {into : List (List Int)} {M : List Bool} {work : List Int} {u k : Nat} {lu : List Int} (h : ClosQ into M work u lu k) (hl : into[u]? = some lu) (hk : k = lu.length) : ClosP into M work := by
  intro t ht
  by_cases he : t = u
  · subst he
    right
    intro l hl2 x hx
    rw [hl] at hl2
    cases hl2
    exact h.2 x (by rw [hk, List.take_length]; exact hx)
  · exact h.1 t ht he
structure LiveOf (n c : Nat) (d : Dfa) (M : List Bool) : Prop where
  len : M.length = n
  iff : ∀ s : Nat, s < n → (M[s]? = some true ↔ liveD c d ((s : Nat) : Int))
theorem live_final {n c : Nat} {d : Dfa} {M : List Bool} {into : List (List Int)} (ok : OkD n c d) (hI : IntoP n c d into n 0) (hL : LiveP n c d M [] n) (hC : ClosP into M []) : LiveOf n c d M := by
  refine ⟨hL.len, fun s hs => ⟨hL.snd s, ?_⟩⟩
  rintro ⟨w, hw, h⟩
  have key : ∀ (w : List Nat) (s : Nat), s < n → inW c w → 0 ≤ beh d ((s : Nat) : Int) w → M[s]? = some true := by
    intro w
    induction w with
    | nil => exact fun s hs _ h => hL.acc s hs h
    | cons x w ih =>
      intro s hs hw h
      simp only [beh] at h
      have ht := ok.to (s := ((s : Nat) : Int)) (x := x)
      rcases Int.lt_or_le (toD d ((s : Nat) : Int) x) 0 with h1 | h1
      · rw [beh_neg h1] at h; omega
      · obtain ⟨t, he⟩ := Int.eq_ofNat_of_zero_le h1
        rw [he] at h ht
        have hm := ih t (by omega) hw.tail h
        obtain ⟨l, h2, h3⟩ := hI.cmp s x hw.head (.inl hs) h1
        rw [he, Int.toNat_natCast] at h2
        rcases hC t hm with h4 | h4
        · cases h4
        · have := h4 l h2 _ h3
          rwa [Int.toNat_natCast] at this
  exact key w s hs hw h
--END
end Go.Proofs
