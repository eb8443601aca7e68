/- Equivalent states, plain: numbering by keys, and refining until nothing changes. -/
import Derived.Test.YtncmfkibflogkaaAa
namespace Go.Proofs
open Go Go.Eng Go.Sort

--BEGIN
theorem nodup_leN : ∀ {l m : List Nat}, l.Nodup → (∀ x ∈ l, x ∈ m) → l.length ≤ m.length
  | [], _, _, _ => Nat.zero_le _
  | x :: l, m, hd, h => by
    have hd' := List.nodup_cons.1 hd
    have hx := h x List.mem_cons_self
    have h1 := nodup_leN (l := l) (m := m.erase x) hd'.2 fun y hy => (List.mem_erase_of_ne (show y ≠ x from fun e => hd'.1 (by rw [← e]; exact hy))).2 (h y (List.mem_cons_of_mem _ hy))
    rw [List.length_erase_of_mem hx] at h1
    have := List.length_pos_of_mem hx
    simp only [List.length_cons]
    omega
/-- States numbered by their keys (none: a state without a key), the numbers in the order of the keys' first place. -/
structure Num (keys : List (Option (List Int))) (ks : List (List Int)) (out : List Int) : Prop where
  len : out.length = keys.length
  nd : ks.Nodup
  non : ∀ (s : Nat), keys[s]? = some none → out[s]? = some (-1)
  som : ∀ (s : Nat) k, keys[s]? = some (some k) → ∃ j : Nat, out[s]? = some ((j : Nat) : Int) ∧ ks[j]? = some k
  all : ∀ k ∈ ks, some k ∈ keys
theorem Num.start : Num [] [] [] := ⟨rfl, List.nodup_nil, fun s h => by simp at h, fun s k h => by simp at h, fun k h => by cases h⟩
theorem snoc_get {α : Type} {l : List α} {a x : α} {i : Nat} (h : (l ++ [a])[i]? = some x) : l[i]? = some x ∨ (i = l.length ∧ x = a) := by
  rcases Nat.lt_or_ge i l.length with h1 | h1
  · left; rwa [List.getElem?_append_left h1] at h
  · right
    rw [List.getElem?_append_right h1] at h
    have h2 := lt_of_get h
    simp at h2
    rw [show i - l.length = 0 by omega] at h
    simp at h
    exact ⟨by omega, h.symm⟩
theorem Num.none {keys : List (Option (List Int))} {ks : List (List Int)} {out : List Int} (h : Num keys ks out) : Num (keys ++ [Option.none]) ks (out ++ [-1]) := by
  refine ⟨by simp [h.len], h.nd, fun s hs => ?_, fun s k hs => ?_, fun k hk => List.mem_append_left _ (h.all k hk)⟩
  · rcases snoc_get hs with h1 | ⟨h1, _⟩
    · have := h.non s h1
      rwa [List.getElem?_append_left (lt_of_get this)]
    · rw [h1, List.getElem?_append_right (by rw [h.len]; exact Nat.le_refl _), h.len, Nat.sub_self]; rfl
  · rcases snoc_get hs with h1 | ⟨_, h2⟩
    · obtain ⟨j, h3, h4⟩ := h.som s k h1
      exact ⟨j, by rw [List.getElem?_append_left (lt_of_get h3)]; exact h3, h4⟩
    · cases h2
theorem Num.hit {keys : List (Option (List Int))} {ks : List (List Int)} {out : List Int} {k : List Int} {j : Nat} (h : Num keys ks out) (hj : ks[j]? = some k) : Num (keys ++ [some k]) ks (out ++ [((j : Nat) : Int)]) := by
  refine ⟨by simp [h.len], h.nd, fun s hs => ?_, fun s q hs => ?_, fun q hq => List.mem_append_left _ (h.all q hq)⟩
  · rcases snoc_get hs with h1 | ⟨_, h2⟩
    · have := h.non s h1
      rwa [List.getElem?_append_left (lt_of_get this)]
    · cases h2
  · rcases snoc_get hs with h1 | ⟨h1, h2⟩
    · obtain ⟨i, h3, h4⟩ := h.som s q h1
      exact ⟨i, by rw [List.getElem?_append_left (lt_of_get h3)]; exact h3, h4⟩
    · cases h2
      exact ⟨j, by rw [h1, List.getElem?_append_right (by rw [h.len]; exact Nat.le_refl _), h.len, Nat.sub_self]; rfl, hj⟩
theorem Num.new {keys : List (Option (List Int))} {ks : List (List Int)} {out : List Int} {k : List Int} (h : Num keys ks out) (hk : k ∉ ks) : Num (keys ++ [some k]) (ks ++ [k]) (out ++ [((ks.length : Nat) : Int)]) := by
  refine ⟨by simp [h.len], ?_, fun s hs => ?_, fun s q hs => ?_, fun q hq => ?_⟩
  · rw [List.nodup_append]
    exact ⟨h.nd, by simp, fun a ha b hb => by rw [List.mem_singleton] at hb; subst hb; exact fun e => hk (e ▸ ha)⟩
  · rcases snoc_get hs with h1 | ⟨_, h2⟩
    · have := h.non s h1
      rwa [List.getElem?_append_left (lt_of_get this)]
    · cases h2
  · rcases snoc_get hs with h1 | ⟨h1, h2⟩
    · obtain ⟨i, h3, h4⟩ := h.som s q h1
      exact ⟨i, by rw [List.getElem?_append_left (lt_of_get h3)]; exact h3, by rw [List.getElem?_append_left (lt_of_get h4)]; exact h4⟩
    · cases h2
      exact ⟨ks.length, by rw [h1, List.getElem?_append_right (by rw [h.len]; exact Nat.le_refl _), h.len, Nat.sub_self]; rfl, by simp⟩
  · rcases List.mem_append.1 hq with h1 | h1
    · exact List.mem_append_left _ (h.all q h1)
    · rw [List.mem_singleton] at h1; subst h1; simp
theorem Num.eq_iff {keys : List (Option (List Int))} {ks : List (List Int)} {out : List Int} (h : Num keys ks out) {s t : Nat} {k q : List Int} (hs : keys[s]? = some (some k)) (ht : keys[t]? = some (some q)) : out[s]? = out[t]? ↔ k = q := by
  obtain ⟨i, h1, h2⟩ := h.som s k hs
  obtain ⟨j, h3, h4⟩ := h.som t q ht
  rw [h1, h3]
  constructor
  · intro e
    have : i = j := by simp at e; omega
    subst this
    rw [h2] at h4
    exact Option.some.inj h4
  · intro e
    subst e
    have hi := lt_of_get h2
    have hj := lt_of_get h4
    rw [List.getElem?_eq_getElem hi] at h2
    rw [List.getElem?_eq_getElem hj] at h4
    have e2 := (Option.some.inj h2).trans (Option.some.inj h4).symm
    have : i = j := by
      rcases Nat.lt_trichotomy i j with h5 | h5 | h5
      · exact absurd e2 (List.pairwise_iff_getElem.1 h.nd i j hi hj h5)
      · exact h5
      · exact absurd e2.symm (List.pairwise_iff_getElem.1 h.nd j i hj hi h5)
    rw [this]
def ptD (p : List Int) (s : Int) : Int := if s < 0 then -1 else p.getD s.toNat (-1)
theorem ptD_get {p : List Int} {s : Nat} {x : Int} (h : p[s]? = some x) : ptD p ((s : Nat) : Int) = x := by
  unfold ptD
  rw [if_neg (by omega), Int.toNat_natCast, List.getD_eq_getElem?_getD, h, Option.getD_some]
theorem ptD_neg {p : List Int} {s : Int} (h : s < 0) : ptD p s = -1 := by unfold ptD; rw [if_pos h]
/-- A numbering of the states that keeps equivalent ones together and tells results apart. -/
structure Refd (n c : Nat) (d : Dfa) (p : List Int) (cnt : Nat) : Prop where
  len : p.length = n
  dead : ∀ s : Nat, s < n → ¬ liveD c d s → p[s]? = some (-1)
  liv : ∀ s : Nat, s < n → liveD c d s → ∃ j : Nat, p[s]? = some ((j : Nat) : Int) ∧ j < cnt
  onto : ∀ j : Nat, j < cnt → ∃ s : Nat, s < n ∧ liveD c d s ∧ p[s]? = some ((j : Nat) : Int)
  acc : ∀ s t : Nat, s < n → t < n → liveD c d s → liveD c d t → p[s]? = p[t]? → atD d s = atD d t
  eqv : ∀ s t : Nat, s < n → t < n → liveD c d s → liveD c d t → eqvD c d s t → p[s]? = p[t]?
theorem Refd.cnt_le {n c cnt : Nat} {d : Dfa} {p : List Int} (h : Refd n c d p cnt) : cnt ≤ n := by
  -- each number has a state
  have key : ∀ k, k ≤ cnt → ∃ l : List Nat, l.length = k ∧ l.Nodup ∧ (∀ s ∈ l, s < n ∧ ∃ j : Nat, j < k ∧ p[s]? = some ((j : Nat) : Int)) := by
    intro k
    induction k with
    | zero => exact fun _ => ⟨[], rfl, List.nodup_nil, fun s h => by cases h⟩
    | succ k ih =>
      intro hk
      obtain ⟨l, h1, h2, h3⟩ := ih (by omega)
      obtain ⟨s, hs, _, hp⟩ := h.onto k (by omega)
      refine ⟨s :: l, by simp [h1], List.nodup_cons.2 ⟨fun hm => ?_, h2⟩, fun t ht => ?_⟩
      · obtain ⟨_, j, hj, hpj⟩ := h3 s hm
        rw [hp] at hpj
        simp at hpj
        omega
      · rcases List.mem_cons.1 ht with rfl | h4
        · exact ⟨hs, k, by omega, hp⟩
        · obtain ⟨h5, j, h6, h7⟩ := h3 t h4
          exact ⟨h5, j, by omega, h7⟩
  obtain ⟨l, h1, h2, h3⟩ := key cnt (Nat.le_refl _)
  have := nodup_leN (m := List.range n) h2 fun s hs => List.mem_range.2 (h3 s hs).1
  simpa [h1] using this
theorem Refd.ptLive {n c cnt : Nat} {d : Dfa} {p : List Int} (h : Refd n c d p cnt) {s : Int} (hs : -1 ≤ s ∧ s < n) : (0 ≤ ptD p s ↔ liveD c d s) ∧ -1 ≤ ptD p s := by
  rcases Int.lt_or_le s 0 with h1 | h1
  · rw [ptD_neg h1]
    exact ⟨⟨fun h => absurd h (by decide), fun h => absurd h (not_live_neg h1)⟩, Int.le_refl _⟩
  · obtain ⟨k, rfl⟩ := Int.eq_ofNat_of_zero_le h1
    by_cases hl : liveD c d ((k : Nat) : Int)
    · obtain ⟨j, h2, _⟩ := h.liv k (by omega) hl
      rw [ptD_get h2]
      exact ⟨⟨fun _ => hl, fun _ => by omega⟩, by omega⟩
    · rw [ptD_get (h.dead k (by omega) hl)]
      exact ⟨⟨fun h => absurd h (by decide), fun h => absurd h hl⟩, Int.le_refl _⟩
theorem Refd.ptEqv {n c cnt : Nat} {d : Dfa} {p : List Int} (h : Refd n c d p cnt) {s t : Int} (hs : -1 ≤ s ∧ s < n) (ht : -1 ≤ t ∧ t < n) (he : eqvD c d s t) : ptD p s = ptD p t := by
  obtain ⟨a1, a2⟩ := h.ptLive hs
  obtain ⟨b1, b2⟩ := h.ptLive ht
  by_cases hl : liveD c d s
  · have hl2 := he.live hl
    have s0 : 0 ≤ s := by rcases Int.lt_or_le s 0 with h1 | h1; exact absurd hl (not_live_neg h1); exact h1
    have t0 : 0 ≤ t := by rcases Int.lt_or_le t 0 with h1 | h1; exact absurd hl2 (not_live_neg h1); exact h1
    obtain ⟨i, rfl⟩ := Int.eq_ofNat_of_zero_le s0
    obtain ⟨j, rfl⟩ := Int.eq_ofNat_of_zero_le t0
    have h3 := h.eqv i j (by omega) (by omega) hl hl2 he
    obtain ⟨a, h4, _⟩ := h.liv i (by omega) hl
    rw [ptD_get h4, ptD_get (h3 ▸ h4)]
  · have hl2 : ¬ liveD c d t := fun h2 => hl (eqvD.live (fun w hw => (he w hw).symm) h2)
    have h3 : ¬ 0 ≤ ptD p s := fun h => hl (a1.1 h)
    have h4 : ¬ 0 ≤ ptD p t := fun h => hl2 (b1.1 h)
    omega
/-- The keys of the next numbering. -/
def nextKey (c : Nat) (d : Dfa) (p : List Int) (s : Nat) : List Int := ptD p s :: (List.range c).map fun x => ptD p (toD d s x)
theorem nextKey_eq {c : Nat} {d : Dfa} {p : List Int} {s t : Nat} : nextKey c d p s = nextKey c d p t ↔ ptD p s = ptD p t ∧ ∀ x, x < c → ptD p (toD d s x) = ptD p (toD d t x) := by
  unfold nextKey
  rw [List.cons.injEq]
  constructor
  · rintro ⟨h1, h2⟩
    refine ⟨h1, fun x hx => ?_⟩
    have := congrArg (fun l => l[x]?) h2
    simpa [hx] using this
  · rintro ⟨h1, h2⟩
    exact ⟨h1, List.map_congr_left fun x hx => h2 x (List.mem_range.1 hx)⟩
/-- What a numbering by keys is, if the keys are those of results or of an older numbering. -/
theorem Refd.of_num {n c : Nat} {d : Dfa} {keys : List (Option (List Int))} {ks : List (List Int)} {q : List Int} (hN : Num keys ks q) (hl : keys.length = n) (hd : ∀ s : Nat, s < n → ¬ liveD c d s → keys[s]? = some none) {key : Nat → List Int} (hk : ∀ s : Nat, s < n → liveD c d s → keys[s]? = some (some (key s)))
    (ha : ∀ s t : Nat, s < n → t < n → liveD c d s → liveD c d t → key s = key t → atD d s = atD d t) (he : ∀ s t : Nat, s < n → t < n → liveD c d s → liveD c d t → eqvD c d s t → key s = key t) : Refd n c d q ks.length := by
  refine ⟨by rw [hN.len, hl], fun s hs h => hN.non s (hd s hs h), fun s hs h => ?_, fun j hj => ?_, fun s t hs ht l1 l2 h => ?_, fun s t hs ht l1 l2 h => ?_⟩
  · obtain ⟨j, h1, h2⟩ := hN.som s _ (hk s hs h)
    exact ⟨j, h1, lt_of_get h2⟩
  · obtain ⟨k, hk'⟩ := get_of_lt hj
    obtain ⟨s, hs⟩ := List.getElem?_of_mem (hN.all k (List.mem_of_getElem? hk'))
    have hsn : s < n := by rw [← hl]; exact lt_of_get hs
    have hlv : liveD c d s := Classical.byContradiction fun h => by rw [hd s hsn h] at hs; cases hs
    obtain ⟨i, h1, h2⟩ := hN.som s k hs
    refine ⟨s, hsn, hlv, ?_⟩
    have hi := lt_of_get h2
    rw [List.getElem?_eq_getElem hi] at h2
    rw [List.getElem?_eq_getElem hj] at hk'
    have e2 := (Option.some.inj h2).trans (Option.some.inj hk').symm
    have : i = j := by
      rcases Nat.lt_trichotomy i j with h5 | h5 | h5
      · exact absurd e2 (List.pairwise_iff_getElem.1 hN.nd i j hi hj h5)
      · exact h5
      · exact absurd e2.symm (List.pairwise_iff_getElem.1 hN.nd j i hj hi h5)
    rw [← this]; exact h1
  · exact ha s t hs ht l1 l2 ((hN.eq_iff (hk s hs l1) (hk t ht l2)).1 h)
  · exact (hN.eq_iff (hk s hs l1) (hk t ht l2)).2 (he s t hs ht l1 l2 h)
structure PartsOf (n c : Nat) (d : Dfa) (q : List Int) : Prop where
  len : q.length = n
  live : ∀ s : Int, -1 ≤ s ∧ s < n → (0 ≤ ptD q s ↔ liveD c d s) ∧ -1 ≤ ptD q s ∧ ptD q s < n
  iff : ∀ s t : Int, -1 ≤ s ∧ s < n → -1 ≤ t ∧ t < n → (ptD q s = ptD q t ↔ eqvD c d s t)
/-- If a finer numbering has no more numbers, it has none that are new. -/
theorem Refd.same {n c cnt : Nat} {d : Dfa} {p q : List Int} (hp : Refd n c d p cnt) (hq : Refd n c d q cnt) (hf : ∀ s t : Nat, s < n → t < n → liveD c d s → liveD c d t → q[s]? = q[t]? → p[s]? = p[t]?) :
    ∀ s t : Nat, s < n → t < n → liveD c d s → liveD c d t → p[s]? = p[t]? → q[s]? = q[t]? := by
  intro s t hs ht l1 l2 hpp
  apply Classical.byContradiction
  intro hne
  obtain ⟨a, ha, hac⟩ := hq.liv s hs l1
  obtain ⟨b, hb, hbc⟩ := hq.liv t ht l2
  have hab : a ≠ b := fun e => hne (by rw [ha, hb, e])
  -- each number of q other than b goes to a number of p; all are met
  have hmap : ∀ j : Nat, ∃ i : Nat, j < cnt → (i < cnt ∧ ∀ u : Nat, u < n → liveD c d u → q[u]? = some ((j : Nat) : Int) → p[u]? = some ((i : Nat) : Int)) := by
    intro j
    by_cases hj : j < cnt
    · obtain ⟨u, hu, lu, hqu⟩ := hq.onto j hj
      obtain ⟨i, hi, hic⟩ := hp.liv u hu lu
      refine ⟨i, fun _ => ⟨hic, fun v hv lv hqv => ?_⟩⟩
      rw [← hf u v hu hv lu lv (by rw [hqu, hqv])]; exact hi
    · exact ⟨0, fun h => absurd h hj⟩
  obtain ⟨f, hfm⟩ := Classical.axiomOfChoice hmap
  have hle := nodup_leN (l := List.range cnt) (m := ((List.range cnt).erase b).map f) List.nodup_range fun i hi => by
    rw [List.mem_range] at hi
    obtain ⟨u, hu, lu, hpu⟩ := hp.onto i hi
    obtain ⟨j, hj, hjc⟩ := hq.liv u hu lu
    have h1 := (hfm j hjc).2 u hu lu hj
    rw [hpu] at h1
    have hji : f j = i := by simp at h1; omega
    by_cases hjb : j = b
    · -- then a serves
      subst hjb
      have h2 := (hfm a hac).2 s hs l1 ha
      have h3 := (hfm j hjc).2 t ht l2 hb
      have h4 : f a = f j := by rw [hpp, h3] at h2; simp at h2; omega
      refine List.mem_map.2 ⟨a, (List.mem_erase_of_ne hab).2 (List.mem_range.2 hac), by rw [h4, hji]⟩
    · exact List.mem_map.2 ⟨j, (List.mem_erase_of_ne hjb).2 (List.mem_range.2 hjc), hji⟩
  rw [List.length_map, List.length_erase_of_mem (List.mem_range.2 hbc), List.length_range] at hle
  omega
theorem Refd.final {n c cnt : Nat} {d : Dfa} {p q : List Int} (ok : OkD n c d) (hp : Refd n c d p cnt) (hq : Refd n c d q cnt)
    (hk : ∀ s t : Nat, s < n → t < n → liveD c d s → liveD c d t → (q[s]? = q[t]? ↔ nextKey c d p s = nextKey c d p t)) : PartsOf n c d q := by
  have hpt : ∀ s : Nat, s < n → liveD c d s → ∃ a : Nat, p[s]? = some ((a : Nat) : Int) ∧ ptD p s = ((a : Nat) : Int) := fun s hs l => by
    obtain ⟨a, h1, _⟩ := hp.liv s hs l
    exact ⟨a, h1, ptD_get h1⟩
  have hpe : ∀ s t : Nat, s < n → t < n → liveD c d s → liveD c d t → (p[s]? = p[t]? ↔ ptD p s = ptD p t) := fun s t hs ht l1 l2 => by
    obtain ⟨a, h1, h2⟩ := hpt s hs l1
    obtain ⟨b, h3, h4⟩ := hpt t ht l2
    rw [h1, h2, h3, h4]; simp
  have hback := hp.same hq fun s t hs ht l1 l2 h => (hpe s t hs ht l1 l2).2 (nextKey_eq.1 ((hk s t hs ht l1 l2).1 h)).1
  have key : ∀ w, inW c w → ∀ s t : Int, -1 ≤ s ∧ s < n → -1 ≤ t ∧ t < n → ptD q s = ptD q t → beh d s w = beh d t w := by
    intro w
    induction w with
    | nil =>
      intro hw s t hs ht h
      obtain ⟨a1, a2⟩ := hq.ptLive hs
      obtain ⟨b1, b2⟩ := hq.ptLive ht
      by_cases hl : liveD c d s
      · have hl2 : liveD c d t := b1.1 (by rw [← h]; exact a1.2 hl)
        have s0 : 0 ≤ s := by rcases Int.lt_or_le s 0 with h1 | h1; exact absurd hl (not_live_neg h1); exact h1
        have t0 : 0 ≤ t := by rcases Int.lt_or_le t 0 with h1 | h1; exact absurd hl2 (not_live_neg h1); exact h1
        obtain ⟨i, rfl⟩ := Int.eq_ofNat_of_zero_le s0
        obtain ⟨j, rfl⟩ := Int.eq_ofNat_of_zero_le t0
        obtain ⟨a, h1, _⟩ := hq.liv i (by omega) hl
        obtain ⟨b, h2, _⟩ := hq.liv j (by omega) hl2
        rw [ptD_get h1, ptD_get h2] at h
        exact hq.acc i j (by omega) (by omega) hl hl2 (by rw [h1, h2, h])
      · have hl2 : ¬ liveD c d t := fun h2 => hl (a1.1 (by rw [h]; exact b1.2 h2))
        rw [ok.dead hl hw, ok.dead hl2 hw]
    | cons x w ih =>
      intro hw s t hs ht h
      obtain ⟨a1, a2⟩ := hq.ptLive hs
      obtain ⟨b1, b2⟩ := hq.ptLive ht
      by_cases hl : liveD c d s
      · have hl2 : liveD c d t := b1.1 (by rw [← h]; exact a1.2 hl)
        have s0 : 0 ≤ s := by rcases Int.lt_or_le s 0 with h1 | h1; exact absurd hl (not_live_neg h1); exact h1
        have t0 : 0 ≤ t := by rcases Int.lt_or_le t 0 with h1 | h1; exact absurd hl2 (not_live_neg h1); exact h1
        obtain ⟨i, rfl⟩ := Int.eq_ofNat_of_zero_le s0
        obtain ⟨j, rfl⟩ := Int.eq_ofNat_of_zero_le t0
        obtain ⟨a, h1, _⟩ := hq.liv i (by omega) hl
        obtain ⟨b, h2, _⟩ := hq.liv j (by omega) hl2
        rw [ptD_get h1, ptD_get h2] at h
        have h3 := (nextKey_eq.1 ((hk i j (by omega) (by omega) hl hl2).1 (by rw [h1, h2, h]))).2 x hw.head
        have ti := ok.to (s := ((i : Nat) : Int)) (x := x)
        have tj := ok.to (s := ((j : Nat) : Int)) (x := x)
        simp only [beh]
        refine ih hw.tail _ _ ti tj ?_
        obtain ⟨c1, c2⟩ := hp.ptLive ti
        obtain ⟨d1, d2⟩ := hp.ptLive tj
        obtain ⟨e1, e2⟩ := hq.ptLive ti
        obtain ⟨f1, f2⟩ := hq.ptLive tj
        by_cases hlt : liveD c d (toD d ((i : Nat) : Int) x)
        · have hlt2 : liveD c d (toD d ((j : Nat) : Int) x) := d1.1 (by rw [← h3]; exact c1.2 hlt)
          obtain ⟨u, hu⟩ := Int.eq_ofNat_of_zero_le (show 0 ≤ toD d ((i : Nat) : Int) x by rcases Int.lt_or_le (toD d ((i : Nat) : Int) x) 0 with h1 | h1; exact absurd hlt (not_live_neg h1); exact h1)
          obtain ⟨v, hv⟩ := Int.eq_ofNat_of_zero_le (show 0 ≤ toD d ((j : Nat) : Int) x by rcases Int.lt_or_le (toD d ((j : Nat) : Int) x) 0 with h1 | h1; exact absurd hlt2 (not_live_neg h1); exact h1)
          rw [hu] at hlt h3 ti ⊢
          rw [hv] at hlt2 h3 tj ⊢
          have h4 := hback u v (by omega) (by omega) hlt hlt2 ((hpe u v (by omega) (by omega) hlt hlt2).2 h3)
          obtain ⟨a', h5, _⟩ := hq.liv u (by omega) hlt
          rw [ptD_get h5, ptD_get (h4 ▸ h5)]
        · have hlt2 : ¬ liveD c d (toD d ((j : Nat) : Int) x) := fun h2 => hlt (c1.1 (by rw [h3]; exact d1.2 h2))
          have h5 : ¬ 0 ≤ ptD q (toD d ((i : Nat) : Int) x) := fun h => hlt (e1.1 h)
          have h6 : ¬ 0 ≤ ptD q (toD d ((j : Nat) : Int) x) := fun h => hlt2 (f1.1 h)
          omega
      · have hl2 : ¬ liveD c d t := fun h2 => hl (a1.1 (by rw [h]; exact b1.2 h2))
        rw [ok.dead hl hw, ok.dead hl2 hw]
  refine ⟨hq.len, fun s hs => ⟨(hq.ptLive hs).1, (hq.ptLive hs).2, ?_⟩, fun s t hs ht => ⟨fun h w hw => key w hw s t hs ht h, fun h => hq.ptEqv hs ht h⟩⟩
  have hcn := hq.cnt_le
  by_cases hl : liveD c d s
  · have s0 : 0 ≤ s := by rcases Int.lt_or_le s 0 with h1 | h1; exact absurd hl (not_live_neg h1); exact h1
    obtain ⟨i, rfl⟩ := Int.eq_ofNat_of_zero_le s0
    obtain ⟨a, h1, h2⟩ := hq.liv i (by omega) hl
    rw [ptD_get h1]; omega
  · have := (hq.ptLive hs).1
    have h5 : ¬ 0 ≤ ptD q s := fun h => hl (this.1 h)
    have := hs.1
    have hst := ok.st
    omega
--END
end Go.Proofs
