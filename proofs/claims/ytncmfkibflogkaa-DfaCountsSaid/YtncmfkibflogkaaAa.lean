/- Automata, plain: what a state tells, canonical automata, and that there is one for each behaviour. -/
import Derived.Test.YtncmfkibflogkaaLp
namespace Go.Proofs
open Go Go.Eng

--BEGIN
def toD (d : Dfa) (s : Int) (x : Nat) : Int := if s < 0 then -1 else (d.next.getD s.toNat []).getD x (-1)
def atD (d : Dfa) (s : Int) : Int := if s < 0 then -1 else d.accept.getD s.toNat (-1)
def beh (d : Dfa) (s : Int) : List Nat → Int
  | [] => atD d s
  | x :: w => beh d (toD d s x) w
def inW (c : Nat) (w : List Nat) : Prop := ∀ x ∈ w, x < c
theorem inW.tail {c x : Nat} {w : List Nat} (h : inW c (x :: w)) : inW c w := fun y hy => h y (List.mem_cons_of_mem _ hy)
theorem inW.head {c x : Nat} {w : List Nat} (h : inW c (x :: w)) : x < c := h x List.mem_cons_self
theorem inW.cons {c x : Nat} {w : List Nat} (hx : x < c) (h : inW c w) : inW c (x :: w) := fun y hy => by
  rcases List.mem_cons.1 hy with rfl | h1
  · exact hx
  · exact h y h1
theorem inW.nil (c : Nat) : inW c [] := fun x h => by cases h
structure OkD (n c : Nat) (d : Dfa) : Prop where
  nl : d.next.length = n
  al : d.accept.length = n
  st : 0 ≤ d.start ∧ d.start < n
  acc : ∀ x ∈ d.accept, -1 ≤ x
  row : ∀ r ∈ d.next, r.length = c ∧ ∀ x ∈ r, -1 ≤ x ∧ x < n
def liveD (c : Nat) (d : Dfa) (s : Int) : Prop := ∃ w, inW c w ∧ 0 ≤ beh d s w
def eqvD (c : Nat) (d : Dfa) (s t : Int) : Prop := ∀ w, inW c w → beh d s w = beh d t w
theorem toD_neg {d : Dfa} {s : Int} (h : s < 0) (x : Nat) : toD d s x = -1 := by unfold toD; rw [if_pos h]
theorem beh_neg {d : Dfa} : ∀ {w : List Nat} {s : Int}, s < 0 → beh d s w = -1
  | [], s, h => by unfold beh atD; rw [if_pos h]
  | x :: w, s, h => by unfold beh; rw [toD_neg h]; exact beh_neg (by decide)
theorem toD_get {d : Dfa} {s x : Nat} {r : List Int} {t : Int} (h : d.next[s]? = some r) (ht : r[x]? = some t) : toD d ((s : Nat) : Int) x = t := by
  unfold toD
  rw [if_neg (by omega), Int.toNat_natCast, List.getD_eq_getElem?_getD, List.getD_eq_getElem?_getD, h, Option.getD_some, ht, Option.getD_some]
theorem atD_get {d : Dfa} {s : Nat} {t : Int} (h : d.accept[s]? = some t) : atD d ((s : Nat) : Int) = t := by
  unfold atD
  rw [if_neg (by omega), Int.toNat_natCast, List.getD_eq_getElem?_getD, h, Option.getD_some]
theorem OkD.to {n c : Nat} {d : Dfa} (h : OkD n c d) {s : Int} {x : Nat} : -1 ≤ toD d s x ∧ toD d s x < n := by
  have hn := h.st
  unfold toD
  split
  · omega
  · rw [List.getD_eq_getElem?_getD, List.getD_eq_getElem?_getD]
    cases h1 : d.next[s.toNat]? with
    | none => simp; omega
    | some r =>
      simp only [Option.getD_some]
      cases h2 : r[x]? with
      | none => simp; omega
      | some t => exact (h.row r (List.mem_of_getElem? h1)).2 t (List.mem_of_getElem? h2)
theorem OkD.at' {n c : Nat} {d : Dfa} (h : OkD n c d) {s : Int} : -1 ≤ atD d s := by
  unfold atD
  split
  · omega
  · rw [List.getD_eq_getElem?_getD]
    cases h1 : d.accept[s.toNat]? with
    | none => simp
    | some t => exact h.acc t (List.mem_of_getElem? h1)
theorem OkD.beh {n c : Nat} {d : Dfa} (h : OkD n c d) : ∀ {w : List Nat} {s : Int}, -1 ≤ beh d s w
  | [], _ => h.at'
  | _ :: w, _ => OkD.beh h (w := w)
theorem OkD.dead {n c : Nat} {d : Dfa} (h : OkD n c d) {s : Int} (hl : ¬ liveD c d s) {w : List Nat} (hw : inW c w) : Go.Proofs.beh d s w = -1 := by
  have h1 := h.beh (w := w) (s := s)
  rcases Int.lt_or_le (Go.Proofs.beh d s w) 0 with h2 | h2
  · omega
  · exact absurd ⟨w, hw, h2⟩ hl
theorem live_to {c x : Nat} {d : Dfa} {s : Int} (h : liveD c d (toD d s x)) (hx : x < c) : liveD c d s := by
  obtain ⟨w, hw, h1⟩ := h
  exact ⟨x :: w, inW.cons hx hw, h1⟩
theorem not_live_neg {c : Nat} {d : Dfa} {s : Int} (h : s < 0) : ¬ liveD c d s := fun ⟨w, _, h1⟩ => by rw [beh_neg h] at h1; omega
theorem eqvD.to {c x : Nat} {d : Dfa} {s t : Int} (h : eqvD c d s t) (hx : x < c) : eqvD c d (toD d s x) (toD d t x) := fun w hw => h (x :: w) (inW.cons hx hw)
theorem eqvD.live {c : Nat} {d : Dfa} {s t : Int} (h : eqvD c d s t) (hl : liveD c d s) : liveD c d t := by
  obtain ⟨w, hw, h1⟩ := hl
  exact ⟨w, hw, by rw [← h w hw]; exact h1⟩
/-! Rows in a row. -/
theorem flat_get {c : Nat} : ∀ {L : List (List Int)} {i x : Nat} {r : List Int}, (∀ r ∈ L, r.length = c) → L[i]? = some r → x < c → L.flatten[i * c + x]? = r[x]?
  | [], _, _, _, _, h, _ => by simp at h
  | q :: L, 0, x, r, h, hi, hx => by
    simp at hi
    subst hi
    rw [List.flatten_cons, Nat.zero_mul, Nat.zero_add, List.getElem?_append_left (by rw [h q List.mem_cons_self]; exact hx)]
  | q :: L, i + 1, x, r, h, hi, hx => by
    have hq := h q List.mem_cons_self
    rw [List.flatten_cons, List.getElem?_append_right (by rw [hq, Nat.add_mul]; omega), hq, show (i + 1) * c + x - c = i * c + x by rw [Nat.add_mul]; omega]
    exact flat_get (fun r hr => h r (List.mem_cons_of_mem _ hr)) (by simpa using hi) hx
theorem flat_len {c : Nat} : ∀ {L : List (List Int)}, (∀ r ∈ L, r.length = c) → L.flatten.length = L.length * c
  | [], _ => by simp
  | q :: L, h => by
    rw [List.flatten_cons, List.length_append, h q List.mem_cons_self, flat_len fun r hr => h r (List.mem_cons_of_mem _ hr), List.length_cons, Nat.add_mul]; omega
def mxL (l : List Int) : Int := l.foldl max 0
theorem mxL_snoc (l : List Int) (x : Int) : mxL (l ++ [x]) = max (mxL l) x := by unfold mxL; rw [List.foldl_append]; rfl
theorem mxL_le : ∀ (m : List Int) (z : Int), z ≤ m.foldl max z
  | [], _ => Int.le_refl _
  | x :: m, z => by
    have := mxL_le m (max z x)
    simp only [List.foldl_cons]
    omega
theorem mxL_mono {l : List Int} (m : List Int) : mxL l ≤ mxL (l ++ m) := by
  unfold mxL
  rw [List.foldl_append]
  exact mxL_le m _
theorem mxL_nn (l : List Int) : 0 ≤ mxL l := by
  have := mxL_mono (l := []) l
  simpa [mxL] using this
theorem mxL_take {l : List Int} {i j : Nat} (h : i ≤ j) : mxL (l.take i) ≤ mxL (l.take j) := by
  have e : l.take j = l.take i ++ (l.take j).drop i := by
    have := List.take_append_drop i (l.take j)
    rw [List.take_take, Nat.min_eq_left h] at this
    exact this.symm
  rw [e]
  exact mxL_mono _
/-- An automaton whose states are numbered in the order in which they are met. -/
structure Bfs (n c : Nat) (C : Dfa) : Prop where
  ok : OkD n c C
  st : C.start = 0
  ord : ∀ (k : Nat) (x : Int), C.next.flatten[k]? = some x → x ≤ mxL (C.next.flatten.take k) + 1
  rch : ∀ i : Nat, i < n → ((i : Nat) : Int) ≤ mxL (C.next.flatten.take (i * c))
  fin : mxL C.next.flatten = n - 1
/-- The canonical automaton of a behaviour. -/
def CanOf (c : Nat) (f : List Nat → Int) (C : Dfa) : Prop := ∃ m, Bfs m c C ∧ (∀ w, inW c w → beh C 0 w = f w) ∧ (∀ s t : Int, 0 ≤ s → s < m → 0 ≤ t → t < m → eqvD c C s t → s = t) ∧ ∀ (s : Int) (x : Nat), x < c → 0 ≤ toD C s x → liveD c C (toD C s x)
theorem ent_to {n c i x : Nat} {C : Dfa} (h : OkD n c C) (hi : i < n) (hx : x < c) : C.next.flatten[i * c + x]? = some (toD C ((i : Nat) : Int) x) := by
  have hr : C.next[i]? = some (C.next[i]'(by rw [h.nl]; exact hi)) := List.getElem?_eq_getElem _
  have hrow := h.row _ (List.mem_of_getElem? hr)
  rw [flat_get (fun r hr => (h.row r hr).1) hr hx]
  have ht : (C.next[i]'(by rw [h.nl]; exact hi))[x]? = some ((C.next[i]'(by rw [h.nl]; exact hi))[x]'(by rw [hrow.1]; exact hx)) := List.getElem?_eq_getElem _
  rw [ht, toD_get hr ht]
theorem take_get_snoc {l : List Int} {k : Nat} {x : Int} (h : l[k]? = some x) : l.take (k + 1) = l.take k ++ [x] := by rw [List.take_add_one, h]; rfl
theorem CanOf.steps {c n m : Nat} {A B : Dfa} (hA : Bfs n c A) (hB : Bfs m c B) (h0 : ∀ w, inW c w → beh A 0 w = beh B 0 w)
    (rA : ∀ s t : Int, 0 ≤ s → s < n → 0 ≤ t → t < n → eqvD c A s t → s = t) (rB : ∀ s t : Int, 0 ≤ s → s < m → 0 ≤ t → t < m → eqvD c B s t → s = t)
    (lA : ∀ (s : Int) (x : Nat), x < c → 0 ≤ toD A s x → liveD c A (toD A s x)) (lB : ∀ (s : Int) (x : Nat), x < c → 0 ≤ toD B s x → liveD c B (toD B s x)) :
    ∀ k, k ≤ n * c → k ≤ m * c → A.next.flatten.take k = B.next.flatten.take k ∧ ∀ j : Int, 0 ≤ j → j ≤ mxL (A.next.flatten.take k) → ∀ w, inW c w → beh A j w = beh B j w := by
  intro k
  induction k with
  | zero =>
    intro _ _
    refine ⟨by simp, fun j h1 h2 w hw => ?_⟩
    have : j = 0 := by simp [mxL] at h2; omega
    rw [this]; exact h0 w hw
  | succ k ih =>
    intro hn hm
    obtain ⟨e1, e2⟩ := ih (by omega) (by omega)
    have hc : 0 < c := by
      rcases Nat.eq_zero_or_pos c with h | h
      · subst h; omega
      · exact h
    obtain ⟨i, x, rfl, hx⟩ : ∃ i x, k = i * c + x ∧ x < c := ⟨k / c, k % c, by rw [Nat.mul_comm]; exact (Nat.div_add_mod k c).symm, Nat.mod_lt _ hc⟩
    have hin : i < n := by
      apply Classical.byContradiction
      intro h
      have : n * c ≤ i * c := Nat.mul_le_mul_right c (by omega)
      omega
    have him : i < m := by
      apply Classical.byContradiction
      intro h
      have : m * c ≤ i * c := Nat.mul_le_mul_right c (by omega)
      omega
    have hi := hA.rch i hin
    have hmono : mxL (A.next.flatten.take (i * c)) ≤ mxL (A.next.flatten.take (i * c + x)) := mxL_take (by omega)
    have hbi := e2 ((i : Nat) : Int) (by omega) (by omega)
    have a1 := ent_to hA.ok hin hx
    have b1 := ent_to hB.ok him hx
    obtain ⟨s, hs⟩ : ∃ s, toD A ((i : Nat) : Int) x = s := ⟨_, rfl⟩
    obtain ⟨t, ht⟩ : ∃ t, toD B ((i : Nat) : Int) x = t := ⟨_, rfl⟩
    rw [hs] at a1
    rw [ht] at b1
    have hbeh : ∀ w, inW c w → beh A s w = beh B t w := fun w hw => by
      have := hbi (x :: w) (inW.cons hx hw)
      simp only [beh, hs, ht] at this
      exact this
    have oA := hA.ord _ _ a1
    have oB := hB.ord _ _ b1
    rw [← e1] at oB
    have bA := hA.ok.to (s := ((i : Nat) : Int)) (x := x)
    have bB := hB.ok.to (s := ((i : Nat) : Int)) (x := x)
    rw [hs] at bA
    rw [ht] at bB
    have hst : s = t := by
      rcases Int.lt_or_le s 0 with h1 | h1
      · rcases Int.lt_or_le t 0 with h2 | h2
        · omega
        · exfalso
          have := lB ((i : Nat) : Int) x hx (by rw [ht]; exact h2)
          rw [ht] at this
          obtain ⟨w, hw, h3⟩ := this
          rw [← hbeh w hw, beh_neg h1] at h3
          omega
      · rcases Int.lt_or_le t 0 with h2 | h2
        · exfalso
          have := lA ((i : Nat) : Int) x hx (by rw [hs]; exact h1)
          rw [hs] at this
          obtain ⟨w, hw, h3⟩ := this
          rw [hbeh w hw, beh_neg h2] at h3
          omega
        · rcases Int.lt_or_le (mxL (A.next.flatten.take (i * c + x))) s with h3 | h3
          · rcases Int.lt_or_le (mxL (A.next.flatten.take (i * c + x))) t with h4 | h4
            · omega
            · -- B's is old: then A's is the same old one
              have h5 : ∀ w, inW c w → beh A s w = beh A t w := fun w hw => (hbeh w hw).trans (e2 t h2 h4 w hw).symm
              have h6 : mxL (A.next.flatten.take (i * c + x)) ≤ n - 1 := by
                rw [← hA.fin]
                have := mxL_take (l := A.next.flatten) (i := i * c + x) (j := max (i * c + x) A.next.flatten.length) (by omega)
                rwa [List.take_of_length_le (show A.next.flatten.length ≤ max (i * c + x) A.next.flatten.length by omega)] at this
              exact rA s t h1 bA.2 h2 (by omega) h5
          · have h5 : ∀ w, inW c w → beh B t w = beh B s w := fun w hw => (hbeh w hw).symm.trans (e2 s h1 h3 w hw)
            have h6 : mxL (A.next.flatten.take (i * c + x)) ≤ m - 1 := by
              rw [← hB.fin, e1]
              have := mxL_take (l := B.next.flatten) (i := i * c + x) (j := max (i * c + x) B.next.flatten.length) (by omega)
              rwa [List.take_of_length_le (show B.next.flatten.length ≤ max (i * c + x) B.next.flatten.length by omega)] at this
            exact (rB t s h2 bB.2 h1 (by omega) h5).symm
    subst hst
    refine ⟨by rw [take_get_snoc a1, take_get_snoc b1, e1], fun j h1 h2 w hw => ?_⟩
    rw [take_get_snoc a1, mxL_snoc] at h2
    rcases Int.lt_or_le (mxL (A.next.flatten.take (i * c + x))) j with h3 | h3
    · have : j = s := by omega
      rw [this]; exact hbeh w hw
    · exact e2 j h1 h3 w hw
theorem rows_eq {c : Nat} : ∀ {L M : List (List Int)}, (∀ r ∈ L, r.length = c) → (∀ r ∈ M, r.length = c) → L.length = M.length → L.flatten = M.flatten → L = M
  | [], [], _, _, _, _ => rfl
  | [], _ :: _, _, _, h, _ => by cases h
  | _ :: _, [], _, _, h, _ => by cases h
  | q :: L, r :: M, h1, h2, h3, h4 => by
    rw [List.flatten_cons, List.flatten_cons] at h4
    obtain ⟨e1, e2⟩ := List.append_inj h4 (by rw [h1 q List.mem_cons_self, h2 r List.mem_cons_self])
    rw [e1, rows_eq (fun x hx => h1 x (List.mem_cons_of_mem _ hx)) (fun x hx => h2 x (List.mem_cons_of_mem _ hx)) (by simpa using h3) e2]
theorem CanOf.uniq {c : Nat} {f g : List Nat → Int} {A B : Dfa} (hA : CanOf c f A) (hB : CanOf c g B) (hfg : ∀ w, inW c w → f w = g w) : A = B := by
  obtain ⟨n, bA, fA, rA, lA⟩ := hA
  obtain ⟨m, bB, fB, rB, lB⟩ := hB
  have h0 : ∀ w, inW c w → beh A 0 w = beh B 0 w := fun w hw => by rw [fA w hw, fB w hw, hfg w hw]
  have key := CanOf.steps bA bB h0 rA rB lA lB
  have lenA := flat_len (L := A.next) (c := c) fun r hr => (bA.ok.row r hr).1
  have lenB := flat_len (L := B.next) (c := c) fun r hr => (bB.ok.row r hr).1
  rw [bA.ok.nl] at lenA
  rw [bB.ok.nl] at lenB
  have nA := bA.ok.st
  have nB := bB.ok.st
  have hnm : n = m := by
    rcases Nat.lt_trichotomy n m with h | h | h
    · exfalso
      have h1 := (key (n * c) (Nat.le_refl _) (Nat.mul_le_mul_right c (by omega))).1
      have h2 := bB.rch n h
      rw [← h1, List.take_of_length_le (by omega), bA.fin] at h2
      omega
    · exact h
    · exfalso
      have h1 := (key (m * c) (Nat.mul_le_mul_right c (by omega)) (Nat.le_refl _)).1
      have h2 := bA.rch m h
      rw [h1, List.take_of_length_le (by omega), bB.fin] at h2
      omega
  subst hnm
  obtain ⟨e1, e2⟩ := key (n * c) (Nat.le_refl _) (Nat.le_refl _)
  rw [List.take_of_length_le (by omega), List.take_of_length_le (by omega)] at e1
  rw [List.take_of_length_le (by omega), bA.fin] at e2
  have e3 := rows_eq (c := c) (fun r hr => (bA.ok.row r hr).1) (fun r hr => (bB.ok.row r hr).1) (by rw [bA.ok.nl, bB.ok.nl]) e1
  have e4 : A.accept = B.accept := by
    apply List.ext_getElem (by rw [bA.ok.al, bB.ok.al])
    intro i h1 h2
    have h3 := e2 ((i : Nat) : Int) (by omega) (by have := bA.ok.al; omega) [] (inW.nil c)
    simp only [beh] at h3
    rwa [atD_get (List.getElem?_eq_getElem h1), atD_get (List.getElem?_eq_getElem h2)] at h3
  have e5 : A.start = B.start := by rw [bA.st, bB.st]
  cases A; cases B; simp only at e3 e4 e5; rw [e3, e4, e5]
/-- What is made of representatives is canonical. -/
theorem canOf_states {n m c : Nat} {d C : Dfa} {st : List Int} (ok : OkD n c d) (b : Bfs m c C) (hl : st.length = m) (h0 : st[0]? = some d.start)
    (hinj : ∀ (i j : Nat) s t, st[i]? = some s → st[j]? = some t → eqvD c d s t → i = j)
    (hacc : ∀ (i : Nat) s, st[i]? = some s → atD C ((i : Nat) : Int) = atD d s)
    (hnext : ∀ (i x : Nat) s, st[i]? = some s → x < c → (toD C ((i : Nat) : Int) x = -1 ∧ ¬ liveD c d (toD d s x)) ∨ ∃ (j : Nat) (t : Int), toD C ((i : Nat) : Int) x = ((j : Nat) : Int) ∧ st[j]? = some t ∧ eqvD c d t (toD d s x) ∧ liveD c d t) : CanOf c (beh d d.start) C := by
  have hb : ∀ (w : List Nat) (i : Nat) s, inW c w → st[i]? = some s → beh C ((i : Nat) : Int) w = beh d s w := by
    intro w
    induction w with
    | nil => exact fun i s _ hs => hacc i s hs
    | cons x w ih =>
      intro i s hw hs
      simp only [beh]
      rcases hnext i x s hs hw.head with ⟨h1, h2⟩ | ⟨j, t, h1, h2, h3, _⟩
      · rw [h1, beh_neg (by decide), ok.dead h2 hw.tail]
      · rw [h1, ih j t hw.tail h2, h3 w hw.tail]
  have hget : ∀ s : Int, 0 ≤ s → s < m → ∃ (i : Nat) (t : Int), s = ((i : Nat) : Int) ∧ st[i]? = some t := fun s h1 h2 => by
    obtain ⟨i, rfl⟩ := Int.eq_ofNat_of_zero_le h1
    exact ⟨i, st[i]'(by omega), rfl, List.getElem?_eq_getElem _⟩
  refine ⟨m, b, fun w hw => hb w 0 d.start hw h0, ?_, ?_⟩
  · intro s t s0 s1 t0 t1 he
    obtain ⟨i, p, rfl, hp⟩ := hget s s0 s1
    obtain ⟨j, q, rfl, hq⟩ := hget t t0 t1
    have := hinj i j p q hp hq fun w hw => by rw [← hb w i p hw hp, ← hb w j q hw hq]; exact he w hw
    omega
  · intro s x hx h1
    rcases Int.lt_or_le s 0 with h2 | h2
    · rw [toD_neg h2] at h1; omega
    · rcases Int.lt_or_le s m with h3 | h3
      · obtain ⟨i, p, rfl, hp⟩ := hget s h2 h3
        rcases hnext i x p hp hx with ⟨h4, _⟩ | ⟨j, t, h4, h5, _, w, hw, h7⟩
        · omega
        · exact ⟨w, hw, by rw [h4, hb w j t hw h5]; exact h7⟩
      · exfalso
        unfold toD at h1
        have e : C.next[s.toNat]? = none := List.getElem?_eq_none (by rw [b.ok.nl]; omega)
        rw [if_neg (by omega)] at h1
        simp [List.getD_eq_getElem?_getD, e] at h1
--END
end Go.Proofs
