/- The canonical automaton as it is made, plain. -/
import Derived.Test.YtncmfkibflogkaaAh
namespace Go.Proofs
open Go Go.Eng Go.Sort

def EntP (d : Dfa) (p : List Int) (st : List Int) (s : Int) (x : Nat) (y : Int) : Prop := (y = -1 ∧ ptD p (toD d s x) < 0) ∨ ∃ (j : Nat) (t : Int), y = ((j : Nat) : Int) ∧ st[j]? = some t ∧ ptD p t = ptD p (toD d s x) ∧ 0 ≤ ptD p t
theorem EntP.mono {d : Dfa} {p st : List Int} {s y : Int} {x : Nat} (h : EntP d p st s x y) (u : List Int) : EntP d p (st ++ u) s x y := by
  rcases h with h | ⟨j, t, h1, h2, h3⟩
  · exact .inl h
  · exact .inr ⟨j, t, h1, by rw [List.getElem?_append_left (lt_of_get h2)]; exact h2, h3⟩
structure CanP (n c : Nat) (d : Dfa) (p : List Int) (rows : List (List Int)) (row st : List Int) : Prop where
  s0 : st[0]? = some d.start
  sl : ∀ s ∈ st, 0 ≤ s ∧ s < n ∧ 0 ≤ ptD p s
  inj : ∀ (i j : Nat) s t, st[i]? = some s → st[j]? = some t → ptD p s = ptD p t → i = j
  len : ∀ r ∈ rows, r.length = c
  ent : ∀ (i x : Nat) r y s, rows[i]? = some r → r[x]? = some y → st[i]? = some s → EntP d p st s x y
  cur : ∀ (x : Nat) y s, row[x]? = some y → st[rows.length]? = some s → EntP d p st s x y
  ord : ∀ (k : Nat) y, (rows.flatten ++ row)[k]? = some y → y ≤ mxL ((rows.flatten ++ row).take k) + 1
  mx : mxL (rows.flatten ++ row) + 1 = st.length
  rch : ∀ i : Nat, i < rows.length → ((i : Nat) : Int) ≤ mxL (rows.take i).flatten
theorem CanP.start {n c : Nat} {d : Dfa} {p : List Int} (hs : 0 ≤ d.start ∧ d.start < n) (hp : 0 ≤ ptD p d.start) : CanP n c d p [] [] [d.start] := by
  refine ⟨rfl, fun s h => by rw [List.mem_singleton] at h; subst h; exact ⟨hs.1, hs.2, hp⟩, fun i j s t h1 h2 _ => ?_, fun r h => absurd h List.not_mem_nil, fun i x r y s h => by simp at h, fun x y s h => by simp at h, fun k y h => by simp at h, by simp [mxL], fun i h => by simp at h⟩
  have a := lt_of_get h1
  have b := lt_of_get h2
  simp at a b
  omega
theorem ord_snoc {F : List Int} {y : Int} (h : ∀ (k : Nat) z, F[k]? = some z → z ≤ mxL (F.take k) + 1) (hy : y ≤ mxL F + 1) : ∀ (k : Nat) z, (F ++ [y])[k]? = some z → z ≤ mxL ((F ++ [y]).take k) + 1 := by
  intro k z hz
  rcases snoc_get hz with h1 | ⟨h1, h2⟩
  · rw [List.take_append_of_le_length (by have := lt_of_get h1; omega)]
    exact h k z h1
  · rw [h1, h2, List.take_append_of_le_length (Nat.le_refl _), List.take_length]
    exact hy
theorem CanP.add {n c : Nat} {d : Dfa} {p : List Int} {rows : List (List Int)} {row st : List Int} {s y : Int} (h : CanP n c d p rows row st) (hs : st[rows.length]? = some s) (hE : EntP d p st s row.length y) : CanP n c d p rows (row ++ [y]) st := by
  have hy : y ≤ mxL (rows.flatten ++ row) := by
    have hm := h.mx
    have hl := List.length_pos_of_mem (List.mem_of_getElem? h.s0)
    rcases hE with ⟨h1, _⟩ | ⟨j, t, h1, h2, _⟩
    · omega
    · have := lt_of_get h2; omega
  refine ⟨h.s0, h.sl, h.inj, h.len, h.ent, fun x z q hx hq => ?_, ?_, ?_, h.rch⟩
  · rcases snoc_get hx with h1 | ⟨h1, h2⟩
    · exact h.cur x z q h1 hq
    · rw [hs] at hq; cases hq
      rw [h1, h2]; exact hE
  · rw [← List.append_assoc]; exact ord_snoc h.ord (by omega)
  · rw [← List.append_assoc, mxL_snoc]; have := h.mx; omega
theorem CanP.new {n c : Nat} {d : Dfa} {p : List Int} {rows : List (List Int)} {row st : List Int} {s : Int} (h : CanP n c d p rows row st) (hs : st[rows.length]? = some s) (ht : 0 ≤ toD d s row.length ∧ toD d s row.length < n) (hp : 0 ≤ ptD p (toD d s row.length)) (hnew : ∀ t ∈ st, ptD p t ≠ ptD p (toD d s row.length)) :
    CanP n c d p rows (row ++ [((st.length : Nat) : Int)]) (st ++ [toD d s row.length]) := by
  have hsl := lt_of_get hs
  have hE : EntP d p (st ++ [toD d s row.length]) s row.length ((st.length : Nat) : Int) := .inr ⟨st.length, _, rfl, by rw [List.getElem?_append_right (Nat.le_refl _), Nat.sub_self]; rfl, rfl, hp⟩
  refine ⟨by rw [List.getElem?_append_left (lt_of_get h.s0)]; exact h.s0, fun q hq => ?_, fun i j q r hi hj he => ?_, h.len, fun i x r y q hr hy hq => ?_, fun x z q hx hq => ?_, ?_, ?_, h.rch⟩
  · rcases List.mem_append.1 hq with h1 | h1
    · exact h.sl q h1
    · rw [List.mem_singleton] at h1; subst h1; exact ⟨ht.1, ht.2, hp⟩
  · rcases snoc_get hi with h1 | ⟨h1, h2⟩ <;> rcases snoc_get hj with h3 | ⟨h3, h4⟩
    · exact h.inj i j q r h1 h3 he
    · exact absurd (by rw [he, h4]) (hnew q (List.mem_of_getElem? h1))
    · exact absurd (by rw [← he, h2]) (hnew r (List.mem_of_getElem? h3))
    · omega
  · rcases snoc_get hq with h1 | ⟨h1, _⟩
    · exact (h.ent i x r y q hr hy h1).mono _
    · have := lt_of_get hr; omega
  · have hq2 : q = s := by
      rw [List.getElem?_append_left hsl, hs] at hq
      exact (Option.some.inj hq).symm
    subst hq2
    rcases snoc_get hx with h1 | ⟨h1, h2⟩
    · exact (h.cur x z q h1 hs).mono _
    · rw [h1, h2]; exact hE
  · rw [← List.append_assoc]; exact ord_snoc h.ord (by have := h.mx; omega)
  · rw [← List.append_assoc, mxL_snoc]; have := h.mx; simp; omega
theorem CanP.row {n c : Nat} {d : Dfa} {p : List Int} {rows : List (List Int)} {row st : List Int} (h : CanP n c d p rows row st) (hl : row.length = c) (hr : ((rows.length : Nat) : Int) ≤ mxL rows.flatten) : CanP n c d p (rows ++ [row]) [] st := by
  have hf : (rows ++ [row]).flatten ++ [] = rows.flatten ++ row := by simp
  refine ⟨h.s0, h.sl, h.inj, fun r hm => ?_, fun i x r y s h1 h2 h3 => ?_, fun x y s h1 => by simp at h1, by rw [hf]; exact h.ord, by rw [hf]; exact h.mx, fun i hi => ?_⟩
  · rcases List.mem_append.1 hm with h1 | h1
    · exact h.len r h1
    · rw [List.mem_singleton] at h1; rw [h1]; exact hl
  · rcases snoc_get h1 with h4 | ⟨h4, h5⟩
    · exact h.ent i x r y s h4 h2 h3
    · subst h5; rw [h4] at h3; exact h.cur x y s h2 h3
  · simp at hi
    rcases Nat.lt_or_ge i rows.length with h1 | h1
    · rw [List.take_append_of_le_length (by omega)]; exact h.rch i h1
    · have : i = rows.length := by omega
      rw [this, List.take_append_of_le_length (Nat.le_refl _), List.take_length]; exact hr
theorem flat_take {c : Nat} : ∀ {L : List (List Int)} {i : Nat}, (∀ r ∈ L, r.length = c) → i ≤ L.length → L.flatten.take (i * c) = (L.take i).flatten
  | [], i, _, _ => by simp
  | q :: L, 0, _, _ => by simp
  | q :: L, i + 1, h, hi => by
    have hq := h q List.mem_cons_self
    rw [List.flatten_cons, List.take_succ_cons, List.flatten_cons, show (i + 1) * c = q.length + i * c by rw [hq, Nat.add_mul]; omega, List.take_append, Nat.add_sub_cancel_left, flat_take (fun r hr => h r (List.mem_cons_of_mem _ hr)) (by simpa using hi), List.take_of_length_le (by omega)]
theorem CanP.done {n c : Nat} {d : Dfa} {p : List Int} {rows : List (List Int)} {st : List Int} (h : CanP n c d p rows [] st) (ok : OkD n c d) (hP : PartsOf n c d p) (hl : rows.length = st.length) : CanOf c (beh d d.start) ⟨0, st.map (atD d), rows⟩ := by
  have hmx := h.mx
  rw [List.append_nil] at hmx
  have hm0 := List.length_pos_of_mem (List.mem_of_getElem? h.s0)
  have hgs : ∀ i : Nat, i < rows.length → ∃ s, st[i]? = some s := fun i hi => get_of_lt (by omega)
  have hrow : ∀ r ∈ rows, r.length = c ∧ ∀ y ∈ r, -1 ≤ y ∧ y < st.length := fun r hr => by
    refine ⟨h.len r hr, fun y hy => ?_⟩
    obtain ⟨i, hi⟩ := List.getElem?_of_mem hr
    obtain ⟨x, hx⟩ := List.getElem?_of_mem hy
    obtain ⟨s, hs⟩ := hgs i (lt_of_get hi)
    rcases h.ent i x r y s hi hx hs with ⟨h1, _⟩ | ⟨j, t, h1, h2, _⟩
    · omega
    · have := lt_of_get h2; omega
  have okC : OkD st.length c ⟨0, st.map (atD d), rows⟩ := ⟨hl, by simp, ⟨Int.le_refl _, by show (0 : Int) < _; omega⟩, fun x hx => by
    obtain ⟨s, _, h1⟩ := List.mem_map.1 hx
    rw [← h1]; exact ok.at', hrow⟩
  have hb : Bfs st.length c ⟨0, st.map (atD d), rows⟩ := by
    refine ⟨okC, rfl, fun k y hk => ?_, fun i hi => ?_, ?_⟩
    · have := h.ord k y (by rw [List.append_nil]; exact hk)
      rwa [List.append_nil] at this
    · show _ ≤ mxL (rows.flatten.take (i * c))
      rw [flat_take h.len (by omega)]
      exact h.rch i (by omega)
    · show mxL rows.flatten = _
      omega
  refine canOf_states ok hb rfl h.s0 (fun i j s t hi hj he => ?_) (fun i s hs => ?_) fun i x s hs hx => ?_
  · have a := h.sl s (List.mem_of_getElem? hi)
    have b := h.sl t (List.mem_of_getElem? hj)
    exact h.inj i j s t hi hj ((hP.iff s t ⟨by omega, a.2.1⟩ ⟨by omega, b.2.1⟩).2 he)
  · exact atD_get (by rw [List.getElem?_map, hs]; rfl)
  · obtain ⟨r, hr⟩ := get_of_lt (l := rows) (i := i) (by have := lt_of_get hs; omega)
    have hrl := h.len r (List.mem_of_getElem? hr)
    obtain ⟨y, hy⟩ := get_of_lt (l := r) (i := x) (by omega)
    have hto : toD ⟨0, st.map (atD d), rows⟩ ((i : Nat) : Int) x = y := toD_get hr hy
    have hrg := ok.to (s := s) (x := x)
    rcases h.ent i x r y s hr hy hs with ⟨h1, h2⟩ | ⟨j, t, h1, h2, h3, h4⟩
    · left
      refine ⟨by rw [hto]; exact h1, fun hl => ?_⟩
      have := (hP.live _ hrg).1.2 hl
      omega
    · right
      have b := h.sl t (List.mem_of_getElem? h2)
      exact ⟨j, t, by rw [hto]; exact h1, h2, (hP.iff t _ ⟨by omega, b.2.1⟩ hrg).1 h3, (hP.live t ⟨by omega, b.2.1⟩).1.1 h4⟩
/-- Nothing is accepted. -/
theorem canOf_dead {n c : Nat} {d : Dfa} (ok : OkD n c d) (hd : ¬ liveD c d d.start) : CanOf c (beh d d.start) ⟨0, [-1], [List.replicate c (-1)]⟩ := by
  have hto : ∀ (s : Int) (x : Nat), toD ⟨0, [-1], [List.replicate c (-1)]⟩ s x = -1 := fun s x => by
    unfold toD
    split
    · rfl
    · rw [List.getD_eq_getElem?_getD, List.getD_eq_getElem?_getD]
      cases h : ([List.replicate c (-1 : Int)])[s.toNat]? with
      | none => simp
      | some r =>
        have := List.mem_of_getElem? h
        rw [List.mem_singleton] at this
        subst this
        simp only [Option.getD_some, List.getElem?_replicate]
        split <;> rfl
  have hmx : mxL ([List.replicate c (-1 : Int)]).flatten = 0 := by
    simp only [List.flatten_cons, List.flatten_nil, List.append_nil]
    induction c with
    | zero => rfl
    | succ c ih => 
      have e : ∀ k, mxL (List.replicate k (-1 : Int)) = 0 := fun k => by
        induction k with
        | zero => rfl
        | succ k ih2 => rw [List.replicate_succ', mxL_snoc, ih2]; decide
      exact e _
  have okC : OkD 1 c ⟨0, [-1], [List.replicate c (-1)]⟩ := ⟨rfl, rfl, ⟨Int.le_refl _, by show (0 : Int) < 1; decide⟩, fun x hx => by rw [List.mem_singleton] at hx; rw [hx]; exact Int.le_refl _, fun r hr => by
    rw [List.mem_singleton] at hr
    subst hr
    exact ⟨by simp, fun x hx => by rw [(List.mem_replicate.1 hx).2]; decide⟩⟩
  have hbeh : ∀ (w : List Nat), beh ⟨0, [-1], [List.replicate c (-1)]⟩ 0 w = -1 := fun w => by
    cases w with
    | nil => rfl
    | cons x w => simp only [beh]; rw [hto]; exact beh_neg (by decide)
  refine ⟨1, ⟨okC, rfl, fun k x hk => ?_, fun i hi => ?_, by rw [hmx]; rfl⟩, fun w hw => by rw [hbeh, ok.dead hd hw], fun s t h1 h2 h3 h4 _ => by omega, fun s x _ h => by rw [hto] at h; exact absurd h (by decide)⟩
  · have h1 := List.mem_of_getElem? hk
    simp at h1
    have := mxL_nn ((([List.replicate c (-1 : Int)]).flatten).take k)
    have h2 : x = -1 := h1.2
    show x ≤ mxL ((([List.replicate c (-1 : Int)]).flatten).take k) + 1
    omega
  · have : i = 0 := by omega
    rw [this]; exact mxL_nn _
def keysC : List Int → Nat → List (Int × Int)
  | [], _ => []
  | m :: ks, n => (m, ((n : Nat) : Int)) :: keysC ks (n + 1)
theorem keysC_snoc : ∀ (ks : List Int) (m : Int) (n : Nat), keysC (ks ++ [m]) n = keysC ks n ++ [(m, (((n + ks.length : Nat) : Nat) : Int))]
  | [], m, n => rfl
  | x :: ks, m, n => by
    show (x, _) :: keysC (ks ++ [m]) (n + 1) = (x, _) :: (keysC ks (n + 1) ++ _)
    rw [keysC_snoc ks m (n + 1), List.length_cons, show n + 1 + ks.length = n + (ks.length + 1) by omega]
theorem keysC_mem : ∀ {ks : List Int} {n : Nat} {q : Int × Int}, q ∈ keysC ks n → ∃ (j : Nat) (m : Int), ks[j]? = some m ∧ q = (m, (((n + j : Nat) : Nat) : Int))
  | [], _, _, h => by cases h
  | x :: ks, n, q, h => by
    rcases List.mem_cons.1 h with h | h
    · exact ⟨0, x, rfl, h⟩
    · obtain ⟨j, m, h1, h2⟩ := keysC_mem h
      exact ⟨j + 1, m, h1, by rw [h2]; congr 2; omega⟩
theorem keysC_key : ∀ {ks : List Int} {n : Nat} {m : Int}, m ∈ ks → m ∈ (keysC ks n).map (·.1)
  | x :: ks, n, m, h => by
    rcases List.mem_cons.1 h with rfl | h
    · exact List.mem_cons_self
    · exact List.mem_cons_of_mem _ (keysC_key (n := n + 1) h)
theorem keysC_get {ks : List Int} {m v : Int} (h : getM (keysC ks 0) m = some v) : ∃ j : Nat, v = ((j : Nat) : Int) ∧ ks[j]? = some m := by
  obtain ⟨j, m', h1, h2⟩ := keysC_mem (getM_some_mem h)
  simp only [Prod.mk.injEq, Nat.zero_add] at h2
  exact ⟨j, h2.2, by rw [h1, h2.1]⟩
theorem keysC_none {ks : List Int} {m : Int} (h : getM (keysC ks 0) m = none) : m ∉ ks ∧ putM (keysC ks 0) m ((ks.length : Nat) : Int) = keysC (ks ++ [m]) 0 := by
  refine ⟨fun hm => ?_, ?_⟩
  · have := getM_isSome.2 (keysC_key (n := 0) hm)
    rw [h] at this; cases this
  · rw [putM_none _ h, keysC_snoc, Nat.zero_add]
end Go.Proofs
