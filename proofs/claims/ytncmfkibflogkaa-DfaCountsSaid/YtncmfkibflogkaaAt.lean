/- Breadth first with the words that lead to each key, plain. -/
import Derived.Test.YtncmfkibflogkaaAs
namespace Go.Proofs
open Go Go.Eng Go.Sort

--BEGIN
section
variable {α : Type}
def runO (stp : α → Nat → Option α) : α → List Nat → Option α
  | a, [] => some a
  | a, x :: w => (stp a x).bind fun b => runO stp b w
theorem runO_snoc (stp : α → Nat → Option α) (x : Nat) : ∀ (w : List Nat) (a : α), runO stp a (w ++ [x]) = (runO stp a w).bind fun b => stp b x
  | [], a => by simp only [List.nil_append, runO, Option.bind_some]; cases stp a x <;> rfl
  | y :: w, a => by
    simp only [List.cons_append, runO]
    cases h : stp a y with
    | none => rfl
    | some b => simp only [Option.bind_some]; exact runO_snoc stp x w b
theorem inW.snoc {c x : Nat} {w : List Nat} (h : inW c w) (hx : x < c) : inW c (w ++ [x]) := fun y hy => by
  rcases List.mem_append.1 hy with h1 | h1
  · exact h y h1
  · rw [List.mem_singleton] at h1; rw [h1]; exact hx
theorem inW.init {c x : Nat} {w : List Nat} (h : inW c (w ++ [x])) : inW c w ∧ x < c := ⟨fun y hy => h y (List.mem_append_left _ hy), h x (List.mem_append_right _ (List.mem_singleton.2 rfl))⟩
/-- Keys as they are met: the keys below i are done, of key i the symbols below x. -/
structure BfsW (c : Nat) (stp : α → Nat → Option α) (a0 : α) (work : List α) (ws : List (List Nat)) (ps : List (Nat × Nat)) (i x : Nat) : Prop where
  len : ws.length = work.length
  plen : ps.length = work.length
  fst : work[0]? = some a0
  wf : ws[0]? = some []
  nd : work.Nodup
  run : ∀ (j : Nat) a w, work[j]? = some a → ws[j]? = some w → runO stp a0 w = some a
  inw : ∀ w ∈ ws, inW c w
  mono : ∀ (j k : Nat) w v, j ≤ k → ws[j]? = some w → ws[k]? = some v → w.length ≤ v.length
  near : ∀ (j : Nat) w v, ws[i]? = some v → ws[j]? = some w → w.length ≤ v.length + 1
  par : ∀ (k : Nat) w, 0 < k → ws[k]? = some w → ∃ j y v, j < k ∧ ps[k]? = some (j, y) ∧ ws[j]? = some v ∧ w = v ++ [y]
  done : ∀ (j : Nat) a y b v, (j < i ∨ (j = i ∧ y < x)) → y < c → work[j]? = some a → ws[j]? = some v → stp a y = some b → ∃ (k : Nat) (w : List Nat), work[k]? = some b ∧ ws[k]? = some w ∧ w.length ≤ v.length + 1
variable {c : Nat} {stp : α → Nat → Option α} {a0 : α} {work : List α} {ws : List (List Nat)} {ps : List (Nat × Nat)} {i x : Nat}
theorem one_get {β : Type} {a b : β} {j : Nat} (h : [a][j]? = some b) : j = 0 ∧ b = a := by
  have := lt_of_get h
  simp at this
  subst this
  simp at h
  exact ⟨rfl, h.symm⟩
theorem BfsW.start (c : Nat) (stp : α → Nat → Option α) (a0 : α) (p : Nat × Nat) : BfsW c stp a0 [a0] [[]] [p] 0 0 where
  len := rfl
  plen := rfl
  fst := rfl
  wf := rfl
  nd := by simp
  run := fun j a w h1 h2 => by obtain ⟨_, rfl⟩ := one_get h1; obtain ⟨_, rfl⟩ := one_get h2; rfl
  inw := fun w h => by rw [List.mem_singleton] at h; subst h; exact inW.nil c
  mono := fun j k w v _ h1 h2 => by obtain ⟨_, rfl⟩ := one_get h1; simp
  near := fun j w v _ h2 => by obtain ⟨_, rfl⟩ := one_get h2; simp
  par := fun k w hk h => by obtain ⟨rfl, _⟩ := one_get h; omega
  done := fun j a y b v h => by omega
theorem BfsW.get (h : BfsW c stp a0 work ws ps i x) {k : Nat} {a : α} (ha : work[k]? = some a) : ∃ w, ws[k]? = some w := get_of_lt (by rw [h.len]; exact lt_of_get ha)
theorem BfsW.none (h : BfsW c stp a0 work ws ps i x) {a : α} (ha : work[i]? = some a) (hn : stp a x = none) : BfsW c stp a0 work ws ps i (x + 1) := by
  refine { h with done := fun j b y b' v hj hy hb hv hs => ?_ }
  by_cases hjx : j < i ∨ (j = i ∧ y < x)
  · exact h.done j b y b' v hjx hy hb hv hs
  · have e1 : j = i := by omega
    have e2 : y = x := by omega
    subst e1; subst e2
    rw [ha] at hb; cases hb
    rw [hn] at hs; cases hs
theorem BfsW.old (h : BfsW c stp a0 work ws ps i x) {a b : α} (ha : work[i]? = some a) (hs : stp a x = some b) (hb : b ∈ work) : BfsW c stp a0 work ws ps i (x + 1) := by
  refine { h with done := fun j a' y b' v hj hy hb' hv hs' => ?_ }
  by_cases hjx : j < i ∨ (j = i ∧ y < x)
  · exact h.done j a' y b' v hjx hy hb' hv hs'
  · have e1 : j = i := by omega
    have e2 : y = x := by omega
    subst e1; subst e2
    rw [ha] at hb'; cases hb'
    rw [hs] at hs'; cases hs'
    obtain ⟨k, hk⟩ := List.getElem?_of_mem hb
    obtain ⟨w, hw⟩ := h.get hk
    exact ⟨k, w, hk, hw, h.near k w v hv hw⟩
theorem BfsW.new (h : BfsW c stp a0 work ws ps i x) {a b : α} {v : List Nat} (ha : work[i]? = some a) (hv : ws[i]? = some v) (hx : x < c) (hs : stp a x = some b) (hb : b ∉ work) : BfsW c stp a0 (work ++ [b]) (ws ++ [v ++ [x]]) (ps ++ [(i, x)]) i (x + 1) := by
  have hle : ∀ (j : Nat) w, ws[j]? = some w → w.length ≤ v.length + 1 := fun j w hw => h.near j w v hv hw
  have hil := lt_of_get ha
  refine ⟨by simp [h.len], by simp [h.plen], by rw [List.getElem?_append_left (lt_of_get h.fst)]; exact h.fst, by rw [List.getElem?_append_left (lt_of_get h.wf)]; exact h.wf, ?_, ?_, ?_, ?_, ?_, ?_, ?_⟩
  · rw [List.nodup_append]
    refine ⟨h.nd, by simp, fun p hp q hq => ?_⟩
    rw [List.mem_singleton] at hq
    subst hq
    exact fun e => hb (e ▸ hp)
  · intro j p w hp hw
    rcases snoc_get hp with h1 | ⟨h1, h2⟩
    · rcases snoc_get hw with h3 | ⟨h3, _⟩
      · exact h.run j p w h1 h3
      · have := lt_of_get h1; have := h.len; omega
    · rcases snoc_get hw with h3 | ⟨h3, h4⟩
      · have := lt_of_get h3; have := h.len; omega
      · subst h2; subst h4
        rw [runO_snoc, h.run i a v ha hv]; exact hs
  · intro w hw
    rcases List.mem_append.1 hw with h1 | h1
    · exact h.inw w h1
    · rw [List.mem_singleton] at h1; subst h1
      exact (h.inw v (List.mem_of_getElem? hv)).snoc hx
  · intro j k w u hjk hj hk
    rcases snoc_get hk with h1 | ⟨h1, h2⟩
    · rcases snoc_get hj with h3 | ⟨h3, _⟩
      · exact h.mono j k w u hjk h3 h1
      · have := lt_of_get h1; omega
    · subst h2
      rw [List.length_append]
      rcases snoc_get hj with h3 | ⟨h3, h4⟩
      · exact hle j w h3
      · subst h4; simp
  · intro j w u hu hj
    have hu2 : u = v := by
      rw [List.getElem?_append_left (lt_of_get hv), hv] at hu
      exact (Option.some.inj hu).symm
    subst hu2
    rcases snoc_get hj with h3 | ⟨h3, h4⟩
    · exact hle j w h3
    · subst h4; simp
  · intro k w hk hw
    rcases snoc_get hw with h1 | ⟨h1, h2⟩
    · obtain ⟨j, y, u, h3, h4, h5, h6⟩ := h.par k w hk h1
      exact ⟨j, y, u, h3, by rw [List.getElem?_append_left (lt_of_get h4)]; exact h4, by rw [List.getElem?_append_left (lt_of_get h5)]; exact h5, h6⟩
    · refine ⟨i, x, v, ?_, ?_, by rw [List.getElem?_append_left (lt_of_get hv)]; exact hv, h2⟩
      · have := h.len; omega
      · rw [List.getElem?_append_right (by rw [h.plen, h1, h.len]; exact Nat.le_refl _), h1, h.plen, h.len, Nat.sub_self]; rfl
  · intro j a' y b' u hj hy ha' hu hs'
    have hjl : j < work.length := by omega
    rw [List.getElem?_append_left hjl] at ha'
    rw [List.getElem?_append_left (by rw [h.len]; exact hjl)] at hu
    by_cases hjx : j < i ∨ (j = i ∧ y < x)
    · obtain ⟨k, w, h1, h2, h3⟩ := h.done j a' y b' u hjx hy ha' hu hs'
      exact ⟨k, w, by rw [List.getElem?_append_left (lt_of_get h1)]; exact h1, by rw [List.getElem?_append_left (lt_of_get h2)]; exact h2, h3⟩
    · have e1 : j = i := by omega
      have e2 : y = x := by omega
      subst e1; subst e2
      rw [ha] at ha'; cases ha'
      rw [hs] at hs'; cases hs'
      rw [hv] at hu; cases hu
      exact ⟨work.length, v ++ [y], by simp, by rw [← h.len]; simp, by simp⟩
theorem BfsW.row (h : BfsW c stp a0 work ws ps i c) : BfsW c stp a0 work ws ps (i + 1) 0 := by
  refine { h with near := fun j w v hv hw => ?_, done := fun j a y b v hj hy ha hv hs => ?_ }
  · obtain ⟨u, hu⟩ := get_of_lt (l := ws) (i := i) (by have := lt_of_get hv; omega)
    have h1 := h.near j w u hu hw
    have h2 := h.mono i (i + 1) u v (by omega) hu hv
    omega
  · refine h.done j a y b v ?_ hy ha hv hs
    rcases hj with h1 | h1
    · rcases Nat.lt_or_ge j i with h2 | h2
      · exact .inl h2
      · exact .inr ⟨by omega, hy⟩
    · omega
theorem BfsW.reach (h : BfsW c stp a0 work ws ps i 0) (u : List Nat) (hu : inW c u) : ∀ a, runO stp a0 u = some a → (∃ (j : Nat) (v : List Nat), work[j]? = some a ∧ ws[j]? = some v ∧ v.length ≤ u.length) ∨ ∃ (j : Nat) (v : List Nat), i ≤ j ∧ ws[j]? = some v ∧ v.length ≤ u.length := by
  obtain ⟨n, hn⟩ : ∃ n, n = u.length := ⟨_, rfl⟩
  induction n generalizing u with
  | zero =>
    intro a ha
    have : u = [] := List.eq_nil_of_length_eq_zero hn.symm
    subst this
    simp only [runO, Option.some.injEq] at ha
    subst ha
    exact .inl ⟨0, [], h.fst, h.wf, Nat.le_refl _⟩
  | succ n ih =>
    intro a ha
    rcases List.eq_nil_or_concat u with rfl | ⟨u', y, rfl⟩
    · simp at hn
    rw [List.concat_eq_append] at hu hn ha ⊢
    rw [runO_snoc] at ha
    have hn' : n = u'.length := by simpa using hn
    cases hr : runO stp a0 u' with
    | none => rw [hr] at ha; cases ha
    | some b =>
      rw [hr] at ha
      simp only [Option.bind_some] at ha
      rcases ih u' hu.init.1 hn' b hr with ⟨j, v, h1, h2, h3⟩ | ⟨j, v, h1, h2, h3⟩
      · rcases Nat.lt_or_ge j i with h4 | h4
        · obtain ⟨k, w, h5, h6, h7⟩ := h.done j b y a v (.inl h4) hu.init.2 h1 h2 ha
          exact .inl ⟨k, w, h5, h6, by simp; omega⟩
        · exact .inr ⟨j, v, h4, h2, by simp; omega⟩
      · exact .inr ⟨j, v, h1, h2, by simp; omega⟩
/-- What is reached by a shorter word has been looked at before. -/
theorem BfsW.before (h : BfsW c stp a0 work ws ps i 0) {v : List Nat} (hv : ws[i]? = some v) {u : List Nat} (hu : inW c u) (hl : u.length < v.length) {a : α} (ha : runO stp a0 u = some a) : ∃ j : Nat, j < i ∧ work[j]? = some a := by
  rcases h.reach u hu a ha with ⟨j, w, h1, h2, h3⟩ | ⟨j, w, h1, h2, h3⟩
  · refine ⟨j, ?_, h1⟩
    apply Classical.byContradiction
    intro hj
    have := h.mono i j v w (by omega) hv h2
    omega
  · have := h.mono i j v w h1 hv h2
    omega
theorem BfsW.all (h : BfsW c stp a0 work ws ps i 0) (hi : i = work.length) {u : List Nat} (hu : inW c u) {a : α} (ha : runO stp a0 u = some a) : ∃ j : Nat, j < i ∧ work[j]? = some a := by
  rcases h.reach u hu a ha with ⟨j, w, h1, h2, h3⟩ | ⟨j, w, h1, h2, h3⟩
  · exact ⟨j, by have := lt_of_get h1; omega, h1⟩
  · have := lt_of_get h2; have := h.len; omega
theorem BfsW.wlen (h : BfsW c stp a0 work ws ps i x) : ∀ (k : Nat) w, ws[k]? = some w → w.length ≤ k := by
  intro k
  induction k using Nat.strongRecOn with
  | ind k ih =>
    intro w hw
    rcases Nat.eq_zero_or_pos k with rfl | hk
    · rw [h.wf] at hw; cases hw; simp
    · obtain ⟨j, y, v, h1, h2, h3, rfl⟩ := h.par k w hk hw
      have := ih j h1 v h3
      simp; omega
end
/-! The states of an automaton. -/
def stpD (d : Dfa) (s : Int) (x : Nat) : Option Int := if 0 ≤ toD d s x then some (toD d s x) else none
theorem beh_runO (d : Dfa) : ∀ (u : List Nat) (s : Int), beh d s u = match runO (stpD d) s u with | some t => atD d t | none => -1
  | [], s => rfl
  | x :: u, s => by
    simp only [beh, runO, stpD]
    by_cases h : 0 ≤ toD d s x
    · rw [if_pos h]; simp only [Option.bind_some]; exact beh_runO d u _
    · rw [if_neg h]; simp only [Option.bind_none]; exact beh_neg (by omega)
/-- The least accepted word. -/
structure LeastOf (c : Nat) (f : List Nat → Int) (w : List Nat) : Prop where
  inw : inW c w
  acc : 0 ≤ f w
  min : ∀ u, inW c u → u.length < w.length → f u < 0
theorem BfsW.least {c : Nat} {d : Dfa} {work : List Int} {ws : List (List Nat)} {ps : List (Nat × Nat)} {i : Nat} (h : BfsW c (stpD d) d.start work ws ps i 0) (hno : ∀ (j : Nat) t, j < i → work[j]? = some t → atD d t < 0) {s : Int} {w : List Nat} (hs : work[i]? = some s) (hw : ws[i]? = some w) (ha : 0 ≤ atD d s) : LeastOf c (beh d d.start) w := by
  refine ⟨h.inw w (List.mem_of_getElem? hw), ?_, fun u hu hl => ?_⟩
  · rw [beh_runO, h.run i s w hs hw]; exact ha
  · rw [beh_runO]
    cases hr : runO (stpD d) d.start u with
    | none => show (-1 : Int) < 0; decide
    | some t =>
      obtain ⟨j, h1, h2⟩ := h.before hw hu hl hr
      exact hno j t h1 h2
theorem BfsW.never {c : Nat} {d : Dfa} {work : List Int} {ws : List (List Nat)} {ps : List (Nat × Nat)} {i : Nat} (h : BfsW c (stpD d) d.start work ws ps i 0) (hi : i = work.length) (hno : ∀ (j : Nat) t, j < i → work[j]? = some t → atD d t < 0) : ∀ u, inW c u → beh d d.start u < 0 := fun u hu => by
  rw [beh_runO]
  cases hr : runO (stpD d) d.start u with
  | none => show (-1 : Int) < 0; decide
  | some t =>
    obtain ⟨j, h1, h2⟩ := h.all hi hu hr
    exact hno j t h1 h2
/-! The map of the ways back: a state, then the state before it and the symbol. -/
structure ByOf (work : List Int) (ps : List (Nat × Nat)) (es : List (Int × (Int × Int))) : Prop where
  keys : es.map (·.1) = work
  first : ∃ t, es[0]? = some (t, (-1, -1))
  link : ∀ (k j y : Nat) s, 0 < k → j < k → ps[k]? = some (j, y) → work[j]? = some s → ∃ t, es[k]? = some (t, (s, ((y : Nat) : Int)))
theorem ByOf.len {work : List Int} {ps : List (Nat × Nat)} {es : List (Int × (Int × Int))} (h : ByOf work ps es) : es.length = work.length := by rw [← h.keys, List.length_map]
theorem ByOf.start (s : Int) (p : Nat × Nat) : ByOf [s] [p] [(s, (-1, -1))] where
  keys := rfl
  first := ⟨s, rfl⟩
  link := fun k j y t hk _ h => by obtain ⟨rfl, _⟩ := one_get h; omega
theorem ByOf.put {work : List Int} {ps : List (Nat × Nat)} {es : List (Int × (Int × Int))} (h : ByOf work ps es) (hpl : ps.length = work.length) {i x : Nat} {s t : Int} (hs : work[i]? = some s) (ht : t ∉ work) : putM es t (s, ((x : Nat) : Int)) = es ++ [(t, (s, ((x : Nat) : Int)))] ∧ ByOf (work ++ [t]) (ps ++ [(i, x)]) (es ++ [(t, (s, ((x : Nat) : Int)))]) := by
  have hg : getM es t = none := by
    cases hg : getM es t with
    | none => rfl
    | some v => exact absurd (by have := getM_isSome.1 (show (getM es t).isSome = true by rw [hg]; rfl); rwa [h.keys] at this) ht
  refine ⟨putM_none _ hg, ⟨by rw [List.map_append, h.keys]; rfl, ?_, fun k j y s' hk hjk hp hs' => ?_⟩⟩
  · obtain ⟨t0, h0⟩ := h.first
    exact ⟨t0, by rw [List.getElem?_append_left (lt_of_get h0)]; exact h0⟩
  · rcases snoc_get hp with h1 | ⟨h1, h2⟩
    · rw [List.getElem?_append_left (by have := lt_of_get h1; omega)] at hs'
      obtain ⟨t1, h3⟩ := h.link k j y s' hk hjk h1 hs'
      exact ⟨t1, by rw [List.getElem?_append_left (lt_of_get h3)]; exact h3⟩
    · simp only [Prod.mk.injEq] at h2
      obtain ⟨rfl, rfl⟩ := h2
      rw [List.getElem?_append_left (lt_of_get hs), hs] at hs'
      cases hs'
      exact ⟨t, by rw [h1, hpl, ← h.len]; simp⟩
theorem ByOf.get {work : List Int} {ps : List (Nat × Nat)} {es : List (Int × (Int × Int))} (h : ByOf work ps es) (nd : work.Nodup) {k : Nat} {t : Int} {q : Int × Int} {t' : Int} (ht : work[k]? = some t) (he : es[k]? = some (t', q)) : getM es t = some q := by
  have e1 : work[k]? = some t' := by rw [← h.keys, List.getElem?_map, he]; rfl
  rw [ht] at e1
  cases e1
  have h1 : (getM es t).isSome = true := getM_isSome.2 (by rw [h.keys]; exact List.mem_of_getElem? ht)
  obtain ⟨v, hv⟩ := Option.isSome_iff_exists.1 h1
  obtain ⟨j, _, h2, _⟩ := findM_some (eV := fun _ => undef) (i := 0) hv
  have e2 : work[j]? = some t := by rw [← h.keys, List.getElem?_map, h2]; rfl
  have hjk : j = k := by
    have h3 := List.getElem?_eq_some_iff.1 e2
    have h4 := List.getElem?_eq_some_iff.1 ht
    obtain ⟨p1, p2⟩ := h3
    obtain ⟨q1, q2⟩ := h4
    exact (List.getElem_inj nd).1 (p2.trans q2.symm)
  rw [hjk, he] at h2
  cases h2
  exact hv
--END
end Go.Proofs
