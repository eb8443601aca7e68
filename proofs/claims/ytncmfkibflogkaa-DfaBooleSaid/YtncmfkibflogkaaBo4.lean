/- Contracts and plain lemmas, part 4. -/
import Derived.Tactics
import Derived.Deep.Quiet
import Derived.Laws.AppendOwn
import Derived.KernelRfl
import Derived.Laws.Entries
import Derived.Laws.Build
import Derived.Below
import Derived.RowKit3
import Derived.StillTail
import Derived.Sort.Grow
import Derived.Deep.Draws
import Derived.Test.YtncmfkibflogkaaChecked
import Derived.Laws.StructEq
import Derived.MapKept
import Derived.Laws.BytesArg
import Derived.Laws.CopyRow
import Derived.DeepKeys3
import Derived.Test.YtncmfkibflogkaaBo3
namespace Go.Proofs
open Go Go.Eng Go.Sort
set_option maxRecDepth 100000
def wt (c : Nat) (d : Dfa) (j : Nat) (i : Nat) : Int := cntF c j (beh d ((i : Nat) : Int))
/-- A vector of ways. -/
structure Ways (n c : Nat) (d : Dfa) (k : Nat) (l : List Int) : Prop where
  len : l.length = n
  nn : ∀ x ∈ l, 0 ≤ x
  sum : l.sum ≤ ((c ^ k : Nat) : Int)
  dot : ∀ j, dotF (wt c d j) 0 l = cntF c (k + j) (beh d d.start)
theorem Ways.start {n c : Nat} {d : Dfa} (ok : OkD n c d) {s : Nat} (hs : d.start = ((s : Nat) : Int)) : Ways n c d 0 ((List.replicate n (0 : Int)).set s 1) := by
  have hst := ok.st
  have h0 : (List.replicate n (0 : Int))[s]? = some 0 := by rw [List.getElem?_replicate, if_pos (by omega)]
  have e : (List.replicate n (0 : Int)).set s 1 = (List.replicate n (0 : Int)).set s (0 + 1) := rfl
  refine ⟨by simp, ?_, ?_, fun j => ?_⟩
  · rw [e]; exact set_nn (fun x hx => by rw [List.eq_of_mem_replicate hx]; decide) (by decide)
  · rw [e, sum_set h0]
    have : (List.replicate n (0 : Int)).sum = 0 := by clear e h0 hst ok; induction n with | zero => rfl | succ n ih => rw [List.replicate_succ, List.sum_cons, ih]; rfl
    rw [this]; simp
  · rw [e, dotF_set _ h0, dotF_zero, Nat.zero_add, Nat.zero_add, wt, hs]; omega
/-- The next vector while it is made: the states below s done, of state s the symbols below x. -/
structure Nxt (n c : Nat) (d : Dfa) (ways : List Int) (s x : Nat) (l : List Int) : Prop where
  len : l.length = n
  nn : ∀ y ∈ l, 0 ≤ y
  sum : l.sum ≤ c * (ways.take s).sum + x * ways.getD s 0
  dot : ∀ j, dotF (wt c d j) 0 l = dotF (wt c d (j + 1)) 0 (ways.take s) + ways.getD s 0 * ((List.range x).map fun y => cntF c j (beh d (toD d ((s : Nat) : Int) y))).sum
theorem Nxt.start (n c : Nat) (d : Dfa) (ways : List Int) : Nxt n c d ways 0 0 (List.replicate n 0) := by
  refine ⟨by simp, fun y hy => by rw [List.eq_of_mem_replicate hy]; decide, ?_, fun j => ?_⟩
  · have : (List.replicate n (0 : Int)).sum = 0 := by induction n with | zero => rfl | succ n ih => rw [List.replicate_succ, List.sum_cons, ih]; rfl
    rw [this]; simp
  · rw [dotF_zero]; simp [dotF]
theorem Nxt.skip {n c : Nat} {d : Dfa} {ways l : List Int} {s x : Nat} (h : Nxt n c d ways s x l) (hw : 0 ≤ ways.getD s 0) (ht : toD d ((s : Nat) : Int) x < 0) : Nxt n c d ways s (x + 1) l := by
  refine ⟨h.len, h.nn, ?_, fun j => ?_⟩
  · have := h.sum
    rw [show ((x + 1 : Nat) : Int) * ways.getD s 0 = x * ways.getD s 0 + ways.getD s 0 by rw [Int.natCast_add, Int.add_mul]; simp]
    omega
  · rw [h.dot j, List.range_succ, List.map_append, List.sum_append]
    simp only [List.map_cons, List.map_nil, List.sum_cons, List.sum_nil]
    rw [cntF_neg fun w _ => by rw [beh_neg ht]; decide]
    simp
theorem Nxt.put {n c : Nat} {d : Dfa} {ways l : List Int} {s x t : Nat} {y : Int} (h : Nxt n c d ways s x l) (hw : 0 ≤ ways.getD s 0) (ht : toD d ((s : Nat) : Int) x = ((t : Nat) : Int)) (hy : l[t]? = some y) : Nxt n c d ways s (x + 1) (l.set t (y + ways.getD s 0)) := by
  have hyn := h.nn y (List.mem_of_getElem? hy)
  refine ⟨by simp [h.len], set_nn h.nn (by omega), ?_, fun j => ?_⟩
  · have := h.sum
    rw [sum_set hy, show ((x + 1 : Nat) : Int) * ways.getD s 0 = x * ways.getD s 0 + ways.getD s 0 by rw [Int.natCast_add, Int.add_mul]; simp]
    omega
  · rw [dotF_set _ hy, h.dot j, List.range_succ, List.map_append, List.sum_append, Nat.zero_add]
    simp only [List.map_cons, List.map_nil, List.sum_cons, List.sum_nil]
    rw [ht, Int.mul_add, wt, Int.add_zero]
    omega
theorem Nxt.row {n c : Nat} {d : Dfa} {ways l : List Int} {s : Nat} {w : Int} (h : Nxt n c d ways s c l) (hw : ways[s]? = some w) : Nxt n c d ways (s + 1) 0 l := by
  have hg : ways.getD s 0 = w := by rw [List.getD_eq_getElem?_getD, hw, Option.getD_some]
  refine ⟨h.len, h.nn, ?_, fun j => ?_⟩
  · have := h.sum
    rw [hg] at this
    rw [sum_take hw, Int.mul_add]
    simp only [Int.natCast_zero, Int.zero_mul]
    omega
  · rw [h.dot j, hg, dotF_take _ hw]
    simp only [List.range_zero, List.map_nil, List.sum_nil, Int.mul_zero, Int.add_zero]
    rfl
theorem Nxt.done {n c k : Nat} {d : Dfa} {ways l : List Int} {s : Nat} (h : Nxt n c d ways s 0 l) (hs : s = ways.length) (hW : Ways n c d k ways) : Ways n c d (k + 1) l := by
  subst hs
  refine ⟨h.len, h.nn, ?_, fun j => ?_⟩
  · have h1 := h.sum
    have h2 := hW.sum
    rw [List.take_length] at h1
    simp only [Int.natCast_zero, Int.zero_mul, Int.add_zero] at h1
    have h3 : (c : Int) * ways.sum ≤ c * ((c ^ k : Nat) : Int) := Int.mul_le_mul_of_nonneg_left h2 (by omega)
    rw [Nat.pow_succ, Nat.mul_comm, Int.natCast_mul]
    omega
  · rw [h.dot j, List.take_length, hW.dot (j + 1)]
    simp only [List.range_zero, List.map_nil, List.sum_nil, Int.mul_zero, Int.add_zero]
    congr 1
    omega
end Go.Proofs
namespace Go.Proofs
open Go Go.Eng Go.Sort
--BEGIN
section
variable {α : Type}
def runO (stp : α → Nat → Option α) : α → List Nat → Option α
  | a, [] => some a
  | a, x :: w => (stp a x).bind fun b => runO stp b w
theorem runO_snoc (stp : α → Nat → Option α) (x : Nat) : ∀ (w : List Nat) (a : α), runO stp a (w ++ [x]) = (runO stp a w).bind fun b => stp b x
  | [], a => by simp only [List.nil_append, runO, Option.bind_some]; cases stp a x <;> rfl
  | y :: w, a => by
    simp only [List.cons_append, runO]
    cases h : stp a y with
    | none => rfl
    | some b => simp only [Option.bind_some]; exact runO_snoc stp x w b
theorem inW.snoc {c x : Nat} {w : List Nat} (h : inW c w) (hx : x < c) : inW c (w ++ [x]) := fun y hy => by
  rcases List.mem_append.1 hy with h1 | h1
  · exact h y h1
  · rw [List.mem_singleton] at h1; rw [h1]; exact hx
theorem inW.init {c x : Nat} {w : List Nat} (h : inW c (w ++ [x])) : inW c w ∧ x < c := ⟨fun y hy => h y (List.mem_append_left _ hy), h x (List.mem_append_right _ (List.mem_singleton.2 rfl))⟩
/-- Keys as they are met: the keys below i are done, of key i the symbols below x. -/
structure BfsW (c : Nat) (stp : α → Nat → Option α) (a0 : α) (work : List α) (ws : List (List Nat)) (ps : List (Nat × Nat)) (i x : Nat) : Prop where
  len : ws.length = work.length
  plen : ps.length = work.length
  fst : work[0]? = some a0
  wf : ws[0]? = some []
  nd : work.Nodup
  run : ∀ (j : Nat) a w, work[j]? = some a → ws[j]? = some w → runO stp a0 w = some a
  inw : ∀ w ∈ ws, inW c w
  mono : ∀ (j k : Nat) w v, j ≤ k → ws[j]? = some w → ws[k]? = some v → w.length ≤ v.length
  near : ∀ (j : Nat) w v, ws[i]? = some v → ws[j]? = some w → w.length ≤ v.length + 1
  par : ∀ (k : Nat) w, 0 < k → ws[k]? = some w → ∃ j y v, j < k ∧ ps[k]? = some (j, y) ∧ ws[j]? = some v ∧ w = v ++ [y]
  done : ∀ (j : Nat) a y b v, (j < i ∨ (j = i ∧ y < x)) → y < c → work[j]? = some a → ws[j]? = some v → stp a y = some b → ∃ (k : Nat) (w : List Nat), work[k]? = some b ∧ ws[k]? = some w ∧ w.length ≤ v.length + 1
variable {c : Nat} {stp : α → Nat → Option α} {a0 : α} {work : List α} {ws : List (List Nat)} {ps : List (Nat × Nat)} {i x : Nat}
theorem one_get {β : Type} {a b : β} {j : Nat} (h : [a][j]? = some b) : j = 0 ∧ b = a := by
  have := lt_of_get h
  simp at this
  subst this
  simp at h
  exact ⟨rfl, h.symm⟩
theorem BfsW.start (c : Nat) (stp : α → Nat → Option α) (a0 : α) (p : Nat × Nat) : BfsW c stp a0 [a0] [[]] [p] 0 0 where
  len := rfl
  plen := rfl
  fst := rfl
  wf := rfl
  nd := by simp
  run := fun j a w h1 h2 => by obtain ⟨_, rfl⟩ := one_get h1; obtain ⟨_, rfl⟩ := one_get h2; rfl
  inw := fun w h => by rw [List.mem_singleton] at h; subst h; exact inW.nil c
  mono := fun j k w v _ h1 h2 => by obtain ⟨_, rfl⟩ := one_get h1; simp
  near := fun j w v _ h2 => by obtain ⟨_, rfl⟩ := one_get h2; simp
  par := fun k w hk h => by obtain ⟨rfl, _⟩ := one_get h; omega
  done := fun j a y b v h => by omega
theorem BfsW.get (h : BfsW c stp a0 work ws ps i x) {k : Nat} {a : α} (ha : work[k]? = some a) : ∃ w, ws[k]? = some w := get_of_lt (by rw [h.len]; exact lt_of_get ha)
theorem BfsW.none (h : BfsW c stp a0 work ws ps i x) {a : α} (ha : work[i]? = some a) (hn : stp a x = none) : BfsW c stp a0 work ws ps i (x + 1) := by
  refine { h with done := fun j b y b' v hj hy hb hv hs => ?_ }
  by_cases hjx : j < i ∨ (j = i ∧ y < x)
  · exact h.done j b y b' v hjx hy hb hv hs
  · have e1 : j = i := by omega
    have e2 : y = x := by omega
    subst e1; subst e2
    rw [ha] at hb; cases hb
    rw [hn] at hs; cases hs
theorem BfsW.old (h : BfsW c stp a0 work ws ps i x) {a b : α} (ha : work[i]? = some a) (hs : stp a x = some b) (hb : b ∈ work) : BfsW c stp a0 work ws ps i (x + 1) := by
  refine { h with done := fun j a' y b' v hj hy hb' hv hs' => ?_ }
  by_cases hjx : j < i ∨ (j = i ∧ y < x)
  · exact h.done j a' y b' v hjx hy hb' hv hs'
  · have e1 : j = i := by omega
    have e2 : y = x := by omega
    subst e1; subst e2
    rw [ha] at hb'; cases hb'
    rw [hs] at hs'; cases hs'
    obtain ⟨k, hk⟩ := List.getElem?_of_mem hb
    obtain ⟨w, hw⟩ := h.get hk
    exact ⟨k, w, hk, hw, h.near k w v hv hw⟩
theorem BfsW.new (h : BfsW c stp a0 work ws ps i x) {a b : α} {v : List Nat} (ha : work[i]? = some a) (hv : ws[i]? = some v) (hx : x < c) (hs : stp a x = some b) (hb : b ∉ work) : BfsW c stp a0 (work ++ [b]) (ws ++ [v ++ [x]]) (ps ++ [(i, x)]) i (x + 1) := by
  have hle : ∀ (j : Nat) w, ws[j]? = some w → w.length ≤ v.length + 1 := fun j w hw => h.near j w v hv hw
  have hil := lt_of_get ha
  refine ⟨by simp [h.len], by simp [h.plen], by rw [List.getElem?_append_left (lt_of_get h.fst)]; exact h.fst, by rw [List.getElem?_append_left (lt_of_get h.wf)]; exact h.wf, ?_, ?_, ?_, ?_, ?_, ?_, ?_⟩
  · rw [List.nodup_append]
    refine ⟨h.nd, by simp, fun p hp q hq => ?_⟩
    rw [List.mem_singleton] at hq
    subst hq
    exact fun e => hb (e ▸ hp)
  · intro j p w hp hw
    rcases snoc_get hp with h1 | ⟨h1, h2⟩
    · rcases snoc_get hw with h3 | ⟨h3, _⟩
      · exact h.run j p w h1 h3
      · have := lt_of_get h1; have := h.len; omega
    · rcases snoc_get hw with h3 | ⟨h3, h4⟩
      · have := lt_of_get h3; have := h.len; omega
      · subst h2; subst h4
        rw [runO_snoc, h.run i a v ha hv]; exact hs
  · intro w hw
    rcases List.mem_append.1 hw with h1 | h1
    · exact h.inw w h1
    · rw [List.mem_singleton] at h1; subst h1
      exact (h.inw v (List.mem_of_getElem? hv)).snoc hx
  · intro j k w u hjk hj hk
    rcases snoc_get hk with h1 | ⟨h1, h2⟩
    · rcases snoc_get hj with h3 | ⟨h3, _⟩
      · exact h.mono j k w u hjk h3 h1
      · have := lt_of_get h1; omega
    · subst h2
      rw [List.length_append]
      rcases snoc_get hj with h3 | ⟨h3, h4⟩
      · exact hle j w h3
      · subst h4; simp
  · intro j w u hu hj
    have hu2 : u = v := by
      rw [List.getElem?_append_left (lt_of_get hv), hv] at hu
      exact (Option.some.inj hu).symm
    subst hu2
    rcases snoc_get hj with h3 | ⟨h3, h4⟩
    · exact hle j w h3
    · subst h4; simp
  · intro k w hk hw
    rcases snoc_get hw with h1 | ⟨h1, h2⟩
    · obtain ⟨j, y, u, h3, h4, h5, h6⟩ := h.par k w hk h1
      exact ⟨j, y, u, h3, by rw [List.getElem?_append_left (lt_of_get h4)]; exact h4, by rw [List.getElem?_append_left (lt_of_get h5)]; exact h5, h6⟩
    · refine ⟨i, x, v, ?_, ?_, by rw [List.getElem?_append_left (lt_of_get hv)]; exact hv, h2⟩
      · have := h.len; omega
      · rw [List.getElem?_append_right (by rw [h.plen, h1, h.len]; exact Nat.le_refl _), h1, h.plen, h.len, Nat.sub_self]; rfl
  · intro j a' y b' u hj hy ha' hu hs'
    have hjl : j < work.length := by omega
    rw [List.getElem?_append_left hjl] at ha'
    rw [List.getElem?_append_left (by rw [h.len]; exact hjl)] at hu
    by_cases hjx : j < i ∨ (j = i ∧ y < x)
    · obtain ⟨k, w, h1, h2, h3⟩ := h.done j a' y b' u hjx hy ha' hu hs'
      exact ⟨k, w, by rw [List.getElem?_append_left (lt_of_get h1)]; exact h1, by rw [List.getElem?_append_left (lt_of_get h2)]; exact h2, h3⟩
    · have e1 : j = i := by omega
      have e2 : y = x := by omega
      subst e1; subst e2
      rw [ha] at ha'; cases ha'
      rw [hs] at hs'; cases hs'
      rw [hv] at hu; cases hu
      exact ⟨work.length, v ++ [y], by simp, by rw [← h.len]; simp, by simp⟩
theorem BfsW.row (h : BfsW c stp a0 work ws ps i c) : BfsW c stp a0 work ws ps (i + 1) 0 := by
  refine { h with near := fun j w v hv hw => ?_, done := fun j a y b v hj hy ha hv hs => ?_ }
  · obtain ⟨u, hu⟩ := get_of_lt (l := ws) (i := i) (by have := lt_of_get hv; omega)
    have h1 := h.near j w u hu hw
    have h2 := h.mono i (i + 1) u v (by omega) hu hv
    omega
  · refine h.done j a y b v ?_ hy ha hv hs
    rcases hj with h1 | h1
    · rcases Nat.lt_or_ge j i with h2 | h2
      · exact .inl h2
      · exact .inr ⟨by omega, hy⟩
    · omega
theorem BfsW.reach (h : BfsW c stp a0 work ws ps i 0) (u : List Nat) (hu : inW c u) : ∀ a, runO stp a0 u = some a → (∃ (j : Nat) (v : List Nat), work[j]? = some a ∧ ws[j]? = some v ∧ v.length ≤ u.length) ∨ ∃ (j : Nat) (v : List Nat), i ≤ j ∧ ws[j]? = some v ∧ v.length ≤ u.length := by
  obtain ⟨n, hn⟩ : ∃ n, n = u.length := ⟨_, rfl⟩
  induction n generalizing u with
  | zero =>
    intro a ha
    have : u = [] := List.eq_nil_of_length_eq_zero hn.symm
    subst this
    simp only [runO, Option.some.injEq] at ha
    subst ha
    exact .inl ⟨0, [], h.fst, h.wf, Nat.le_refl _⟩
  | succ n ih =>
    intro a ha
    rcases List.eq_nil_or_concat u with rfl | ⟨u', y, rfl⟩
    · simp at hn
    rw [List.concat_eq_append] at hu hn ha ⊢
    rw [runO_snoc] at ha
    have hn' : n = u'.length := by simpa using hn
    cases hr : runO stp a0 u' with
    | none => rw [hr] at ha; cases ha
    | some b =>
      rw [hr] at ha
      simp only [Option.bind_some] at ha
      rcases ih u' hu.init.1 hn' b hr with ⟨j, v, h1, h2, h3⟩ | ⟨j, v, h1, h2, h3⟩
      · rcases Nat.lt_or_ge j i with h4 | h4
        · obtain ⟨k, w, h5, h6, h7⟩ := h.done j b y a v (.inl h4) hu.init.2 h1 h2 ha
          exact .inl ⟨k, w, h5, h6, by simp; omega⟩
        · exact .inr ⟨j, v, h4, h2, by simp; omega⟩
      · exact .inr ⟨j, v, h1, h2, by simp; omega⟩
/-- What is reached by a shorter word has been looked at before. -/
theorem BfsW.before (h : BfsW c stp a0 work ws ps i 0) {v : List Nat} (hv : ws[i]? = some v) {u : List Nat} (hu : inW c u) (hl : u.length < v.length) {a : α} (ha : runO stp a0 u = some a) : ∃ j : Nat, j < i ∧ work[j]? = some a := by
  rcases h.reach u hu a ha with ⟨j, w, h1, h2, h3⟩ | ⟨j, w, h1, h2, h3⟩
  · refine ⟨j, ?_, h1⟩
    apply Classical.byContradiction
    intro hj
    have := h.mono i j v w (by omega) hv h2
    omega
  · have := h.mono i j v w h1 hv h2
    omega
theorem BfsW.all (h : BfsW c stp a0 work ws ps i 0) (hi : i = work.length) {u : List Nat} (hu : inW c u) {a : α} (ha : runO stp a0 u = some a) : ∃ j : Nat, j < i ∧ work[j]? = some a := by
  rcases h.reach u hu a ha with ⟨j, w, h1, h2, h3⟩ | ⟨j, w, h1, h2, h3⟩
  · exact ⟨j, by have := lt_of_get h1; omega, h1⟩
  · have := lt_of_get h2; have := h.len; omega
end
def stpD (d : Dfa) (s : Int) (x : Nat) : Option Int := if 0 ≤ toD d s x then some (toD d s x) else none
/-- The least accepted word. -/
structure LeastOf (c : Nat) (f : List Nat → Int) (w : List Nat) : Prop where
  inw : inW c w
  acc : 0 ≤ f w
  min : ∀ u, inW c u → u.length < w.length → f u < 0
structure ByOf (work : List Int) (ps : List (Nat × Nat)) (es : List (Int × (Int × Int))) : Prop where
  keys : es.map (·.1) = work
  first : ∃ t, es[0]? = some (t, (-1, -1))
  link : ∀ (k j y : Nat) s, 0 < k → j < k → ps[k]? = some (j, y) → work[j]? = some s → ∃ t, es[k]? = some (t, (s, ((y : Nat) : Int)))
theorem ByOf.len {work : List Int} {ps : List (Nat × Nat)} {es : List (Int × (Int × Int))} (h : ByOf work ps es) : es.length = work.length := by rw [← h.keys, List.length_map]
theorem ByOf.start (s : Int) (p : Nat × Nat) : ByOf [s] [p] [(s, (-1, -1))] where
  keys := rfl
  first := ⟨s, rfl⟩
  link := fun k j y t hk _ h => by obtain ⟨rfl, _⟩ := one_get h; omega
theorem ByOf.put {work : List Int} {ps : List (Nat × Nat)} {es : List (Int × (Int × Int))} (h : ByOf work ps es) (hpl : ps.length = work.length) {i x : Nat} {s t : Int} (hs : work[i]? = some s) (ht : t ∉ work) : putM es t (s, ((x : Nat) : Int)) = es ++ [(t, (s, ((x : Nat) : Int)))] ∧ ByOf (work ++ [t]) (ps ++ [(i, x)]) (es ++ [(t, (s, ((x : Nat) : Int)))]) := by
  have hg : getM es t = none := by
    cases hg : getM es t with
    | none => rfl
    | some v => exact absurd (by have := getM_isSome.1 (show (getM es t).isSome = true by rw [hg]; rfl); rwa [h.keys] at this) ht
  refine ⟨putM_none _ hg, ⟨by rw [List.map_append, h.keys]; rfl, ?_, fun k j y s' hk hjk hp hs' => ?_⟩⟩
  · obtain ⟨t0, h0⟩ := h.first
    exact ⟨t0, by rw [List.getElem?_append_left (lt_of_get h0)]; exact h0⟩
  · rcases snoc_get hp with h1 | ⟨h1, h2⟩
    · rw [List.getElem?_append_left (by have := lt_of_get h1; omega)] at hs'
      obtain ⟨t1, h3⟩ := h.link k j y s' hk hjk h1 hs'
      exact ⟨t1, by rw [List.getElem?_append_left (lt_of_get h3)]; exact h3⟩
    · simp only [Prod.mk.injEq] at h2
      obtain ⟨rfl, rfl⟩ := h2
      rw [List.getElem?_append_left (lt_of_get hs), hs] at hs'
      cases hs'
      exact ⟨t, by rw [h1, hpl, ← h.len]; simp⟩
theorem ByOf.get {work : List Int} {ps : List (Nat × Nat)} {es : List (Int × (Int × Int))} (h : ByOf work ps es) (nd : work.Nodup) {k : Nat} {t : Int} {q : Int × Int} {t' : Int} (ht : work[k]? = some t) (he : es[k]? = some (t', q)) : getM es t = some q := by
  have e1 : work[k]? = some t' := by rw [← h.keys, List.getElem?_map, he]; rfl
  rw [ht] at e1
  cases e1
  have h1 : (getM es t).isSome = true := getM_isSome.2 (by rw [h.keys]; exact List.mem_of_getElem? ht)
  obtain ⟨v, hv⟩ := Option.isSome_iff_exists.1 h1
  obtain ⟨j, _, h2, _⟩ := findM_some (eV := fun _ => undef) (i := 0) hv
  have e2 : work[j]? = some t := by rw [← h.keys, List.getElem?_map, h2]; rfl
  have hjk : j = k := by
    have h3 := List.getElem?_eq_some_iff.1 e2
    have h4 := List.getElem?_eq_some_iff.1 ht
    obtain ⟨p1, p2⟩ := h3
    obtain ⟨q1, q2⟩ := h4
    exact (List.getElem_inj nd).1 (p2.trans q2.symm)
  rw [hjk, he] at h2
  cases h2
  exact hv
--END
end Go.Proofs
namespace Go.Eng
open Go
def kPair (p : Int × Int) : Value := .agg #[.int .i64 p.1, .int .i64 p.2]
end Go.Eng
namespace Go.Proofs
open Go Go.Eng Go.Sort
set_option maxRecDepth 100000
def toI (w : List Nat) : List Int := w.map fun x => ((x : Nat) : Int)
theorem toI_nat (w : List Nat) : (toI w).map Int.toNat = w := by induction w with | nil => rfl | cons x w ih => simp only [toI, List.map_cons, Int.toNat_natCast] at ih ⊢; rw [ih]
theorem ByOf.cases {c n i x : Nat} {d : Dfa} {work : List Int} {wd : List (List Nat)} {ps : List (Nat × Nat)} {es : List (Int × (Int × Int))} (h : ByOf work ps es) (hB : BfsW c (stpD d) d.start work wd ps i x) (hsl : ∀ t ∈ work, 0 ≤ t ∧ t < n) {j : Nat} {s : Int} {v : List Nat} (hj : work[j]? = some s) (hv : wd[j]? = some v) :
    (((getM es s).getD (0, 0)).1 < 0 ∧ v = []) ∨ (0 ≤ ((getM es s).getD (0, 0)).1 ∧ ∃ (j2 y : Nat) (v2 : List Nat) (s2 : Int), j2 < j ∧ work[j2]? = some s2 ∧ wd[j2]? = some v2 ∧ v = v2 ++ [y] ∧ getM es s = some (s2, ((y : Nat) : Int))) := by
  rcases Nat.eq_zero_or_pos j with h0 | h0
  · subst h0
    obtain ⟨t0, ht0⟩ := h.first
    rw [h.get hB.nd hj ht0]
    refine .inl ⟨by decide, ?_⟩
    rw [hB.wf] at hv
    exact (Option.some.inj hv).symm
  · obtain ⟨j2, y, v2, hj2, hps, hv2, rfl⟩ := hB.par j v h0 hv
    obtain ⟨s2, hs2⟩ := get_of_lt (l := work) (i := j2) (by rw [← hB.len]; exact lt_of_get hv2)
    obtain ⟨t0, ht0⟩ := h.link j j2 y s2 h0 hj2 hps hs2
    have hg := h.get hB.nd hj ht0
    refine .inr ⟨?_, j2, y, v2, s2, hj2, hs2, hv2, rfl, hg⟩
    rw [hg]
    exact (hsl s2 (List.mem_of_getElem? hs2)).1
end Go.Proofs
namespace Go.Proofs
open Go Go.Eng
set_option maxRecDepth 100000
theorem below_tmod (x n : Int) (hn : 0 < n) : (if x.tmod n < 0 then x.tmod n + n else x.tmod n) = x % n := by
  have h := Int.tmod_eq_emod (a := x) (b := n)
  have h1 := Int.emod_nonneg x (Int.ne_of_gt hn)
  have h2 := Int.emod_lt_of_pos x hn
  have h3 : n.natAbs = n := by omega
  split at h <;> split <;> omega
theorem below_c (x n : Int) (hn : 0 < n) (hm : n ≤ 2000) (w0 : World) :
    Ret Try.prog 69 #[.int .i64 x, .int .i64 n] w0 fun v w => v = .int .i64 (x % n) ∧ w = w0 := by
  have hb := below_tmod x n hn
  have h1 := Int.emod_nonneg x (Int.ne_of_gt hn)
  have h2 := Int.emod_lt_of_pos x hn
  refine Ret_of Try.func69 rfl Try.ntmps69 (Nat.le_of_ble_eq_true rfl) ?_
  have E : Chg none1 w0 w0 := Chg.refl _ _
  refine Wp_seq_region ?_
  refine WpL_val rfl rfl (by decide) (r_assign (v := (.int .i64 0)) rfl) ?_
  refine WpL_nil ?_
  refine Wp_seq_region ?_
  refine WpL_val rfl rfl (by decide) (r_move (v := (.int .i64 x)) rfl) ?_
  refine WpL_val rfl rfl (by decide) (r_move (v := (.int .i64 n)) rfl) ?_
  refine WpL_val rfl rfl (by decide) (r_rem (k := .i64) (a := x) (b := n) (c := x.tmod n) rfl rfl (by omega) rfl) ?_
  refine WpL_val rfl rfl (by decide) (r_assign (v := (.int .i64 (x.tmod n))) rfl) ?_
  refine WpL_nil ?_
  refine Wp_seq ?_
  refine Wp_seq_region ?_
  refine WpL_val rfl rfl (by decide) (r_move (v := (.int .i64 (x.tmod n))) rfl) ?_
  refine WpL_val rfl rfl (by decide) (r_lss (k := .i64) (a := x.tmod n) (b := 0) rfl rfl) ?_
  refine WpL_nil ?_
  refine Wp_cond (b := decide ((x.tmod n : Int) < 0)) rfl (fun h => ?_) (fun h => ?_)
  · have kh := h
    replace h := of_decide_eq_true h
    rw [if_pos h] at hb
    refine Wp_region ?_
    refine WpL_val rfl rfl (by decide) (r_move (v := (.int .i64 (x.tmod n))) rfl) ?_
    refine WpL_val rfl rfl (by decide) (r_move (v := (.int .i64 n)) rfl) ?_
    refine WpL_val rfl rfl (by decide) (r_add (k := .i64) (a := x.tmod n) (b := n) (c := (x.tmod n) + n) rfl rfl (wI64 (by omega))) ?_
    refine WpL_val rfl rfl (by decide) (r_assign (v := (.int .i64 ((x.tmod n) + n))) rfl) ?_
    refine WpL_nil ?_
    refine thn_normal ?_
    refine Wp_seq_region ?_
    refine WpL_val rfl rfl (by decide) (r_move (v := (.int .i64 ((x.tmod n) + n))) rfl) ?_
    refine WpL_val rfl rfl (by decide) (r_assign (v := (.int .i64 ((x.tmod n) + n))) rfl) ?_
    refine WpL_nil ?_
    refine Wp_ret ?_
    refine fin_tmp Try.results69 (v := (.int .i64 ((x.tmod n) + n))) rfl ?_
    exact ⟨by rw [hb], rfl⟩
  · have kh := h
    replace h := of_decide_eq_false h
    rw [if_neg h] at hb
    refine Wp_skip ?_
    refine thn_normal ?_
    refine Wp_seq_region ?_
    refine WpL_val rfl rfl (by decide) (r_move (v := (.int .i64 (x.tmod n))) rfl) ?_
    refine WpL_val rfl rfl (by decide) (r_assign (v := (.int .i64 (x.tmod n))) rfl) ?_
    refine WpL_nil ?_
    refine Wp_ret ?_
    refine fin_tmp Try.results69 (v := (.int .i64 (x.tmod n))) rfl ?_
    exact ⟨by rw [hb], rfl⟩
end Go.Proofs
namespace Go.Proofs
open Go Go.Eng
set_option maxRecDepth 100000
abbrev TS : Nat := 99
def StrAt (wb w : World) (bs : Nat) (l : List Int) : Prop := ∃ a c, Blk w bs #[.slice a l.length c] TS ∧ IntsAt wb (.slice a l.length c) l
theorem StrAt.ext {wb w w' : World} {bs : Nat} {l : List Int} (h : StrAt wb w bs l) (e : Ext w w') : StrAt wb w' bs l := let ⟨a, c, h1, h2⟩ := h; ⟨a, c, e.keep h1, h2⟩
theorem StrAt.lt {wb w : World} {bs : Nat} {l : List Int} (h : StrAt wb w bs l) : bs < w.heap.size := let ⟨_, _, h1, _⟩ := h; h1.lt
theorem next_c (wb w0 : World) (bs : Nat) (l : List Int) (n : Int) (hn : 0 < n) (hm : n ≤ 2000) (hE : Ext wb w0) (hb : wb.heap.size ≤ bs) (hS : StrAt wb w0 bs l) :
    Ret Try.prog 70 #[.pointer (some ⟨bs, 0, none⟩), .int .i64 n] w0 fun v w => ∃ x l', v = .int .i64 x ∧ 0 ≤ x ∧ x < n ∧ StrAt wb w bs l' ∧ Chg (fun x => x = bs) w0 w := by
  obtain ⟨a, c, hB, hl⟩ := hS
  have hcap := SlAt.cap hl
  have hlen : l.length ≤ 9223372036854775807 := by simpa using SlAt.le hl
  refine Ret_of Try.func70 rfl Try.ntmps70 (Nat.le_of_ble_eq_true rfl) ?_
  have E : Chg (fun x => x = bs) w0 w0 := Chg.refl _ _
  refine Wp_seq_region ?_
  refine WpL_val rfl rfl (by decide) (r_assign (v := (.int .i64 0)) rfl) ?_
  refine WpL_nil ?_
  refine Wp_seq ?_
  refine Wp_seq_region ?_
  refine WpL_val rfl rfl (by decide) (r_move (v := (.pointer (some ⟨bs, 0, none⟩))) rfl) ?_
  refine WpL_val rfl rfl (by decide) (r_nilCheck (a := ⟨bs, 0, none⟩) rfl) ?_
  refine WpL_val rfl rfl (by decide) (r_fieldAddr (b := bs) (o := 0) (o' := 0) rfl Try.underlying99 rfl siz22 rfl) ?_
  refine WpL_val rfl rfl (by decide) (r_load (v := (.slice a l.length c)) rfl flat22 (hB.cell rfl)) ?_
  refine WpL_val rfl rfl (by decide) (r_lenSlice (ad := a) (n := l.length) (cap := c) Try.underlying22 rfl) ?_
  refine WpL_val rfl rfl (by decide) (r_eql (k := .i64) (a := ((l.length : Nat) : Int)) (b := 0) rfl rfl) ?_
  refine WpL_nil ?_
  refine Wp_cond (b := decide ((((l.length : Nat) : Int) : Int) = 0)) rfl (fun h0 => ?_) (fun h0 => ?_)
  · have kh0 := h0
    replace h0 := of_decide_eq_true h0
    refine Wp_seq_region ?_
    refine WpL_val rfl rfl (by decide) (r_assign (v := (.int .i64 0)) rfl) ?_
    refine WpL_nil ?_
    refine Wp_ret ?_
    refine thn_ret ?_
    refine fin_tmp Try.results70 (v := (.int .i64 0)) rfl ?_
    exact ⟨0, l, rfl, Int.le_refl _, hn, ⟨a, c, hB, hl⟩, E⟩
  · have kh0 := h0
    replace h0 := of_decide_eq_false h0
    obtain ⟨x, hx⟩ := get_of_lt (l := l) (i := 0) (by omega)
    obtain ⟨b, o, rfl, hcl⟩ := ints_cells hl (by omega)
    refine Wp_skip ?_
    refine thn_normal ?_
    refine Wp_seq_region ?_
    refine WpL_val rfl rfl (by decide) (r_move (v := (.pointer (some ⟨bs, 0, none⟩))) rfl) ?_
    refine WpL_val rfl rfl (by decide) (r_nilCheck (a := ⟨bs, 0, none⟩) rfl) ?_
    refine WpL_val rfl rfl (by decide) (r_fieldAddr (b := bs) (o := 0) (o' := 0) rfl Try.underlying99 rfl siz22 rfl) ?_
    refine WpL_val rfl rfl (by decide) (r_load (v := (.slice (some ⟨b, o, none⟩) l.length c)) rfl flat22 (hB.cell rfl)) ?_
    refine WpL_val rfl rfl (by decide) (r_indexSlice (b := b) (o := o) (len := l.length) (cap := c) (i := 0) (o' := o + 0) rfl rfl rfl Try.underlying22 siz3 (by omega) (by omega)) ?_
    refine WpL_val rfl rfl (by decide) (r_load (v := (.int .i64 x)) rfl flat3 ((hE.cell (hcl 0 x hx)))) ?_
    refine WpL_val rfl rfl (by decide) (r_assign (v := (.int .i64 x)) rfl) ?_
    refine WpL_nil ?_
    refine Wp_seq_region ?_
    refine WpL_val rfl rfl (by decide) (r_move (v := (.pointer (some ⟨bs, 0, none⟩))) rfl) ?_
    refine WpL_val rfl rfl (by decide) (r_move (v := (.pointer (some ⟨bs, 0, none⟩))) rfl) ?_
    refine WpL_val rfl rfl (by decide) (r_nilCheck (a := ⟨bs, 0, none⟩) rfl) ?_
    refine WpL_val rfl rfl (by decide) (r_fieldAddr (b := bs) (o := 0) (o' := 0) rfl Try.underlying99 rfl siz22 rfl) ?_
    refine WpL_val rfl rfl (by decide) (r_load (v := (.slice (some ⟨b, o, none⟩) l.length c)) rfl flat22 (hB.cell rfl)) ?_
    obtain ⟨sl, hsl⟩ : ∃ a' : Option Addr, (if c = 1 then (some ⟨b, o, none⟩) else Option.map (fun q : Addr => q.add (1 * 1)) (some ⟨b, o, none⟩)) = a' := ⟨_, rfl⟩
    refine WpL_val rfl rfl (by decide) (r_sliceLo (a := (some ⟨b, o, none⟩)) (len := l.length) (cap := c) (lo := 1) (l := 1) (n' := (l.length - 1)) (c' := (c - 1)) Try.underlying22 siz3 rfl rfl (by omega) (by omega) hsl (by omega) (by omega)) ?_
    refine WpL_val rfl rfl (by decide) (r_nilCheck (a := ⟨bs, 0, none⟩) rfl) ?_
    refine WpL_val rfl rfl (by decide) (r_fieldAddr (b := bs) (o := 0) (o' := 0) rfl Try.underlying99 rfl siz22 rfl) ?_
    refine s_store (b := bs) (o := 0) (c' := #[(.slice sl (l.length - 1) (c - 1))]) (v := (.slice sl (l.length - 1) (c - 1))) rfl rfl rfl siz22 hB (by simp) rfl ?_
    intro w2 S2
    replace E := S2.step E (by first | exact Or.inl (by omega) | exact Or.inr rfl | exact Or.inr (by assumption) | exact Or.inr (by simp) | exact Or.inr (by omega) | exact Or.inr (by dsimp only; omega))
    replace hB := S2.blk
    refine WpL_nil ?_
    refine Wp_seq_region ?_
    refine WpL_val rfl rfl (by decide) (r_move (v := (.int .i64 x)) rfl) ?_
    refine WpL_val rfl rfl (by decide) (r_move (v := (.int .i64 n)) rfl) ?_
    refine WpL_enter rfl rfl (by decide) (r_callF (vs := [(.int .i64 x), (.int .i64 n)]) Try.func69 nm69 bd69 rfl) (below_c x n hn hm _) ?_
    rintro _ _ ⟨rfl, rfl⟩
    have hcut := SlAt.cut (lo := 1) (hi := l.length) hl (by omega) (Nat.le_refl _) hsl rfl rfl
    have hdl : ((l.map intV).drop 1).take (l.length - 1) = (l.drop 1).map intV := by rw [List.take_of_length_le (by simp), List.map_drop]
    rw [hdl] at hcut
    have hll : (l.drop 1).length = l.length - 1 := by simp
    refine WpL_val rfl rfl (by decide) (r_assign (v := (.int .i64 (x % n))) rfl) ?_
    refine WpL_nil ?_
    refine Wp_ret ?_
    refine fin_tmp Try.results70 (v := (.int .i64 (x % n))) rfl ?_
    exact ⟨x % n, l.drop 1, rfl, Int.emod_nonneg x (by omega), Int.emod_lt_of_pos x hn, ⟨sl, c - 1, by rw [hll]; exact hB, by rw [hll]; exact hcut⟩, E⟩
end Go.Proofs
namespace Go.Eng
open Go
def SlIn (S : Nat → Prop) (w : World) (k : Nat) (v : Value) (rows : List (List Value)) : Prop :=
  ∃ a cap, v = .slice a rows.length cap ∧ rows.length ≤ 9223372036854775807 ∧ rows.length ≤ cap ∧ (rows = [] ∨ ∃ b o, S b ∧ a = some ⟨b, o, none⟩ ∧ ∀ i r, rows[i]? = some r → CellsAt w b (o + i * k) r)
theorem SlIn.at {S : Nat → Prop} {w : World} {k : Nat} {v : Value} {rows : List (List Value)} (h : SlIn S w k v rows) : SlAt w k v rows := by
  obtain ⟨a, cap, h1, h2, h3, h4⟩ := h
  refine ⟨a, cap, h1, h2, h3, ?_⟩
  rcases h4 with h | ⟨b, o, _, h5, h6⟩
  · exact .inl h
  · exact .inr ⟨b, o, h5, h6⟩
theorem SlIn.of {w : World} {k : Nat} {v : Value} {rows : List (List Value)} (h : SlAt w k v rows) : SlIn (fun _ => True) w k v rows := by
  obtain ⟨a, cap, h1, h2, h3, h4⟩ := h
  refine ⟨a, cap, h1, h2, h3, ?_⟩
  rcases h4 with h | ⟨b, o, h5, h6⟩
  · exact .inl h
  · exact .inr ⟨b, o, trivial, h5, h6⟩
theorem SlIn.chg {S M : Nat → Prop} {w w' : World} {k : Nat} {v : Value} {rows : List (List Value)} (h : SlIn S w k v rows) (c : Chg M w w') (hm : ∀ b, S b → ¬ M b) : SlIn S w' k v rows := by
  obtain ⟨a, cap, h1, h2, h3, h4⟩ := h
  refine ⟨a, cap, h1, h2, h3, ?_⟩
  rcases h4 with h | ⟨b, o, hb, h5, h6⟩
  · exact .inl h
  · exact .inr ⟨b, o, hb, h5, fun i r hr => (h6 i r hr).chg c (hm b hb)⟩
theorem SlIn.mono {S S' : Nat → Prop} {w : World} {k : Nat} {v : Value} {rows : List (List Value)} (h : SlIn S w k v rows) (hs : ∀ b, S b → S' b) : SlIn S' w k v rows := by
  obtain ⟨a, cap, h1, h2, h3, h4⟩ := h
  refine ⟨a, cap, h1, h2, h3, ?_⟩
  rcases h4 with h | ⟨b, o, hb, h5⟩
  · exact .inl h
  · exact .inr ⟨b, o, hs b hb, h5⟩
theorem SlIn.nil (S : Nat → Prop) (w : World) (k : Nat) (a : Option Addr) (cap : Nat) : SlIn S w k (.slice a 0 cap) [] := ⟨a, cap, rfl, by simp, by simp, .inl rfl⟩
theorem SlIn.mk {S : Nat → Prop} {w : World} {k : Nat} {b o n c : Nat} {rows : List (List Value)} (h : SlAt w k (.slice (some ⟨b, o, none⟩) n c) rows) (hs : S b) : SlIn S w k (.slice (some ⟨b, o, none⟩) n c) rows := by
  obtain ⟨a, cap, h1, h2, h3, h4⟩ := h
  refine ⟨a, cap, h1, h2, h3, ?_⟩
  rcases h4 with h | ⟨b', o', h5, h6⟩
  · exact .inl h
  · simp only [Value.slice.injEq] at h1
    have : b' = b := by rw [← h1.1] at h5; simp at h5; exact h5.1.symm
    exact .inr ⟨b', o', this ▸ hs, h5, h6⟩
mutual
def ReIn (S : Nat → Prop) (w : World) : Re → List Value → Prop
  | .mk k set args mn mx ng, vs => ∃ sa sc aa ac, vs = [.int .i64 k, .slice sa set.length sc, .slice aa args.length ac, .int .i64 mn, .int .i64 mx, .bool ng] ∧ SlIn S w 2 (.slice sa set.length sc) (set.map spanV) ∧ (args.length ≤ ac ∧ ac ≤ 9223372036854775807) ∧
      (args = [] ∨ ∃ b o, S b ∧ aa = some ⟨b, o, none⟩ ∧ ResIn S w b o args)
def ResIn (S : Nat → Prop) (w : World) (b : Nat) : Nat → List Re → Prop
  | _, [] => True
  | o, t :: ts => (∃ vs, CellsAt w b o vs ∧ ReIn S w t vs) ∧ ResIn S w b (o + 6) ts
end
mutual
theorem ReIn.at {S : Nat → Prop} {w : World} : ∀ (t : Re) {vs : List Value}, ReIn S w t vs → ReAt w t vs
  | .mk k set args mn mx ng, vs, h => by
    simp only [ReIn] at h
    simp only [ReAt]
    obtain ⟨sa, sc, aa, ac, hv, hs, hl, ha⟩ := h
    refine ⟨sa, sc, aa, ac, hv, hs.at, hl, ?_⟩
    rcases ha with h | ⟨b, o, _, h1, h2⟩
    · exact .inl h
    · exact .inr ⟨b, o, h1, ResIn.at args h2⟩
theorem ResIn.at {S : Nat → Prop} {w : World} {b : Nat} : ∀ (ts : List Re) {o : Nat}, ResIn S w b o ts → ResAt w b o ts
  | [], _, _ => by simp only [ResAt]
  | t :: ts, o, h => by
    simp only [ResIn] at h
    simp only [ResAt]
    obtain ⟨⟨vs, h1, h2⟩, h3⟩ := h
    exact ⟨⟨vs, h1, ReIn.at t h2⟩, ResIn.at ts h3⟩
end
mutual
theorem ReIn.chg {S M : Nat → Prop} {w w' : World} (c : Chg M w w') (hm : ∀ b, S b → ¬ M b) : ∀ (t : Re) {vs : List Value}, ReIn S w t vs → ReIn S w' t vs
  | .mk k set args mn mx ng, vs, h => by
    simp only [ReIn] at h ⊢
    obtain ⟨sa, sc, aa, ac, hv, hs, hl, ha⟩ := h
    refine ⟨sa, sc, aa, ac, hv, hs.chg c hm, hl, ?_⟩
    rcases ha with h | ⟨b, o, hb, h1, h2⟩
    · exact .inl h
    · exact .inr ⟨b, o, hb, h1, ResIn.chg c hm args hb h2⟩
theorem ResIn.chg {S M : Nat → Prop} {w w' : World} (c : Chg M w w') (hm : ∀ b, S b → ¬ M b) {b : Nat} : ∀ (ts : List Re) {o : Nat}, S b → ResIn S w b o ts → ResIn S w' b o ts
  | [], _, _, _ => by simp only [ResIn]
  | t :: ts, o, hb, h => by
    simp only [ResIn] at h ⊢
    obtain ⟨⟨vs, h1, h2⟩, h3⟩ := h
    exact ⟨⟨vs, h1.chg c (hm b hb), ReIn.chg c hm t h2⟩, ResIn.chg c hm ts hb h3⟩
end
mutual
theorem ReIn.mono {S S' : Nat → Prop} {w : World} (hs : ∀ b, S b → S' b) : ∀ (t : Re) {vs : List Value}, ReIn S w t vs → ReIn S' w t vs
  | .mk k set args mn mx ng, vs, h => by
    simp only [ReIn] at h ⊢
    obtain ⟨sa, sc, aa, ac, hv, h0, hl, ha⟩ := h
    refine ⟨sa, sc, aa, ac, hv, h0.mono hs, hl, ?_⟩
    rcases ha with h | ⟨b, o, hb, h1, h2⟩
    · exact .inl h
    · exact .inr ⟨b, o, hs b hb, h1, ResIn.mono hs args h2⟩
theorem ResIn.mono {S S' : Nat → Prop} {w : World} (hs : ∀ b, S b → S' b) {b : Nat} : ∀ (ts : List Re) {o : Nat}, ResIn S w b o ts → ResIn S' w b o ts
  | [], _, _ => by simp only [ResIn]
  | t :: ts, o, h => by
    simp only [ResIn] at h ⊢
    obtain ⟨⟨vs, h1, h2⟩, h3⟩ := h
    exact ⟨⟨vs, h1, ReIn.mono hs t h2⟩, ResIn.mono hs ts h3⟩
end
theorem ReIn.ext {S : Nat → Prop} {w w' : World} (e : Ext w w') (t : Re) {vs : List Value} (h : ReIn S w t vs) : ReIn S w' t vs := ReIn.chg e (fun _ _ f => f) t h
theorem ReIn.form {S : Nat → Prop} {w : World} {t : Re} {vs : List Value} (h : ReIn S w t vs) : ∃ sa sc aa ac, vs = [.int .i64 t.kind, .slice sa t.set.length sc, .slice aa t.args.length ac, .int .i64 t.mn, .int .i64 t.mx, .bool t.neg] ∧ SlIn S w 2 (.slice sa t.set.length sc) (t.set.map spanV) ∧ (t.args.length ≤ ac ∧ ac ≤ 9223372036854775807) ∧
    (t.args = [] ∨ ∃ b o, S b ∧ aa = some ⟨b, o, none⟩ ∧ ResIn S w b o t.args) := by
  cases t; simp only [ReIn] at h; exact h
theorem ReIn.of {S : Nat → Prop} {w : World} {k : Int} {set : List (Int × Int)} {args : List Re} {mn mx : Int} {ng : Bool} {sa aa : Option Addr} {sc ac : Nat} (hs : SlIn S w 2 (.slice sa set.length sc) (set.map spanV)) (hl : (args.length ≤ ac ∧ ac ≤ 9223372036854775807)) (ha : args = [] ∨ ∃ b o, S b ∧ aa = some ⟨b, o, none⟩ ∧ ResIn S w b o args) :
    ReIn S w (.mk k set args mn mx ng) [.int .i64 k, .slice sa set.length sc, .slice aa args.length ac, .int .i64 mn, .int .i64 mx, .bool ng] := by
  simp only [ReIn]; exact ⟨sa, sc, aa, ac, rfl, hs, hl, ha⟩
theorem ResIn.one {S : Nat → Prop} {w : World} {b o : Nat} {t : Re} {vs : List Value} (hc : CellsAt w b o vs) (h : ReIn S w t vs) : ResIn S w b o [t] := by
  simp only [ResIn]; exact ⟨⟨vs, hc, h⟩, trivial⟩
theorem ResIn.two {S : Nat → Prop} {w : World} {b o : Nat} {t u : Re} {vs us : List Value} (hc : CellsAt w b o vs) (h : ReIn S w t vs) (hc' : CellsAt w b (o + 6) us) (h' : ReIn S w u us) : ResIn S w b o [t, u] := by
  simp only [ResIn]; exact ⟨⟨vs, hc, h⟩, ⟨us, hc', h'⟩, trivial⟩
theorem ResIn.get {S : Nat → Prop} {w : World} {b : Nat} : ∀ {ts : List Re} {o i : Nat} {t : Re}, ResIn S w b o ts → ts[i]? = some t → ∃ vs, CellsAt w b (o + i * 6) vs ∧ ReIn S w t vs
  | [], _, _, _, _, h => by simp at h
  | x :: ts, o, 0, t, h, hi => by
    simp only [ResIn] at h
    simp at hi
    subst hi
    simpa using h.1
  | x :: ts, o, i + 1, t, h, hi => by
    simp only [ResIn] at h
    have := ResIn.get h.2 (i := i) (by simpa using hi)
    rwa [show o + (i + 1) * 6 = o + 6 + i * 6 from by omega]
theorem ReIn.len {S : Nat → Prop} {w : World} {t : Re} {vs : List Value} (h : ReIn S w t vs) : vs.length = 6 := (ReIn.at t h).len
end Go.Eng
namespace Go.Proofs
open Go Go.Eng
set_option maxRecDepth 100000
abbrev TI : Nat := 3
abbrev TL : Nat := 22
/-- The lists of an automaton while it is made: each is in blocks of its own, below a bound. -/
def MStP (base top : Nat) (vals : List Value) (D : Nat → Prop) (w : World) (va vn : Value) (ka kn : Nat) (acc : List Int) (rows : List (List Int)) : Prop :=
  w.ownsRow base TI 1 va ka (acc.map (Value.int .i64)) ∧ w.ownsRow base TL 1 vn kn vals ∧ vals.length = rows.length ∧ (∀ (i : Nat) (u : Value) (l : List Int), vals[i]? = some u → rows[i]? = some l → SlIn D w 1 u (l.map intV)) ∧
    (∀ y, va.ownBlock = some y → vn.ownBlock ≠ some y) ∧ (∀ y, D y → (base ≤ y ∧ y < top) ∧ va.ownBlock ≠ some y ∧ vn.ownBlock ≠ some y) ∧ (∀ y, va.ownBlock = some y ∨ vn.ownBlock = some y → y < top) ∧ top ≤ w.heap.size
def MSt (base top : Nat) (w : World) (va vn : Value) (ka kn : Nat) (acc : List Int) (rows : List (List Int)) : Prop :=
  ∃ (vals : List Value) (D : Nat → Prop), MStP base top vals D w va vn ka kn acc rows
theorem MSt.chg {base top : Nat} {w w' : World} {va vn : Value} {ka kn : Nat} {acc : List Int} {rows : List (List Int)} {M : Nat → Prop} (h : MSt base top w va vn ka kn acc rows) (c : Chg M w w') (hM : ∀ y, M y → y < base ∨ top ≤ y) : MSt base top w' va vn ka kn acc rows := by
  obtain ⟨vals, D, h1, h2, h3, h4, h5, h6, h7, h8⟩ := h
  have hb : ∀ y, base ≤ y → y < top → ¬ M y := fun y h hlt hm => by have := hM y hm; omega
  exact ⟨vals, D, own_chg h1 c (fun q hq => hb q (h1.lt q hq).1 (h7 q (.inl hq))), own_chg h2 c (fun q hq => hb q (h2.lt q hq).1 (h7 q (.inr hq))), h3, fun i u l hu hl => (h4 i u l hu hl).chg c (fun y hy => hb y (h6 y hy).1.1 (h6 y hy).1.2), h5, h6, h7, Nat.le_trans h8 c.size⟩
theorem MSt.ext {base top : Nat} {w w' : World} {va vn : Value} {ka kn : Nat} {acc : List Int} {rows : List (List Int)} (h : MSt base top w va vn ka kn acc rows) (c : Ext w w') : MSt base top w' va vn ka kn acc rows := h.chg c fun y f => f.elim
theorem MSt.acc {base top : Nat} {w w' : World} {va va' vn : Value} {ka kn ka' : Nat} {acc acc' : List Int} {rows : List (List Int)} (h : MSt base top w va vn ka kn acc rows) (O : w'.ownsRow base TI 1 va' ka' (acc'.map (Value.int .i64))) (C : Chg (fun y => va.ownBlock = some y) w w') (hD : ∀ k, va'.ownBlock = some k → va.ownBlock = some k ∨ w.heap.size ≤ k) : MSt base w'.heap.size w' va' vn ka' kn acc' rows := by
  obtain ⟨vals, D, h1, h2, h3, h4, h5, h6, h7, h8⟩ := h
  have hs := C.size
  refine ⟨vals, D, O, own_chg h2 C (fun q hq hm => h5 q hm hq), h3, fun i u l hu hl => (h4 i u l hu hl).chg C (fun y hy hm => (h6 y hy).2.1 hm), fun y hy hn => ?_, fun y hy => ⟨⟨(h6 y hy).1.1, by have := (h6 y hy).1.2; omega⟩, fun hv => ?_, (h6 y hy).2.2⟩, fun y hy => ?_, Nat.le_refl _⟩
  · rcases hD y hy with h | h
    · exact h5 y h hn
    · have := (h2.lt y hn).2; omega
  · rcases hD y hv with h | h
    · exact (h6 y hy).2.1 h
    · have := (h6 y hy).1.2; omega
  · rcases hy with hy | hy
    · exact (O.lt y hy).2
    · have := h7 y (.inr hy); omega
theorem MSt.nxt {base top : Nat} {w w' : World} {va vn vn' u : Value} {ka kn kn' b : Nat} {acc : List Int} {rows : List (List Int)} {row : List Int} {vals : List Value} {D : Nat → Prop} (h : MStP base top vals D w va vn ka kn acc rows) (O : w'.ownsRow base TL 1 vn' kn' (vals ++ [u])) (C : Chg (fun y => vn.ownBlock = some y) w w') (hD : ∀ k, vn'.ownBlock = some k → vn.ownBlock = some k ∨ w.heap.size ≤ k)
    (hu : SlIn (fun y => y = b) w 1 u (row.map intV)) (hb : base ≤ b ∧ b < w.heap.size) (hb1 : top ≤ b) : MSt base w'.heap.size w' va vn' ka kn' acc (rows ++ [row]) := by
  obtain ⟨h1, h2, h3, h4, h5, h6, h7, h8⟩ := h
  have hs := C.size
  have hO := O
  have hb2 : vn.ownBlock ≠ some b := fun h => by have := h7 b (.inr h); omega
  have hb3 : va.ownBlock ≠ some b := fun h => by have := h7 b (.inl h); omega
  refine ⟨vals ++ [u], fun y => D y ∨ y = b, own_chg h1 C (fun q hq hm => h5 q hq hm), hO, by simp [h3], fun i v l hv hl => ?_, fun y hy hn => ?_, fun y hy => ?_, fun y hy => ?_, Nat.le_refl _⟩
  · rcases Nat.lt_or_ge i vals.length with hi | hi
    · rw [List.getElem?_append_left hi] at hv
      rw [List.getElem?_append_left (by omega)] at hl
      exact ((h4 i v l hv hl).chg C (fun y hy hm => (h6 y hy).2.2 hm)).mono (fun y hy => .inl hy)
    · rw [List.getElem?_append_right hi] at hv
      rw [List.getElem?_append_right (by omega), ← h3] at hl
      have hi0 : i - vals.length = 0 := by
        rcases Nat.eq_zero_or_pos (i - vals.length) with h | h
        · exact h
        · rw [List.getElem?_eq_none (by simp; omega)] at hv; cases hv
      rw [hi0] at hv hl
      simp at hv hl
      subst hv; subst hl
      exact (hu.chg C (fun y hy hm => by have hy' : y = b := hy; subst hy'; exact hb2 hm)).mono (fun y hy => .inr hy)
  · rcases hD y hn with h | h
    · exact h5 y hy h
    · have := (h1.lt y hy).2; omega
  · rcases hy with hy | hy
    · refine ⟨⟨(h6 y hy).1.1, by have := (h6 y hy).1.2; omega⟩, (h6 y hy).2.1, fun hn => ?_⟩
      rcases hD y hn with h | h
      · exact (h6 y hy).2.2 h
      · have := (h6 y hy).1.2; omega
    · subst hy
      refine ⟨⟨hb.1, by omega⟩, hb3, fun hn => ?_⟩
      rcases hD y hn with h | h
      · exact hb2 h
      · omega
  · rcases hy with hy | hy
    · have := h7 y (.inl hy); omega
    · exact (hO.lt y hy).2
theorem MSt.nil (base : Nat) (w : World) : MSt base 0 w (.slice none 0 0) (.slice none 0 0) 0 0 [] [] :=
  ⟨[], fun _ => False, World.ownsRow_nil _ _ _ _, World.ownsRow_nil _ _ _ _, rfl, fun i u l h => by simp at h, (fun y h => by simp [Value.ownBlock] at h), (fun y f => False.elim f), (fun y h => by simp [Value.ownBlock] at h), Nat.zero_le _⟩
theorem MSt.done {base top : Nat} {w : World} {aa na : Option Addr} {ac nc n : Nat} {start : Int} {acc : List Int} {rows : List (List Int)} (h : MSt base top w (.slice aa n ac) (.slice na n nc) n n acc rows) (hacc : acc.length = n) (hrows : rows.length = n) : DfaAt w ⟨start, acc, rows⟩ [.int .i64 start, .slice aa n ac, .slice na n nc] := by
  obtain ⟨vals, D, h1, h2, h3, h4, _, _⟩ := h
  refine ⟨aa, ac, na, nc, by rw [hacc, hrows], ?_, vals, ?_, h3, fun i u l hu hl => (h4 i u l hu hl).at⟩
  · have h5 : w.ownsRow base TI 1 (.slice aa n ac) n (acc.map intV).flatten := by rw [flat_intV]; exact h1
    have := own_slat h5 (by intro r hr; simp only [List.mem_map] at hr; obtain ⟨p, _, rfl⟩ := hr; rfl) (by simpa using hacc) (by decide)
    simp only [hacc]; exact this
  · have h5 : w.ownsRow base TL 1 (.slice na n nc) n (vals.map fun x => [x]).flatten := by
      have e : (vals.map fun x => [x]).flatten = vals := by
        clear h2 h3 h4
        induction vals with
        | nil => rfl
        | cons v vs ih => rw [List.map_cons, List.flatten_cons, ih]; rfl
      rw [e]; exact h2
    have := own_slat h5 (by intro r hr; simp only [List.mem_map] at hr; obtain ⟨p, _, rfl⟩ := hr; rfl) (by simp; omega) (by decide)
    simp only [hrows]; exact this
theorem StrAt.chg {wb w w' : World} {bs : Nat} {l : List Int} {M : Nat → Prop} (h : StrAt wb w bs l) (c : Chg M w w') (hm : ¬ M bs) : StrAt wb w' bs l := let ⟨a, cc, h1, h2⟩ := h; ⟨a, cc, c.keep hm h1, h2⟩
/-- A slice of one's own, with its block. -/
theorem own_slin {w : World} {base n : Nat} {a : Option Addr} {c : Nat} {l : List Int} (h : w.ownsRow base TI 1 (.slice a n c) n (l.map (Value.int .i64))) (hn : l.length = n) (h0 : 0 < n) : ∃ b, (base ≤ b ∧ b < w.heap.size) ∧ SlIn (fun y => y = b) w 1 (.slice a n c) (l.map intV) := by
  have h5 : w.ownsRow base TI 1 (.slice a n c) n (l.map intV).flatten := by rw [flat_intV]; exact h
  have h6 := own_slat h5 (by intro r hr; simp only [List.mem_map] at hr; obtain ⟨p, _, rfl⟩ := hr; rfl) (by simpa using hn) (by decide)
  obtain ⟨g, rfl, h7, _⟩ := own_cells h5 h0
  exact ⟨g, h5.lt g rfl, SlIn.mk h6 rfl⟩
def rndF (wb : World) (bs : Nat) (n : Int) : Fct := fun v w => ∃ x l', v = .int .i64 x ∧ 0 ≤ x ∧ x < n ∧ StrAt wb w bs l'
theorem rndF_ext (wb : World) (bs : Nat) (n : Int) : ∀ v w w', Ext w w' → rndF wb bs n v w → rndF wb bs n v w' := by
  rintro v w w' e ⟨x, l', h1, h2, h3, h4⟩
  exact ⟨x, l', h1, h2, h3, h4.ext e⟩
def numF (lo hi : Int) : Fct := fun v _ => ∃ x, v = .int .i64 x ∧ lo ≤ x ∧ x < hi
def cellF (n0 : Nat) (lo hi : Int) : Fct := fun v w => ∃ b x, v = .slice (some ⟨b, 0, none⟩) 1 1 ∧ Blk w b #[.int .i64 x] TI ∧ n0 ≤ b ∧ lo ≤ x ∧ x < hi
theorem cellF_chg {n0 bs : Nat} (h0 : bs < n0) (lo hi : Int) : ∀ v w w', Chg (fun y => y = bs) w w' → cellF n0 lo hi v w → cellF n0 lo hi v w' := by
  rintro v w w' e ⟨b, x, h1, h2, h3, h4⟩
  exact ⟨b, x, h1, Chg.keep e (fun h => by have h' : b = bs := h; omega) h2, h3, h4⟩
theorem DoesT_cell {M : Nat → Prop} {N : Nat} {σ : Env} {w : World} {dst : Option Tmp} {ty : TypeId} {pos : String} {af : Array Edge} {g : Option (Nat × Bool)} {x : Operand} {n lo hi : Int} (hx : ev σ x = .int .i64 n) (h1 : lo ≤ n) (h2 : n < hi) {n0 : Nat} (h0 : n0 ≤ w.heap.size) :
    DoesT M Try.prog N ⟨dst, .buildSlice 22 1 #[(0, x)], ty, pos, af, g⟩ (cellF n0 lo hi) σ w := by
  have hn := New.mk' w #[.int .i64 n] TI
  exact DoesT_val (run_buildSlice (parts := [(0, x)]) (ps := [(0, .int .i64 n)]) (by simp only [List.map, hx]) Try.underlying22 siz3 zer3 (by decide) (by decide) (by kernel_rfl)) (Ext.chg hn.ext) ⟨_, _, rfl, hn.blk, h0, h1, h2⟩
def okDfa (n c : Nat) (d : Dfa) : Prop := d.next.length = n ∧ d.accept.length = n ∧ (0 ≤ d.start ∧ d.start < n) ∧ (∀ x ∈ d.accept, -1 ≤ x ∧ x < 2) ∧ (∀ row ∈ d.next, row.length = c ∧ ∀ x ∈ row, -1 ≤ x ∧ x < n)
set_option maxHeartbeats 4000000 in
theorem mkDfa_m (w0 : World) (v : Value) (l : List Int) (hl : IntsAt w0 v l) : Ret Try.prog 36 #[v] w0 fun r w => ∃ n c d aa ac na nc base top, (1 ≤ n ∧ n ≤ 6) ∧ (1 ≤ c ∧ c ≤ 3) ∧ okDfa n c d ∧ r = .agg #[.int .i64 d.start, .slice aa n ac, .slice na n nc] ∧ w0.heap.size ≤ base ∧ MSt base top w (.slice aa n ac) (.slice na n nc) n n d.accept d.next ∧ Ext w0 w := by
  obtain ⟨a, c, rfl⟩ := SlAt.form hl
  simp only [List.length_map] at hl ⊢
  refine Ret_of Try.func36 rfl Try.ntmps36 (Nat.le_of_ble_eq_true rfl) ?_
  have E : Chg none1 w0 w0 := Chg.refl _ _
  refine Wp_seq_region ?_
  refine s_alloc (c := #[(.int .i64 0), (.slice none 0 0), (.slice none 0 0)]) (by decide) zer25 rfl ?_
  intro br wr Nr
  have Fr := Nr.ge E
  replace E := E.ext Nr.ext
  have Br := Nr.blk
  refine WpL_nil ?_
  refine Wp_seq_region ?_
  refine WpL_val rfl rfl (by decide) (r_move (v := (.slice a l.length c)) rfl) ?_
  refine WpL_val rfl rfl (by decide) (r_build (ps := [(0, (.slice a l.length c))]) (v := (.agg #[(.slice a l.length c)])) rfl (by kernel_rfl)) ?_
  refine s_box (v := (.agg #[(.slice a l.length c)])) (c := #[(.slice a l.length c)]) (by decide) rfl rfl ?_
  intro bs ws Ns
  have Fs := Ns.ge E
  have Os_br := Ns.lt Br
  replace Br := Ns.keep Br
  replace E := E.ext Ns.ext
  have Bs := Ns.blk
  refine WpL_val rfl rfl (by decide) (r_assign (v := (.pointer (some ⟨bs, 0, none⟩))) rfl) ?_
  refine WpL_nil ?_
  refine Wp_seq_region ?_
  refine WpL_val rfl rfl (by decide) (r_move (v := (.pointer (some ⟨bs, 0, none⟩))) rfl) ?_
  have hrs : br < bs := by omega
  have hS0 : StrAt wr ws bs l := ⟨a, c, Bs, hl.ext Nr.ext⟩
  have hwr : wr.heap.size ≤ bs := by have := Ns.eq; omega
  have hbrr : br < wr.heap.size := by have := Nr.blk.lt; omega
  have E2 : Chg none1 wr ws := Ns.ext
  refine WpL_enter rfl rfl (by decide) (r_callF (vs := [(.pointer (some ⟨bs, 0, none⟩)), (.int .i64 6)]) Try.func70 nm70 bd70 rfl) (next_c wr _ bs l 6 (by decide) (by decide) E2 hwr hS0) ?_
  rintro _ w9 ⟨x1, l1, rfl, hx1a, hx1b, hS1, C1⟩
  replace Br := C1.keep (by omega) Br
  replace E := E.step C1 (by intro x hx hm; omega)
  replace E2 := E2.step C1 (by intro x hx hm; omega)
  refine WpL_val rfl rfl (by decide) (r_add (k := .i64) (a := 1) (b := x1) (c := 1 + x1) rfl rfl (wI64 (by omega))) ?_
  refine WpL_val rfl rfl (by decide) (r_move (v := (.pointer (some ⟨bs, 0, none⟩))) rfl) ?_
  refine WpL_enter rfl rfl (by decide) (r_callF (vs := [(.pointer (some ⟨bs, 0, none⟩)), (.int .i64 3)]) Try.func70 nm70 bd70 rfl) (next_c wr _ bs l1 3 (by decide) (by decide) E2 hwr hS1) ?_
  rintro _ w19 ⟨x2, l2, rfl, hx2a, hx2b, hS2, C2⟩
  replace Br := C2.keep (by omega) Br
  replace E := E.step C2 (by intro x hx hm; omega)
  replace E2 := E2.step C2 (by intro x hx hm; omega)
  refine WpL_val rfl rfl (by decide) (r_add (k := .i64) (a := 1) (b := x2) (c := 1 + x2) rfl rfl (wI64 (by omega))) ?_
  refine WpL_val rfl rfl (by decide) (r_assign (v := (.int .i64 (1 + x1))) rfl) ?_
  refine WpL_val rfl rfl (by decide) (r_assign (v := (.int .i64 (1 + x2))) rfl) ?_
  refine WpL_nil ?_
  refine Wp_seq_region ?_
  refine WpL_val rfl rfl (by decide) (r_move (v := (.pointer (some ⟨bs, 0, none⟩))) rfl) ?_
  refine WpL_val rfl rfl (by decide) (r_move (v := (.int .i64 (1 + x1))) rfl) ?_
  refine WpL_enter rfl rfl (by decide) (r_callF (vs := [(.pointer (some ⟨bs, 0, none⟩)), (.int .i64 (1 + x1))]) Try.func70 nm70 bd70 rfl) (next_c wr _ bs l2 (1 + x1) (by omega) (by omega) E2 hwr hS2) ?_
  rintro _ w29 ⟨x3, l3, rfl, hx3a, hx3b, hS3, C3⟩
  replace Br := C3.keep (by omega) Br
  replace E := E.step C3 (by intro x hx hm; omega)
  replace E2 := E2.step C3 (by intro x hx hm; omega)
  obtain ⟨n, hn⟩ : ∃ n : Nat, (n : Int) = 1 + x1 := ⟨(1 + x1).toNat, by omega⟩
  obtain ⟨cc, hcc⟩ : ∃ cc : Nat, (cc : Int) = 1 + x2 := ⟨(1 + x2).toNat, by omega⟩
  refine WpL_val rfl rfl (by decide) (r_build (ps := [(0, (.int .i64 x3))]) (v := (.agg #[(.int .i64 x3), (.slice none 0 0), (.slice none 0 0)])) rfl (by kernel_rfl)) ?_
  refine s_allocStore (v := (.agg #[(.int .i64 x3), (.slice none 0 0), (.slice none 0 0)])) (c := #[(.int .i64 x3), (.slice none 0 0), (.slice none 0 0)]) (n := 3) (by decide) zer25 rfl siz25 rfl rfl rfl (by simp [Value.oneCell']) ?_
  intro bd wd Nd
  have Fd := Nd.ge E
  have Fd_E2 := Nd.ge E2
  have Od_br := Nd.lt Br
  replace Br := Nd.keep Br
  replace E := E.ext Nd.ext
  have Bd := Nd.blk
  replace E2 := E2.ext Nd.ext
  refine WpL_nil ?_
  refine Wp_seq ?_
  refine Wp_seq_region ?_
  refine WpL_val rfl rfl (by decide) (r_move (v := (.int .i64 (1 + x1))) rfl) ?_
  refine WpL_val rfl rfl (by decide) (r_move (v := (.int .i64 0)) rfl) ?_
  refine WpL_nil ?_
  refine Wp_block ?_
  obtain ⟨base, hbase⟩ : ∃ base, base = wd.heap.size := ⟨_, rfl⟩
  have hbd : bd < base := by rw [hbase]; exact Bd.lt
  have hwb : w0.heap.size ≤ base := by rw [hbase]; exact E.size
  have hbs1 : bs < bd := by have := Nd.eq; have := hS3.lt; omega
  have hS4 := hS3.ext Nd.ext
  refine Wp_loop (fun nn_ σ W1 => ∃ (k : Nat) (va : Option Addr) (vc : Nat) (na : Option Addr) (nc : Nat) (acc : List Int) (rows : List (List Int)) (ls : List Int) (top : Nat), (∃ jj_, σ = upds jj_ [(2, (.pointer (some ⟨br, 0, none⟩))), (3, (.pointer (some ⟨bs, 0, none⟩))), (4, (.int .i64 (1 + x1))), (5, (.int .i64 (1 + x2))), (6, (.pointer (some ⟨bd, 0, none⟩))), (21, (.int .i64 (1 + x1))), (22, (.int .i64 ((k : Nat) : Int)))]) ∧ Chg none1 w0 W1 ∧ Chg none1 wr W1 ∧ Blk W1 br #[(.int .i64 0), (.slice none 0 0), (.slice none 0 0)] 25 ∧ Blk W1 bd (#[(.int .i64 x3), (.slice va k vc), (.slice na k nc)]) 25 ∧ (k ≤ n) ∧ (MSt base top W1 (.slice va k vc) (.slice na k nc) k k acc rows) ∧ (acc.length = k ∧ ∀ x ∈ acc, -1 ≤ x ∧ x < 2) ∧ (rows.length = k ∧ ∀ row ∈ rows, row.length = cc ∧ ∀ x ∈ row, -1 ≤ x ∧ x < (n : Int)) ∧ (StrAt wr W1 bs ls) ∧ (base ≤ W1.heap.size) ∧ nn_ = n - k) (n := n - 0) ?_ ?_
  · exact ⟨0, none, 0, none, 0, [], [], l3, 0, Fits.out ⟨rfl, rfl, rfl, rfl, rfl, rfl, rfl, trivial⟩, E, E2, Br, Bd, Nat.zero_le _, MSt.nil _ _, ⟨rfl, by simp⟩, ⟨rfl, by simp⟩, hS4, (by omega), rfl⟩
  · clear E E2 Br Bd
    rintro _ _ W1 ⟨k, va, vc, na, nc, acc, rows, ls, top, ⟨j1, rfl⟩, E, E2, Br, Bd, hk, hM, hacc, hrows, hS, hbsz, rfl⟩
    refine Wp_seq_region ?_
    refine WpL_val rfl rfl (by decide) (r_lss (k := .i64) (a := ((k : Nat) : Int)) (b := 1 + x1) rfl rfl) ?_
    refine WpL_nil ?_
    refine Wp_seq ?_
    refine Wp_cond (b := decide ((((k : Nat) : Int) : Int) < 1 + x1)) rfl (fun hlt => ?_) (fun hlt => ?_)
    · have khlt := hlt
      replace hlt := of_decide_eq_true hlt
      refine Wp_skip ?_
      refine thn_normal ?_
      refine Wp_seq ?_
      refine Wp_block ?_
      refine Wp_seq ?_
      obtain ⟨Fs3, hFs3⟩ : ∃ Fs : List (FactT ((fun y => y = bs))), Fs = [.eq (.pointer (some ⟨bd, 1, none⟩)), .eq (.slice va k vc), .eq (.pointer (some ⟨bs, 0, none⟩)), .own (rndF wr bs 3) (rndF_ext _ _ _), .gen (numF (-1) 2) (fun _ _ _ _ h => h), .gen (cellF base (-1) 2) (cellF_chg (by omega) _ _)] := ⟨_, rfl⟩
      refine Wp_dagT ((fun y => y = bs)) 6 3 [24, 25, 26, 27, 28, 29] [[], [0], [], [2], [3], [4]] Fs3 hFs3 rfl mixed (by kernel_rfl) (by kernel_rfl) (by kernel_rfl) ?_ ?_
      · intro wd X0
        refine DagStepsT.cons (fun s' w' X U H => ?_) ?_
        · exact DoesT_val (r_fieldAddr (b := bd) (o := 0) (o' := 1) (U 6 rfl) Try.underlying25 rfl siz22 rfl) (Chg.refl _ _) rfl
        refine DagStepsT.cons (fun s' w' X U H => ?_) ?_
        · have e24 : s' 24 = (.pointer (some ⟨bd, 1, none⟩)) := H 0 rfl 24 (.eq (.pointer (some ⟨bd, 1, none⟩))) rfl (by rw [hFs3]; rfl)
          exact DoesT_val (r_load (v := (.slice va k vc)) e24 flat22 ((Chg.keep X (fun h => by have h' : bd = bs := h; omega) (X0.keep Bd)).cell rfl)) (Chg.refl _ _) rfl
        refine DagStepsT.cons (fun s' w' X U H => ?_) ?_
        · exact DoesT_val (r_move (v := (.pointer (some ⟨bs, 0, none⟩))) (U 3 rfl)) (Chg.refl _ _) rfl
        refine DagStepsT.cons (fun s' w' X U H => ?_) ?_
        · have e26 : s' 26 = (.pointer (some ⟨bs, 0, none⟩)) := H 2 rfl 26 (.eq (.pointer (some ⟨bs, 0, none⟩))) rfl (by rw [hFs3]; rfl)
          exact DoesT_enter (r_callF (vs := [(.pointer (some ⟨bs, 0, none⟩)), (.int .i64 3)]) Try.func70 nm70 bd70 (lst2 e26 rfl)) ((next_c wr _ bs ls 3 (by decide) (by decide) ((Ext.trans E2 X0).trans X) hwr ((hS.ext X0).ext X)).mono (fun v w h => by obtain ⟨x, l', h1, h2, h3, h4, h5⟩ := h; exact ⟨⟨x, l', h1, h2, h3, h4⟩, h5⟩))
        refine DagStepsT.cons (fun s' w' X U H => ?_) ?_
        · obtain ⟨x27, m27, e27, p27, q27, s27⟩ := (show (.own (rndF wr bs 3) (rndF_ext _ _ _) : FactT ((fun y => y = bs))).In (s' 27) w' from H 3 rfl 27 (.own (rndF wr bs 3) (rndF_ext _ _ _)) rfl (by rw [hFs3]; rfl))
          exact DoesT_val (r_sub (k := .i64) (a := x27) (b := 1) (c := x27 - 1) e27 rfl (wI64 (by omega))) (Chg.refl _ _) ⟨_, rfl, by omega, by omega⟩
        refine DagStepsT.cons (fun s' w' X U H => ?_) ?_
        · obtain ⟨x28, e28, p28, q28⟩ := (show (.gen (numF (-1) 2) (fun _ _ _ _ h => h) : FactT ((fun y => y = bs))).In (s' 28) w' from H 4 rfl 28 (.gen (numF (-1) 2) (fun _ _ _ _ h => h)) rfl (by rw [hFs3]; rfl))
          exact DoesT_cell (n0 := base) (lo := -1) (hi := 2) (x := .tmp 28) e28 p28 q28 (by have := X0.size; have := X.size; omega)
        exact DagStepsT.nil
      · intro s' wd3 w3 X0 X3 U H
        have e25 : s' 25 = (.slice va k vc) := H 1 25 (.eq (.slice va k vc)) rfl (by rw [hFs3]; rfl)
        obtain ⟨x27, m27, e27, p27, q27, s27⟩ := (show (.own (rndF wr bs 3) (rndF_ext _ _ _) : FactT ((fun y => y = bs))).In (s' 27) w3 from H 3 27 (.own (rndF wr bs 3) (rndF_ext _ _ _)) rfl (by rw [hFs3]; rfl))
        obtain ⟨b29, y29, e29, B29, g29, p29, q29⟩ := (show (.gen (cellF base (-1) 2) (cellF_chg (by omega) _ _) : FactT ((fun y => y = bs))).In (s' 29) w3 from H 5 29 (.gen (cellF base (-1) 2) (cellF_chg (by omega) _ _)) rfl (by rw [hFs3]; rfl))
        obtain ⟨j3, rfl⟩ := Fits.out (σ := s') (l := [(2, (.pointer (some ⟨br, 0, none⟩))), (3, (.pointer (some ⟨bs, 0, none⟩))), (4, (.int .i64 (1 + x1))), (5, (.int .i64 (1 + x2))), (6, (.pointer (some ⟨bd, 0, none⟩))), (21, (.int .i64 (1 + x1))), (22, (.int .i64 ((k : Nat) : Int))), (25, (.slice va k vc)), (29, (.slice (some ⟨b29, 0, none⟩) 1 1))]) ⟨U 2 rfl, U 3 rfl, U 4 rfl, U 5 rfl, U 6 rfl, U 21 rfl, U 22 rfl, e25, e29, trivial⟩
        clear U H
        replace Br := Chg.keep X3 (fun h => by have h' : br = bs := h; omega) (X0.keep Br)
        replace Bd := Chg.keep X3 (fun h => by have h' : bd = bs := h; omega) (X0.keep Bd)
        have hM1 := (hM.ext X0).chg X3 (fun y h => .inl (by have h' : y = bs := h; omega))
        have hbsz1 : base ≤ (w3).heap.size := by have := X0.size; have := X3.size; omega
        replace E := (E.ext X0).step X3 (fun y hy h => by have h' : y = bs := h; omega)
        replace E2 := (E2.ext X0).step X3 (fun y hy h => by have h' : y = bs := h; omega)
        obtain ⟨vals1, D1, hA1, hMr⟩ := hM1
        have hM1 : MSt base top (w3) (.slice va k vc) (.slice na k nc) k k acc rows := ⟨vals1, D1, hA1, hMr⟩
        refine s_append (base := base) (n := k) (m := 1) (xs := acc.map (Value.int .i64)) (news := [.int .i64 y29]) (size := 1) (bytes := 8) (v := (.slice va k vc)) (by decide) Try.underlying22 siz3 byt3 zer3 rfl (by decide) rfl hA1 rfl (rfl) (B29.cells rfl) (by simp [Value.oneCell']) (by unfold maxLen; omega) (by omega) (hbsz1) ?_
        intro v9 w39 Ov9 Cv9 Dv9
        replace Br := Cv9.keep (fun h => by have := (hA1.lt _ h).1; omega) Br
        replace Bd := Cv9.keep (fun h => by have := (hA1.lt _ h).1; omega) Bd
        replace E := E.step Cv9 (fun x hx h => absurd (hA1.lt x h).1 (by omega))
        replace E2 := E2.step Cv9 (fun x hx h => absurd (hA1.lt x h).1 (by omega))
        obtain ⟨va2, vc2, rfl⟩ := own_form Ov9
        have hM2 := MSt.acc (acc' := acc ++ [y29]) hM1 (by simpa using Ov9) Cv9 Dv9
        obtain ⟨top2, htop2⟩ : ∃ top2, top2 = w39.heap.size := ⟨_, rfl⟩
        rw [← htop2] at hM2
        have hbsz2 := Nat.le_trans hbsz1 Cv9.size
        have hS2' : StrAt wr w39 bs m27 := by obtain ⟨sa, sc, h1, h2⟩ := s27; exact ⟨sa, sc, Chg.keep Cv9 (fun h => by have := (hA1.lt _ h).1; omega) h1, h2⟩
        have htop3 : top2 ≤ (w39).heap.size := by omega
        refine WpL_val rfl rfl (by decide) (r_fieldAddr (b := bd) (o := 0) (o' := 1) rfl Try.underlying25 rfl siz22 rfl) ?_
        refine s_store (b := bd) (o := 1) (c' := #[(.int .i64 x3), (.slice va2 (k + 1) vc2), (.slice na k nc)]) (v := (.slice va2 (k + 1) vc2)) rfl rfl rfl siz22 Bd (by simp) rfl ?_
        intro w4 S4
        replace hM2 := hM2.chg S4.chg (fun y h => .inl (by have h' : y = bd := h; omega))
        replace hS2' := hS2'.chg S4.chg (fun h => by have h' : bs = bd := h; omega)
        replace hbsz2 := Nat.le_trans hbsz2 S4.chg.size
        replace htop3 := Nat.le_trans htop3 S4.chg.size
        replace Br := S4.keep (by omega) Br
        replace E := S4.step E (by first | exact Or.inl (by omega) | exact Or.inr rfl | exact Or.inr (by assumption) | exact Or.inr (by simp) | exact Or.inr (by omega) | exact Or.inr (by dsimp only; omega))
        replace E2 := S4.step E2 (Or.inl (by omega))
        replace Bd := S4.blk
        refine WpL_nil ?_
        refine thn_normal ?_
        refine Wp_seq_region ?_
        refine WpL_val rfl rfl (by decide) (r_assign (v := (.slice none 0 0)) rfl) ?_
        refine WpL_nil ?_
        refine Wp_seq ?_
        refine Wp_seq_region ?_
        refine WpL_val rfl rfl (by decide) (r_move (v := (.int .i64 (1 + x2))) rfl) ?_
        refine WpL_val rfl rfl (by decide) (r_move (v := (.int .i64 0)) rfl) ?_
        refine WpL_nil ?_
        refine Wp_block ?_
        obtain ⟨base2, hbase2⟩ : ∃ base2, base2 = (w4).heap.size := ⟨_, rfl⟩
        refine Wp_loop (fun nn_ σ W5 => ∃ (j : Nat) (ra : Option Addr) (rc : Nat) (row : List Int) (lt : List Int), (∃ jj_, σ = upds jj_ [(2, (.pointer (some ⟨br, 0, none⟩))), (3, (.pointer (some ⟨bs, 0, none⟩))), (4, (.int .i64 (1 + x1))), (5, (.int .i64 (1 + x2))), (6, (.pointer (some ⟨bd, 0, none⟩))), (21, (.int .i64 (1 + x1))), (22, (.int .i64 ((k : Nat) : Int))), (32, (.int .i64 (1 + x2))), (33, (.int .i64 ((j : Nat) : Int))), (7, (.slice ra j rc))]) ∧ Chg none1 w0 W5 ∧ Chg none1 wr W5 ∧ Blk W5 br #[(.int .i64 0), (.slice none 0 0), (.slice none 0 0)] 25 ∧ Blk W5 bd #[(.int .i64 x3), (.slice va2 (k + 1) vc2), (.slice na k nc)] 25 ∧ (j ≤ cc) ∧ (MSt base top2 W5 (.slice va2 (k + 1) vc2) (.slice na k nc) (k + 1) k (acc ++ [y29]) rows) ∧ (W5.ownsRow base2 TI 1 (.slice ra j rc) j (row.map (Value.int .i64))) ∧ (row.length = j ∧ ∀ x ∈ row, -1 ≤ x ∧ x < (n : Int)) ∧ (StrAt wr W5 bs lt) ∧ (base2 ≤ W5.heap.size) ∧ nn_ = cc - j) (n := cc - 0) ?_ ?_
        · exact ⟨0, none, 0, [], m27, Fits.out ⟨rfl, rfl, rfl, rfl, rfl, rfl, rfl, rfl, rfl, rfl, trivial⟩, E, E2, Br, Bd, Nat.zero_le _, hM2, World.ownsRow_nil _ _ _ _, ⟨rfl, by simp⟩, hS2', (by omega), rfl⟩
        · clear E E2 Br Bd
          rintro _ _ W5 ⟨j, ra, rc, row, lt, ⟨j5, rfl⟩, E, E2, Br, Bd, hj, hMj, hR, hrow, hSj, hsz2, rfl⟩
          refine Wp_seq_region ?_
          refine WpL_val rfl rfl (by decide) (r_lss (k := .i64) (a := ((j : Nat) : Int)) (b := 1 + x2) rfl rfl) ?_
          refine WpL_nil ?_
          refine Wp_seq ?_
          refine Wp_cond (b := decide ((((j : Nat) : Int) : Int) < 1 + x2)) rfl (fun hltj => ?_) (fun hltj => ?_)
          · have khltj := hltj
            replace hltj := of_decide_eq_true hltj
            refine Wp_skip ?_
            refine thn_normal ?_
            refine Wp_seq ?_
            refine Wp_block ?_
            refine Wp_region ?_
            refine WpL_val rfl rfl (by decide) (r_move (v := (.slice ra j rc)) rfl) ?_
            refine WpL_val rfl rfl (by decide) (r_move (v := (.pointer (some ⟨bs, 0, none⟩))) rfl) ?_
            refine WpL_val rfl rfl (by decide) (r_move (v := (.int .i64 (1 + x1))) rfl) ?_
            refine WpL_val rfl rfl (by decide) (r_add (k := .i64) (a := 1 + x1) (b := 1) (c := (1 + x1) + 1) rfl rfl (wI64 (by omega))) ?_
            refine WpL_enter rfl rfl (by decide) (r_callF (vs := [(.pointer (some ⟨bs, 0, none⟩)), (.int .i64 ((1 + x1) + 1))]) Try.func70 nm70 bd70 rfl) (next_c wr _ bs lt (1 + x1 + 1) (by omega) (by omega) E2 hwr hSj) ?_
            rintro _ w49 ⟨x4, l4, rfl, hx4a, hx4b, hS5, C5⟩
            replace Br := C5.keep (by omega) Br
            replace Bd := C5.keep (by omega) Bd
            replace E := E.step C5 (by intro x hx hm; omega)
            replace E2 := E2.step C5 (by intro x hx hm; omega)
            have hR1 := own_chg hR C5 (fun q hq h => by have h' : q = bs := h; have := (hR.lt q hq).1; omega)
            have hMj1 := hMj.chg C5 (fun y h => .inl (by have h' : y = bs := h; omega))
            have hsz3 := Nat.le_trans hsz2 C5.size
            refine WpL_val rfl rfl (by decide) (r_sub (k := .i64) (a := x4) (b := 1) (c := x4 - 1) rfl rfl (wI64 (by omega))) ?_
            refine s_buildSlice (ps := [(0, (.int .i64 (x4 - 1)))]) (c := #[(.int .i64 (x4 - 1))]) (by decide) rfl Try.underlying22 siz3 zer3 (by decide) (by decide) (by kernel_rfl) ?_
            intro bq wq Nq
            have Fq := Nq.ge E
            have Fq_E2 := Nq.ge E2
            have Oq_br := Nq.lt Br
            have Oq_bd := Nq.lt Bd
            replace Br := Nq.keep Br
            replace Bd := Nq.keep Bd
            replace hR1 := own_ext hR1 Nq.ext
            replace hMj1 := hMj1.ext Nq.ext
            replace hsz3 := Nat.le_trans hsz3 Nq.ext.size
            replace hS5 := hS5.ext Nq.ext
            replace E := E.ext Nq.ext
            have Bq := Nq.blk
            replace E2 := E2.ext Nq.ext
            refine s_append (base := base2) (n := j) (m := 1) (xs := row.map (Value.int .i64)) (news := [(.int .i64 (x4 - 1))]) (size := 1) (bytes := 8) (v := (.slice ra j rc)) (by decide) Try.underlying22 siz3 byt3 zer3 rfl (by decide) rfl hR1 rfl (rfl) (Bq.cells rfl) (by simp [Value.oneCell']) (by unfold maxLen; omega) (by omega) (hsz3) ?_
            intro v8 w59 Ov8 Cv8 Dv8
            replace Br := Cv8.keep (fun h => by have := (hR1.lt _ h).1; omega) Br
            replace Bd := Cv8.keep (fun h => by have := (hR1.lt _ h).1; omega) Bd
            replace E := E.step Cv8 (fun x hx h => absurd (hR1.lt x h).1 (by omega))
            replace E2 := E2.step Cv8 (fun x hx h => absurd (hR1.lt x h).1 (by omega))
            obtain ⟨ra2, rc2, rfl⟩ := own_form Ov8
            refine WpL_val rfl rfl (by decide) (r_assign (v := (.slice ra2 (j + 1) rc2)) rfl) ?_
            refine WpL_nil ?_
            refine inB_normal ?_
            refine thn_normal ?_
            refine Wp_region ?_
            refine WpL_val rfl rfl (by decide) (r_add (k := .i64) (a := ((j : Nat) : Int)) (b := 1) (c := ((j : Nat) : Int) + 1) rfl rfl (wI64 (by omega))) ?_
            refine WpL_val rfl rfl (by decide) (r_move (v := (.int .i64 (((j : Nat) : Int) + 1))) rfl) ?_
            refine WpL_nil ?_
            refine thn_normal ?_
            exact ⟨cc - (j + 1), by omega, j + 1, ra2, rc2, row ++ [x4 - 1], l4, Fits.out ⟨rfl, rfl, rfl, rfl, rfl, rfl, rfl, rfl, rfl, rfl, trivial⟩, E, E2, Br, Bd, (by omega), hMj1.chg Cv8 (fun y h => .inr (by have := (hR1.lt y h).1; omega)), (by simpa using Ov8), ⟨by simp [hrow.1], by intro x hx; simp at hx; rcases hx with h | h; exact hrow.2 x h; omega⟩, (by obtain ⟨sa, sc, h1, h2⟩ := hS5; exact ⟨sa, sc, Chg.keep Cv8 (fun h => by have := (hR1.lt _ h).1; omega) h1, h2⟩), Nat.le_trans hsz3 Cv8.size, rfl⟩
          · have khltj := hltj
            replace hltj := of_decide_eq_false hltj
            have hjc : j = cc := by omega
            obtain ⟨hrl, hrr⟩ := hrow
            obtain ⟨rb, hrb, hsl⟩ := own_slin hR hrl (by omega)
            have hsz4 : rb < (W5).heap.size ∧ base ≤ (W5).heap.size := ⟨hrb.2, by omega⟩
            refine Wp_exit ?_
            refine thn_exit ?_
            refine thn_exit ?_
            refine inB_here ?_
            refine thn_normal ?_
            refine Wp_region ?_
            refine WpL_val rfl rfl (by decide) (r_fieldAddr (b := bd) (o := 0) (o' := 2) rfl Try.underlying25 rfl siz23 rfl) ?_
            refine WpL_val rfl rfl (by decide) (r_load (v := (.slice na k nc)) rfl flat23 (Bd.cell rfl)) ?_
            refine WpL_val rfl rfl (by decide) (r_move (v := (.slice ra j rc)) rfl) ?_
            refine s_buildSlice (ps := [(0, (.slice ra j rc))]) (c := #[(.slice ra j rc)]) (by decide) rfl Try.underlying23 siz22 zer22 (by decide) (by decide) (by kernel_rfl) ?_
            intro bq wq Nq
            have Fq := Nq.ge E
            have Fq_E2 := Nq.ge E2
            have Oq_br := Nq.lt Br
            have Oq_bd := Nq.lt Bd
            replace Br := Nq.keep Br
            replace Bd := Nq.keep Bd
            replace hMj := hMj.ext Nq.ext
            replace hsl := SlIn.chg hsl Nq.ext (fun _ _ f => f)
            replace hSj := hSj.ext Nq.ext
            replace hsz4 := And.intro (Nat.lt_of_lt_of_le hsz4.1 Nq.ext.size) (Nat.le_trans hsz4.2 Nq.ext.size)
            replace E := E.ext Nq.ext
            have Bq := Nq.blk
            replace E2 := E2.ext Nq.ext
            obtain ⟨vals, D, hMP⟩ := hMj
            have hN := hMP.2.1
            refine s_append (base := base) (n := k) (m := 1) (xs := vals) (news := [(.slice ra j rc)]) (size := 1) (bytes := 24) (v := (.slice na k nc)) (by decide) Try.underlying23 siz22 byt22 zer22 rfl (by decide) rfl hN rfl (rfl) (Bq.cells rfl) (by simp [Value.oneCell']) (by unfold maxLen; omega) (by omega) (hsz4.2) ?_
            intro v7 w69 Ov7 Cv7 Dv7
            replace Br := Cv7.keep (fun h => by have := (hN.lt _ h).1; omega) Br
            replace Bd := Cv7.keep (fun h => by have := (hN.lt _ h).1; omega) Bd
            replace E := E.step Cv7 (fun x hx h => absurd (hN.lt x h).1 (by omega))
            replace E2 := E2.step Cv7 (fun x hx h => absurd (hN.lt x h).1 (by omega))
            obtain ⟨na2, nc2, rfl⟩ := own_form Ov7
            have hM9 := MSt.nxt hMP Ov7 Cv7 Dv7 hsl ⟨by omega, hsz4.1⟩ (by omega)
            obtain ⟨top4, htop4⟩ : ∃ top4, top4 = w69.heap.size := ⟨_, rfl⟩
            rw [← htop4] at hM9
            have hS9 := hSj.chg Cv7 (fun h => by have := (hN.lt _ h).1; omega)
            have hsz9 : base ≤ w69.heap.size := Nat.le_trans hsz4.2 Cv7.size
            refine WpL_val rfl rfl (by decide) (r_fieldAddr (b := bd) (o := 0) (o' := 2) rfl Try.underlying25 rfl siz23 rfl) ?_
            refine s_store (b := bd) (o := 2) (c' := #[(.int .i64 x3), (.slice va2 (k + 1) vc2), (.slice na2 (k + 1) nc2)]) (v := (.slice na2 (k + 1) nc2)) rfl rfl rfl siz23 Bd (by simp) rfl ?_
            intro w7 S7
            replace hM9 := hM9.chg S7.chg (fun y h => .inl (by have h' : y = bd := h; omega))
            replace hS9 := hS9.chg S7.chg (fun h => by have h' : bs = bd := h; omega)
            replace hsz9 := Nat.le_trans hsz9 S7.chg.size
            replace Br := S7.keep (by omega) Br
            replace E := S7.step E (by first | exact Or.inl (by omega) | exact Or.inr rfl | exact Or.inr (by assumption) | exact Or.inr (by simp) | exact Or.inr (by omega) | exact Or.inr (by dsimp only; omega))
            replace E2 := S7.step E2 (Or.inl (by omega))
            replace Bd := S7.blk
            refine WpL_nil ?_
            refine inB_normal ?_
            refine thn_normal ?_
            refine Wp_region ?_
            refine WpL_val rfl rfl (by decide) (r_add (k := .i64) (a := ((k : Nat) : Int)) (b := 1) (c := ((k : Nat) : Int) + 1) rfl rfl (wI64 (by omega))) ?_
            refine WpL_val rfl rfl (by decide) (r_move (v := (.int .i64 (((k : Nat) : Int) + 1))) rfl) ?_
            refine WpL_nil ?_
            refine thn_normal ?_
            exact ⟨n - (k + 1), by omega, k + 1, va2, vc2, na2, nc2, acc ++ [y29], rows ++ [row], lt, top4, Fits.out ⟨rfl, rfl, rfl, rfl, rfl, rfl, rfl, trivial⟩, E, E2, Br, Bd, (by omega), hM9, ⟨by simp [hacc.1], by intro x hx; simp at hx; rcases hx with h | h; exact hacc.2 x h; omega⟩, ⟨by simp [hrows.1], by intro r hr; simp at hr; rcases hr with h | h; exact hrows.2 r h; subst h; exact ⟨by omega, hrr⟩⟩, hS9, hsz9, rfl⟩
    · have khlt := hlt
      replace hlt := of_decide_eq_false hlt
      have hkn : k = n := by omega
      have hDone := MSt.done (start := x3) hM hacc.1 hrows.1
      refine Wp_exit ?_
      refine thn_exit ?_
      refine thn_exit ?_
      refine inB_here ?_
      refine thn_normal ?_
      refine Wp_seq_region ?_
      refine WpL_val rfl rfl (by decide) (r_loadAgg (vs := [(.int .i64 x3), (.slice va k vc), (.slice na k nc)]) rfl agg25 siz25 rfl (Bd.cells rfl)) ?_
      refine s_storeAgg (b := br) (o := 0) (c' := #[(.int .i64 x3), (.slice va k vc), (.slice na k nc)]) rfl rfl (by simp [Value.oneCell']) siz25 rfl Br (by simp) rfl ?_
      intro w8 S8
      replace hM := hM.chg S8.chg (fun y h => .inl (by have h' : y = br := h; omega))
      replace Bd := S8.keep (by omega) Bd
      replace E := S8.step E (by first | exact Or.inl (by omega) | exact Or.inr rfl | exact Or.inr (by assumption) | exact Or.inr (by simp) | exact Or.inr (by omega) | exact Or.inr (by dsimp only; omega))
      replace Br := S8.blk
      refine WpL_nil ?_
      refine Wp_ret ?_
      refine fin_agg Try.results36 (vs := [(.int .i64 x3), (.slice va k vc), (.slice na k nc)]) (b := br) rfl agg25 siz25 rfl (Br.cells rfl) ?_
      rw [hkn] at hM
      exact ⟨n, cc, ⟨x3, acc, rows⟩, va, vc, na, nc, base, top, ⟨by omega, by omega⟩, ⟨by omega, by omega⟩, ⟨by rw [← hkn]; exact hrows.1, by rw [← hkn]; exact hacc.1, ⟨hx3a, by show x3 < (n : Int); omega⟩, hacc.2, hrows.2⟩, by rw [hkn], hwb, hM, E⟩
end Go.Proofs
namespace Go.Proofs
open Go Go.Eng Go.Sort
set_option maxRecDepth 100000
def mapS {α : Type} (f : α → α) (l : List α) (s : Nat) : List α := (l.take s).map f ++ l.drop s
theorem mapS_zero {α : Type} (f : α → α) (l : List α) : mapS f l 0 = l := by simp [mapS]
theorem mapS_all {α : Type} (f : α → α) (l : List α) : mapS f l l.length = l.map f := by simp [mapS]
theorem mapS_get {α : Type} {f : α → α} {l : List α} {s : Nat} {x : α} (h : l[s]? = some x) : (mapS f l s)[s]? = some x := by
  have hx := lt_of_get h
  rw [mapS, List.getElem?_append_right (by simp; omega)]
  simp only [List.length_map, List.length_take, List.getElem?_drop]
  rw [show s + (s - min s l.length) = s by omega, h]
theorem mapS_set {α : Type} {f : α → α} {l : List α} {s : Nat} {x : α} (h : l[s]? = some x) : (mapS f l s).set s (f x) = mapS f l (s + 1) := by
  have hx := lt_of_get h
  have e : l[s] = x := by rw [List.getElem?_eq_getElem hx] at h; simpa using h
  rw [mapS, mapS, List.take_add_one, h, List.drop_eq_getElem_cons hx, e, List.set_append_right _ _ (by simp; omega)]
  simp only [List.length_map, List.length_take, List.map_append, Option.toList_some, List.map_cons, List.map_nil]
  rw [show s - min s l.length = 0 by omega]
  simp
theorem mapS_len {α : Type} (f : α → α) (l : List α) (s : Nat) : (mapS f l s).length = l.length := by simp [mapS]; omega
def min0 (x : Int) : Int := min x 0
def padR (m : Nat) (r : List Int) : List Int := r ++ List.replicate (m - r.length) (-1)
def plD (m : Nat) (d : Dfa) : Dfa := ⟨d.start, d.accept.map min0, d.next.map (padR m)⟩
theorem plD_ok {n c m : Nat} {d : Dfa} (h : okDfa n c d) (hm : c ≤ m) (h1 : 1 ≤ n) : OkD n m (plD m d) ∧ ∀ x ∈ (plD m d).accept, x ≤ 0 := by
  obtain ⟨h1, h2, h3, h4, h5⟩ := h
  refine ⟨⟨by simp [plD, h1], by simp [plD, h2], h3, fun x hx => ?_, fun r hr => ?_⟩, fun x hx => ?_⟩
  · obtain ⟨y, hy, rfl⟩ := List.mem_map.1 hx
    have := h4 y hy
    unfold min0; omega
  · obtain ⟨q, hq, rfl⟩ := List.mem_map.1 hr
    have h6 := h5 q hq
    refine ⟨by simp [padR]; omega, fun x hx => ?_⟩
    rcases List.mem_append.1 hx with h7 | h7
    · exact h6.2 x h7
    · rw [List.eq_of_mem_replicate h7]; omega
  · obtain ⟨y, hy, rfl⟩ := List.mem_map.1 hx
    unfold min0; omega
theorem MStP.setA {base top n ca kn ga i : Nat} {vals : List Value} {D : Nat → Prop} {w w' : World} {vn : Value} {acc : List Int} {rows : List (List Int)} {cur : Array Value} {y : Int} (h : MStP base top vals D w (.slice (some ⟨ga, 0, none⟩) n ca) vn n kn acc rows) (hB : Blk w ga cur TI) (hi : i < n) (P : Put w w' ga (cur.setIfInBounds i (.int .i64 y)) TI) :
    MStP base top vals D w' (.slice (some ⟨ga, 0, none⟩) n ca) vn n kn (acc.set i y) rows := by
  obtain ⟨h1, h2, h3, h4, h5, h6, h7, h8⟩ := h
  refine ⟨by rw [List.map_set]; exact own_writeG h1 hB (by omega) P.blk, own_chg h2 P.chg (fun q hq e => h5 ga rfl (by have e' : q = ga := e; rw [← e']; exact hq)), h3, fun i u l hu hl => (h4 i u l hu hl).chg P.chg (fun y hy e => (h6 y hy).2.1 (by have e' : y = ga := e; rw [e']; rfl)), h5, h6, h7, Nat.le_trans h8 P.chg.size⟩
theorem MStP.setN {base top n cn ka gn i b : Nat} {vals : List Value} {D : Nat → Prop} {w w' : World} {va u : Value} {acc row : List Int} {rows : List (List Int)} {cur : Array Value} (h : MStP base top vals D w va (.slice (some ⟨gn, 0, none⟩) n cn) ka n acc rows) (hB : Blk w gn cur TL) (hi : i < n) (P : Put w w' gn (cur.setIfInBounds i u) TL) (hu : SlIn (fun y => y = b) w 1 u (row.map intV)) (hb : top ≤ b ∧ b < w.heap.size) (hbb : base ≤ b) :
    MStP base w.heap.size (vals.set i u) (fun y => D y ∨ y = b) w' va (.slice (some ⟨gn, 0, none⟩) n cn) ka n acc (rows.set i row) := by
  obtain ⟨h1, h2, h3, h4, h5, h6, h7, h8⟩ := h
  have hg := h7 gn (.inr rfl)
  refine ⟨own_chg h1 P.chg (fun q hq e => h5 q hq (by have e' : q = gn := e; rw [e']; rfl)), own_writeG h2 hB (by omega) P.blk, by simp [h3], fun j v l hv hl => ?_, h5, fun y hy => ?_, fun y hy => by have := h7 y hy; omega, P.chg.size⟩
  · rw [List.getElem?_set] at hv hl
    by_cases hj : i = j
    · subst hj
      rw [if_pos rfl] at hv hl
      split at hv
      · split at hl
        · cases hv; cases hl
          exact (hu.chg P.chg (fun y hy e => by have e' : y = gn := e; have hy' : y = b := hy; omega)).mono fun y hy => .inr hy
        · cases hl
      · cases hv
    · rw [if_neg hj] at hv hl
      exact ((h4 j v l hv hl).chg P.chg (fun y hy e => (h6 y hy).2.2 (by have e' : y = gn := e; rw [e']; rfl))).mono fun y hy => .inl hy
  · rcases hy with hy | hy
    · have := h6 y hy
      exact ⟨⟨this.1.1, by omega⟩, this.2⟩
    · subst hy
      exact ⟨⟨hbb, hb.2⟩, fun e => by have := h7 y (.inl e); omega, fun e => by have := h7 y (.inr e); omega⟩
theorem MStP.chg {base top ka kn : Nat} {vals : List Value} {D M : Nat → Prop} {w w' : World} {va vn : Value} {acc : List Int} {rows : List (List Int)} (c : Chg M w w') (hM : ∀ y, M y → y < base ∨ top ≤ y) (h : MStP base top vals D w va vn ka kn acc rows) : MStP base top vals D w' va vn ka kn acc rows := by
  obtain ⟨h1, h2, h3, h4, h5, h6, h7, h8⟩ := h
  have hb : ∀ y, base ≤ y → y < top → ¬ M y := fun y h hlt hm => by have := hM y hm; omega
  exact ⟨own_chg h1 c (fun q hq => hb q (h1.lt q hq).1 (h7 q (.inl hq))), own_chg h2 c (fun q hq => hb q (h2.lt q hq).1 (h7 q (.inr hq))), h3, fun i u l hu hl => (h4 i u l hu hl).chg c (fun y hy => hb y (h6 y hy).1.1 (h6 y hy).1.2), h5, h6, h7, Nat.le_trans h8 c.size⟩
theorem MStP.ext {base top ka kn : Nat} {vals : List Value} {D : Nat → Prop} {w w' : World} {va vn : Value} {acc : List Int} {rows : List (List Int)} (c : Ext w w') (h : MStP base top vals D w va vn ka kn acc rows) : MStP base top vals D w' va vn ka kn acc rows := MStP.chg c (fun _ f => f.elim) h
theorem MStP.row {base top n nc c ka : Nat} {vals : List Value} {D : Nat → Prop} {w : World} {va : Value} {acc row : List Int} {rows : List (List Int)} {gn s : Nat} (h : MStP base top vals D w va (.slice (some ⟨gn, 0, none⟩) n nc) ka n acc rows) (hr : rows[s]? = some row) (hn : rows.length = n) (hl : row.length = c) (hc : 0 < c) :
    ∃ rb ro rc, vals[s]? = some (.slice (some ⟨rb, ro, none⟩) c rc) ∧ w.cell? ⟨gn, 0 + s, none⟩ = some (.slice (some ⟨rb, ro, none⟩) c rc) ∧ CellsAt w rb ro (row.map (Value.int .i64)) := by
  obtain ⟨h1, h2, h3, h4, h5, h6, h7, h8⟩ := h
  have hsl := lt_of_get hr
  obtain ⟨u, hu⟩ := get_of_lt (l := vals) (i := s) (by omega)
  have hs := (h4 s u row hu hr).at
  obtain ⟨ra, rc, rfl⟩ := SlAt.form hs
  simp only [List.length_map] at hs hu
  rw [hl] at hs hu
  obtain ⟨rb, ro, rfl, hx⟩ := ints_cells hs hc
  obtain ⟨g9, hg9, _, hca⟩ := own_cells h2 (by omega)
  simp only [Option.some.injEq, Addr.mk.injEq, and_true] at hg9
  subst hg9
  refine ⟨rb, ro, rc, hu, hca s _ hu, fun j v hv => ?_⟩
  rw [List.getElem?_map] at hv
  cases hj : row[j]? with
  | none => rw [hj] at hv; cases hv
  | some y => rw [hj] at hv; simp only [Option.map_some, Option.some.injEq] at hv; subst hv; exact hx j y hj
theorem MSt.own {base top n : Nat} {w : World} {va vn : Value} {acc : List Int} {rows : List (List Int)} {aa na : Option Addr} {ac nc : Nat} (h : MSt base top w (.slice aa n ac) (.slice na n nc) n n acc rows) (hn : 0 < n) : ∃ ga gn, aa = some ⟨ga, 0, none⟩ ∧ na = some ⟨gn, 0, none⟩ ∧ base ≤ ga ∧ base ≤ gn ∧ ga < top ∧ gn < top ∧ ga ≠ gn := by
  obtain ⟨vals, D, h1, h2, h3, h4, h5, h6, h7, h8⟩ := h
  obtain ⟨ga, rfl, hg1, _⟩ := own_cells h1 hn
  obtain ⟨gn, rfl, hg2, _⟩ := own_cells h2 hn
  exact ⟨ga, gn, rfl, rfl, hg1, hg2, h7 ga (.inl rfl), h7 gn (.inr rfl), fun e => h5 ga rfl (by rw [e]; rfl)⟩
theorem mkDfa_o (w0 : World) (v : Value) (l : List Int) (hl : IntsAt w0 v l) : Ret Try.prog 36 #[v] w0 fun r w => ∃ n c d ga ac gn nc base top, (1 ≤ n ∧ n ≤ 6) ∧ (1 ≤ c ∧ c ≤ 3) ∧ okDfa n c d ∧ r = .agg #[.int .i64 d.start, .slice (some ⟨ga, 0, none⟩) n ac, .slice (some ⟨gn, 0, none⟩) n nc] ∧ (w0.heap.size ≤ base ∧ base ≤ ga ∧ base ≤ gn ∧ ga < top ∧ gn < top ∧ ga ≠ gn ∧ top ≤ w.heap.size) ∧ MSt base top w (.slice (some ⟨ga, 0, none⟩) n ac) (.slice (some ⟨gn, 0, none⟩) n nc) n n d.accept d.next ∧ Ext w0 w :=
  (mkDfa_m w0 v l hl).mono fun r w h => by
    obtain ⟨n, c, d, aa, ac, na, nc, base, top, h1, h2, h3, h4, h5, h6, h7⟩ := h
    obtain ⟨ga, gn, rfl, rfl, g1, g2, g3, g4, g5⟩ := MSt.own (va := undef) (vn := undef) h6 (by omega)
    exact ⟨n, c, d, ga, ac, gn, nc, base, top, h1, h2, h3, h4, ⟨h5, g1, g2, g3, g4, g5, h6.choose_spec.choose_spec.2.2.2.2.2.2.2⟩, h6, h7⟩
theorem pad_copy {row : List Int} {m : Nat} (h : row.length ≤ m) : ((((List.replicate m (-1 : Int)).map (Value.int .i64)).toArray).toList.take 0 ++ row.map (Value.int .i64) ++ (((List.replicate m (-1 : Int)).map (Value.int .i64)).toArray).toList.drop (0 + (row.map (Value.int .i64)).length)).toArray = ((padR m row).map (Value.int .i64)).toArray := by
  simp [padR]
set_option maxHeartbeats 4000000 in
theorem plain_c (w0 : World) (v : Value) (l : List Int) (hl : IntsAt w0 v l) :
    Ret Try.prog 21 #[v, .int .i64 3] w0 fun r w => (∃ n d vs, (1 ≤ n ∧ n ≤ 6) ∧ OkD n 3 d ∧ (∀ x ∈ d.accept, x ≤ 0) ∧ r = .agg vs.toArray ∧ DfaAt w d vs) ∧ Ext w0 w := by
  obtain ⟨a0, c0, rfl⟩ := SlAt.form hl
  simp only [List.length_map] at hl ⊢
  refine Ret_of Try.func21 rfl Try.ntmps21 (Nat.le_of_ble_eq_true rfl) ?_
  have E : Chg none1 w0 w0 := Chg.refl _ _
  refine Wp_seq_region ?_
  refine s_alloc (c := #[(.int .i64 0), (.slice none 0 0), (.slice none 0 0)]) (by decide) zer25 rfl ?_
  intro br wr Nr
  have Fr := Nr.ge E
  replace E := E.ext Nr.ext
  have Br := Nr.blk
  refine WpL_nil ?_
  refine Wp_seq_region ?_
  refine WpL_val rfl rfl (by decide) (r_move (v := (.slice a0 l.length c0)) rfl) ?_
  have hbr := Br.lt
  refine WpL_enter rfl rfl (by decide) (r_callF (vs := [(.slice a0 l.length c0)]) Try.func36 nm36 bd36 rfl) (mkDfa_o _ _ l (hl.ext E)) ?_
  rintro _ w9 ⟨n, c, d, ga, ac, gn, nc, base, top0, hn, hc, hok, rfl, hgs, hM, X9⟩
  replace Br := X9.keep Br
  replace E := E.ext X9
  obtain ⟨hok1, hok2, hok3, hok4, hok5⟩ := id hok
  refine s_allocStore (v := (.agg #[(.int .i64 d.start), (.slice (some ⟨ga, 0, none⟩) n ac), (.slice (some ⟨gn, 0, none⟩) n nc)])) (c := #[(.int .i64 d.start), (.slice (some ⟨ga, 0, none⟩) n ac), (.slice (some ⟨gn, 0, none⟩) n nc)]) (n := 3) (by decide) zer25 rfl siz25 rfl rfl rfl (by simp [Value.oneCell']) ?_
  intro bq wq Nq
  have Fq := Nq.ge E
  have Oq_br := Nq.lt Br
  replace Br := Nq.keep Br
  replace hM := hM.ext Nq.ext
  replace E := E.ext Nq.ext
  have Bq := Nq.blk
  refine WpL_nil ?_
  refine Wp_seq ?_
  refine Wp_seq_region ?_
  refine WpL_val rfl rfl (by decide) (r_fieldAddr (b := bq) (o := 0) (o' := 2) rfl Try.underlying25 rfl siz23 rfl) ?_
  refine WpL_val rfl rfl (by decide) (r_load (v := (.slice (some ⟨gn, 0, none⟩) n nc)) rfl flat23 (Bq.cell rfl)) ?_
  refine WpL_val rfl rfl (by decide) (r_lenSlice (ad := some ⟨gn, 0, none⟩) (n := n) (cap := nc) Try.underlying23 rfl) ?_
  refine WpL_val rfl rfl (by decide) (r_move (v := (.int .i64 0)) rfl) ?_
  refine WpL_nil ?_
  refine Wp_block ?_
  have hbq : top0 ≤ bq := by have := Nq.eq; omega
  refine Wp_loop (fun nn_ σ W1 => ∃ (s top : Nat) (acc : List Int) (rows : List (List Int)), (∃ jj_, σ = upds jj_ [(1, (.int .i64 3)), (4, (.pointer (some ⟨br, 0, none⟩))), (5, (.pointer (some ⟨bq, 0, none⟩))), (12, (.int .i64 ((n : Nat) : Int))), (13, (.int .i64 ((s : Nat) : Int)))]) ∧ Chg none1 w0 W1 ∧ Blk W1 br #[(.int .i64 0), (.slice none 0 0), (.slice none 0 0)] 25 ∧ Blk W1 bq #[(.int .i64 d.start), (.slice (some ⟨ga, 0, none⟩) n ac), (.slice (some ⟨gn, 0, none⟩) n nc)] 25 ∧ (s ≤ n) ∧ (acc = mapS min0 d.accept s) ∧ (rows = mapS (padR 3) d.next s) ∧ (MSt base top W1 (.slice (some ⟨ga, 0, none⟩) n ac) (.slice (some ⟨gn, 0, none⟩) n nc) n n acc rows) ∧ nn_ = n - s) (n := n - 0) ?_ ?_
  · exact ⟨0, top0, d.accept, d.next, Fits.out ⟨rfl, rfl, rfl, rfl, rfl, trivial⟩, E, Br, Bq, Nat.zero_le _, (mapS_zero _ _).symm, (mapS_zero _ _).symm, hM, rfl⟩
  · clear E Br Bq
    rintro _ _ W1 ⟨s, top, acc, rows, ⟨j1, rfl⟩, E, Br, Bq, hs, hacc, hrows, hM, rfl⟩
    refine Wp_seq_region ?_
    refine WpL_val rfl rfl (by decide) (r_lss (k := .i64) (a := ((s : Nat) : Int)) (b := ((n : Nat) : Int)) rfl rfl) ?_
    refine WpL_nil ?_
    refine Wp_seq ?_
    refine Wp_cond (b := decide ((((s : Nat) : Int) : Int) < ((n : Nat) : Int))) rfl (fun hlt => ?_) (fun hlt => ?_)
    · have khlt := hlt
      replace hlt := of_decide_eq_true hlt
      obtain ⟨vals, D, hMP0⟩ := hM
      have hMP : MStP base top vals D (W1) (.slice (some ⟨ga, 0, none⟩) n ac) (.slice (some ⟨gn, 0, none⟩) n nc) n n acc rows := hMP0
      clear hMP0
      obtain ⟨x, hx⟩ := get_of_lt (l := d.accept) (i := s) (by omega)
      obtain ⟨row, hrow⟩ := get_of_lt (l := d.next) (i := s) (by omega)
      have hxa : acc[s]? = some x := by rw [hacc]; exact mapS_get hx
      have hxr : rows[s]? = some row := by rw [hrows]; exact mapS_get hrow
      have hrl := (hok5 row (List.mem_of_getElem? hrow)).1
      obtain ⟨cur, hBa, hcs⟩ := own_blkG hMP.1
      have hbg : br < ga ∧ ga < bq ∧ br < gn ∧ gn < bq := by omega
      obtain ⟨g9, hg9, _, hca⟩ := own_cells hMP.1 (by omega)
      simp only [Option.some.injEq, Addr.mk.injEq, and_true] at hg9
      subst hg9
      have hcx := hca s (.int .i64 x) (by rw [List.getElem?_map, hxa]; rfl)
      refine Wp_skip ?_
      refine thn_normal ?_
      refine Wp_seq ?_
      refine Wp_block ?_
      refine Wp_seq_region ?_
      refine WpL_val rfl rfl (by decide) (r_move (v := (.int .i64 ((s : Nat) : Int))) rfl) ?_
      refine WpL_val rfl rfl (by decide) (r_assign (v := (.int .i64 ((s : Nat) : Int))) rfl) ?_
      refine WpL_nil ?_
      refine Wp_seq_draw 10 mixed (by kernel_rfl) ?_
      intro w3 X3 _
      replace Br := X3.keep Br
      replace Bq := X3.keep Bq
      replace hBa := X3.keep hBa
      replace hMP := MStP.ext X3 hMP
      replace hcx := X3.cell hcx
      replace E := E.ext X3
      refine WpT_val rfl rfl (by decide) (r_fieldAddr (b := bq) (o := 0) (o' := 1) rfl Try.underlying25 rfl siz22 rfl) ?_
      refine WpT_val rfl rfl (by decide) (r_load (v := (.slice (some ⟨ga, 0, none⟩) n ac)) rfl flat22 (Bq.cell rfl)) ?_
      refine WpT_val rfl rfl (by decide) (r_move (v := (.int .i64 ((s : Nat) : Int))) rfl) ?_
      refine WpT_val rfl rfl (by decide) (r_fieldAddr (b := bq) (o := 0) (o' := 1) rfl Try.underlying25 rfl siz22 rfl) ?_
      refine WpT_val rfl rfl (by decide) (r_load (v := (.slice (some ⟨ga, 0, none⟩) n ac)) rfl flat22 (Bq.cell rfl)) ?_
      refine WpT_val rfl rfl (by decide) (r_move (v := (.int .i64 ((s : Nat) : Int))) rfl) ?_
      refine WpT_val rfl rfl (by decide) (r_indexSlice (b := ga) (o := 0) (len := n) (cap := ac) (i := s) (o' := 0 + s) rfl rfl rfl Try.underlying22 siz3 (by omega) (by omega)) ?_
      refine WpT_val rfl rfl (by decide) (r_load (v := (.int .i64 x)) rfl flat3 (hcx)) ?_
      refine WpT_val rfl rfl (by decide) (r_minI (k := .i64) (a := x) (b := 0) (c := min0 x) rfl rfl rfl) ?_
      refine WpT_val rfl rfl (by decide) (r_indexSlice (b := ga) (o := 0) (len := n) (cap := ac) (i := s) (o' := 0 + s) rfl rfl rfl Try.underlying22 siz3 (by omega) (by omega)) ?_
      refine WpT_zero ?_
      have hB0 := hBa
      have hPx : True := trivial
      refine s_store (b := ga) (o := 0 + s) (c' := cur.setIfInBounds (0 + s) (.int .i64 (min0 x))) (v := (.int .i64 (min0 x))) rfl rfl rfl siz3 hBa (by omega) (rfl) ?_
      intro w4 S4
      replace hPx := S4
      replace Br := S4.keep (by omega) Br
      replace Bq := S4.keep (by omega) Bq
      replace E := S4.step E (by first | exact Or.inl (by omega) | exact Or.inr rfl | exact Or.inr (by assumption) | exact Or.inr (by simp) | exact Or.inr (by omega) | exact Or.inr (by dsimp only; omega))
      replace hBa := S4.blk
      have hMQ := hMP.setA hB0 (i := 0 + s) (by omega) hPx
      rw [Nat.zero_add, hacc, mapS_set hx] at hMQ
      refine WpL_nil ?_
      refine Wp_seq_region ?_
      refine s_buildSlice (ps := [(0, (.int .i64 (-1)))]) (c := #[(.int .i64 (-1))]) (by decide) rfl Try.underlying22 siz3 zer3 (by decide) (by decide) (by kernel_rfl) ?_
      intro be we Ne
      have Fe := Ne.ge E
      have Oe_br := Ne.lt Br
      have Oe_bq := Ne.lt Bq
      replace Br := Ne.keep Br
      replace Bq := Ne.keep Bq
      replace hMQ := MStP.ext Ne.ext hMQ
      replace E := E.ext Ne.ext
      have Be := Ne.blk
      refine WpL_val rfl rfl (by decide) (r_move (v := (.int .i64 3)) rfl) ?_
      have hT9 : top ≤ (we).heap.size ∧ bq < (we).heap.size := ⟨hMQ.2.2.2.2.2.2.2, Bq.lt⟩
      refine WpL_enter rfl rfl (by decide) (r_callF (vs := [(.slice (some ⟨be, 0, none⟩) 1 1), (.int .i64 3)]) Try.func55 nm55 bd55 rfl) (repeat_c _ be 1 3 (-1) _ Be (by decide) (by decide)) ?_
      rintro _ w19 ⟨⟨g, rfl, hg, hG⟩, X19⟩
      replace Br := X19.keep Br
      replace Bq := X19.keep Bq
      replace Be := X19.keep Be
      replace hMQ := MStP.ext X19 hMQ
      replace E := E.ext X19
      have htg : top ≤ g ∧ bq < g := ⟨by omega, by omega⟩
      obtain ⟨rb, ro, rc, hu, hcell, hrc⟩ := hMQ.row hxr (by rw [hrows, mapS_len, hok1]) hrl (by omega)
      refine WpL_val rfl rfl (by decide) (r_assign (v := (.slice (some ⟨g, 0, none⟩) 3 3)) rfl) ?_
      refine WpL_nil ?_
      refine Wp_seq_region ?_
      refine WpL_val rfl rfl (by decide) (r_move (v := (.slice (some ⟨g, 0, none⟩) 3 3)) rfl) ?_
      refine WpL_val rfl rfl (by decide) (r_fieldAddr (b := bq) (o := 0) (o' := 2) rfl Try.underlying25 rfl siz23 rfl) ?_
      refine WpL_val rfl rfl (by decide) (r_load (v := (.slice (some ⟨gn, 0, none⟩) n nc)) rfl flat23 (Bq.cell rfl)) ?_
      refine WpL_val rfl rfl (by decide) (r_move (v := (.int .i64 ((s : Nat) : Int))) rfl) ?_
      refine WpL_val rfl rfl (by decide) (r_indexSlice (b := gn) (o := 0) (len := n) (cap := nc) (i := s) (o' := 0 + s) rfl rfl rfl Try.underlying23 siz22 (by omega) (by omega)) ?_
      refine WpL_val rfl rfl (by decide) (r_load (v := (.slice (some ⟨rb, ro, none⟩) c rc)) rfl flat22 (hcell)) ?_
      refine s_copy (g := g) (o := 0) (cs := row.map (Value.int .i64)) (c' := ((padR 3 row).map (Value.int .i64)).toArray) (by decide) Try.underlying22 siz3 rfl rfl hG (hrc) (by rw [List.length_map, hrl]; simp only [Nat.min_def]; split <;> omega) (by simp [hrl]; omega) (by intro v hv; obtain ⟨y, _, rfl⟩ := List.mem_map.1 hv; rfl) (pad_copy (by omega)) ?_
      intro w5 S5
      replace hMQ := MStP.chg S5.chg (fun y h => .inr (by have h' : y = g := h; omega)) hMQ
      replace Br := S5.keep (by omega) Br
      replace Bq := S5.keep (by omega) Bq
      replace E := S5.step E (by first | exact Or.inl (by omega) | exact Or.inr rfl | exact Or.inr (by assumption) | exact Or.inr (by simp) | exact Or.inr (by omega) | exact Or.inr (by dsimp only; omega))
      replace hG := S5.blk
      obtain ⟨curN, hBn, hcsN⟩ := own_blkG hMQ.2.1
      have hB1 := hBn
      have hPy : True := trivial
      have hgl := hG.lt
      have hGi : SlIn (fun y => y = g) (w5) 1 (.slice (some ⟨g, 0, none⟩) 3 3) ((padR 3 row).map intV) := SlIn.mk (blk_ints hG (by simp [padR]; omega)) rfl
      refine WpL_nil ?_
      refine Wp_region ?_
      refine WpL_val rfl rfl (by decide) (r_fieldAddr (b := bq) (o := 0) (o' := 2) rfl Try.underlying25 rfl siz23 rfl) ?_
      refine WpL_val rfl rfl (by decide) (r_load (v := (.slice (some ⟨gn, 0, none⟩) n nc)) rfl flat23 (Bq.cell rfl)) ?_
      refine WpL_val rfl rfl (by decide) (r_move (v := (.int .i64 ((s : Nat) : Int))) rfl) ?_
      refine WpL_val rfl rfl (by decide) (r_move (v := (.slice (some ⟨g, 0, none⟩) 3 3)) rfl) ?_
      refine WpL_val rfl rfl (by decide) (r_indexSlice (b := gn) (o := 0) (len := n) (cap := nc) (i := s) (o' := 0 + s) rfl rfl rfl Try.underlying23 siz22 (by omega) (by omega)) ?_
      refine s_store (b := gn) (o := 0 + s) (c' := curN.setIfInBounds (0 + s) (.slice (some ⟨g, 0, none⟩) 3 3)) (v := (.slice (some ⟨g, 0, none⟩) 3 3)) rfl rfl rfl siz22 hBn (by omega) (rfl) ?_
      intro w6 S6
      replace hPy := S6
      replace Br := S6.keep (by omega) Br
      replace Bq := S6.keep (by omega) Bq
      replace hG := S6.keep (by omega) hG
      replace E := S6.step E (by first | exact Or.inl (by omega) | exact Or.inr rfl | exact Or.inr (by assumption) | exact Or.inr (by simp) | exact Or.inr (by omega) | exact Or.inr (by dsimp only; omega))
      replace hBn := S6.blk
      have hMR := hMQ.setN hB1 (i := 0 + s) (by omega) hPy hGi ⟨htg.1, hgl⟩ (by omega)
      rw [Nat.zero_add, hrows, mapS_set hrow] at hMR
      refine WpL_nil ?_
      refine inB_normal ?_
      refine thn_normal ?_
      refine Wp_region ?_
      refine WpL_val rfl rfl (by decide) (r_add (k := .i64) (a := ((s : Nat) : Int)) (b := 1) (c := ((s : Nat) : Int) + 1) rfl rfl (wI64 (by omega))) ?_
      refine WpL_val rfl rfl (by decide) (r_move (v := (.int .i64 (((s : Nat) : Int) + 1))) rfl) ?_
      refine WpL_nil ?_
      refine thn_normal ?_
      exact ⟨n - (s + 1), by omega, s + 1, _, mapS min0 d.accept (s + 1), mapS (padR 3) d.next (s + 1), Fits.out ⟨rfl, rfl, rfl, rfl, rfl, trivial⟩, E, Br, Bq, (by omega), rfl, rfl, ⟨_, _, hMR⟩, rfl⟩
    · have khlt := hlt
      replace hlt := of_decide_eq_false hlt
      have hsn : s = n := by omega
      rw [hsn, ← hok2, mapS_all] at hacc
      rw [hsn, ← hok1, mapS_all] at hrows
      rw [hacc, hrows] at hM
      obtain ⟨hpk, hpa⟩ := plD_ok hok (m := 3) (by omega) (by omega)
      refine Wp_exit ?_
      refine thn_exit ?_
      refine thn_exit ?_
      refine inB_here ?_
      refine thn_normal ?_
      refine Wp_seq_region ?_
      refine WpL_val rfl rfl (by decide) (r_loadAgg (vs := [(.int .i64 d.start), (.slice (some ⟨ga, 0, none⟩) n ac), (.slice (some ⟨gn, 0, none⟩) n nc)]) rfl agg25 siz25 rfl (Bq.cells rfl)) ?_
      refine s_storeAgg (b := br) (o := 0) (c' := #[(.int .i64 d.start), (.slice (some ⟨ga, 0, none⟩) n ac), (.slice (some ⟨gn, 0, none⟩) n nc)]) rfl rfl (by simp [Value.oneCell']) siz25 rfl Br (by simp) rfl ?_
      intro w7 S7
      replace hM := hM.chg S7.chg (fun y h => .inl (by have h' : y = br := h; omega))
      replace Bq := S7.keep (by omega) Bq
      replace E := S7.step E (by first | exact Or.inl (by omega) | exact Or.inr rfl | exact Or.inr (by assumption) | exact Or.inr (by simp) | exact Or.inr (by omega) | exact Or.inr (by dsimp only; omega))
      replace Br := S7.blk
      refine WpL_nil ?_
      refine Wp_ret ?_
      refine fin_agg Try.results21 (vs := [(.int .i64 d.start), (.slice (some ⟨ga, 0, none⟩) n ac), (.slice (some ⟨gn, 0, none⟩) n nc)]) (b := br) rfl agg25 siz25 rfl (Br.cells rfl) ?_
      exact ⟨⟨n, plD 3 d, [.int .i64 d.start, .slice (some ⟨ga, 0, none⟩) n ac, .slice (some ⟨gn, 0, none⟩) n nc], hn, hpk, hpa, rfl, MSt.done (start := d.start) hM (by simp; omega) (by simp; omega)⟩, E⟩
end Go.Proofs
namespace Go.Proofs
open Go Go.Eng Go.Sort
set_option maxRecDepth 100000
set_option maxHeartbeats 400000 in
theorem eql2_c (w0 : World) (v1 v2 : Value) (l1 l2 : List Int) (h1 : IntsAt w0 v1 l1) (h2 : IntsAt w0 v2 l2) :
    Ret Try.prog 28 #[v1, v2] w0 fun v w => v = .bool (decide (l1 = l2)) ∧ Ext w0 w := by
  obtain ⟨a1, c1, rfl⟩ := SlAt.form h1
  obtain ⟨a2, c2, rfl⟩ := SlAt.form h2
  have hb1 : l1.length ≤ 9223372036854775807 := by simpa using SlAt.le h1
  simp only [List.length_map] at h1 h2 ⊢
  refine Ret_of Try.func28 rfl Try.ntmps28 (Nat.le_of_ble_eq_true rfl) ?_
  have E : Chg none1 w0 w0 := Chg.refl _ _
  refine Wp_seq_region ?_
  refine WpL_val rfl rfl (by decide) (r_assign (v := (.bool false)) rfl) ?_
  refine WpL_nil ?_
  refine Wp_seq ?_
  refine Wp_seq_region ?_
  refine WpL_val rfl rfl (by decide) (r_move (v := (.slice a1 l1.length c1)) rfl) ?_
  refine WpL_val rfl rfl (by decide) (r_lenSlice (ad := a1) (n := l1.length) (cap := c1) Try.underlying22 rfl) ?_
  refine WpL_val rfl rfl (by decide) (r_move (v := (.slice a2 l2.length c2)) rfl) ?_
  refine WpL_val rfl rfl (by decide) (r_lenSlice (ad := a2) (n := l2.length) (cap := c2) Try.underlying22 rfl) ?_
  refine WpL_val rfl rfl (by decide) (r_neq (k := .i64) (a := ((l1.length : Nat) : Int)) (b := ((l2.length : Nat) : Int)) rfl rfl) ?_
  refine WpL_nil ?_
  refine Wp_cond (b := decide ((((l1.length : Nat) : Int) : Int) ≠ ((l2.length : Nat) : Int))) rfl (fun hl => ?_) (fun hl => ?_)
  · have khl := hl
    replace hl := of_decide_eq_true hl
    refine Wp_seq_region ?_
    refine WpL_val rfl rfl (by decide) (r_assign (v := (.bool false)) rfl) ?_
    refine WpL_nil ?_
    refine Wp_ret ?_
    refine thn_ret ?_
    refine fin_tmp Try.results28 (v := (.bool false)) rfl ?_
    exact ⟨bool_eq (by symm; rw [decide_eq_false_iff_not]; intro h; rw [h] at hl; exact hl rfl), E⟩
  · have khl := hl
    replace hl := of_decide_eq_false hl
    refine Wp_skip ?_
    refine thn_normal ?_
    refine Wp_seq ?_
    refine Wp_seq_region ?_
    refine WpL_val rfl rfl (by decide) (r_move (v := (.slice a1 l1.length c1)) rfl) ?_
    refine WpL_val rfl rfl (by decide) (r_lenSlice (ad := a1) (n := l1.length) (cap := c1) Try.underlying22 rfl) ?_
    refine WpL_val rfl rfl (by decide) (r_move (v := (.int .i64 0)) rfl) ?_
    refine WpL_nil ?_
    refine Wp_block ?_
    refine Wp_loop (fun nn_ σ W2 => ∃ (k : Nat), (∃ jj_, σ = upds jj_ [(0, (.slice a1 l1.length c1)), (1, (.slice a2 l2.length c2)), (12, (.int .i64 ((l1.length : Nat) : Int))), (13, (.int .i64 ((k : Nat) : Int)))]) ∧ Chg none1 w0 W2 ∧ (k ≤ l1.length) ∧ (∀ (i : Nat), i < k → l1[i]? = l2[i]?) ∧ nn_ = l1.length - k) (n := l1.length - 0) ?_ ?_
    · exact ⟨0, Fits.out ⟨rfl, rfl, rfl, rfl, trivial⟩, E, Nat.zero_le _, (fun i h => absurd h (Nat.not_lt_zero _)), rfl⟩
    · clear E
      rintro _ _ W2 ⟨k, ⟨j2, rfl⟩, E, hk, heq, rfl⟩
      refine Wp_seq_region ?_
      refine WpL_val rfl rfl (by decide) (r_lss (k := .i64) (a := ((k : Nat) : Int)) (b := ((l1.length : Nat) : Int)) rfl rfl) ?_
      refine WpL_nil ?_
      refine Wp_seq ?_
      refine Wp_cond (b := decide ((((k : Nat) : Int) : Int) < ((l1.length : Nat) : Int))) rfl (fun hlt => ?_) (fun hlt => ?_)
      · have khlt := hlt
        replace hlt := of_decide_eq_true hlt
        obtain ⟨p, hp⟩ := get_of_lt (l := l1) (i := k) (by omega)
        obtain ⟨q, hq⟩ := get_of_lt (l := l2) (i := k) (by omega)
        obtain ⟨b1, o1, rfl, hc1⟩ := ints_cells h1 (by omega)
        obtain ⟨b2, o2, rfl, hc2⟩ := ints_cells h2 (by omega)
        refine Wp_skip ?_
        refine thn_normal ?_
        refine Wp_seq ?_
        refine Wp_block ?_
        refine Wp_seq_region ?_
        refine WpL_val rfl rfl (by decide) (r_move (v := (.int .i64 ((k : Nat) : Int))) rfl) ?_
        refine WpL_val rfl rfl (by decide) (r_assign (v := (.int .i64 ((k : Nat) : Int))) rfl) ?_
        refine WpL_nil ?_
        refine Wp_seq_draw 8 mixed (by kernel_rfl) ?_
        intro w4 X4 _
        replace E := E.ext X4
        refine WpT_val rfl rfl (by decide) (r_move (v := (.slice (some ⟨b1, o1, none⟩) l1.length c1)) rfl) ?_
        refine WpT_val rfl rfl (by decide) (r_move (v := (.int .i64 ((k : Nat) : Int))) rfl) ?_
        refine WpT_val rfl rfl (by decide) (r_indexSlice (b := b1) (o := o1) (len := l1.length) (cap := c1) (i := k) (o' := o1 + k) rfl rfl rfl Try.underlying22 siz3 (by omega) (by omega)) ?_
        refine WpT_val rfl rfl (by decide) (r_load (v := (.int .i64 p)) rfl flat3 (E.cell (fun f => f) (hc1 k p hp))) ?_
        refine WpT_val rfl rfl (by decide) (r_move (v := (.slice (some ⟨b2, o2, none⟩) l2.length c2)) rfl) ?_
        refine WpT_val rfl rfl (by decide) (r_move (v := (.int .i64 ((k : Nat) : Int))) rfl) ?_
        refine WpT_val rfl rfl (by decide) (r_indexSlice (b := b2) (o := o2) (len := l2.length) (cap := c2) (i := k) (o' := o2 + k) rfl rfl rfl Try.underlying22 siz3 (by omega) (by omega)) ?_
        refine WpT_val rfl rfl (by decide) (r_load (v := (.int .i64 q)) rfl flat3 (E.cell (fun f => f) (hc2 k q hq))) ?_
        refine WpT_zero ?_
        refine WpL_val rfl rfl (by decide) (r_neq (k := .i64) (a := p) (b := q) rfl rfl) ?_
        refine WpL_nil ?_
        refine Wp_cond (b := decide ((p : Int) ≠ q)) rfl (fun hpq => ?_) (fun hpq => ?_)
        · have khpq := hpq
          replace hpq := of_decide_eq_true hpq
          refine Wp_seq_region ?_
          refine WpL_val rfl rfl (by decide) (r_assign (v := (.bool false)) rfl) ?_
          refine WpL_nil ?_
          refine Wp_ret ?_
          refine inB_ret ?_
          refine thn_ret ?_
          refine thn_ret ?_
          refine inB_ret ?_
          refine thn_ret ?_
          refine fin_tmp Try.results28 (v := (.bool false)) rfl ?_
          exact ⟨bool_eq (by symm; rw [decide_eq_false_iff_not]; intro h; subst h; rw [hp] at hq; cases hq; exact hpq rfl), E⟩
        · have khpq := hpq
          replace hpq := of_decide_eq_false hpq
          have hpq2 : p = q := by omega
          refine Wp_skip ?_
          refine inB_normal ?_
          refine thn_normal ?_
          refine Wp_region ?_
          refine WpL_val rfl rfl (by decide) (r_add (k := .i64) (a := ((k : Nat) : Int)) (b := 1) (c := ((k : Nat) : Int) + 1) rfl rfl (wI64 (by omega))) ?_
          refine WpL_val rfl rfl (by decide) (r_move (v := (.int .i64 (((k : Nat) : Int) + 1))) rfl) ?_
          refine WpL_nil ?_
          refine thn_normal ?_
          exact ⟨l1.length - (k + 1), by omega, k + 1, Fits.out ⟨rfl, rfl, rfl, rfl, trivial⟩, E, (by omega), (fun i hi => by rcases Nat.lt_or_ge i k with h | h; exact heq i h; obtain rfl : i = k := (by omega); rw [hp, hq, hpq2]), rfl⟩
      · have khlt := hlt
        replace hlt := of_decide_eq_false hlt
        have hkk : k = l1.length := by omega
        refine Wp_exit ?_
        refine thn_exit ?_
        refine thn_exit ?_
        refine inB_here ?_
        refine thn_normal ?_
        refine Wp_seq_region ?_
        refine WpL_val rfl rfl (by decide) (r_assign (v := (.bool true)) rfl) ?_
        refine WpL_nil ?_
        refine Wp_ret ?_
        refine fin_tmp Try.results28 (v := (.bool true)) rfl ?_
        exact ⟨bool_eq (by symm; rw [decide_eq_true_eq]; exact get_ext (by omega) (fun i hi => heq i (by omega))), E⟩
def evnD : Dfa := ⟨0, [0, -1], [[1], [0]]⟩
theorem evn_c (w0 : World) : Ret Try.prog 27 #[] w0 fun r w => (∃ vs, r = .agg vs.toArray ∧ DfaAt w evnD vs) ∧ Ext w0 w := by
  refine Ret_of Try.func27 rfl Try.ntmps27 (Nat.le_of_ble_eq_true rfl) ?_
  have E : Chg none1 w0 w0 := Chg.refl _ _
  refine Wp_seq_region ?_
  refine s_alloc (c := #[(.int .i64 0), (.slice none 0 0), (.slice none 0 0)]) (by decide) zer25 rfl ?_
  intro bt wt Nt
  have Ft := Nt.ge E
  replace E := E.ext Nt.ext
  have Bt := Nt.blk
  refine WpL_nil ?_
  refine Wp_seq_region ?_
  refine s_buildSlice (ps := [(0, (.int .i64 0)), (1, (.int .i64 (-1)))]) (c := #[(.int .i64 0), (.int .i64 (-1))]) (by decide) rfl Try.underlying22 siz3 zer3 (by decide) (by decide) (by kernel_rfl) ?_
  intro ba wa Na
  have Fa := Na.ge E
  have Oa_bt := Na.lt Bt
  replace Bt := Na.keep Bt
  replace E := E.ext Na.ext
  have Ba := Na.blk
  refine s_buildSlice (ps := [(0, (.int .i64 1))]) (c := #[(.int .i64 1)]) (by decide) rfl Try.underlying22 siz3 zer3 (by decide) (by decide) (by kernel_rfl) ?_
  intro bp wp Np
  have Fp := Np.ge E
  have Op_bt := Np.lt Bt
  have Op_ba := Np.lt Ba
  replace Bt := Np.keep Bt
  replace Ba := Np.keep Ba
  replace E := E.ext Np.ext
  have Bp := Np.blk
  refine s_buildSlice (ps := [(0, (.int .i64 0))]) (c := #[(.int .i64 0)]) (by decide) rfl Try.underlying22 siz3 zer3 (by decide) (by decide) (by kernel_rfl) ?_
  intro bq wq Nq
  have Fq := Nq.ge E
  have Oq_bt := Nq.lt Bt
  have Oq_ba := Nq.lt Ba
  have Oq_bp := Nq.lt Bp
  replace Bt := Nq.keep Bt
  replace Ba := Nq.keep Ba
  replace Bp := Nq.keep Bp
  replace E := E.ext Nq.ext
  have Bq := Nq.blk
  refine s_buildSlice (ps := [(0, (.slice (some ⟨bp, 0, none⟩) 1 1)), (1, (.slice (some ⟨bq, 0, none⟩) 1 1))]) (c := #[(.slice (some ⟨bp, 0, none⟩) 1 1), (.slice (some ⟨bq, 0, none⟩) 1 1)]) (by decide) rfl Try.underlying23 siz22 zer22 (by decide) (by decide) (by kernel_rfl) ?_
  intro bn wn Nn
  have Fn := Nn.ge E
  have On_bt := Nn.lt Bt
  have On_ba := Nn.lt Ba
  have On_bp := Nn.lt Bp
  have On_bq := Nn.lt Bq
  replace Bt := Nn.keep Bt
  replace Ba := Nn.keep Ba
  replace Bp := Nn.keep Bp
  replace Bq := Nn.keep Bq
  replace E := E.ext Nn.ext
  have Bn := Nn.blk
  refine WpL_val rfl rfl (by decide) (r_build (ps := [(1, (.slice (some ⟨ba, 0, none⟩) 2 2)), (2, (.slice (some ⟨bn, 0, none⟩) 2 2))]) (v := (.agg #[(.int .i64 0), (.slice (some ⟨ba, 0, none⟩) 2 2), (.slice (some ⟨bn, 0, none⟩) 2 2)])) rfl (by kernel_rfl)) ?_
  refine s_storeAgg (b := bt) (o := 0) (c' := #[(.int .i64 0), (.slice (some ⟨ba, 0, none⟩) 2 2), (.slice (some ⟨bn, 0, none⟩) 2 2)]) rfl rfl (by simp [Value.oneCell']) siz25 rfl Bt (by simp) rfl ?_
  intro w1 S1
  replace Ba := S1.keep (by omega) Ba
  replace Bp := S1.keep (by omega) Bp
  replace Bq := S1.keep (by omega) Bq
  replace Bn := S1.keep (by omega) Bn
  replace E := S1.step E (by first | exact Or.inl (by omega) | exact Or.inr rfl | exact Or.inr (by assumption) | exact Or.inr (by simp) | exact Or.inr (by omega) | exact Or.inr (by dsimp only; omega))
  replace Bt := S1.blk
  refine WpL_nil ?_
  refine Wp_ret ?_
  refine fin_agg Try.results27 (vs := [(.int .i64 0), (.slice (some ⟨ba, 0, none⟩) 2 2), (.slice (some ⟨bn, 0, none⟩) 2 2)]) (b := bt) rfl agg25 siz25 rfl (Bt.cells rfl) ?_
  refine ⟨⟨_, rfl, ?_⟩, E⟩
  refine ⟨_, _, _, _, rfl, ints_own (l := [0, -1]) (rest := []) Ba (by decide) (by decide), [.slice (some ⟨bp, 0, none⟩) 1 1, .slice (some ⟨bq, 0, none⟩) 1 1], ⟨_, _, rfl, by simp, by simp, .inr ⟨bn, 0, rfl, ?_⟩⟩, rfl, ?_⟩
  · intro i r hr
    rcases i with _ | _ | i
    · simp at hr; subst hr
      intro j u hu
      cases j with
      | zero => simp at hu; subst hu; exact Bn.cell rfl
      | succ j => simp at hu
    · simp at hr; subst hr
      intro j u hu
      cases j with
      | zero => simp at hu; subst hu; exact Bn.cell rfl
      | succ j => simp at hu
    · simp at hr
  · intro i u l hu hl
    rcases i with _ | _ | i
    · simp [evnD] at hu hl; subst hu; subst hl; exact ints_own (l := [1]) (rest := []) Bp (by decide) (by decide)
    · simp [evnD] at hu hl; subst hu; subst hl; exact ints_own (l := [0]) (rest := []) Bq (by decide) (by decide)
    · simp at hu
theorem plain_d (w0 : World) (v : Value) (l : List Int) (hl : IntsAt w0 v l) :
    Ret Try.prog 21 #[v, .int .i64 3] w0 fun r w => (∃ n d aa ac na nc, (1 ≤ n ∧ n ≤ 6) ∧ OkD n 3 d ∧ (∀ x ∈ d.accept, x ≤ 0) ∧ r = .agg #[.int .i64 d.start, .slice aa n ac, .slice na n nc] ∧ DfaAt w d [.int .i64 d.start, .slice aa n ac, .slice na n nc]) ∧ Ext w0 w :=
  (plain_c w0 v l hl).mono fun r w h => by
    obtain ⟨⟨n, d, vs, h1, h2, h3, rfl, h4⟩, h5⟩ := h
    have h4' := h4
    obtain ⟨aa, ac, na, nc, rfl, _, _⟩ := h4
    rw [h2.nl, h2.al] at h4'
    exact ⟨⟨n, d, aa, ac, na, nc, h1, h2, h3, by rw [h2.nl, h2.al], h4'⟩, h5⟩
theorem evn_ok : OkD 2 1 evnD := ⟨rfl, rfl, by decide, by decide, by decide⟩
/-- What Least gives, in one form. -/
def LstW (n c : Nat) (f : List Nat → Int) (l : List Nat) (s : Bool) : Prop := (s = true → LeastOf c f l ∧ l.length < n) ∧ (s = false → l = [] ∧ ∀ u, inW c u → f u < 0)
theorem LstW.inw {n c : Nat} {f : List Nat → Int} {l : List Nat} {s : Bool} (h : LstW n c f l s) (hn : 1 ≤ n) : inW c l ∧ l.length < n := by
  cases s with
  | true => exact ⟨(h.1 rfl).1.inw, (h.1 rfl).2⟩
  | false => rw [(h.2 rfl).1]; exact ⟨inW.nil c, hn⟩
theorem LstW.cnt {n c : Nat} {f : List Nat → Int} {l : List Nat} {s : Bool} (h : LstW n c f l s) {k : Nat} (hk : k < l.length) : cntF c k f = 0 := by
  have hm : ∀ u, inW c u → u.length = k → f u < 0 := fun u hu hl => by
    cases s with
    | true => exact (h.1 rfl).1.min u hu (by omega)
    | false => exact (h.2 rfl).2 u hu
  rcases Int.lt_or_le 0 (cntF c k f) with h1 | h1
  · obtain ⟨u, h2, h3, h4⟩ := cntF_some h1
    have := hm u h3 h2
    omega
  · have := cntF_nn (c := c) (k := k) (f := f); omega
theorem toI_rng {c : Nat} {l : List Nat} (h : inW c l) : ∀ x ∈ toI l, 0 ≤ x ∧ x < c := fun x hx => by
  obtain ⟨y, hy, rfl⟩ := List.mem_map.1 hx
  have := h y hy
  omega
end Go.Proofs
namespace Go.Eng
open Go
theorem DoesT_callV {M : Nat → Prop} {P : Program} {N : Nat} {σ : Env} {w : World} {dst : Option Tmp} {z : Operand} {args : List Operand} {tys : Array TypeId} {ty : TypeId} {pos : String} {af : Array Edge} {g : Option (Nat × Bool)} {fv : Value} {vs : List Value} {R : Fct}
    (hz : ev σ z = fv) (ha : args.map (ev σ) = vs) (hc : CallV P fv vs.toArray w fun v w' => R v w' ∧ Chg M w w') : DoesT M P N ⟨dst, .call ⟨.value z, args.toArray, tys⟩, ty, pos, af, g⟩ R σ w := by
  obtain ⟨f, fn, first, cap, rfl, hf, hn, hb, hr⟩ := hc
  exact DoesT_enter (r_callV hz hf hn hb ha rfl) hr
theorem keyOfEq {P : Program} {kt : TypeId} {κ : Type} [DecidableEq κ] {ek : κ → Value} (hwide : (match P.underlying kt with | some (.array _ _) | some (.struct _) => true | _ => false) = true)
    (hchk : ∀ (b : Bool) (w : World) (k : κ), (Instr.checkKey b 10000 kt (ek k)).run P w = .ok () w) (heq : ∀ (w : World) (a b : κ), (Op.equal kt (ek a) (ek b)).run P w = .ok (decide (a = b)) w) (hsame : ∀ k, Instr.sameBits 10000 (ek k) (ek k) = true) : KeyOk P kt ek where
  check := hchk
  same := hsame
  find := fun ν w k es eV L hL => by
    have key : ∀ (L : List MapEntry) (es : List (κ × ν)) (i : Nat), L.map (fun e => (e.key, e.val)) = es.map (fun p => (ek p.1, eV p.2)) → (Instr.findAsking kt (ek k) L i).run P w = .ok (findM eV es k i) w := by
      intro L
      induction L with
      | nil =>
        intro es i h
        cases es with
        | nil => rfl
        | cons _ _ => simp at h
      | cons e L ih =>
        intro es i h
        cases es with
        | nil => simp at h
        | cons p es =>
          simp only [List.map_cons, List.cons.injEq, Prod.mk.injEq] at h
          obtain ⟨⟨h1, h2⟩, h3⟩ := h
          unfold Instr.findAsking findM
          simp only [Sem.run_bind, h1, heq, Result.andThen_ok]
          by_cases hk : p.1 = k
          · rw [if_pos hk, hk]; simp [h2]
          · rw [if_neg hk, show decide (k = p.1) = false by simpa using fun h => hk h.symm]
            exact ih es (i + 1) h3
    rw [run_findKey_eq w hwide]
    exact key L es 0 hL
theorem eqArr2 {P : Program} {t e : TypeId} {i : TypeInfo} (hu : P.underlying t = some (.array 2 e)) (he : P.underlying e = some (.int .i64)) (hi : P.info? e = some i) (hc : P.cellsOf e = 1) (w : World) (a b : Int × Int) : (Op.equal t (kPair a) (kPair b)).run P w = .ok (decide (a = b)) w := by
  have hp : P.plainKey e = true := by simp [Program.plainKey, he]
  have hq0 : ∀ (d : Nat) (x y : Int), (Op.equalIn (d + 1) e (.int .i64 x) (.int .i64 y)).run P w = .ok (x == y) w := fun d x y => by
    simp [Op.equalIn, run_underlying he]
  have hq : ∀ x y : Int, (Op.equalIn 9999 e (.int .i64 x) (.int .i64 y)).run P w = .ok (x == y) w := hq0 9998
  show (Op.equalIn (9999 + 1) t (.agg #[.int .i64 a.1, .int .i64 a.2]) (.agg #[.int .i64 b.1, .int .i64 b.2])).run P w = _
  rw [run_equalIn_array w 9999 _ _ hu hi, hc, show List.range 2 = [0, 1] from rfl]
  obtain ⟨a1, a2⟩ := a
  obtain ⟨b1, b2⟩ := b
  have p1 : ∀ (x y : Int), (part e #[.int .i64 x, .int .i64 y] 0).run P w = .ok (.int .i64 x) w := fun x y => run_part_plain w hp rfl
  have p2 : ∀ (x y : Int), (part e #[.int .i64 x, .int .i64 y] 1).run P w = .ok (.int .i64 y) w := fun x y => run_part_plain w hp rfl
  simp only [Op.eqItems, Sem.run_bind, Nat.zero_mul, Nat.one_mul, p1, p2, Result.andThen_ok, hq, Prod.mk.injEq]
  by_cases h1 : a1 = b1
  · by_cases h2 : a2 = b2
    · simp [h1, h2, p2, hq]
    · simp [h1, h2, p2, hq, show (a2 == b2) = false by simpa using h2]
  · simp [h1, show (a1 == b1) = false by simpa using h1]
theorem same_pair (k : Int × Int) : Instr.sameBits 10000 (kPair k) (kPair k) = true := by
  show Instr.sameBits (9999 + 1) (.agg _) (.agg _) = true
  simp [Instr.sameBits]
end Go.Eng
namespace Go.Proofs
open Go Go.Eng Go.Sort
set_option maxRecDepth 100000
--BEGIN
section
variable {α : Type}
def keysG : List α → Nat → List (α × Int)
  | [], _ => []
  | m :: ks, n => (m, ((n : Nat) : Int)) :: keysG ks (n + 1)
theorem keysG_snoc : ∀ (ks : List α) (m : α) (n : Nat), keysG (ks ++ [m]) n = keysG ks n ++ [(m, (((n + ks.length : Nat) : Nat) : Int))]
  | [], m, n => rfl
  | x :: ks, m, n => by
    show (x, _) :: keysG (ks ++ [m]) (n + 1) = (x, _) :: (keysG ks (n + 1) ++ _)
    rw [keysG_snoc ks m (n + 1), List.length_cons, show n + 1 + ks.length = n + (ks.length + 1) by omega]
theorem keysG_mem : ∀ {ks : List α} {n : Nat} {q : α × Int}, q ∈ keysG ks n → ∃ (j : Nat) (m : α), ks[j]? = some m ∧ q = (m, (((n + j : Nat) : Nat) : Int))
  | [], _, _, h => by cases h
  | x :: ks, n, q, h => by
    rcases List.mem_cons.1 h with h | h
    · exact ⟨0, x, rfl, h⟩
    · obtain ⟨j, m, h1, h2⟩ := keysG_mem h
      exact ⟨j + 1, m, h1, by rw [h2]; congr 2; omega⟩
theorem keysG_key : ∀ {ks : List α} {n : Nat} {m : α}, m ∈ ks → m ∈ (keysG ks n).map (·.1)
  | x :: ks, n, m, h => by
    rcases List.mem_cons.1 h with rfl | h
    · exact List.mem_cons_self
    · exact List.mem_cons_of_mem _ (keysG_key (n := n + 1) h)
variable [DecidableEq α]
theorem keysG_get {ks : List α} {m : α} {v : Int} (h : getM (keysG ks 0) m = some v) : ∃ j : Nat, v = ((j : Nat) : Int) ∧ ks[j]? = some m := by
  obtain ⟨j, m', h1, h2⟩ := keysG_mem (getM_some_mem h)
  simp only [Prod.mk.injEq, Nat.zero_add] at h2
  exact ⟨j, h2.2, by rw [h1, h2.1]⟩
theorem keysG_none {ks : List α} {m : α} (h : getM (keysG ks 0) m = none) : m ∉ ks ∧ putM (keysG ks 0) m ((ks.length : Nat) : Int) = keysG (ks ++ [m]) 0 := by
  refine ⟨fun hm => ?_, ?_⟩
  · have := getM_isSome.2 (keysG_key (n := 0) hm)
    rw [h] at this; cases this
  · rw [putM_none _ h, keysG_snoc, Nat.zero_add]
end
section
variable {α : Type}
/-- An entry of a row: the number of the key that follows, or -1. -/
def EntX (stp : α → Nat → Option α) (keys : List α) (k : α) (x : Nat) (y : Int) : Prop := match stp k x with | none => y = -1 | some b => ∃ j : Nat, y = ((j : Nat) : Int) ∧ keys[j]? = some b
theorem EntX.mono {stp : α → Nat → Option α} {keys : List α} {k : α} {x : Nat} {y : Int} (h : EntX stp keys k x y) (u : List α) : EntX stp (keys ++ u) k x y := by
  unfold EntX at h ⊢
  cases hs : stp k x with
  | none => rw [hs] at h; exact h
  | some b => rw [hs] at h; obtain ⟨j, h1, h2⟩ := h; exact ⟨j, h1, by rw [List.getElem?_append_left (lt_of_get h2)]; exact h2⟩
structure ExpP (c : Nat) (stp : α → Nat → Option α) (a0 : α) (keys : List α) (rows : List (List Int)) (row : List Int) : Prop where
  k0 : keys[0]? = some a0
  nd : keys.Nodup
  rch : ∀ k ∈ keys, ∃ w, inW c w ∧ runO stp a0 w = some k
  len : ∀ r ∈ rows, r.length = c
  ent : ∀ (i x : Nat) r y k, rows[i]? = some r → r[x]? = some y → keys[i]? = some k → EntX stp keys k x y
  cur : ∀ (x : Nat) y k, row[x]? = some y → keys[rows.length]? = some k → EntX stp keys k x y
variable {c : Nat} {stp : α → Nat → Option α} {a0 : α} {keys : List α} {rows : List (List Int)} {row : List Int}
theorem ExpP.start (c : Nat) (stp : α → Nat → Option α) (a0 : α) : ExpP c stp a0 [a0] [] [] := by
  refine ⟨rfl, by simp, fun k hk => ?_, fun r h => (by cases h), fun i x r y k h => by simp at h, fun x y k h => by simp at h⟩
  rw [List.mem_singleton] at hk
  subst hk
  exact ⟨[], inW.nil c, rfl⟩
theorem ExpP.add {k : α} {y : Int} (h : ExpP c stp a0 keys rows row) (hk : keys[rows.length]? = some k) (hE : EntX stp keys k row.length y) : ExpP c stp a0 keys rows (row ++ [y]) := by
  refine { h with cur := fun x z q hx hq => ?_ }
  rcases snoc_get hx with h1 | ⟨h1, h2⟩
  · exact h.cur x z q h1 hq
  · rw [hk] at hq; cases hq
    rw [h1, h2]; exact hE
theorem ExpP.new {k b : α} (h : ExpP c stp a0 keys rows row) (hk : keys[rows.length]? = some k) (hx : row.length < c) (hs : stp k row.length = some b) (hb : b ∉ keys) : ExpP c stp a0 (keys ++ [b]) rows (row ++ [((keys.length : Nat) : Int)]) := by
  have hkl := lt_of_get hk
  have hE : EntX stp (keys ++ [b]) k row.length ((keys.length : Nat) : Int) := by
    unfold EntX; rw [hs]; exact ⟨keys.length, rfl, by simp⟩
  refine ⟨by rw [List.getElem?_append_left (lt_of_get h.k0)]; exact h.k0, ?_, fun q hq => ?_, h.len, fun i x r y q hr hy hq => ?_, fun x z q hz hq => ?_⟩
  · rw [List.nodup_append]
    refine ⟨h.nd, by simp, fun p hp q hq => ?_⟩
    rw [List.mem_singleton] at hq
    subst hq
    exact fun e => hb (e ▸ hp)
  · rcases List.mem_append.1 hq with h1 | h1
    · exact h.rch q h1
    · rw [List.mem_singleton] at h1
      subst h1
      obtain ⟨w, h2, h3⟩ := h.rch k (List.mem_of_getElem? hk)
      exact ⟨w ++ [row.length], h2.snoc hx, by rw [runO_snoc, h3]; exact hs⟩
  · rcases snoc_get hq with h1 | ⟨h1, _⟩
    · exact (h.ent i x r y q hr hy h1).mono _
    · have := lt_of_get hr; omega
  · have hq2 : q = k := by
      rw [List.getElem?_append_left hkl, hk] at hq
      exact (Option.some.inj hq).symm
    subst hq2
    rcases snoc_get hz with h1 | ⟨h1, h2⟩
    · exact (h.cur x z q h1 hk).mono _
    · rw [h1, h2]; exact hE
theorem ExpP.rowed (h : ExpP c stp a0 keys rows row) (hl : row.length = c) : ExpP c stp a0 keys (rows ++ [row]) [] := by
  refine ⟨h.k0, h.nd, h.rch, fun r hm => ?_, fun i x r y s h1 h2 h3 => ?_, fun x y s h1 => by simp at h1⟩
  · rcases List.mem_append.1 hm with h1 | h1
    · exact h.len r h1
    · rw [List.mem_singleton] at h1; rw [h1]; exact hl
  · rcases snoc_get h1 with h4 | ⟨h4, h5⟩
    · exact h.ent i x r y s h4 h2 h3
    · subst h5; rw [h4] at h3; exact h.cur x y s h2 h3
/-- Few keys can be reached. -/
def FewK (c : Nat) (stp : α → Nat → Option α) (a0 : α) (m : Nat) : Prop := ∀ l : List α, l.Nodup → (∀ k ∈ l, ∃ w, inW c w ∧ runO stp a0 w = some k) → l.length ≤ m
theorem ExpP.few {m : Nat} {k b : α} (h : ExpP c stp a0 keys rows row) (hf : FewK c stp a0 m) (hk : keys[rows.length]? = some k) (hx : row.length < c) (hs : stp k row.length = some b) (hb : b ∉ keys) : keys.length < m := by
  have h1 := h.new hk hx hs hb
  have := hf _ h1.nd h1.rch
  simp at this
  omega
/-- What an explored automaton tells. -/
def behX (stp : α → Nat → Option α) (acc : α → Int) (k : α) (w : List Nat) : Int := match runO stp k w with | some b => acc b | none => -1
theorem ExpP.done {acc : α → Int} (h : ExpP c stp a0 keys rows []) (hl : rows.length = keys.length) (ha : ∀ k ∈ keys, -1 ≤ acc k) : OkD keys.length c ⟨0, keys.map acc, rows⟩ ∧ ∀ w, inW c w → beh ⟨0, keys.map acc, rows⟩ 0 w = behX stp acc a0 w := by
  have hk0 := lt_of_get h.k0
  have ok : OkD keys.length c ⟨0, keys.map acc, rows⟩ := ⟨hl, by simp, ⟨Int.le_refl _, by show (0 : Int) < _; omega⟩, fun x hx => by
    obtain ⟨k, hk, rfl⟩ := List.mem_map.1 hx
    exact ha k hk, fun r hr => by
    have hr : r ∈ rows := hr
    refine ⟨h.len r hr, fun y hy => ?_⟩
    obtain ⟨i, hi⟩ := List.getElem?_of_mem hr
    obtain ⟨x, hx⟩ := List.getElem?_of_mem hy
    obtain ⟨k, hk⟩ := get_of_lt (l := keys) (i := i) (by have := lt_of_get hi; omega)
    have hE := h.ent i x r y k hi hx hk
    unfold EntX at hE
    cases hs : stp k x with
    | none => rw [hs] at hE; simp only at hE; omega
    | some b => rw [hs] at hE; obtain ⟨j, h1, h2⟩ := hE; have := lt_of_get h2; omega⟩
  refine ⟨ok, ?_⟩
  have key : ∀ (w : List Nat) (i : Nat) (k : α), inW c w → keys[i]? = some k → beh ⟨0, keys.map acc, rows⟩ ((i : Nat) : Int) w = behX stp acc k w := by
    intro w
    induction w with
    | nil =>
      intro i k _ hk
      simp only [beh, behX, runO]
      exact atD_get (by simp [hk])
    | cons x w ih =>
      intro i k hw hk
      obtain ⟨r, hr⟩ := get_of_lt (l := rows) (i := i) (by have := lt_of_get hk; omega)
      obtain ⟨y, hy⟩ := get_of_lt (l := r) (i := x) (by have := h.len r (List.mem_of_getElem? hr); have := hw.head; omega)
      have hE := h.ent i x r y k hr hy hk
      simp only [beh, behX, runO]
      rw [toD_get (d := ⟨0, keys.map acc, rows⟩) hr hy]
      unfold EntX at hE
      cases hs : stp k x with
      | none => rw [hs] at hE; simp only at hE; simp only [Option.bind_none]; exact beh_neg (by omega)
      | some b =>
        rw [hs] at hE
        obtain ⟨j, rfl, h2⟩ := hE
        simp only [Option.bind_some]
        exact ih j b hw.tail h2
  intro w hw
  exact key w 0 a0 hw h.k0
end
--END
end Go.Proofs
namespace Go.Proofs
open Go Go.Eng Go.Sort
set_option maxRecDepth 100000
def kcP (k : Int × Int) : List Value := [.int .i64 k.1, .int .i64 k.2]
theorem flat_cells {α : Type} {kc : α → List Value} {sz : Nat} (hk : ∀ k, (kc k).length = sz) {w : World} {b : Nat} : ∀ {l : List α} {o i : Nat} {k : α}, CellsAt w b o (l.map kc).flatten → l[i]? = some k → CellsAt w b (o + i * sz) (kc k)
  | [], _, _, _, _, h => by simp at h
  | q :: l, o, 0, k, h, hi => by
    simp at hi
    subst hi
    intro j v hv
    rw [Nat.zero_mul, Nat.add_zero]
    exact h j v (by rw [List.map_cons, List.flatten_cons, List.getElem?_append_left (lt_of_get hv)]; exact hv)
  | q :: l, o, i + 1, k, h, hi => by
    have h2 : CellsAt w b (o + sz) (l.map kc).flatten := fun j v hv => by
      have := h (sz + j) v (by rw [List.map_cons, List.flatten_cons, List.getElem?_append_right (by rw [hk]; omega), hk, show sz + j - sz = j by omega]; exact hv)
      rwa [← Nat.add_assoc] at this
    have := flat_cells hk h2 (i := i) (k := k) (by simpa using hi)
    rwa [show o + (i + 1) * sz = o + sz + i * sz by rw [Nat.add_mul]; omega]
def Rch {α : Type} (c : Nat) (stp : α → Nat → Option α) (a0 k : α) : Prop := ∃ w, inW c w ∧ runO stp a0 w = some k
/-- An automaton in memory of its own, above a bound. -/
def DfaOwn (base : Nat) (D : Dfa) (r : Value) (w : World) : Prop := ∃ ea ec na nc vs, r = .agg #[.int .i64 D.start, .slice ea D.accept.length ec, .slice na D.next.length nc] ∧ OutSt w base (.slice ea D.accept.length ec) (.slice na D.next.length nc) vs D.accept D.next
structure ExpOf {α : Type} (c most : Nat) (stp : α → Nat → Option α) (acc : α → Int) (a0 : α) (D : Dfa) : Prop where
  ok : OkD D.next.length c D
  most : D.next.length ≤ most
  start : D.start = 0
  beh : ∀ w, inW c w → beh D 0 w = behX stp acc a0 w
  acc : ∀ x ∈ D.accept, x < 2147483648
theorem OutSt.low {w : World} {base b0 : Nat} {E N : Value} {vs : List Value} {acc : List Int} {rows : List (List Int)} (h : OutSt w base E N vs acc rows) (hb : b0 ≤ base) : OutSt w b0 E N vs acc rows :=
  ⟨own_low h.e hb, ⟨own_low h.n.o hb, h.n.len, fun i v p hv hp => own_low (h.n.inn i v p hv hp) hb, h.n.apo⟩, h.en, h.ei⟩
end Go.Proofs
namespace Go.Proofs
open Go Go.Eng Go.Sort
set_option maxRecDepth 100000
theorem chk_pair (b : Bool) (w : World) (k : Int × Int) : (Instr.checkKey b 10000 75 (kPair k)).run Try.prog w = .ok () w := by kernel_rfl
theorem info_int : ∃ i, Try.prog.info? 3 = some i := info_of_underlying Try.underlying3
theorem cells_int : Try.prog.cellsOf 3 = 1 := by kernel_rfl
theorem key75 : KeyOk Try.prog 75 kPair := keyOfEq (by rw [Try.underlying75]) chk_pair (fun w a b => by obtain ⟨i, hi⟩ := info_int; exact eqArr2 Try.underlying75 Try.underlying3 hi cells_int w a b) same_pair
theorem own_lit2 {w : World} {b e base : Nat} {u v : Value} (h : Blk w b #[u, v] e) (hb : base ≤ b) : w.ownsRow base e 2 (.slice (some ⟨b, 0, none⟩) 1 1) 1 [u, v] :=
  ⟨rfl, .inr ⟨b, 1, #[u, v], rfl, hb, h, Nat.le_refl _, by decide, rfl, rfl⟩⟩
set_option maxHeartbeats 8000000 in
theorem explP_c (w0 : World) (first : Int × Int) (c most mx : Nat) (sv av : Value) (stp : Int × Int → Nat → Option (Int × Int)) (acc : Int × Int → Int) (hc : 1 ≤ c ∧ c ≤ 16) (hm : most ≤ 20000) (hmx : mx ≤ most) (hfew1 : FewK c stp first mx) (hac : ∀ k, Rch c stp first k → -1 ≤ acc k ∧ acc k < 2147483648)
    (hs : ∀ w k x, Ext w0 w → Rch c stp first k → x < c → CallV Try.prog sv #[.agg #[.int .i64 k.1, .int .i64 k.2], .int .i64 ((x : Nat) : Int)] w fun r w' => (∃ q, r = .tuple #[.agg #[.int .i64 q.1, .int .i64 q.2], .bool (stp k x).isSome] ∧ ∀ b, stp k x = some b → q = b) ∧ Ext w w')
    (ha : ∀ w k, Ext w0 w → Rch c stp first k → CallV Try.prog av #[.agg #[.int .i64 k.1, .int .i64 k.2]] w fun r w' => r = .int .i64 (acc k) ∧ Ext w w') :
    Ret Try.prog 116 #[.agg #[.int .i64 first.1, .int .i64 first.2], .int .i64 ((c : Nat) : Int), sv, av, .int .i64 ((most : Nat) : Int)] w0 fun r w => (∃ D v, ExpOf c mx stp acc first D ∧ r = .tuple #[v, .bool true] ∧ DfaOwn w0.heap.size D v w) ∧ Ext w0 w := by
  have hfew : FewK c stp first most := fun l hd hr => Nat.le_trans (hfew1 l hd hr) hmx
  have hkl : ∀ k, (kcP k).length = 2 := fun _ => rfl
  refine Ret_of Try.func116 rfl Try.ntmps116 (Nat.le_of_ble_eq_true rfl) ?_
  have E : Chg none1 w0 w0 := Chg.refl _ _
  refine Wp_seq_region ?_
  refine s_box (v := (.agg #[(.int .i64 first.1), (.int .i64 first.2)])) (c := #[(.int .i64 first.1), (.int .i64 first.2)]) (by decide) rfl rfl ?_
  intro bf wf Nf
  have Ff := Nf.ge E
  replace E := E.ext Nf.ext
  have Bf := Nf.blk
  refine s_alloc (c := #[(.int .i64 0), (.slice none 0 0), (.slice none 0 0)]) (by decide) zer25 rfl ?_
  intro br wr Nr
  have Fr := Nr.ge E
  have Or_bf := Nr.lt Bf
  replace Bf := Nr.keep Bf
  replace E := E.ext Nr.ext
  have Br := Nr.blk
  refine WpL_val rfl rfl (by decide) (r_assign (v := (.bool false)) rfl) ?_
  refine WpL_nil ?_
  refine Wp_seq_region ?_
  refine WpL_val rfl rfl (by decide) (r_loadAgg (vs := [(.int .i64 first.1), (.int .i64 first.2)]) rfl agg75 siz75 rfl (Bf.cells rfl)) ?_
  refine s_buildSlice (ps := [(0, (.agg #[(.int .i64 first.1), (.int .i64 first.2)]))]) (c := #[(.int .i64 first.1), (.int .i64 first.2)]) (by decide) rfl Try.underlying118 siz75 zer75 (by decide) (by decide) (by kernel_rfl) ?_
  intro bs ws Ns
  have Fs := Ns.ge E
  have Os_bf := Ns.lt Bf
  have Os_br := Ns.lt Br
  replace Bf := Ns.keep Bf
  replace Br := Ns.keep Br
  replace E := E.ext Ns.ext
  have Bs := Ns.blk
  refine WpL_val rfl rfl (by decide) (r_assign (v := (.slice (some ⟨bs, 0, none⟩) 1 1)) rfl) ?_
  refine WpL_nil ?_
  refine Wp_seq_region ?_
  refine s_makeMap kPair kInt (by decide) ?_
  intro bm wm Nm
  have Fm := Nm.ge E
  have Om_bf := Nm.lt Bf
  have Om_br := Nm.lt Br
  have Om_bs := Nm.lt Bs
  replace Bf := Nm.keep Bf
  replace Br := Nm.keep Br
  replace Bs := Nm.keep Bs
  replace E := E.ext Nm.ext
  intro Mm
  refine WpL_val rfl rfl (by decide) (r_loadAgg (vs := [(.int .i64 first.1), (.int .i64 first.2)]) rfl agg75 siz75 rfl (Bf.cells rfl)) ?_
  refine s_insert (k := (first.1, first.2)) (v := 0) Try.underlying162 (key75) Mm rfl rfl rfl ?_
  intro w1 S1 H1
  replace Bf := S1.keep (by omega) Bf
  replace Br := S1.keep (by omega) Br
  replace Bs := S1.keep (by omega) Bs
  replace E := S1.step E (by first | exact Or.inl (by omega) | exact Or.inr rfl | exact Or.inr (by assumption) | exact Or.inr (by simp) | exact Or.inr (by omega) | exact Or.inr (by dsimp only; omega))
  replace Mm := H1
  refine WpL_val rfl rfl (by decide) (r_move (v := (.map (some bm))) rfl) ?_
  refine WpL_val rfl rfl (by decide) (r_assign (v := (.map (some bm))) rfl) ?_
  refine WpL_nil ?_
  refine Wp_seq_region ?_
  refine s_alloc (c := #[(.int .i64 0), (.slice none 0 0), (.slice none 0 0)]) (by decide) zer25 rfl ?_
  intro bd wd Nd
  have Fd := Nd.ge E
  have Od_bf := Nd.lt Bf
  have Od_br := Nd.lt Br
  have Od_bs := Nd.lt Bs
  have Od_bm := Nd.ltM Mm
  replace Bf := Nd.keep Bf
  replace Br := Nd.keep Br
  replace Bs := Nd.keep Bs
  replace Mm := Nd.keepM Mm
  replace E := E.ext Nd.ext
  have Bd := Nd.blk
  refine WpL_nil ?_
  refine Wp_seq ?_
  refine Wp_seq_region ?_
  refine WpL_val rfl rfl (by decide) (r_assign (v := (.int .i64 0)) rfl) ?_
  refine WpL_nil ?_
  refine Wp_block ?_
  obtain ⟨n1, hn1e⟩ : ∃ n1, n1 = bs := ⟨_, rfl⟩
  obtain ⟨n2, hn2e⟩ : ∃ n2, n2 = (wd).heap.size := ⟨_, rfl⟩
  have hn2b : br < n2 ∧ bs < n2 ∧ bm < n2 ∧ bd < n2 := ⟨by rw [hn2e]; exact Br.lt, by rw [hn2e]; exact Bs.lt, by rw [hn2e]; exact Mm.lt, by rw [hn2e]; exact Bd.lt⟩
  have hbs0 : w0.heap.size ≤ n1 ∧ w0.heap.size ≤ n2 := by omega
  have hS0 : (wd).ownsRow n1 75 2 (.slice (some ⟨bs, 0, none⟩) 1 1) 1 ([first].map kcP).flatten := own_lit2 (base := n1) Bs (by omega)
  refine Wp_loop (fun nn_ σ W2 => ∃ (i : Nat) (rows : List (List Int)) (ks : List (Int × Int)) (ac : List Int) (vs : List Value) (sa ea na2 : Option Addr) (sc2 sn ec nc2 : Nat), (∃ jj_, σ = upds jj_ [(1, (.int .i64 ((c : Nat) : Int))), (2, sv), (3, av), (4, (.int .i64 ((most : Nat) : Int))), (10, (.pointer (some ⟨br, 0, none⟩))), (13, (.map (some bm))), (14, (.pointer (some ⟨bd, 0, none⟩))), (15, (.int .i64 ((i : Nat) : Int))), (12, (.slice sa sn sc2))]) ∧ Chg none1 w0 W2 ∧ Blk W2 br #[(.int .i64 0), (.slice none 0 0), (.slice none 0 0)] 25 ∧ MapAt W2 bm kPair kInt (keysG ks 0) ∧ Blk W2 bd (#[Value.int .i64 0, .slice ea i ec, .slice na2 i nc2]) 25 ∧ (ExpP c stp first ks rows []) ∧ (rows.length = i) ∧ (sn = ks.length) ∧ (i ≤ sn) ∧ (ac = (ks.take i).map acc) ∧ (W2.ownsRow n1 75 2 (.slice sa sn sc2) sn (ks.map kcP).flatten) ∧ (OutSt W2 n2 (.slice ea i ec) (.slice na2 i nc2) vs ac rows) ∧ (∀ b, (Value.slice sa sn sc2).ownBlock = some b → ¬ OutB (.slice ea i ec) (.slice na2 i nc2) vs b ∧ b ≠ bm ∧ b ≠ bd) ∧ (n2 ≤ W2.heap.size) ∧ nn_ = most - i) (n := most - 0) ?_ ?_
  · exact ⟨0, [], [first], [], [], some ⟨bs, 0, none⟩, none, none, 1, 1, 0, 0, Fits.out ⟨rfl, rfl, rfl, rfl, rfl, rfl, rfl, rfl, rfl, trivial⟩, E, Br, Mm, Bd, ExpP.start _ _ _, rfl, rfl, (by omega), rfl, hS0, OutSt.start _ _, (fun b hb => ⟨(fun h => by rcases h with h | h | ⟨i, v, h, _⟩; cases h; cases h; simp at h), (by have hb' : bs = b := Option.some.inj hb; omega), (by have hb' : bs = b := Option.some.inj hb; omega)⟩), (by omega), rfl⟩
  · clear E Br Mm Bd
    rintro _ _ W2 ⟨i, rows, ks, ac, vs, sa, ea, na2, sc2, sn, ec, nc2, ⟨j2, rfl⟩, E, Br, Mm, Bd, hC, hir, hsn, hisn, hacc2, hS, hO, hap, hsz, rfl⟩
    refine Wp_seq ?_
    refine Wp_seq_region ?_
    refine WpL_val rfl rfl (by decide) (r_move (v := (.int .i64 ((i : Nat) : Int))) rfl) ?_
    refine WpL_val rfl rfl (by decide) (r_move (v := (.slice sa sn sc2)) rfl) ?_
    refine WpL_val rfl rfl (by decide) (r_lenSlice (ad := sa) (n := sn) (cap := sc2) Try.underlying118 rfl) ?_
    refine WpL_val rfl rfl (by decide) (r_lss (k := .i64) (a := ((i : Nat) : Int)) (b := ((sn : Nat) : Int)) rfl rfl) ?_
    refine WpL_nil ?_
    refine Wp_cond (b := decide ((((i : Nat) : Int) : Int) < ((sn : Nat) : Int))) rfl (fun hlt => ?_) (fun hlt => ?_)
    · have khlt := hlt
      replace hlt := of_decide_eq_true hlt
      obtain ⟨k, hki⟩ := get_of_lt (l := ks) (i := i) (by omega)
      have hkr := hC.rch k (List.mem_of_getElem? hki)
      have hkm : ks.length ≤ most := hfew ks hC.nd hC.rch
      obtain ⟨sb, rfl, hsb1, hsc⟩ := own_cells hS (by omega)
      obtain ⟨z0, hz0⟩ : ∃ z0, z0 = (W2).heap.size := ⟨_, rfl⟩
      have hn2z : n2 ≤ z0 := by omega
      have hOz : ∀ b, OutB (.slice ea i ec) (.slice na2 i nc2) vs b → b < z0 := fun b hb => by have := (hO.lt hb).2; omega
      have hSz : ∀ b, (Value.slice (some ⟨sb, 0, none⟩) sn sc2).ownBlock = some b → b < z0 := fun b hb => by have := (hS.lt b hb).2; omega
      refine Wp_skip ?_
      refine thn_normal ?_
      refine Wp_seq ?_
      refine Wp_block ?_
      refine Wp_seq_region ?_
      refine WpL_val rfl rfl (by decide) (r_move (v := (.int .i64 ((c : Nat) : Int))) rfl) ?_
      refine s_make (n := c) (z := (.int .i64 0)) (bytes := 8) (by decide) Try.underlying22 siz3 byt3 zer3 rfl rfl rfl (by omega) (by omega) ?_
      intro bq wq Nq
      have Fq := Nq.ge E
      have Oq_br := Nq.lt Br
      have Oq_bm := Nq.ltM Mm
      have Oq_bd := Nq.lt Bd
      replace Br := Nq.keep Br
      replace Mm := Nq.keepM Mm
      replace Bd := Nq.keep Bd
      replace hS := own_ext hS Nq.ext
      replace hO := hO.ext Nq.ext
      replace hsz := Nat.le_trans hsz Nq.ext.size
      replace E := E.ext Nq.ext
      have Bq := Nq.blk
      refine WpL_val rfl rfl (by decide) (r_assign (v := (.slice (some ⟨bq, 0, none⟩) c c)) rfl) ?_
      refine WpL_nil ?_
      refine Wp_seq ?_
      refine Wp_seq_region ?_
      refine WpL_val rfl rfl (by decide) (r_move (v := (.int .i64 ((c : Nat) : Int))) rfl) ?_
      refine WpL_val rfl rfl (by decide) (r_move (v := (.int .i64 0)) rfl) ?_
      refine WpL_nil ?_
      refine Wp_block ?_
      have hqz : z0 ≤ bq := by have := Nq.eq; omega
      rw [show List.replicate c (Value.int .i64 0) = (List.replicate c (0 : Int)).map (Value.int .i64) by simp] at Bq
      refine Wp_loop (fun nn_ σ W4 => ∃ (x : Nat) (R : List Int) (ks : List (Int × Int)) (sa : Option Addr) (sc2 sn : Nat), (∃ jj_, σ = upds jj_ [(1, (.int .i64 ((c : Nat) : Int))), (2, sv), (3, av), (4, (.int .i64 ((most : Nat) : Int))), (10, (.pointer (some ⟨br, 0, none⟩))), (13, (.map (some bm))), (14, (.pointer (some ⟨bd, 0, none⟩))), (15, (.int .i64 ((i : Nat) : Int))), (16, (.slice (some ⟨bq, 0, none⟩) c c)), (35, (.int .i64 ((c : Nat) : Int))), (36, (.int .i64 ((x : Nat) : Int))), (12, (.slice sa sn sc2))]) ∧ Chg none1 w0 W4 ∧ Blk W4 br #[(.int .i64 0), (.slice none 0 0), (.slice none 0 0)] 25 ∧ MapAt W4 bm kPair kInt (keysG ks 0) ∧ Blk W4 bd (#[Value.int .i64 0, .slice ea i ec, .slice na2 i nc2]) 25 ∧ Blk W4 bq ((R.map (Value.int .i64)).toArray) 3 ∧ (x ≤ c) ∧ (R.length = c) ∧ (ExpP c stp first ks rows (R.take x)) ∧ (ks[i]? = some k) ∧ (sn = ks.length) ∧ ((ks.take i).map acc = ac) ∧ (W4.ownsRow n1 75 2 (.slice sa sn sc2) sn (ks.map kcP).flatten) ∧ (OutSt W4 n2 (.slice ea i ec) (.slice na2 i nc2) vs ac rows) ∧ (∀ b, (Value.slice sa sn sc2).ownBlock = some b → ¬ OutB (.slice ea i ec) (.slice na2 i nc2) vs b ∧ b ≠ bm ∧ b ≠ bd ∧ b ≠ bq) ∧ (n2 ≤ W4.heap.size) ∧ nn_ = c - x) (n := c - 0) ?_ ?_
      · exact ⟨0, List.replicate c 0, ks, some ⟨sb, 0, none⟩, sc2, sn, Fits.out ⟨rfl, rfl, rfl, rfl, rfl, rfl, rfl, rfl, rfl, rfl, rfl, rfl, trivial⟩, E, Br, Mm, Bd, Bq, Nat.zero_le _, (by simp), (by simpa using hC), hki, hsn, hacc2.symm, hS, hO, (fun b hb => ⟨(hap b hb).1, (hap b hb).2.1, (hap b hb).2.2, fun e => by have := hSz b hb; omega⟩), hsz, rfl⟩
      · clear E Br Mm Bd Bq
        rintro _ _ W4 ⟨x, R, ks, sa, sc2, sn, ⟨j4, rfl⟩, E, Br, Mm, Bd, Bq, hx, hRl, hC, hki, hsn, hta, hS, hO, hap, hsz, rfl⟩
        refine Wp_seq_region ?_
        refine WpL_val rfl rfl (by decide) (r_lss (k := .i64) (a := ((x : Nat) : Int)) (b := ((c : Nat) : Int)) rfl rfl) ?_
        refine WpL_nil ?_
        refine Wp_seq ?_
        refine Wp_cond (b := decide ((((x : Nat) : Int) : Int) < ((c : Nat) : Int))) rfl (fun hlt2 => ?_) (fun hlt2 => ?_)
        · have khlt2 := hlt2
          replace hlt2 := of_decide_eq_true hlt2
          obtain ⟨sb2, rfl, _, hsc2⟩ := own_cells hS (by have := lt_of_get hki; omega)
          have hil : i < sn := by have := lt_of_get hki; omega
          have hkc : CellsAt (W4) sb2 (0 + i * 2) [.int .i64 k.1, .int .i64 k.2] := flat_cells hkl hsc2 hki
          refine Wp_skip ?_
          refine thn_normal ?_
          refine Wp_seq ?_
          refine Wp_block ?_
          refine Wp_seq_region ?_
          refine WpL_val rfl rfl (by decide) (r_move (v := (.int .i64 ((x : Nat) : Int))) rfl) ?_
          refine WpL_val rfl rfl (by decide) (r_assign (v := (.int .i64 ((x : Nat) : Int))) rfl) ?_
          refine WpL_nil ?_
          refine Wp_seq_region ?_
          refine WpL_val rfl rfl (by decide) (r_move (v := sv) rfl) ?_
          refine WpL_val rfl rfl (by decide) (r_move (v := (.slice (some ⟨sb2, 0, none⟩) sn sc2)) rfl) ?_
          refine WpL_val rfl rfl (by decide) (r_move (v := (.int .i64 ((i : Nat) : Int))) rfl) ?_
          refine WpL_val rfl rfl (by decide) (r_indexSlice (b := sb2) (o := 0) (len := sn) (cap := sc2) (i := i) (o' := 0 + i * 2) rfl rfl rfl Try.underlying118 siz75 (by omega) (by omega)) ?_
          refine WpL_val rfl rfl (by decide) (r_loadAgg (vs := [(.int .i64 k.1), (.int .i64 k.2)]) rfl agg75 siz75 rfl (hkc)) ?_
          refine WpL_val rfl rfl (by decide) (r_move (v := (.int .i64 ((x : Nat) : Int))) rfl) ?_
          refine WpL_callV (fv := sv) (vs := [(.agg #[(.int .i64 k.1), (.int .i64 k.2)]), (.int .i64 ((x : Nat) : Int))]) (by decide) rfl rfl (hs _ k x E hkr (by omega)) ?_
          rintro _ w9 ⟨⟨q, rfl, hq⟩, X9⟩
          replace Br := X9.keep Br
          replace Mm := X9.keepM Mm
          replace Bd := X9.keep Bd
          replace Bq := X9.keep Bq
          replace E := E.ext X9
          have hS := own_ext hS X9
          have hO := hO.ext X9
          have hsz := Nat.le_trans hsz X9.size
          obtain ⟨zz, hzz⟩ : ∃ zz, zz = (w9).heap.size := ⟨_, rfl⟩
          have hSzz : ∀ b, (Value.slice (some ⟨sb2, 0, none⟩) sn sc2).ownBlock = some b → b < zz := fun b hb => by have := (hS.lt b hb).2; omega
          have hxl2 : (R.take x).length = x := by simp; omega
          have hkr2 : ks[rows.length]? = some k := by rw [hir]; exact hki
          have hts := take_set_succ (L := R) (s := x) (x := -1) (by omega)
          refine WpL_val rfl rfl (by decide) (r_move (v := (.tuple #[(.agg #[(.int .i64 q.1), (.int .i64 q.2)]), (.bool ((stp k x).isSome))])) rfl) ?_
          refine WpL_val rfl rfl (by decide) (r_extract (vs := #[(.agg #[(.int .i64 q.1), (.int .i64 q.2)]), (.bool ((stp k x).isSome))]) (v := (.agg #[(.int .i64 q.1), (.int .i64 q.2)])) rfl rfl) ?_
          refine WpL_val rfl rfl (by decide) (r_extract (vs := #[(.agg #[(.int .i64 q.1), (.int .i64 q.2)]), (.bool ((stp k x).isSome))]) (v := (.bool ((stp k x).isSome))) rfl rfl) ?_
          refine s_allocStore (v := (.agg #[(.int .i64 q.1), (.int .i64 q.2)])) (c := #[(.int .i64 q.1), (.int .i64 q.2)]) (n := 2) (by decide) zer75 rfl siz75 rfl rfl rfl (by simp [Value.oneCell']) ?_
          intro bz wz Nz
          have Fz := Nz.ge E
          have Oz_br := Nz.lt Br
          have Oz_bm := Nz.ltM Mm
          have Oz_bd := Nz.lt Bd
          have Oz_bq := Nz.lt Bq
          replace Br := Nz.keep Br
          replace Mm := Nz.keepM Mm
          replace Bd := Nz.keep Bd
          replace Bq := Nz.keep Bq
          replace hS := own_ext hS Nz.ext
          replace hO := hO.ext Nz.ext
          replace hsz := Nat.le_trans hsz Nz.ext.size
          replace E := E.ext Nz.ext
          have Bz := Nz.blk
          refine WpL_val rfl rfl (by decide) (r_assign (v := (.bool ((stp k x).isSome))) rfl) ?_
          refine WpL_nil ?_
          refine Wp_seq ?_
          refine Wp_seq_region ?_
          refine WpL_val rfl rfl (by decide) (r_move (v := (.slice (some ⟨bq, 0, none⟩) c c)) rfl) ?_
          refine WpL_val rfl rfl (by decide) (r_move (v := (.int .i64 ((x : Nat) : Int))) rfl) ?_
          refine WpL_val rfl rfl (by decide) (r_indexSlice (b := bq) (o := 0) (len := c) (cap := c) (i := x) (o' := 0 + x) rfl rfl rfl Try.underlying22 siz3 (by omega) (by omega)) ?_
          refine s_store (b := bq) (o := 0 + x) (c' := ((R.set x (-1)).map (Value.int .i64)).toArray) (v := (.int .i64 (-1))) rfl rfl rfl siz3 Bq (by simp; omega) (ints_setD _) ?_
          intro w6 S6
          replace hS := own_chg hS S6.chg fun b hb h => (hap b hb).2.2.2 h
          replace hO := hO.chg S6.chg fun b hb h => by have := hOz b hb; have h' : b = bq := h; omega
          replace hsz := Nat.le_trans hsz S6.chg.size
          replace Br := S6.keep (by omega) Br
          replace Mm := S6.keepM (by omega) Mm
          replace Bd := S6.keep (by omega) Bd
          replace Bz := S6.keep (by omega) Bz
          replace E := S6.step E (by first | exact Or.inl (by omega) | exact Or.inr rfl | exact Or.inr (by assumption) | exact Or.inr (by simp) | exact Or.inr (by omega) | exact Or.inr (by dsimp only; omega))
          replace Bq := S6.blk
          refine WpL_nil ?_
          refine Wp_seq_region ?_
          refine WpL_val rfl rfl (by decide) (r_move (v := (.bool ((stp k x).isSome))) rfl) ?_
          refine WpL_val rfl rfl (by decide) (r_not (b := (stp k x).isSome) rfl) ?_
          refine WpL_nil ?_
          refine Wp_cond (b := !((stp k x).isSome)) rfl (fun hno => ?_) (fun hno => ?_)
          · have khno := hno
            replace hno := by simpa using hno
            have hsn2 : stp k x = none := by simpa using hno
            have hEd : EntX stp ks k (R.take x).length (-1) := by unfold EntX; rw [hxl2, hsn2]
            refine Wp_exit ?_
            refine thn_exit ?_
            refine inB_here ?_
            refine thn_normal ?_
            refine Wp_region ?_
            refine WpL_val rfl rfl (by decide) (r_add (k := .i64) (a := ((x : Nat) : Int)) (b := 1) (c := ((x : Nat) : Int) + 1) rfl rfl (wI64 (by omega))) ?_
            refine WpL_val rfl rfl (by decide) (r_move (v := (.int .i64 (((x : Nat) : Int) + 1))) rfl) ?_
            refine WpL_nil ?_
            refine thn_normal ?_
            exact ⟨c - (x + 1), by omega, x + 1, R.set x (-1), ks, some ⟨sb2, 0, none⟩, sc2, sn, Fits.out ⟨rfl, rfl, rfl, rfl, rfl, rfl, rfl, rfl, rfl, rfl, rfl, rfl, trivial⟩, E, Br, Mm, Bd, Bq, (by omega), (by simp [hRl]), (by rw [hts]; exact hC.add hkr2 hEd), hki, hsn, hta, hS, hO, hap, hsz, rfl⟩
          · have khno := hno
            replace hno := by simpa using hno
            obtain ⟨q', hqs⟩ := Option.isSome_iff_exists.1 (show (stp k x).isSome = true by simpa using hno)
            have hqq := hq q' hqs
            subst hqq
            refine Wp_skip ?_
            refine thn_normal ?_
            refine Wp_seq_region ?_
            refine WpL_val rfl rfl (by decide) (r_move (v := (.map (some bm))) rfl) ?_
            refine WpL_val rfl rfl (by decide) (r_loadAgg (vs := [(.int .i64 q.1), (.int .i64 q.2)]) rfl agg75 siz75 rfl (Bz.cells rfl)) ?_
            refine WpL_val (v := (.tuple #[(.int .i64 ((getM (keysG ks 0) (q.1, q.2)).getD 0)), (.bool ((getM (keysG ks 0) (q.1, q.2)).isSome))])) rfl rfl (by decide) (r_lookup2 (k := (q.1, q.2)) (z := 0) Try.underlying162 (key75) zer3 Mm rfl rfl) ?_
            refine WpL_val rfl rfl (by decide) (r_move (v := (.tuple #[(.int .i64 ((getM (keysG ks 0) (q.1, q.2)).getD 0)), (.bool ((getM (keysG ks 0) (q.1, q.2)).isSome))])) rfl) ?_
            refine WpL_val rfl rfl (by decide) (r_extract (vs := #[(.int .i64 ((getM (keysG ks 0) (q.1, q.2)).getD 0)), (.bool ((getM (keysG ks 0) (q.1, q.2)).isSome))]) (v := (.int .i64 ((getM (keysG ks 0) (q.1, q.2)).getD 0))) rfl rfl) ?_
            refine WpL_val rfl rfl (by decide) (r_extract (vs := #[(.int .i64 ((getM (keysG ks 0) (q.1, q.2)).getD 0)), (.bool ((getM (keysG ks 0) (q.1, q.2)).isSome))]) (v := (.bool ((getM (keysG ks 0) (q.1, q.2)).isSome))) rfl rfl) ?_
            refine WpL_val rfl rfl (by decide) (r_assign (v := (.int .i64 ((getM (keysG ks 0) (q.1, q.2)).getD 0))) rfl) ?_
            refine WpL_val rfl rfl (by decide) (r_assign (v := (.bool ((getM (keysG ks 0) (q.1, q.2)).isSome))) rfl) ?_
            refine WpL_nil ?_
            refine Wp_cut (fun σ W8 => ∃ (ks1 : List (Int × Int)) (j : Nat) (sa1 : Option Addr) (sc1 sn1 : Nat), (∃ jj_, σ = upds jj_ [(1, (.int .i64 ((c : Nat) : Int))), (2, sv), (3, av), (4, (.int .i64 ((most : Nat) : Int))), (10, (.pointer (some ⟨br, 0, none⟩))), (13, (.map (some bm))), (14, (.pointer (some ⟨bd, 0, none⟩))), (15, (.int .i64 ((i : Nat) : Int))), (16, (.slice (some ⟨bq, 0, none⟩) c c)), (17, (.int .i64 ((x : Nat) : Int))), (35, (.int .i64 ((c : Nat) : Int))), (36, (.int .i64 ((x : Nat) : Int))), (12, (.slice sa1 sn1 sc1)), (20, (.int .i64 ((j : Nat) : Int)))]) ∧ Chg none1 w0 W8 ∧ Blk W8 br #[(.int .i64 0), (.slice none 0 0), (.slice none 0 0)] 25 ∧ MapAt W8 bm kPair kInt (keysG ks1 0) ∧ Blk W8 bd (#[Value.int .i64 0, .slice ea i ec, .slice na2 i nc2]) 25 ∧ Blk W8 bq (((R.set x (-1)).map (Value.int .i64)).toArray) 3 ∧ Blk W8 bz #[(.int .i64 q.1), (.int .i64 q.2)] 75 ∧ (ExpP c stp first ks1 rows (R.take x ++ [((j : Nat) : Int)])) ∧ (ks1[i]? = some k) ∧ (sn1 = ks1.length) ∧ ((ks1.take i).map acc = ac) ∧ (W8.ownsRow n1 75 2 (.slice sa1 sn1 sc1) sn1 (ks1.map kcP).flatten) ∧ (OutSt W8 n2 (.slice ea i ec) (.slice na2 i nc2) vs ac rows) ∧ (∀ b, (Value.slice sa1 sn1 sc1).ownBlock = some b → ¬ OutB (.slice ea i ec) (.slice na2 i nc2) vs b ∧ b ≠ bm ∧ b ≠ bd ∧ b ≠ bq) ∧ (n2 ≤ W8.heap.size)) ?_ ?_
            · skip
              refine Wp_seq_region ?_
              refine WpL_val rfl rfl (by decide) (r_move (v := (.bool ((getM (keysG ks 0) (q.1, q.2)).isSome))) rfl) ?_
              refine WpL_val rfl rfl (by decide) (r_not (b := (getM (keysG ks 0) (q.1, q.2)).isSome) rfl) ?_
              refine WpL_nil ?_
              refine Wp_cond (b := !((getM (keysG ks 0) (q.1, q.2)).isSome)) rfl (fun hnew => ?_) (fun hnew => ?_)
              · have khnew := hnew
                replace hnew := by simpa using hnew
                have hgm : getM (keysG ks 0) q = none := by simpa using hnew
                obtain ⟨hnin, hput⟩ := keysG_none hgm
                have hfk := hC.few hfew hkr2 (by omega) (by rw [hxl2]; exact hqs) hnin
                have hCn := hC.new hkr2 (by omega) (by rw [hxl2]; exact hqs) hnin
                refine Wp_seq_region ?_
                refine WpL_val rfl rfl (by decide) (r_move (v := (.slice (some ⟨sb2, 0, none⟩) sn sc2)) rfl) ?_
                refine WpL_val rfl rfl (by decide) (r_lenSlice (ad := some ⟨sb2, 0, none⟩) (n := sn) (cap := sc2) Try.underlying118 rfl) ?_
                refine WpL_val rfl rfl (by decide) (r_assign (v := (.int .i64 ((sn : Nat) : Int))) rfl) ?_
                refine WpL_nil ?_
                refine Wp_seq ?_
                refine Wp_seq_region ?_
                refine WpL_val rfl rfl (by decide) (r_move (v := (.int .i64 ((sn : Nat) : Int))) rfl) ?_
                refine WpL_val rfl rfl (by decide) (r_move (v := (.int .i64 ((most : Nat) : Int))) rfl) ?_
                refine WpL_val rfl rfl (by decide) (r_eql (k := .i64) (a := ((sn : Nat) : Int)) (b := ((most : Nat) : Int)) rfl rfl) ?_
                refine WpL_nil ?_
                have hc10 : (decide ((((sn : Nat) : Int) : Int) = ((most : Nat) : Int))) = false := decide_eq_false (by omega)
                refine Wp_cond_false (congrArg Value.bool hc10) ?_
                refine Wp_skip ?_
                refine thn_normal ?_
                refine Wp_seq_region ?_
                refine WpL_val rfl rfl (by decide) (r_move (v := (.map (some bm))) rfl) ?_
                refine WpL_val rfl rfl (by decide) (r_loadAgg (vs := [(.int .i64 q.1), (.int .i64 q.2)]) rfl agg75 siz75 rfl (Bz.cells rfl)) ?_
                refine WpL_val rfl rfl (by decide) (r_move (v := (.int .i64 ((sn : Nat) : Int))) rfl) ?_
                refine s_mapUpdate (k := (q.1, q.2)) (v := ((sn : Nat) : Int)) Try.underlying162 (key75) Mm rfl rfl rfl ?_
                intro w11 S11 H11
                replace hS := own_chg hS S11.chg fun b hb h => (hap b hb).2.1 h
                replace hO := hO.chg S11.chg fun b hb h => by have := (hO.lt hb).1; have h' : b = bm := h; omega
                replace hsz := Nat.le_trans hsz S11.chg.size
                replace Br := S11.keep (by omega) Br
                replace Bd := S11.keep (by omega) Bd
                replace Bq := S11.keep (by omega) Bq
                replace Bz := S11.keep (by omega) Bz
                replace E := S11.step E (by first | exact Or.inl (by omega) | exact Or.inr rfl | exact Or.inr (by assumption) | exact Or.inr (by simp) | exact Or.inr (by omega) | exact Or.inr (by dsimp only; omega))
                replace Mm := H11
                refine WpL_nil ?_
                refine Wp_region ?_
                refine WpL_val rfl rfl (by decide) (r_move (v := (.slice (some ⟨sb2, 0, none⟩) sn sc2)) rfl) ?_
                refine WpL_val rfl rfl (by decide) (r_loadAgg (vs := [(.int .i64 q.1), (.int .i64 q.2)]) rfl agg75 siz75 rfl (Bz.cells rfl)) ?_
                refine s_buildSlice (ps := [(0, (.agg #[(.int .i64 q.1), (.int .i64 q.2)]))]) (c := #[(.int .i64 q.1), (.int .i64 q.2)]) (by decide) rfl Try.underlying118 siz75 zer75 (by decide) (by decide) (by kernel_rfl) ?_
                intro b12 w12 N12
                have F12 := N12.ge E
                have O12_br := N12.lt Br
                have O12_bm := N12.ltM Mm
                have O12_bd := N12.lt Bd
                have O12_bq := N12.lt Bq
                have O12_bz := N12.lt Bz
                replace Br := N12.keep Br
                replace Mm := N12.keepM Mm
                replace Bd := N12.keep Bd
                replace Bq := N12.keep Bq
                replace Bz := N12.keep Bz
                replace hS := own_ext hS N12.ext
                replace hO := hO.ext N12.ext
                replace hsz := Nat.le_trans hsz N12.ext.size
                replace E := E.ext N12.ext
                have B12 := N12.blk
                have hbq9 : bq < (w12).heap.size := Bq.lt
                refine s_append (base := n1) (n := sn) (m := 1) (xs := (ks.map kcP).flatten) (news := [(.int .i64 q.1), (.int .i64 q.2)]) (size := 2) (bytes := 16) (v := (.slice (some ⟨sb2, 0, none⟩) sn sc2)) (by decide) Try.underlying118 siz75 byt75 zer75 rfl (by decide) rfl hS rfl (rfl) (B12.cells rfl) (by simp [Value.oneCell']) (by unfold maxLen; omega) (by omega) ((by omega)) ?_
                intro v7 w59 Ov7 Cv7 Dv7
                replace Br := Cv7.keep (fun h => by have := (hS.lt _ h).1; omega) Br
                replace Mm := Cv7.keepM (fun h => (hap _ h).2.1 rfl) Mm
                replace Bd := Cv7.keep (fun h => (hap _ h).2.2.1 rfl) Bd
                replace Bq := Cv7.keep (fun h => (hap _ h).2.2.2 rfl) Bq
                replace Bz := Cv7.keep (fun h => (by have := hSzz _ h; have := Nz.eq; omega)) Bz
                replace E := E.step Cv7 (fun x hx h => absurd (hS.lt x h).1 (by omega))
                obtain ⟨sa3, sc3, rfl⟩ := own_form Ov7
                replace Mm : MapAt (w59) bm kPair kInt (putM (keysG ks 0) q ((sn : Nat) : Int)) := Mm
                rw [hsn, hput] at Mm
                refine WpL_val rfl rfl (by decide) (r_assign (v := (.slice sa3 (sn + 1) sc3)) rfl) ?_
                refine WpL_nil ?_
                refine thn_normal ?_
                exact ⟨ks ++ [q], sn, sa3, sc3, sn + 1, Fits.out ⟨rfl, rfl, rfl, rfl, rfl, rfl, rfl, rfl, rfl, rfl, rfl, rfl, rfl, rfl, trivial⟩, E, Br, Mm, Bd, Bq, Bz, (by rw [hsn]; exact hCn), (by rw [List.getElem?_append_left (lt_of_get hki)]; exact hki), (by simp; omega), (by rw [List.take_append_of_le_length (by have := lt_of_get hki; omega)]; exact hta), (by rw [List.map_append, List.flatten_append]; exact Ov7), hO.chg Cv7 (fun b hb h => (hap b h).1 hb), (fun b hb => by rcases Dv7 b hb with h9 | h9; exact hap b h9; exact ⟨fun ho => by have := (hO.lt ho).2; omega, by omega, by omega, by omega⟩), Nat.le_trans hsz Cv7.size⟩
              · have khnew := hnew
                replace hnew := by simpa using hnew
                have hgs : (getM (keysG ks 0) q).isSome = true := by simpa using hnew
                obtain ⟨v9, hv9⟩ := Option.isSome_iff_exists.1 hgs
                obtain ⟨j9, rfl, hj9⟩ := keysG_get hv9
                rw [show (getM (keysG ks 0) (q.1, q.2)).getD 0 = ((j9 : Nat) : Int) from by show (getM (keysG ks 0) q).getD 0 = _; rw [hv9]; rfl]
                refine Wp_skip ?_
                refine thn_normal ?_
                exact ⟨ks, j9, some ⟨sb2, 0, none⟩, sc2, sn, Fits.out ⟨rfl, rfl, rfl, rfl, rfl, rfl, rfl, rfl, rfl, rfl, rfl, rfl, rfl, rfl, trivial⟩, E, Br, Mm, Bd, Bq, Bz, hC.add hkr2 (by unfold EntX; rw [hxl2, hqs]; exact ⟨j9, rfl, hj9⟩), hki, hsn, hta, hS, hO, hap, hsz⟩
            · clear E Br Mm Bd Bq Bz
              rintro _ W8 ⟨ks1, j, sa1, sc1, sn1, ⟨j8, rfl⟩, E, Br, Mm, Bd, Bq, Bz, hC1, hki1, hsn1, hta1, hS1, hO1, hap1, hsz1⟩
              have hts2 := take_set_succ (L := R.set x (-1)) (s := x) (x := ((j : Nat) : Int)) (by simp; omega)
              refine Wp_region ?_
              refine WpL_val rfl rfl (by decide) (r_move (v := (.slice (some ⟨bq, 0, none⟩) c c)) rfl) ?_
              refine WpL_val rfl rfl (by decide) (r_move (v := (.int .i64 ((x : Nat) : Int))) rfl) ?_
              refine WpL_val rfl rfl (by decide) (r_move (v := (.int .i64 ((j : Nat) : Int))) rfl) ?_
              refine WpL_val rfl rfl (by decide) (r_indexSlice (b := bq) (o := 0) (len := c) (cap := c) (i := x) (o' := 0 + x) rfl rfl rfl Try.underlying22 siz3 (by omega) (by omega)) ?_
              refine s_store (b := bq) (o := 0 + x) (c' := (((R.set x (-1)).set x ((j : Nat) : Int)).map (Value.int .i64)).toArray) (v := (.int .i64 ((j : Nat) : Int))) rfl rfl rfl siz3 Bq (by simp; omega) (ints_setD _) ?_
              intro w13 S13
              replace hS1 := own_chg hS1 S13.chg fun b hb h => (hap1 b hb).2.2.2 h
              replace hO1 := hO1.chg S13.chg fun b hb h => by have := hOz b hb; have h' : b = bq := h; omega
              replace hsz1 := Nat.le_trans hsz1 S13.chg.size
              replace Br := S13.keep (by omega) Br
              replace Mm := S13.keepM (by omega) Mm
              replace Bd := S13.keep (by omega) Bd
              replace Bz := S13.keep (by omega) Bz
              replace E := S13.step E (by first | exact Or.inl (by omega) | exact Or.inr rfl | exact Or.inr (by assumption) | exact Or.inr (by simp) | exact Or.inr (by omega) | exact Or.inr (by dsimp only; omega))
              replace Bq := S13.blk
              refine WpL_nil ?_
              refine inB_normal ?_
              refine thn_normal ?_
              refine Wp_region ?_
              refine WpL_val rfl rfl (by decide) (r_add (k := .i64) (a := ((x : Nat) : Int)) (b := 1) (c := ((x : Nat) : Int) + 1) rfl rfl (wI64 (by omega))) ?_
              refine WpL_val rfl rfl (by decide) (r_move (v := (.int .i64 (((x : Nat) : Int) + 1))) rfl) ?_
              refine WpL_nil ?_
              refine thn_normal ?_
              exact ⟨c - (x + 1), by omega, x + 1, (R.set x (-1)).set x ((j : Nat) : Int), ks1, sa1, sc1, sn1, Fits.out ⟨rfl, rfl, rfl, rfl, rfl, rfl, rfl, rfl, rfl, rfl, rfl, rfl, trivial⟩, E, Br, Mm, Bd, Bq, (by omega), (by simp [hRl]), (by rw [hts2, List.take_set_of_le (Nat.le_refl x)]; exact hC1), hki1, hsn1, hta1, hS1, hO1, hap1, hsz1, rfl⟩
        · have khlt2 := hlt2
          replace hlt2 := of_decide_eq_false hlt2
          have hxc : x = c := by omega
          rw [hxc, show R.take c = R by rw [← hRl, List.take_length]] at hC
          obtain ⟨n4, hn4⟩ : ∃ n4, n4 = (W4).heap.size := ⟨_, rfl⟩
          have hil := lt_of_get hki
          obtain ⟨sb2, rfl, _, hsc2⟩ := own_cells hS (by omega)
          have hkc : CellsAt (W4) sb2 (0 + i * 2) [.int .i64 k.1, .int .i64 k.2] := flat_cells hkl hsc2 hki
          have hale : ac.length = i := by rw [← hta, List.length_map, List.length_take]; omega
          have hOe : (W4).ownsRow n2 TDI 1 (.slice ea i ec) i (ac.map (Value.int .i64)) := by have h9 := hO.e; rwa [hale] at h9
          have hOn : (W4).ownsRow n2 TDIs 1 (.slice na2 i nc2) i vs := hO.n.on (by rw [List.length_map]; omega)
          have hkm2 : ks.length ≤ most := hfew ks hC.nd hC.rch
          have hbql := Bq.lt
          have hUq := own_exact (base := bq) Bq (Nat.le_refl _) hRl
          refine Wp_exit ?_
          refine thn_exit ?_
          refine thn_exit ?_
          refine inB_here ?_
          refine thn_normal ?_
          obtain ⟨Fs14, hFs14⟩ : ∃ Fs : List FctE, Fs = [(fun _ v _ => v = (.pointer (some ⟨bd, 2, none⟩))), (fun _ v _ => v = (.slice na2 i nc2)), (fun _ v _ => v = (.slice (some ⟨bq, 0, none⟩) c c)), (fun _ => litF TDIs #[.slice (some ⟨bq, 0, none⟩) c c] n4), (fun _ => appF n2 TDIs 1 (i + 1) (vs ++ [Value.slice (some ⟨bq, 0, none⟩) c c]) (.slice na2 i nc2) n4), (fun _ v _ => v = (.pointer (some ⟨bd, 1, none⟩))), (fun _ v _ => v = (.slice ea i ec)), (fun _ v _ => v = av), (fun _ v _ => v = (.slice (some ⟨sb2, 0, none⟩) sn sc2)), (fun _ v _ => v = (.int .i64 ((i : Nat) : Int))), (fun _ v _ => v = (.pointer (some ⟨sb2, 0 + i * 2, none⟩))), (fun _ v _ => v = (.agg #[(.int .i64 k.1), (.int .i64 k.2)])), (fun _ v _ => v = (.int .i64 (acc k))), (fun _ => litF TDI #[.int .i64 (acc k)] n4), (fun s v w => appF n2 TDI 1 (i + 1) (ac.map (Value.int .i64) ++ [Value.int .i64 (acc k)]) (.slice ea i ec) n4 v w ∧ ∀ b, (s 84).ownBlock = some b → v.ownBlock ≠ some b), (fun _ v _ => v = (.pointer (some ⟨bd, 2, none⟩)))] := ⟨_, rfl⟩
          refine Wp_dagX (two 4 14 (fun b => (Value.slice na2 i nc2).ownBlock = some b) (fun b => (Value.slice ea i ec).ownBlock = some b)) 16 [80, 81, 82, 83, 84, 85, 86, 87, 88, 89, 90, 91, 92, 93, 94, 95] [[], [0], [], [2], [1, 3], [], [5], [], [], [], [8, 9], [10], [4, 7, 11], [12], [6, 12, 13], [0, 1, 2, 3, 4, 5, 6]] [[], [0], [], [2], [1, 0, 3, 2], [], [5], [], [], [], [8, 9], [10, 8, 9], [4, 1, 0, 3, 2, 7, 11, 10, 8, 9], [12, 4, 1, 0, 3, 2, 7, 11, 10, 8, 9], [6, 5, 12, 4, 1, 0, 3, 2, 7, 11, 10, 8, 9, 13], [0, 1, 2, 3, 4, 5, 6]] Fs14 hFs14 (by kernel_rfl) mixed (by kernel_rfl) (by kernel_rfl) (by kernel_rfl) ?_ ?_
          · intro wd X0
            refine DagStepsX.cons (StabX.eq) (fun _ _ _ _ _ h => h) (fun s' w' X U H => ?_) ?_
            · exact DoesT_val (r_fieldAddr (b := bd) (o := 0) (o' := 2) (U 14 rfl) Try.underlying25 rfl siz23 rfl) (Chg.refl _ _) rfl
            refine DagStepsX.cons (StabX.eq) (fun _ _ _ _ _ h => h) (fun s' w' X U H => ?_) ?_
            · have e80 : s' 80 = (.pointer (some ⟨bd, 2, none⟩)) := H 0 rfl 80 ((fun _ v _ => v = (.pointer (some ⟨bd, 2, none⟩)))) rfl (by rw [hFs14]; rfl)
              exact DoesT_val (r_load (v := (.slice na2 i nc2)) e80 flat23 ((Chg.keep X (fun h => (fun h => h.elim (fun h => by have := (hOn.lt _ h).1; omega) (fun h => by have := (hOe.lt _ h).1; omega)) (Past.or h)) (X0.keep Bd)).cell rfl)) (Chg.refl _ _) rfl
            refine DagStepsX.cons (StabX.eq) (fun _ _ _ _ _ h => h) (fun s' w' X U H => ?_) ?_
            · exact DoesT_val (r_move (v := (.slice (some ⟨bq, 0, none⟩) c c)) (U 16 rfl)) (Chg.refl _ _) rfl
            refine DagStepsX.cons (litF_stab (fun y h => by have := (hOn.lt y h).2; omega) (fun y h => by have := (hOe.lt y h).2; omega)) (LocX.const) (fun s' w' X U H => ?_) ?_
            · have e82 : s' 82 = (.slice (some ⟨bq, 0, none⟩) c c) := H 2 rfl 82 ((fun _ v _ => v = (.slice (some ⟨bq, 0, none⟩) c c))) rfl (by rw [hFs14]; rfl)
              exact DoesT_lit (hs := n4) Try.underlying23 siz22 zer22 e82 (by decide) (by decide) (by kernel_rfl) (by have := X0.size; have := X.size; omega)
            refine DagStepsX.cons (appF_st1 (fun k hk hm => hk.elim (fun h => hO.en k hm h) (fun h => by have := (hOe.lt k hm).2; omega))) (LocX.const) (fun s' w' X U H => ?_) ?_
            · have e81 : s' 81 = (.slice na2 i nc2) := H 1 rfl 81 ((fun _ v _ => v = (.slice na2 i nc2))) rfl (by rw [hFs14]; rfl)
              obtain ⟨b83, e83, B83, g83⟩ := (show ((fun _ => litF TDIs #[.slice (some ⟨bq, 0, none⟩) c c] n4) : FctE) s' (s' 83) w' from H 3 rfl 83 ((fun _ => litF TDIs #[.slice (some ⟨bq, 0, none⟩) c c] n4)) rfl (by rw [hFs14]; rfl))
              exact DoesT_append (hs := n4) Try.underlying23 siz22 byt22 zer22 rfl (by decide) e81 (own_ext (own_ext hOn X0) (X.mono (fun y _ h => Past.none rfl rfl h))) e83 rfl (B83.cells rfl) (by simp [Value.oneCell']) (by unfold maxLen; omega) (by omega) (by have := X0.size; have := X.size; omega) (fun y h => h) (by have := X0.size; have := X.size; omega)
            refine DagStepsX.cons (StabX.eq) (fun _ _ _ _ _ h => h) (fun s' w' X U H => ?_) ?_
            · exact DoesT_val (r_fieldAddr (b := bd) (o := 0) (o' := 1) (U 14 rfl) Try.underlying25 rfl siz22 rfl) (Chg.refl _ _) rfl
            refine DagStepsX.cons (StabX.eq) (fun _ _ _ _ _ h => h) (fun s' w' X U H => ?_) ?_
            · have e85 : s' 85 = (.pointer (some ⟨bd, 1, none⟩)) := H 5 rfl 85 ((fun _ v _ => v = (.pointer (some ⟨bd, 1, none⟩)))) rfl (by rw [hFs14]; rfl)
              exact DoesT_val (r_load (v := (.slice ea i ec)) e85 flat22 ((Chg.keep X (fun h => (fun h => h.elim (fun h => by have := (hOn.lt _ h).1; omega) (fun h => by have := (hOe.lt _ h).1; omega)) (Past.or h)) (X0.keep Bd)).cell rfl)) (Chg.refl _ _) rfl
            refine DagStepsX.cons (StabX.eq) (fun _ _ _ _ _ h => h) (fun s' w' X U H => ?_) ?_
            · exact DoesT_val (r_move (v := av) (U 3 rfl)) (Chg.refl _ _) rfl
            refine DagStepsX.cons (StabX.eq) (fun _ _ _ _ _ h => h) (fun s' w' X U H => ?_) ?_
            · exact DoesT_val (r_move (v := (.slice (some ⟨sb2, 0, none⟩) sn sc2)) (U 12 rfl)) (Chg.refl _ _) rfl
            refine DagStepsX.cons (StabX.eq) (fun _ _ _ _ _ h => h) (fun s' w' X U H => ?_) ?_
            · exact DoesT_val (r_move (v := (.int .i64 ((i : Nat) : Int))) (U 15 rfl)) (Chg.refl _ _) rfl
            refine DagStepsX.cons (StabX.eq) (fun _ _ _ _ _ h => h) (fun s' w' X U H => ?_) ?_
            · have e88 : s' 88 = (.slice (some ⟨sb2, 0, none⟩) sn sc2) := H 8 rfl 88 ((fun _ v _ => v = (.slice (some ⟨sb2, 0, none⟩) sn sc2))) rfl (by rw [hFs14]; rfl)
              have e89 : s' 89 = (.int .i64 ((i : Nat) : Int)) := H 9 rfl 89 ((fun _ v _ => v = (.int .i64 ((i : Nat) : Int)))) rfl (by rw [hFs14]; rfl)
              exact DoesT_val (r_indexSlice (b := sb2) (o := 0) (len := sn) (cap := sc2) (i := i) (o' := 0 + i * 2) e88 e89 rfl Try.underlying118 siz75 (by omega) (by omega)) (Chg.refl _ _) rfl
            refine DagStepsX.cons (StabX.eq) (fun _ _ _ _ _ h => h) (fun s' w' X U H => ?_) ?_
            · have e90 : s' 90 = (.pointer (some ⟨sb2, 0 + i * 2, none⟩)) := H 10 rfl 90 ((fun _ v _ => v = (.pointer (some ⟨sb2, 0 + i * 2, none⟩)))) rfl (by rw [hFs14]; rfl)
              exact DoesT_val (r_loadAgg (vs := [(.int .i64 k.1), (.int .i64 k.2)]) e90 agg75 siz75 rfl (fun j v hv => Chg.cell X (fun h => (Past.or h).elim (fun h => (hap _ rfl).1 (.inr (.inl h))) (fun h => (hap _ rfl).1 (.inl h))) (X0.cell (hkc j v hv)))) (Chg.refl _ _) rfl
            refine DagStepsX.cons (StabX.eq) (fun _ _ _ _ _ h => h) (fun s' w' X U H => ?_) ?_
            · have e87 : s' 87 = av := H 7 rfl 87 ((fun _ v _ => v = av)) rfl (by rw [hFs14]; rfl)
              have e91 : s' 91 = (.agg #[(.int .i64 k.1), (.int .i64 k.2)]) := H 11 rfl 91 ((fun _ v _ => v = (.agg #[(.int .i64 k.1), (.int .i64 k.2)]))) rfl (by rw [hFs14]; rfl)
              exact DoesT_callV (fv := av) (vs := [.agg #[.int .i64 k.1, .int .i64 k.2]]) e87 (lst1 e91) ((ha w' k ((E.ext X0).step X (fun y hy h => (Past.or h).elim (fun h => by have := (hOn.lt y h).1; omega) (fun h => by have := (hOe.lt y h).1; omega))) hkr).mono (fun v w h => ⟨h.1, Ext.chg h.2⟩))
            refine DagStepsX.cons (litF_stab (fun y h => by have := (hOn.lt y h).2; omega) (fun y h => by have := (hOe.lt y h).2; omega)) (LocX.const) (fun s' w' X U H => ?_) ?_
            · have e92 : s' 92 = (.int .i64 (acc k)) := H 12 rfl 92 ((fun _ v _ => v = (.int .i64 (acc k)))) rfl (by rw [hFs14]; rfl)
              exact DoesT_lit (hs := n4) Try.underlying22 siz3 zer3 e92 (by decide) (by decide) (by kernel_rfl) (by have := X0.size; have := X.size; omega)
            refine DagStepsX.cons (appF_st2 rfl) (fun s1 s2 h v w h2 => ⟨h2.1, by have := h 4 84 rfl rfl; rw [this]; exact h2.2⟩) (fun s' w' X U H => ?_) ?_
            · have e86 : s' 86 = (.slice ea i ec) := H 6 rfl 86 ((fun _ v _ => v = (.slice ea i ec))) rfl (by rw [hFs14]; rfl)
              obtain ⟨b93, e93, B93, g93⟩ := (show ((fun _ => litF TDI #[.int .i64 (acc k)] n4) : FctE) s' (s' 93) w' from H 13 rfl 93 ((fun _ => litF TDI #[.int .i64 (acc k)] n4)) rfl (by rw [hFs14]; rfl))
              exact app_two (H 4 rfl 84 _ rfl (by rw [hFs14]; rfl)) (DoesT_append (hs := w'.heap.size) Try.underlying22 siz3 byt3 zer3 rfl (by decide) e86 (own_chg (own_ext hOe X0) (X.mono (fun y _ h => Past.fst rfl h)) (fun k hk hm => hO.en k hk hm)) e93 rfl (B93.cells rfl) (by simp [Value.oneCell']) (by unfold maxLen; omega) (by omega) (by have := X0.size; have := X.size; omega) (fun y h => h) (Nat.le_refl _)) (by have := X0.size; have := X.size; omega) (fun k h1 h2 => h1.elim (fun h => hO.en k h2 h) (fun h => by have := (hOe.lt k h2).2; omega))
            refine DagStepsX.cons (StabX.eq) (fun _ _ _ _ _ h => h) (fun s' w' X U H => ?_) ?_
            · exact DoesT_val (r_fieldAddr (b := bd) (o := 0) (o' := 2) (U 14 rfl) Try.underlying25 rfl siz23 rfl) (Chg.refl _ _) rfl
            exact DagStepsX.nil
          · intro s' wd14 w14 X0 X14 U H
            replace X14 := X14.mono (M' := fun y => (fun b => (Value.slice na2 i nc2).ownBlock = some b) y ∨ (fun b => (Value.slice ea i ec).ownBlock = some b) y) (fun y _ h => by obtain ⟨j, h⟩ := h; rcases two_or h with h | h; exact .inl h.2; exact .inr h.2)
            obtain ⟨⟨a84, c84, e84⟩, O84, D84⟩ := (show ((fun _ => appF n2 TDIs 1 (i + 1) (vs ++ [Value.slice (some ⟨bq, 0, none⟩) c c]) (.slice na2 i nc2) n4) : FctE) s' (s' 84) w14 from H 4 84 ((fun _ => appF n2 TDIs 1 (i + 1) (vs ++ [Value.slice (some ⟨bq, 0, none⟩) c c]) (.slice na2 i nc2) n4)) rfl (by rw [hFs14]; rfl))
            obtain ⟨⟨⟨a94, c94, e94⟩, O94, D94⟩, A94⟩ := (show ((fun s v w => appF n2 TDI 1 (i + 1) (ac.map (Value.int .i64) ++ [Value.int .i64 (acc k)]) (.slice ea i ec) n4 v w ∧ ∀ b, (s 84).ownBlock = some b → v.ownBlock ≠ some b) : FctE) s' (s' 94) w14 from H 14 94 ((fun s v w => appF n2 TDI 1 (i + 1) (ac.map (Value.int .i64) ++ [Value.int .i64 (acc k)]) (.slice ea i ec) n4 v w ∧ ∀ b, (s 84).ownBlock = some b → v.ownBlock ≠ some b)) rfl (by rw [hFs14]; rfl))
            have e95 : s' 95 = (.pointer (some ⟨bd, 2, none⟩)) := H 15 95 ((fun _ v _ => v = (.pointer (some ⟨bd, 2, none⟩)))) rfl (by rw [hFs14]; rfl)
            obtain ⟨j14, rfl⟩ := Fits.out (σ := s') (l := [(1, (.int .i64 ((c : Nat) : Int))), (2, sv), (3, av), (4, (.int .i64 ((most : Nat) : Int))), (10, (.pointer (some ⟨br, 0, none⟩))), (12, (.slice (some ⟨sb2, 0, none⟩) sn sc2)), (13, (.map (some bm))), (14, (.pointer (some ⟨bd, 0, none⟩))), (15, (.int .i64 ((i : Nat) : Int))), (84, (.slice a84 (i + 1) c84)), (94, (.slice a94 (i + 1) c94)), (95, (.pointer (some ⟨bd, 2, none⟩)))]) ⟨U 1 rfl, U 2 rfl, U 3 rfl, U 4 rfl, U 10 rfl, U 12 rfl, U 13 rfl, U 14 rfl, U 15 rfl, e84, e94, e95, trivial⟩
            clear U H
            replace Br := Chg.keep X14 (fun h => h.elim (fun h => by have := (hOn.lt _ h).1; omega) (fun h => by have := (hOe.lt _ h).1; omega)) (X0.keep Br)
            replace Mm := Chg.keepM X14 (fun h => h.elim (fun h => by have := (hOn.lt _ h).1; omega) (fun h => by have := (hOe.lt _ h).1; omega)) (X0.keepM Mm)
            replace Bd := Chg.keep X14 (fun h => h.elim (fun h => by have := (hOn.lt _ h).1; omega) (fun h => by have := (hOe.lt _ h).1; omega)) (X0.keep Bd)
            replace Bq := Chg.keep X14 (fun h => h.elim (fun h => by have := hOz _ (.inr (.inl h)); omega) (fun h => by have := hOz _ (.inl h); omega)) (X0.keep Bq)
            have hXm := Chg.trans (Ext.chg X0) X14
            replace E := (E.ext X0).step X14 (fun y hy h => h.elim (fun h => by have := (hOn.lt y h).1; omega) (fun h => by have := (hOe.lt y h).1; omega))
            rw [e84] at O84 D84 A94
            rw [e94] at O94 D94 A94
            have hO2 := hO.push (y := acc k) (N' := .slice a84 (i + 1) c84) (E' := .slice a94 (i + 1) c94) hUq hRl.symm (by omega) (fun b hb => by have := hOz b hb; omega) hXm (by rw [hir]; exact O84) (fun k hk => by rw [← hn4]; exact D84 k hk) (by rw [hale, List.map_append]; exact O94) (fun k hk => by rw [← hn4]; exact D94 k hk) A94
            have hS2 := own_chg hS hXm (fun b hb h => h.elim (fun h => (hap b hb).1 (.inr (.inl h))) (fun h => (hap b hb).1 (.inl h)))
            have hsz2 := Nat.le_trans hsz hXm.size
            have hap2 : ∀ b, (Value.slice (some ⟨sb2, 0, none⟩) sn sc2).ownBlock = some b → ¬ OutB (.slice a94 (i + 1) c94) (.slice a84 (i + 1) c84) (vs ++ [.slice (some ⟨bq, 0, none⟩) c c]) b ∧ b ≠ bm ∧ b ≠ bd := fun b hb => ⟨fun ho => out_push ⟨(hap b hb).1, (hap b hb).2.2.2⟩ (by have := (hS.lt b hb).2; omega) D84 D94 ho, (hap b hb).2.1, (hap b hb).2.2.1⟩
            refine s_store (b := bd) (o := 2) (c' := #[(.int .i64 0), (.slice ea i ec), (.slice a84 (i + 1) c84)]) (v := (.slice a84 (i + 1) c84)) rfl rfl rfl siz23 Bd (by simp) rfl ?_
            intro w15 S15
            replace hO2 := hO2.chg S15.chg fun b hb h => by have := (hO2.lt hb).1; have h' : b = bd := h; omega
            replace hS2 := own_chg hS2 S15.chg fun b hb h => (hap b hb).2.2.1 h
            replace hsz2 := Nat.le_trans hsz2 S15.chg.size
            replace Br := S15.keep (by omega) Br
            replace Mm := S15.keepM (by omega) Mm
            replace Bq := S15.keep (by omega) Bq
            replace E := S15.step E (by first | exact Or.inl (by omega) | exact Or.inr rfl | exact Or.inr (by assumption) | exact Or.inr (by simp) | exact Or.inr (by omega) | exact Or.inr (by dsimp only; omega))
            replace Bd := S15.blk
            refine WpL_val rfl rfl (by decide) (r_fieldAddr (b := bd) (o := 0) (o' := 1) rfl Try.underlying25 rfl siz22 rfl) ?_
            refine s_store (b := bd) (o := 1) (c' := #[(.int .i64 0), (.slice a94 (i + 1) c94), (.slice a84 (i + 1) c84)]) (v := (.slice a94 (i + 1) c94)) rfl rfl rfl siz22 Bd (by simp) rfl ?_
            intro w16 S16
            replace hO2 := hO2.chg S16.chg fun b hb h => by have := (hO2.lt hb).1; have h' : b = bd := h; omega
            replace hS2 := own_chg hS2 S16.chg fun b hb h => (hap b hb).2.2.1 h
            replace hsz2 := Nat.le_trans hsz2 S16.chg.size
            replace Br := S16.keep (by omega) Br
            replace Mm := S16.keepM (by omega) Mm
            replace Bq := S16.keep (by omega) Bq
            replace E := S16.step E (by first | exact Or.inl (by omega) | exact Or.inr rfl | exact Or.inr (by assumption) | exact Or.inr (by simp) | exact Or.inr (by omega) | exact Or.inr (by dsimp only; omega))
            replace Bd := S16.blk
            refine WpL_nil ?_
            refine inB_normal ?_
            refine thn_normal ?_
            refine Wp_region ?_
            refine WpL_val rfl rfl (by decide) (r_move (v := (.int .i64 ((i : Nat) : Int))) rfl) ?_
            refine WpL_val rfl rfl (by decide) (r_add (k := .i64) (a := ((i : Nat) : Int)) (b := 1) (c := ((i : Nat) : Int) + 1) rfl rfl (wI64 (by omega))) ?_
            refine WpL_val rfl rfl (by decide) (r_assign (v := (.int .i64 (((i : Nat) : Int) + 1))) rfl) ?_
            refine WpL_nil ?_
            refine thn_normal ?_
            exact ⟨most - (i + 1), by omega, i + 1, rows ++ [R], ks, ac ++ [acc k], vs ++ [.slice (some ⟨bq, 0, none⟩) c c], some ⟨sb2, 0, none⟩, a94, a84, sc2, sn, c94, c84, Fits.out ⟨rfl, rfl, rfl, rfl, rfl, rfl, rfl, rfl, rfl, trivial⟩, E, Br, Mm, Bd, hC.rowed hRl, (by simp [hir]), hsn, (by omega), (by rw [take_snoc' hki, List.map_append, hta]; rfl), hS2, hO2, hap2, hsz2, rfl⟩
    · have khlt := hlt
      replace hlt := of_decide_eq_false hlt
      have hii : i = ks.length := by omega
      have hrk : rows.length = ks.length := by omega
      obtain ⟨hDok, hDb⟩ := hC.done (acc := acc) hrk (fun k hk => (hac k (hC.rch k hk)).1)
      have hkm3 := hfew1 ks hC.nd hC.rch
      have hac3 : ac = ks.map acc := by rw [hacc2, hii, List.take_length]
      refine Wp_exit ?_
      refine thn_exit ?_
      refine thn_exit ?_
      refine inB_here ?_
      refine thn_normal ?_
      refine Wp_seq_region ?_
      refine WpL_val rfl rfl (by decide) (r_loadAgg (vs := [(.int .i64 0), (.slice ea i ec), (.slice na2 i nc2)]) rfl agg25 siz25 rfl (Bd.cells rfl)) ?_
      refine s_storeAgg (b := br) (o := 0) (c' := #[(.int .i64 0), (.slice ea i ec), (.slice na2 i nc2)]) rfl rfl (by simp [Value.oneCell']) siz25 rfl Br (by simp) rfl ?_
      intro w17 S17
      replace hO := hO.chg S17.chg fun b hb h => by have := (hO.lt hb).1; have h' : b = br := h; omega
      replace Mm := S17.keepM (by omega) Mm
      replace Bd := S17.keep (by omega) Bd
      replace E := S17.step E (by first | exact Or.inl (by omega) | exact Or.inr rfl | exact Or.inr (by assumption) | exact Or.inr (by simp) | exact Or.inr (by omega) | exact Or.inr (by dsimp only; omega))
      replace Br := S17.blk
      refine WpL_val rfl rfl (by decide) (r_assign (v := (.bool true)) rfl) ?_
      refine WpL_nil ?_
      refine Wp_ret ?_
      refine fin_agg_tmp Try.results116 (vs := [(.int .i64 0), (.slice ea i ec), (.slice na2 i nc2)]) (b := br) (v' := (.bool true)) rfl agg25 siz25 rfl (Br.cells rfl) rfl ?_
      refine ⟨⟨⟨0, ac, rows⟩, _, ⟨?_, ?_, rfl, ?_, ?_⟩, rfl, ?_⟩, E⟩
      · rw [hac3]; show OkD rows.length c _; rw [hrk]; exact hDok
      · show rows.length ≤ mx; omega
      · rw [hac3]; exact hDb
      · intro x hx
        have hx : x ∈ ac := hx
        rw [hac3] at hx
        obtain ⟨u, hu, rfl⟩ := List.mem_map.1 hx
        exact (hac u (hC.rch u hu)).2
      · have hal3 : ac.length = i := by rw [hac3, List.length_map]; omega
        exact ⟨ea, ec, na2, nc2, vs, by show Value.agg #[_, _, _] = .agg #[_, .slice ea ac.length ec, .slice na2 rows.length nc2]; rw [hal3, hir], by show OutSt _ _ (.slice ea ac.length ec) (.slice na2 rows.length nc2) vs ac rows; rw [hal3, hir]; exact hO.low hbs0.2⟩
end Go.Proofs
namespace Go.Eng
open Go
def edgeB (l : List Oper) (t u : Nat) : Bool := match l[t]? with
  | some o => o.after.any fun e => Region.binds .any e && Nat.beq e.on u
  | none => false
def guardB (hd : List Bool) (o : Oper) : Bool := match o.guard with | some p => hd.getD p.1 false | none => true
/-- Each operation is of the head or of the tail, and one of the tail waits for the whole head or for another of the tail. -/
def tailPB (l : List Oper) (hd : List Bool) (ts : List Nat) : Bool :=
  (List.range l.length).all fun i => hd.getD i false || (ts.contains i && ((List.range l.length).all (fun u => !hd.getD u false || edgeB l i u) || ts.any fun p => !hd.getD p true && edgeB l i p))
def permB (ops : Array Oper) : List Nat → Array Bool → Bool
  | [], listed => (Region.ready .any ops listed).isEmpty
  | k :: ks, listed => decide (Region.ready .any ops listed = [k]) && permB ops ks (listed.setIfInBounds k true)
theorem wpAny_of_perm {P : Program} {ops : Array Oper} {Q' : Exit → Act → World → Prop} : ∀ (ks : List Nat) (listed : Array Bool) (a : Act) (w : World), permB ops ks listed = true → wpList P ops Q' (ks.filterMap fun k => ops[k]?) a w → wpAny P .any ops Q' ks.length listed a w
  | [], _, _, _, hB, h => ⟨by simpa [permB] using hB, h⟩
  | k :: ks, listed, a, w, hB, h => by
    simp only [permB, Bool.and_eq_true, decide_eq_true_eq] at hB
    refine ⟨fun h1 => (by rw [hB.1] at h1; cases h1), fun i hi => ?_⟩
    have hi0 := hi
    rw [hB.1] at hi
    have hik : i = k := by simpa using hi
    subst hik
    obtain ⟨_, o, h0, _⟩ := mem_ready.1 hi0
    have hw : wpOp P ops Q' i (wpList P ops Q' (ks.filterMap fun k => ops[k]?)) a w := by
      rw [List.filterMap_cons, h0] at h
      unfold wpOp; simp only [h0]; exact h
    exact wpOp_mono (fun a' w' h' => wpAny_of_perm ks _ a' w' hB.2 h') hw
inductive DagStepsP (P : Program) (N : Nat) (ds : List Nat) (Fs : List Fact) (σ : Env) (w : World) : List Oper → List (List Nat) → List Bool → List Fact → Prop where
  | nil : DagStepsP P N ds Fs σ w [] [] [] []
  | cons {o : Oper} {ws : List Nat} {F : Fact} {l : List Oper} {wss : List (List Nat)} {hs : List Bool} {Gs : List Fact} : DagStep P N ds Fs σ w o ws F → DagStepsP P N ds Fs σ w l wss hs Gs → DagStepsP P N ds Fs σ w (o :: l) (ws :: wss) (true :: hs) (F :: Gs)
  | tail {o : Oper} {ws : List Nat} {F : Fact} {l : List Oper} {wss : List (List Nat)} {hs : List Bool} {Gs : List Fact} : DagStepsP P N ds Fs σ w l wss hs Gs → DagStepsP P N ds Fs σ w (o :: l) (ws :: wss) (false :: hs) (F :: Gs)
theorem DagStepsP.get {P : Program} {N : Nat} {ds : List Nat} {Fs : List Fact} {σ : Env} {w : World} : ∀ {l : List Oper} {wss : List (List Nat)} {hs : List Bool} {Gs : List Fact}, DagStepsP P N ds Fs σ w l wss hs Gs → ∀ {j : Nat} {o : Oper}, l[j]? = some o → hs[j]? = some true → ∃ ws F, wss[j]? = some ws ∧ Gs[j]? = some F ∧ DagStep P N ds Fs σ w o ws F
  | _, _, _, _, .nil, j, o, h, _ => by simp at h
  | _, _, _, _, .cons h1 h2, 0, o, h, _ => by simp at h; subst h; exact ⟨_, _, rfl, rfl, h1⟩
  | _, _, _, _, .tail h2, 0, o, h, ht => by simp at ht
  | _, _, _, _, .cons h1 h2, j + 1, o, h, ht => by
    obtain ⟨ws, F, a, b, c⟩ := h2.get (j := j) (by simpa using h) (by simpa using ht)
    exact ⟨ws, F, by simpa using a, by simpa using b, c⟩
  | _, _, _, _, .tail h2, j + 1, o, h, ht => by
    obtain ⟨ws, F, a, b, c⟩ := h2.get (j := j) (by simpa using h) (by simpa using ht)
    exact ⟨ws, F, by simpa using a, by simpa using b, c⟩
/-- How many of the head are yet to come. -/
def leftH (hd : List Bool) (listed : List Bool) : Nat := ((hd.zip listed).filter fun p => p.1 && !p.2).length
theorem leftH_set : ∀ {hd listed : List Bool} {i : Nat}, hd[i]? = some true → listed[i]? = some false → leftH hd (listed.set i true) + 1 = leftH hd listed
  | [], _, _, h, _ => by simp at h
  | _ :: _, [], _, _, h => by simp at h
  | h :: hd, x :: listed, 0, h1, h2 => by
    simp at h1 h2
    subst h1; subst h2
    simp [leftH]
  | h :: hd, x :: listed, i + 1, h1, h2 => by
    have := leftH_set (hd := hd) (listed := listed) (i := i) (by simpa using h1) (by simpa using h2)
    simp only [leftH, List.set_cons_succ, List.zip_cons_cons, List.filter_cons] at this ⊢
    split
    · simp only [List.length_cons]; omega
    · exact this
theorem leftH_zero : ∀ {hd listed : List Bool}, hd.length = listed.length → leftH hd listed = 0 → (∀ (i : Nat), hd[i]? = some false → listed[i]? = some false) → listed = hd
  | [], [], _, _, _ => rfl
  | [], _ :: _, h, _, _ => by simp at h
  | _ :: _, [], h, _, _ => by simp at h
  | h :: hd, x :: listed, hl, h0, ht => by
    have e1 : leftH hd listed = 0 := by
      simp only [leftH, List.zip_cons_cons, List.filter_cons] at h0 ⊢
      split at h0
      · simp at h0
      · exact h0
    have e2 := leftH_zero (by simpa using hl) e1 fun i hi => by have := ht (i + 1) (by simpa using hi); simpa using this
    have e3 : x = h := by
      cases h with
      | false => have := ht 0 rfl; simpa using this
      | true =>
        cases x with
        | true => rfl
        | false => simp [leftH] at h0
    rw [e2, e3]
theorem leftH_pos : ∀ {hd listed : List Bool}, 0 < leftH hd listed → ∃ i : Nat, hd[i]? = some true ∧ listed[i]? = some false
  | [], _, h => by simp [leftH] at h
  | _ :: _, [], h => by simp [leftH] at h
  | h :: hd, x :: listed, hp => by
    simp only [leftH, List.zip_cons_cons, List.filter_cons] at hp
    split at hp
    · rename_i hc
      simp at hc
      exact ⟨0, by simp [hc.1], by simp [hc.2]⟩
    · obtain ⟨i, h1, h2⟩ := leftH_pos (hd := hd) (listed := listed) hp
      exact ⟨i + 1, by simpa using h1, by simpa using h2⟩
theorem getD_arr {listed : Array Bool} {i : Nat} {b d : Bool} (h : listed.toList[i]? = some b) : listed.getD i d = b := by
  have : listed[i]? = some b := by simpa using h
  simp [Array.getD_eq_getD_getElem?, this]
theorem lst5 {x y z u p a b c d e : Value} (h : x = a) (h' : y = b) (h'' : z = c) (h3 : u = d) (h4 : p = e) : [x, y, z, u, p] = [a, b, c, d, e] := by rw [h, h', h'', h3, h4]
section
variable {P : Program} {N : Nat} {σ : Env} {w : World} {dst : Option Tmp} {ty : TypeId} {pos : String} {af : Array Edge} {g : Option (Nat × Bool)} {t : TypeId} {x y z u : Operand} {a b c d : Value} {i j k m : Nat}
theorem bld2 (h : ev σ x = a) (h2 : ev σ y = b) : ([(i, x), (j, y)].map fun (i, x) => (i, ev σ x)) = [(i, a), (j, b)] := by simp only [List.map, h, h2]
/-- A new variable, with its cells. -/
def alF (e : Nat) (c : Array Value) (hs : Nat) : Fct := fun v w => ∃ b, v = .pointer (some ⟨b, 0, none⟩) ∧ Blk w b c e ∧ hs ≤ b
theorem alF_ext (e : Nat) (c : Array Value) (hs : Nat) : Stable (alF e c hs) := by
  rintro v w w' x ⟨b, h1, h2, h3⟩
  exact ⟨b, h1, Ext.keep x h2, h3⟩
end
end Go.Eng
namespace Go.Eng
open Go
abbrev FctS := (Nat → Bool) → Env → Fct
def HoldsS (ds : List Nat) (Fs : List FctS) (S : Nat → Bool) (j : Nat) (σ : Env) (w : World) : Prop := ∀ d F, ds[j]? = some d → Fs[j]? = some F → F S σ (σ d) w
def insS (S : Nat → Bool) (i : Nat) : Nat → Bool := fun j => bif Nat.beq j i then true else S j
theorem insS_self (S : Nat → Bool) (i : Nat) : insS S i i = true := by simp [insS]
theorem insS_ne {S : Nat → Bool} {i j : Nat} (h : j ≠ i) : insS S i j = S j := by
  have : Nat.beq j i = false := by cases hb : Nat.beq j i; rfl; exact absurd (Nat.eq_of_beq_eq_true hb) h
  simp [insS, this]
/-- The blocks that the operations change. -/
def MsL : List (Nat × (Nat → Prop)) → Nat → Nat → Prop
  | [], _, _ => False
  | p :: r, j, y => (j = p.1 ∧ p.2 y) ∨ MsL r j y
theorem MsL_or {c : Nat} {M : Nat → Prop} {r : List (Nat × (Nat → Prop))} {j y : Nat} (h : MsL ((c, M) :: r) j y) : (j = c ∧ M y) ∨ MsL r j y := h
def dagOneS (N i : Nat) (hd : List Bool) (o : Oper) (d : Nat) (ws : List Nat) : Bool :=
  (match o.dst with | some d' => Nat.beq d' d && Nat.blt d N | none => Nat.ble N d) && (o.after.all fun e => !Region.binds .any e || (Nat.blt e.on i && hd.getD e.on false)) && (ws.all fun j => o.after.any fun e => Region.binds .any e && Nat.beq e.on j) && guardB hd o
def dagSB (N : Nat) (hd : List Bool) : Nat → List Oper → List Nat → List (List Nat) → List Bool → Bool
  | _, [], [], [], [] => true
  | i, o :: l, d :: ds, ws :: wss, h :: hs => (bif h then dagOneS N i hd o d ws else Nat.ble N d) && dagSB N hd (i + 1) l ds wss hs
  | _, _, _, _, _ => false
theorem dagSB_get {N : Nat} {hd : List Bool} : ∀ {i : Nat} {l : List Oper} {ds : List Nat} {wss : List (List Nat)} {hs : List Bool}, dagSB N hd i l ds wss hs = true → ∀ {j : Nat} {o : Oper}, l[j]? = some o → ∃ d ws h, ds[j]? = some d ∧ wss[j]? = some ws ∧ hs[j]? = some h ∧ (bif h then dagOneS N (i + j) hd o d ws else Nat.ble N d) = true
  | _, [], _, _, _, _, j, o, h => by simp at h
  | i, x :: l, [], _, _, hB, _, _, _ => by simp [dagSB] at hB
  | i, x :: l, d :: ds, [], _, hB, _, _, _ => by simp [dagSB] at hB
  | i, x :: l, d :: ds, ws :: wss, [], hB, _, _, _ => by simp [dagSB] at hB
  | i, x :: l, d :: ds, ws :: wss, h0 :: hs, hB, j, o, h => by
    simp only [dagSB, Bool.and_eq_true] at hB
    cases j with
    | zero => simp at h; subst h; exact ⟨d, ws, h0, rfl, rfl, rfl, hB.1⟩
    | succ j =>
      simp at h
      obtain ⟨d', ws', h', h1, h2, h3, h4⟩ := dagSB_get hB.2 h
      exact ⟨d', ws', h', by simpa using h1, by simpa using h2, by simpa using h3, by rw [show i + (j + 1) = i + 1 + j from by omega]; exact h4⟩
theorem dagSB_len {N : Nat} {hd : List Bool} : ∀ {i : Nat} {l : List Oper} {ds : List Nat} {wss : List (List Nat)} {hs : List Bool}, dagSB N hd i l ds wss hs = true → ds.length = l.length ∧ hs.length = l.length ∧ wss.length = l.length
  | _, [], [], [], [], _ => ⟨rfl, rfl, rfl⟩
  | _, [], [], [], _ :: _, hB => by simp [dagSB] at hB
  | _, [], [], _ :: _, _, hB => by simp [dagSB] at hB
  | _, [], _ :: _, _, _, hB => by simp [dagSB] at hB
  | i, x :: l, [], _, _, hB => by simp [dagSB] at hB
  | i, x :: l, d :: ds, [], _, hB => by simp [dagSB] at hB
  | i, x :: l, d :: ds, ws :: wss, [], hB => by simp [dagSB] at hB
  | i, x :: l, d :: ds, ws :: wss, h0 :: hs, hB => by
    simp only [dagSB, Bool.and_eq_true] at hB
    have := dagSB_len hB.2
    simp [this.1, this.2.1, this.2.2]
def DagStepS (P : Program) (N : Nat) (ds : List Nat) (Fs : List FctS) (σ : Env) (w : World) (Ms : Nat → Nat → Prop) (cl : List (List Nat)) (i : Nat) (o : Oper) (ws : List Nat) (F : FctS) : Prop :=
  ∀ (S : Nat → Bool) σ' w', S i = false → (∀ j, (cl.getD j []).contains i = true → S j = false) → Chg (fun y => ∃ j, S j = true ∧ Ms j y) w w' → (∀ t, ds.contains t = false → σ' t = σ t) → (∀ j, ws.contains j = true → S j = true ∧ HoldsS ds Fs S j σ' w') →
    (Guarded ds o σ' ∧ DoesT (Ms i) P N o (fun v w => F (insS S i) σ' (valOf o v) w) σ' w') ∨ (Unmet ds o σ' ∧ F (insS S i) σ' undef w')
/-- A fact lasts while other operations are done. -/
def StabS (Ms : Nat → Nat → Prop) (i : Nat) (ws : List Nat) (F : FctS) : Prop := ∀ p, p ≠ i → ws.contains p = false → ∀ S σ v w w', S i = true → S p = false → Chg (Ms p) w w' → F S σ v w → F (insS S p) σ v w'
/-- A fact speaks of the values of the operations that it waits for alone. -/
def LocS (ds : List Nat) (ws : List Nat) (F : FctS) : Prop := ∀ S (σ1 σ2 : Env), (∀ j d, ws.contains j = true → ds[j]? = some d → σ2 d = σ1 d) → ∀ v w, F S σ1 v w → F S σ2 v w
inductive DagStepsS (P : Program) (N : Nat) (ds : List Nat) (Fs : List FctS) (σ : Env) (w : World) (Ms : Nat → Nat → Prop) (cl : List (List Nat)) : Nat → List Oper → List (List Nat) → List Bool → List FctS → Prop where
  | nil {i : Nat} : DagStepsS P N ds Fs σ w Ms cl i [] [] [] []
  | cons {i : Nat} {o : Oper} {ws : List Nat} {F : FctS} {l : List Oper} {wss : List (List Nat)} {hs : List Bool} {Gs : List FctS} (s : StabS Ms i ws F) (lc : LocS ds ws F) (h : DagStepS P N ds Fs σ w Ms cl i o ws F) (t : DagStepsS P N ds Fs σ w Ms cl (i + 1) l wss hs Gs) : DagStepsS P N ds Fs σ w Ms cl i (o :: l) (ws :: wss) (true :: hs) (F :: Gs)
  | tail {i : Nat} {o : Oper} {ws : List Nat} {F : FctS} {l : List Oper} {wss : List (List Nat)} {hs : List Bool} {Gs : List FctS} (t : DagStepsS P N ds Fs σ w Ms cl (i + 1) l wss hs Gs) : DagStepsS P N ds Fs σ w Ms cl i (o :: l) (ws :: wss) (false :: hs) (F :: Gs)
theorem DagStepsS.get {P : Program} {N : Nat} {ds : List Nat} {Fs : List FctS} {σ : Env} {w : World} {Ms : Nat → Nat → Prop} {cl : List (List Nat)} : ∀ {i : Nat} {l : List Oper} {wss : List (List Nat)} {hs : List Bool} {Gs : List FctS}, DagStepsS P N ds Fs σ w Ms cl i l wss hs Gs → ∀ {j : Nat} {o : Oper}, l[j]? = some o → hs[j]? = some true → ∃ ws F, wss[j]? = some ws ∧ Gs[j]? = some F ∧ StabS Ms (i + j) ws F ∧ LocS ds ws F ∧ DagStepS P N ds Fs σ w Ms cl (i + j) o ws F
  | _, _, _, _, _, .nil, j, o, h, _ => by simp at h
  | i, _, _, _, _, .cons s lc h t, 0, o, ho, _ => by
    simp at ho; subst ho
    exact ⟨_, _, rfl, rfl, s, lc, h⟩
  | _, _, _, _, _, .tail t, 0, o, h, ht => by simp at ht
  | i, _, _, _, _, .cons s lc h t, j + 1, o, ho, ht => by
    obtain ⟨ws, F, h1, h2, h3, h5, h4⟩ := t.get (j := j) (by simpa using ho) (by simpa using ht)
    exact ⟨ws, F, by simpa using h1, by simpa using h2, by rw [show i + (j + 1) = i + 1 + j from by omega]; exact h3, h5, by rw [show i + (j + 1) = i + 1 + j from by omega]; exact h4⟩
  | i, _, _, _, _, .tail t, j + 1, o, ho, ht => by
    obtain ⟨ws, F, h1, h2, h3, h5, h4⟩ := t.get (j := j) (by simpa using ho) (by simpa using ht)
    exact ⟨ws, F, by simpa using h1, by simpa using h2, by rw [show i + (j + 1) = i + 1 + j from by omega]; exact h3, h5, by rw [show i + (j + 1) = i + 1 + j from by omega]; exact h4⟩
def allS (hd : List Bool) : Nat → Bool := fun j => hd.getD j false
theorem Wp_dagS {P : Program} {N : Nat} {Q : Post} {σ : Env} {w : World} {id : Nat} {l : List Oper} (Ms : Nat → Nat → Prop) (hd : List Bool) (ts : List Nat) (ds : List Nat) (wss cl : List (List Nat)) (Fs : List FctS) {Gs : List FctS} (hG : Fs = Gs) (hC : closB wss cl = true) (hm : P.follows .mixedOrders = true) (hB : dagSB N hd 0 l ds wss hd = true) (hn : nodupB ds = true)
    (hT : (tailPB l hd ts && permB l.toArray ts hd.toArray) = true) (hN : Nat.beq (leftH hd (List.replicate l.length false) + ts.length) l.length = true)
    (steps : ∀ w1, Ext w w1 → DagStepsS P N ds Fs σ w1 Ms cl 0 l cl hd Gs)
    (k : ∀ σ' w1 w', Ext w w1 → Chg (fun y => ∃ j, hd.getD j false = true ∧ Ms j y) w1 w' → (∀ t, ds.contains t = false → σ' t = σ t) → (∀ j, hd[j]? = some true → HoldsS ds Fs (allS hd) j σ' w') → WpL P N l.toArray (Q .normal) Q (ts.filterMap fun k => l[k]?) σ' w') : Wp P N (.region id l.toArray true) Q σ w := by
  intro a ha he
  have eQ : lift N (thn (Q .normal) Q) = lift N Q := by funext e a w; cases e <;> rfl
  refine wp_region_any hm ?_
  obtain ⟨w1, hw1⟩ : ∃ w1 : World, w1 = { w with drawn := w.drawn + 1 } := ⟨_, rfl⟩
  have hE1 : Ext w w1 := by rw [hw1]; exact drew_ext w
  rw [← hw1]
  have hst := steps w1 hE1
  rw [← hG] at hst
  rw [Bool.and_eq_true] at hT
  obtain ⟨hT1, hT2⟩ := hT
  obtain ⟨hlen, hlen2, hlen3⟩ := dagSB_len hB
  let Lf : Array Bool → Nat → Bool := fun listed j => listed.getD j false
  have key : ∀ (m : Nat) (listed : Array Bool) (a : Act) (w' : World), leftH hd listed.toList = m → listed.size = l.length → (∀ (t : Nat), hd[t]? = some false → listed.toList[t]? = some false) → (∀ (j : Nat) oj, l[j]? = some oj → listed.getD j false = true → ∀ e ∈ oj.after, Region.binds .any e = true → listed.getD e.on false = true) → Ok N a → Chg (fun y => ∃ j, listed.getD j false = true ∧ Ms j y) w1 w' → (∀ t, ds.contains t = false → env a t = σ t) → (∀ j, hd[j]? = some true → listed.getD j false = true → HoldsS ds Fs (Lf listed) j (env a) w') →
      wpAny P .any l.toArray (lift N Q) (m + ts.length) listed a w' := by
    intro m
    induction m with
    | zero =>
      intro listed a w' hc0 hsz htl hcd ha hx hu hh
      have hl : listed = hd.toArray := by
        apply Array.ext'
        exact leftH_zero (by simp; omega) hc0 htl
      have hLf : Lf listed = allS hd := by
        funext j
        show listed.getD j false = hd.getD j false
        rw [hl]; simp [List.getD_eq_getElem?_getD]
      rw [Nat.zero_add]
      have h1 := k (env a) w1 w' hE1 (hx.mono fun y _ h => by
        obtain ⟨j, h1, h2⟩ := h
        have : allS hd j = true := by rw [← hLf]; exact h1
        exact ⟨j, this, h2⟩) hu (fun j hj => by rw [← hLf]; exact hh j hj (getD_arr (by rw [hl]; exact hj))) a ha rfl
      rw [eQ] at h1
      exact wpAny_of_perm ts listed a w' (by rw [hl]; exact hT2) (by simpa using h1)
    | succ m ih =>
      intro listed a w' hcm hsz htl hcd ha hx hu hh
      obtain ⟨i0, hi0, hi1⟩ := leftH_pos (hd := hd) (listed := listed.toList) (by omega)
      rw [show m + 1 + ts.length = (m + ts.length) + 1 by omega]
      refine ⟨fun hr => ?_, fun i hi => ?_⟩
      · exfalso
        have hall : ∀ i : Nat, hd[i]? = some true → listed.getD i true = true := by
          intro i
          induction i using Nat.strongRecOn with
          | _ i ihi =>
            intro hi
            cases hv : listed.getD i true with
            | true => rfl
            | false =>
              exfalso
              obtain ⟨o, ho⟩ := get_of_lt (l := l) (i := i) (by have := lt_of_get hi; omega)
              obtain ⟨d, ws, h, _, _, h2, h3⟩ := dagSB_get hB ho
              rw [hi] at h2
              cases h2
              simp only [cond_true, dagOneS, Bool.and_eq_true, Nat.zero_add] at h3
              have : i ∈ Region.ready .any l.toArray listed := by
                refine mem_ready.2 ⟨hv, o, by simpa using ho, fun e he hb => ?_⟩
                have h4 := h3.1.1.2
                simp only [Array.all_eq_true_iff_forall_mem, Bool.or_eq_true, Bool.not_eq_true', Bool.and_eq_true] at h4
                have h6 := (h4 e he).resolve_left (by simp [hb])
                have hlt : e.on < i := by simpa [Nat.blt_eq] using h6.1
                have h7 := h6.2
                have hj0 : e.on < hd.length := by have := lt_of_get hi; omega
                have h8 : hd[e.on]? = some true := by
                  rw [List.getD_eq_getElem?_getD, List.getElem?_eq_getElem hj0, Option.getD_some] at h7
                  rw [List.getElem?_eq_getElem hj0, h7]
                have h9 := ihi e.on hlt h8
                have hj : e.on < listed.size := by omega
                simpa only [Array.getD_eq_getD_getElem?, Array.getElem?_eq_getElem hj, Option.getD_some] using h9
              rw [hr] at this
              cases this
        have := hall i0 hi0
        rw [getD_arr hi1] at this
        cases this
      · obtain ⟨h1, o, h2, h3⟩ := mem_ready.1 hi
        have ho : l[i]? = some o := by simpa using h2
        have hil : i < l.length := lt_of_get ho
        have hih : hd[i]? = some true := by
          obtain ⟨b, hb⟩ := get_of_lt (l := hd) (i := i) (by omega)
          cases b with
          | true => exact hb
          | false =>
            exfalso
            have h4 := List.all_eq_true.1 hT1 i (List.mem_range.2 hil)
            rw [List.getD_eq_getElem?_getD, hb, Option.getD_some, Bool.false_or, Bool.and_eq_true, Bool.or_eq_true] at h4
            have edge : ∀ u, edgeB l i u = true → listed.getD u false = true := fun u hu' => by
              unfold edgeB at hu'
              rw [ho] at hu'
              simp only [Array.any_eq_true', Bool.and_eq_true] at hu'
              obtain ⟨e, he, hb1, hb2⟩ := hu'
              have := Nat.eq_of_beq_eq_true hb2
              rw [← this]
              exact h3 e he hb1
            rcases h4.2 with h5 | h5
            · have h6 := List.all_eq_true.1 h5 i0 (List.mem_range.2 (by have := lt_of_get hi0; omega))
              rw [List.getD_eq_getElem?_getD, hi0, Option.getD_some, Bool.not_true, Bool.false_or] at h6
              have := edge i0 h6
              rw [getD_arr hi1] at this
              cases this
            · obtain ⟨p, _, h6⟩ := List.any_eq_true.1 h5
              rw [Bool.and_eq_true, Bool.not_eq_true'] at h6
              have h7 := edge p h6.2
              have hp : hd[p]? = some false := by
                have h8 := h6.1
                rw [List.getD_eq_getElem?_getD] at h8
                cases h9 : hd[p]? with
                | none => rw [h9] at h8; cases h8
                | some b => rw [h9, Option.getD_some] at h8; rw [h8]
              rw [getD_arr (htl p hp)] at h7
              cases h7
        obtain ⟨d, ws, h, hd', hws, hhs, h4⟩ := dagSB_get hB ho
        rw [hih] at hhs
        cases hhs
        obtain ⟨ci, F, hci, hF, hstab, hloc, hstep⟩ := hst.get ho hih
        rw [Nat.zero_add] at hstab hstep
        simp only [cond_true, dagOneS, Bool.and_eq_true, List.all_eq_true, Array.any_eq_true', Nat.zero_add] at h4
        obtain ⟨⟨⟨hdst, _⟩, hwait⟩, hgB⟩ := h4
        have hlisted : ∀ j, listed.getD j false = true → hd[j]? = some true := fun j hj => by
          obtain ⟨b, hb⟩ := get_of_lt (l := hd) (i := j) (by
            rcases Nat.lt_or_ge j listed.size with h9 | h9
            · omega
            · simp [Array.getD_eq_getD_getElem?, Array.getElem?_eq_none h9] at hj)
          cases b with
          | true => exact hb
          | false => rw [getD_arr (htl j hb)] at hj; cases hj
        have hcl : ∀ j, listed.getD j false = true → ∀ c, (cl.getD j []).contains c = true → listed.getD c false = true := by
          intro j
          induction j using Nat.strongRecOn with
          | _ j ihj =>
            intro hlj c hc
            have hjh := hlisted j hlj
            obtain ⟨oc, hoc⟩ := get_of_lt (l := l) (i := j) (by have := lt_of_get hjh; omega)
            obtain ⟨dc, wsc, hb, _, hwsc, hhb, h5⟩ := dagSB_get hB hoc
            rw [hjh] at hhb
            cases hhb
            simp only [cond_true, dagOneS, Bool.and_eq_true, List.all_eq_true, Array.any_eq_true', Array.all_eq_true_iff_forall_mem, Bool.or_eq_true, Bool.not_eq_true', Nat.zero_add] at h5
            have hdir : ∀ e' ∈ wsc, listed.getD e' false = true ∧ e' < j := by
              intro e' he'
              obtain ⟨e, he, hb1, hb2⟩ := h5.1.2 e' he'
              have hei : e.on = e' := Nat.eq_of_beq_eq_true hb2
              have h6 := hcd j oc hoc hlj e he hb1
              have h7 := (h5.1.1.2 e he).resolve_left (by simp [hb1])
              rw [hei] at h6 h7
              exact ⟨h6, by simpa [Nat.blt_eq] using h7.1⟩
            rcases closB_get hC hwsc hc with h6 | ⟨e', he', h6⟩
            · exact (hdir c h6).1
            · exact ihj e' (hdir e' he').2 (hdir e' he').1 c h6
        have hclo : ∀ j, ci.contains j = true → listed.getD j false = true := by
          intro j hj
          have hj' : (cl.getD i []).contains j = true := by rw [List.getD_eq_getElem?_getD, hci, Option.getD_some]; exact hj
          have hdir : ∀ e' ∈ ws, listed.getD e' false = true := by
            intro e' he'
            obtain ⟨e, he, hb1, hb2⟩ := hwait e' he'
            have : e.on = e' := Nat.eq_of_beq_eq_true hb2
            exact this ▸ h3 e he hb1
          rcases closB_get hC hws hj' with h6 | ⟨e', he', h6⟩
          · exact hdir j h6
          · exact hcl e' (hdir e' he') j h6
        have hSi : Lf listed i = false := getD_both h1
        have hSn : ∀ j, (cl.getD j []).contains i = true → Lf listed j = false := by
          intro j hj
          cases hlj : Lf listed j with
          | false => rfl
          | true =>
            exfalso
            have := hcl j hlj i hj
            rw [getD_both h1] at this; cases this
        have hH : ∀ j, ci.contains j = true → Lf listed j = true ∧ HoldsS ds Fs (Lf listed) j (env a) w' := fun j hj => ⟨hclo j hj, hh j (hlisted j (hclo j hj)) (hclo j hj)⟩
        have hil2 : i < listed.size := by omega
        have hLs : Lf (listed.setIfInBounds i true) = insS (Lf listed) i := by
          funext j
          by_cases hij : j = i
          · subst hij
            rw [insS_self]
            show (listed.setIfInBounds j true).getD j false = true
            simp [Array.getD_eq_getD_getElem?, hil2]
          · rw [insS_ne hij]
            exact getD_set_ne _ (Ne.symm hij)
        have hstep2 : ∀ w2, Chg (Ms i) w' w2 → Chg (fun y => ∃ j, (listed.setIfInBounds i true).getD j false = true ∧ Ms j y) w1 w2 := by
          intro w2 hx2
          have hg : (listed.setIfInBounds i true).getD i false = true := by simp [Array.getD_eq_getD_getElem?, hil2]
          refine Chg.step (hx.mono fun y _ h => ?_) hx2 (fun y _ h => ⟨i, hg, h⟩)
          obtain ⟨j, h5, h6⟩ := h
          by_cases hij : j = i
          · exact ⟨i, hg, hij ▸ h6⟩
          · exact ⟨j, by rw [getD_set_ne _ (Ne.symm hij)]; exact h5, h6⟩
        have cont : ∀ v w2, Chg (Ms i) w' w2 → F (insS (Lf listed) i) (env a) (valOf o v) w2 → wpAny P .any l.toArray (lift N Q) (m + ts.length) (listed.setIfInBounds i true) (a.put o.dst v) w2 := by
          intro v w2 hx2 hv
          have henv : (∀ t, t ≠ d → env (a.put o.dst v) t = env a t) ∧ env (a.put o.dst v) d = valOf o v := by
            cases hod : o.dst with
            | none =>
              rw [hod] at hdst
              have hNd : N ≤ d := Nat.le_of_ble_eq_true hdst
              refine ⟨fun t _ => rfl, ?_⟩
              simp only [valOf, hod]
              show a.tmps.getD d undef = undef
              have : a.tmps.size ≤ d := by rw [ha.size]; exact hNd
              simp [Array.getElem?_eq_none this]
            | some d' =>
              rw [hod] at hdst
              simp only [Bool.and_eq_true] at hdst
              have hd1 : d' = d := Nat.eq_of_beq_eq_true hdst.1
              have hd2 : d < N := by simpa [Nat.blt_eq] using hdst.2
              subst hd1
              rw [env_put ha hd2 v]
              refine ⟨fun t ht => ?_, ?_⟩
              · have : Nat.beq t d' = false := by cases hb : Nat.beq t d'; rfl; exact absurd (Nat.eq_of_beq_eq_true hb) ht
                simp [upd, this]
              · simp [upd, valOf, hod]
          have hlf : listed.toList[i]? = some false := by
            simp only [Array.getD_eq_getD_getElem?, Array.getElem?_eq_getElem hil2, Option.getD_some] at h1
            rw [Array.getElem?_toList, Array.getElem?_eq_getElem hil2, h1]
          refine ih _ _ _ ?_ (by simpa using hsz) (fun t ht => ?_) (fun j oj hoj hlj e he hb => ?_) (ha.put _ _) (hstep2 w2 hx2) ?_ ?_
          · rw [Array.toList_setIfInBounds]
            have := leftH_set hih hlf
            omega
          · rw [Array.toList_setIfInBounds, List.getElem?_set]
            have hne : i ≠ t := fun e => by rw [← e, hih] at ht; cases ht
            rw [if_neg hne]
            exact htl t ht
          · refine getD_set_true ?_
            by_cases hij : j = i
            · subst hij
              rw [ho] at hoj; cases hoj
              exact h3 e he hb
            · rw [getD_set_ne _ (Ne.symm hij)] at hlj
              exact hcd j oj hoj hlj e he hb
          · intro t ht
            rw [henv.1 t (fun h => by
              subst h
              have := List.mem_of_getElem? hd'
              simp [this] at ht), hu t ht]
          · intro j hjh hj d2 F2 hd2 hF2
            rw [hLs]
            by_cases hij : j = i
            · subst hij
              rw [hd'] at hd2; cases hd2
              rw [hF] at hF2; cases hF2
              rw [henv.2]
              refine hloc _ (env a) _ (fun j' d2 hj' hd2 => henv.1 d2 fun he => ?_) _ _ hv
              have := nodupB_get hn (he ▸ hd2) hd'
              subst this
              have := hclo j' hj'
              rw [getD_both h1] at this
              cases this
            · have hne : d2 ≠ d := by
                intro h
                subst h
                exact hij (nodupB_get hn hd2 hd')
              rw [henv.1 d2 hne]
              rw [getD_set_ne _ (Ne.symm hij)] at hj
              have h6 := hh j hjh hj d2 F2 hd2 hF2
              obtain ⟨oj, hoj⟩ := get_of_lt (l := l) (i := j) (by have := lt_of_get hjh; omega)
              obtain ⟨cj, Fj, hcj, hFj, hsj, hlj, _⟩ := hst.get hoj hjh
              rw [hF2] at hFj; cases hFj
              rw [Nat.zero_add] at hsj
              have hgc : cl.getD j [] = cj := by rw [List.getD_eq_getElem?_getD, hcj, Option.getD_some]
              have hcji : cj.contains i = false := by
                cases hcji : cj.contains i with
                | false => rfl
                | true =>
                  exfalso
                  have := hSn j (by rw [hgc]; exact hcji)
                  have hj' : Lf listed j = true := hj
                  rw [hj'] at this; cases this
              refine hlj _ (env a) _ (fun j' d3 hj' hd3 => henv.1 d3 fun he => ?_) _ _ (hsj i (Ne.symm hij) hcji (Lf listed) (env a) _ _ _ hj hSi hx2 h6)
              have h8 := nodupB_get hn (he ▸ hd3) hd'
              subst h8
              rw [hcji] at hj'
              cases hj'
        have gd : ∀ j b, o.guard = some (j, b) → ∀ dj, ds[j]? = some dj → ((∃ oj, l[j]? = some oj ∧ oj.dst = some dj) ∧ dj < N) ∨ (N ≤ dj ∧ ∃ oj, l[j]? = some oj ∧ oj.dst = none) := fun j b hgd dj hdj => by
          obtain ⟨oj, hoj⟩ := get_of_lt (l := l) (i := j) (by have := lt_of_get hdj; omega)
          obtain ⟨dj', _, hj, hdj', _, h5, h6⟩ := dagSB_get hB hoj
          rw [hdj] at hdj'
          cases hdj'
          unfold guardB at hgB
          rw [hgd] at hgB
          simp only at hgB
          have h7 : hj = true := by rw [List.getD_eq_getElem?_getD, h5, Option.getD_some] at hgB; exact hgB
          rw [h7] at h6
          simp only [cond_true, Bool.and_eq_true, dagOneS] at h6
          have hdst2 := h6.1.1.1
          split at hdst2
          · rename_i d2 hq
            rw [Bool.and_eq_true] at hdst2
            exact .inl ⟨⟨oj, hoj, by rw [hq, Nat.eq_of_beq_eq_true hdst2.1]⟩, by simpa [Nat.blt_eq] using hdst2.2⟩
          · rename_i hq
            exact .inr ⟨Nat.le_of_ble_eq_true hdst2, oj, hoj, hq⟩
        rcases hstep (Lf listed) (env a) w' hSi hSn hx hu hH with ⟨hg, hdo⟩ | ⟨⟨j, b, dj, hgd, hdj, hvj⟩, hund⟩
        · have hw : Region.wanted o (yielded l.toArray a.tmps) = true := by
            cases hgd : o.guard with
            | none => simp [Region.wanted, hgd]
            | some p =>
              obtain ⟨j, b⟩ := p
              obtain ⟨dj, hdj, hvj⟩ := hg j b hgd
              rcases gd j b hgd dj hdj with ⟨hdst2, hdN2⟩ | ⟨hge, _⟩
              · have h6 : a.tmps[dj]? = some (Value.bool b) := by
                  have h2 : a.tmps.getD dj undef = .bool b := hvj
                  have hlt : dj < a.tmps.size := by rw [ha.size]; exact hdN2
                  rw [Array.getElem?_eq_getElem hlt]
                  simpa [hlt] using h2
                obtain ⟨oj, hoj, hdst2⟩ := hdst2
                simp [Region.wanted, hgd, yielded, hoj, hdst2, h6]
              · exfalso
                have h2 : a.tmps.getD dj undef = .bool b := hvj
                have : a.tmps.size ≤ dj := by rw [ha.size]; exact hge
                simp [Array.getElem?_eq_none this, undef] at h2
          unfold wpOp
          simp only [h2, hw, if_true]
          exact Or.inl (hdo a ha rfl _ _ cont)
        · have hw : Region.wanted o (yielded l.toArray a.tmps) = false := by
            rcases gd j b hgd dj hdj with ⟨hdst2, hdN2⟩ | ⟨_, oj, hoj, hq⟩
            · have hlt : dj < a.tmps.size := by rw [ha.size]; exact hdN2
              have h6 : a.tmps[dj]? = some (env a dj) := by
                rw [Array.getElem?_eq_getElem hlt]
                simp [env, hlt]
              obtain ⟨oj, hoj, hdst2⟩ := hdst2
              rcases hvj with hvj | hvj
              · rw [hvj] at h6
                cases b <;> simp [Region.wanted, hgd, yielded, hoj, hdst2, h6]
              · rw [hvj] at h6
                simp [Region.wanted, hgd, yielded, hoj, hdst2, h6, undef]
            · simp [Region.wanted, hgd, yielded, hoj, hq]
          unfold wpOp
          simp only [h2, hw, Bool.false_eq_true, if_false]
          exact cont undef w' (Chg.refl _ _) (by
            have : valOf o undef = undef := by unfold valOf; split <;> rfl
            rw [this]; exact hund)
  have h1 := key (leftH hd (Array.replicate l.toArray.size false).toList) (Array.replicate l.toArray.size false) a w1 rfl (by simp) (fun t ht => by have h9 := lt_of_get ht; rw [Array.toList_replicate, List.getElem?_replicate, if_pos (by rw [List.size_toArray]; omega)]) (fun j oj _ hl => (by rw [getD_replicate_false] at hl; cases hl)) ha (Chg.refl _ _) (fun t _ => by rw [he]) (fun j _ hj => by rw [getD_replicate_false] at hj; cases hj)
  have e3 : leftH hd (Array.replicate l.toArray.size false).toList + ts.length = l.toArray.size := by have h9 := Nat.eq_of_beq_eq_true hN; simpa using h9
  rw [e3] at h1
  exact h1
section
variable {Ms : Nat → Nat → Prop} {i : Nat} {ws ds : List Nat}
theorem StabS.eq {u : Value} : StabS Ms i ws (fun _ _ v _ => v = u) := fun _ _ _ _ _ _ _ _ _ _ _ h => h
theorem StabS.chg {F : Fct} {U : Nat → Prop} (hF : ∀ v w w', Chg U w w' → F v w → F v w') (hM : ∀ p y, p ≠ i → ws.contains p = false → Ms p y → U y) : StabS Ms i ws (fun _ _ => F) :=
  fun p h1 h2 _ _ v w w' _ _ x h => hF v w w' (x.mono fun y _ hy => hM p y h1 h2 hy) h
theorem StabS.till {F : Fct} {U : Nat → Prop} {c : Nat} (hF : ∀ v w w', Chg U w w' → F v w → F v w') (hM : ∀ p y, p ≠ i → ws.contains p = false → p ≠ c → Ms p y → U y) : StabS Ms i ws (fun S _ v w => S c = false → F v w) :=
  fun p h1 h2 S _ v w w' _ _ x h hc => by
    have hpc : p ≠ c := fun e => by subst e; rw [insS_self] at hc; cases hc
    rw [insS_ne (Ne.symm hpc)] at hc
    exact hF v w w' (x.mono fun y _ hy => hM p y h1 h2 hpc hy) (h hc)
theorem LocS.const {G : (Nat → Bool) → Fct} : LocS ds ws (fun S _ => G S) := fun _ _ _ _ _ _ h => h
end
section
variable {M : Nat → Prop} {P : Program} {N : Nat} {o : Oper} {R : Fct} {σ : Env} {w : World} {dst : Option Tmp} {ty : TypeId} {pos : String} {af : Array Edge} {g : Option (Nat × Bool)} {t : TypeId}
theorem DoesT_pure {v : Value} (hr : (execOp (ev σ) o).run P w = .ok (.value v) w) (h : R v w) : DoesT M P N o R σ w := DoesT_val hr (Chg.refl _ _) h
theorem DoesT_weakT {R R' : Fct} (h : DoesT M P N o R σ w) (hr : ∀ v w, R v w → R' (valOf o v) w) : DoesT M P N o (fun v w => R' (valOf o v) w) σ w := fun a ha he Q K hK => h a ha he Q K fun v w2 hx2 h2 => hK v w2 hx2 (hr v w2 h2)
theorem DoesT_callE {f : FuncId} {args : Array Value} (hr : (execOp (ev σ) o).run P w = .ok (.enter f args) w) (hc : Ret P f args w fun v w' => R v w' ∧ Ext w w') : DoesT M P N o R σ w :=
  DoesT_enter hr (hc.mono fun _ _ h => ⟨h.1, Ext.chg h.2⟩)
theorem DoesT_alloc {d hs : Nat} {z : Value} {c : Array Value} (hz : Zer P t z) (hc : z.cells = c) (hh : hs ≤ w.heap.size) : DoesT M P N ⟨some d, .alloc t, ty, pos, af, g⟩ (alF t c hs) σ w := by
  subst hc
  have hn := New.mk' w z.cells t
  exact DoesT_val (v := .pointer (some ⟨w.heap.size, 0, none⟩)) (by simp [execOp, Instr.alloc, hz.run, newVar, newRow]) (Ext.chg hn.ext) ⟨_, rfl, hn.blk, hh⟩
end
def tupF (st : Nat) (rest : List Value) (G : Fct) : FctS := fun S _ v w => ∃ u, v = .tuple (u :: rest).toArray ∧ (S st = false → G u w)
def putF (sa n : Nat) (T : TypeId) (G : Fct) : FctS := fun _ s _ w => ∃ b vs, s sa = .pointer (some ⟨b, 0, none⟩) ∧ n ≤ b ∧ Blk w b vs T ∧ G (.agg vs) w
section
variable {Ms : Nat → Nat → Prop} {i : Nat} {ws ds : List Nat}
theorem StabS.tup {st : Nat} {rest : List Value} {G : Fct} {U : Nat → Prop} (hG : ∀ v w w', Chg U w w' → G v w → G v w') (hM : ∀ p y, p ≠ i → ws.contains p = false → p ≠ st → Ms p y → U y) : StabS Ms i ws (tupF st rest G) :=
  fun p h1 h2 S _ v w w' _ _ x h => by
    obtain ⟨u, h3, h4⟩ := h
    refine ⟨u, h3, fun hc => ?_⟩
    have hpc : p ≠ st := fun e => by subst e; rw [insS_self] at hc; cases hc
    rw [insS_ne (Ne.symm hpc)] at hc
    exact hG u w w' (x.mono fun y _ hy => hM p y h1 h2 hpc hy) (h4 hc)
theorem StabS.put {sa n : Nat} {T : TypeId} {G : Fct} (hG : ∀ v w w', Ext w w' → G v w → G v w') (hM : ∀ p y, p ≠ i → ws.contains p = false → Ms p y → False) : StabS Ms i ws (putF sa n T G) :=
  fun p h1 h2 _ _ v w w' _ _ x h => by
    obtain ⟨b, vs, h3, h4, h5, h6⟩ := h
    have hx : Ext w w' := x.mono fun y _ hy => (hM p y h1 h2 hy).elim
    exact ⟨b, vs, h3, h4, Ext.keep hx h5, hG _ _ _ hx h6⟩
theorem LocS.put {sa n j : Nat} {T : TypeId} {G : Fct} (hj : ws.contains j = true) (hd : ds[j]? = some sa) : LocS ds ws (putF sa n T G) :=
  fun _ σ1 σ2 hs v w h => by
    obtain ⟨b, vs, h3, h4⟩ := h
    exact ⟨b, vs, by rw [hs j sa hj hd]; exact h3, h4⟩
end
theorem DoesT_bind {M : Nat → Prop} {P : Program} {N : Nat} {σ : Env} {w : World} {ty : TypeId} {pos : String} {af : Array Edge} {g : Option (Nat × Bool)} {T : TypeId} {x y : Operand} {b n : Nat} {u : Value} {c : Array Value} {G : Fct} (hx : ev σ x = .pointer (some ⟨b, 0, none⟩)) (hy : ev σ y = u) (hG : G u w) (hB : Blk w b c T) (hc : c.size = n) (hs : Siz P T n)
    (form : ∀ u w, G u w → ∃ vs : Array Value, u = .agg vs ∧ vs.size = n ∧ ∀ v ∈ vs.toList, v.oneCell' = true) (keep : ∀ u w w', Blk w b c T → Chg (fun y => y = b) w w' → G u w → G u w') (hM : M b) :
    DoesT M P N ⟨none, .store T x y, ty, pos, af, g⟩ (fun _ w' => ∃ vs, Blk w' b vs T ∧ G (.agg vs) w') σ w := by
  obtain ⟨vs, rfl, h1, h2⟩ := form u w hG
  refine DoesT_storeAgg hx hy h2 hs h1 hB (by omega) hM fun w' h => ⟨vs, ?_, keep _ _ _ hB h.chg hG⟩
  have h3 := h.blk
  rw [List.take_zero, List.nil_append, Nat.zero_add, List.drop_of_length_le (by simp; omega), List.append_nil] at h3
  simpa using h3
end Go.Eng
