/- Plain: the reversed expression, and what it matches. -/
import Derived.Test.YtiepeobnpmoghaaLn
namespace Go.Proofs
open Go Go.Eng

def revA (k : Int) (l : List Re) : List Re := if k = 3 then l.reverse else l
theorem revA_3 (l : List Re) : revA 3 l = l.reverse := rfl
theorem revA_ne {k : Int} (h : k ≠ 3) (l : List Re) : revA k l = l := if_neg h
mutual
def revT : Re → Re
  | .mk k set args mn mx ng => .mk k set (revA k (revTs args)) mn mx ng
def revTs : List Re → List Re
  | [] => []
  | t :: ts => revT t :: revTs ts
end
theorem revTs_map (ts : List Re) : revTs ts = ts.map revT := by
  induction ts with
  | nil => rfl
  | cons t ts ih => simp [revTs, ih]
theorem revT_mk (k : Int) (set : List (Int × Int)) (args : List Re) (mn mx : Int) (ng : Bool) : revT (.mk k set args mn mx ng) = .mk k set (revA k (args.map revT)) mn mx ng := by
  simp only [revT, revTs_map]
theorem revT_eq (t : Re) : revT t = .mk t.kind t.set (revA t.kind (t.args.map revT)) t.mn t.mx t.neg := by
  cases t; exact revT_mk _ _ _ _ _ _
mutual
theorem rev_rev : ∀ (t : Re), revT (revT t) = t
  | .mk k set args mn mx ng => by
    have h := rev_revs args
    rw [revT_mk, revT_mk]
    by_cases hk : k = 3
    · subst hk
      rw [revA_3, revA_3, List.map_reverse, List.reverse_reverse, h]
    · rw [revA_ne hk, revA_ne hk, h]
theorem rev_revs : ∀ (ts : List Re), (ts.map revT).map revT = ts
  | [] => rfl
  | t :: ts => by simp only [List.map_cons]; rw [rev_rev t, rev_revs ts]
end
theorem sizes_reverse (l : List Re) : Re.sizes l.reverse = Re.sizes l := by
  induction l with
  | nil => rfl
  | cons x l ih => rw [List.reverse_cons, Re.sizes_append, ih]; simp only [Re.sizes]; omega
mutual
theorem size_rev : ∀ (t : Re), (revT t).size = t.size
  | .mk k set args mn mx ng => by
    have h := sizes_rev args
    rw [revT_mk, Re.size_eq, Re.size_eq (.mk k set args mn mx ng)]
    simp only [Re.args]
    by_cases hk : k = 3
    · subst hk
      rw [revA_3, sizes_reverse, h]
    · rw [revA_ne hk, h]
theorem sizes_rev : ∀ (ts : List Re), Re.sizes (ts.map revT) = Re.sizes ts
  | [] => rfl
  | t :: ts => by simp only [List.map_cons, Re.sizes]; rw [size_rev t, sizes_rev ts]
end
mutual
theorem ok_rev : ∀ (t : Re), okRe t → okRe (revT t)
  | .mk k set args mn mx ng, h => by
    have ho := oks_rev args (okRe_args h)
    rw [revT_mk]
    refine ok_same h ?_ ?_
    · unfold revA; split <;> simp
    · intro x hx
      unfold revA at hx
      split at hx
      · exact ho x (List.mem_reverse.1 hx)
      · exact ho x hx
theorem oks_rev : ∀ (ts : List Re), okRes ts → ∀ x ∈ ts.map revT, okRe x
  | [], _, x, hx => by simp at hx
  | t :: ts, h, x, hx => by
    simp only [okRes] at h
    rw [List.map_cons, List.mem_cons] at hx
    rcases hx with rfl | hx
    · exact ok_rev t h.1
    · exact oks_rev ts h.2 x hx
end
mutual
def noLook : Re → Prop
  | .mk k _ args _ _ _ => k ≠ 10 ∧ noLooks args
def noLooks : List Re → Prop
  | [] => True
  | t :: ts => noLook t ∧ noLooks ts
end
theorem noLooks_iff (ts : List Re) : noLooks ts ↔ ∀ x ∈ ts, noLook x := by
  induction ts with
  | nil => simp [noLooks]
  | cons t ts ih => simp [noLooks, ih]

/-! Mirrored relations. -/
def mir (n : Nat) (A : Rl) : Rl := fun i j => (decide (i ≤ j) && decide (j ≤ n)) && A (n - j) (n - i)
theorem mir_iff {n : Nat} {A : Rl} {i j : Nat} : mir n A i j = true ↔ (i ≤ j ∧ j ≤ n) ∧ A (n - j) (n - i) = true := by simp [mir]
theorem wf_mir (n : Nat) (A : Rl) : Wf n (mir n A) := fun i j h => by rw [mir_iff] at h; exact h.1
theorem mir_mir {n : Nat} {A : Rl} (a : Wf n A) : mir n (mir n A) = A := rl_ext fun i j => by
  rw [mir_iff, mir_iff]
  constructor
  · rintro ⟨h1, h2, h3⟩
    rwa [show n - (n - i) = i from by omega, show n - (n - j) = j from by omega] at h3
  · intro h
    have := a i j h
    refine ⟨by omega, by omega, ?_⟩
    rwa [show n - (n - i) = i from by omega, show n - (n - j) = j from by omega]
theorem mir_id (n : Nat) : mir n (idR n) = idR n := rl_ext fun i j => by rw [mir_iff, id_iff, id_iff]; omega
theorem mir_no (n : Nat) : mir n noR = noR := rl_ext fun i j => by rw [mir_iff]; simp [noR]
theorem mir_or (n : Nat) (A B : Rl) : mir n (orR A B) = orR (mir n A) (mir n B) := rl_ext fun i j => by
  rw [or_iff, mir_iff, mir_iff, mir_iff, or_iff]
  constructor
  · rintro ⟨h1, h | h⟩; exact .inl ⟨h1, h⟩; exact .inr ⟨h1, h⟩
  · rintro (⟨h1, h⟩ | ⟨h1, h⟩); exact ⟨h1, .inl h⟩; exact ⟨h1, .inr h⟩
theorem mir_then {n : Nat} (hn : n ≤ 24) {A B : Rl} (a : Wf n A) (b : Wf n B) : mir n (thenR A B n) = thenR (mir n B) (mir n A) n := rl_ext fun i k => by
  rw [mir_iff, then_iff hn a, then_iff hn (wf_mir n B)]
  constructor
  · rintro ⟨h1, j, h2, h3⟩
    have := a _ _ h2; have := b _ _ h3
    refine ⟨n - j, mir_iff.2 ⟨by omega, ?_⟩, mir_iff.2 ⟨by omega, ?_⟩⟩
    · rwa [show n - (n - j) = j from by omega]
    · rwa [show n - (n - j) = j from by omega]
  · rintro ⟨j, h2, h3⟩
    rw [mir_iff] at h2 h3
    exact ⟨by omega, n - j, h3.2, h2.2⟩
theorem mir_not {n : Nat} {A : Rl} : mir n (notR n A) = notR n (mir n A) := rl_ext fun i j => by
  rw [mir_iff]
  constructor
  · rintro ⟨h1, h2⟩
    rw [not_in (by omega) (by omega)] at h2
    rw [not_in h1.1 h1.2]
    simp [mir] at h2 ⊢
    exact .inr h2
  · intro h
    have hw := wf_not n (mir n A) i j h
    rw [not_in hw.1 hw.2] at h
    refine ⟨hw, ?_⟩
    rw [not_in (by omega) (by omega)]
    simp [mir] at h ⊢
    exact h.resolve_left (by omega)
theorem st_mir {n : Nat} {A : Rl} (a : Wf n A) {i j : Nat} (h : St n A i j) : St n (mir n A) (n - j) (n - i) := by
  induction h with
  | refl hi => exact .refl (by omega)
  | @step j k hs hA ih =>
    have hw := a _ _ hA
    have h1 : St n (mir n A) (n - k) (n - j) := St.one (wf_mir n A) (mir_iff.2 ⟨by omega, by rwa [show n - (n - j) = j from by omega, show n - (n - k) = k from by omega]⟩)
    exact h1.trans ih
theorem mir_star {n : Nat} (hn : n ≤ 24) {A : Rl} (a : Wf n A) : mir n (starN n A (n + 1)) = starN n (mir n A) (n + 1) := rl_ext fun i j => by
  rw [mir_iff, star_iff hn a, star_iff hn (wf_mir n A)]
  constructor
  · rintro ⟨h1, h2⟩
    have := st_mir a h2
    rwa [show n - (n - i) = i from by omega, show n - (n - j) = j from by omega] at this
  · intro h
    have hw := wf_star (wf_mir n A) (n + 1) i j ((star_iff hn (wf_mir n A) i j).2 h)
    have := st_mir (wf_mir n A) h
    rw [mir_mir a] at this
    exact ⟨hw, this⟩
theorem mir_pow {n : Nat} (hn : n ≤ 24) {A : Rl} (a : Wf n A) : ∀ p, mir n (powR n A p) = powR n (mir n A) p
  | 0 => mir_id n
  | p + 1 => by
    rw [pow_left hn (wf_mir n A), ← mir_pow hn a p]
    exact mir_then hn (wf_pow a p) a
theorem mir_rep {n : Nat} (hn : n ≤ 24) {A : Rl} (a : Wf n A) (mn : Int) (m : Nat) : mir n (repR n A mn m) = repR n (mir n A) mn m := rl_ext fun i j => by
  rw [mir_iff, rep_iff, rep_iff]
  constructor
  · rintro ⟨h1, p, h2, h3, h4⟩
    exact ⟨p, h2, h3, by rw [← mir_pow hn a]; exact mir_iff.2 ⟨h1, h4⟩⟩
  · rintro ⟨p, h2, h3, h4⟩
    rw [← mir_pow hn a, mir_iff] at h4
    exact ⟨h4.1, p, h2, h3, h4.2⟩
theorem mir_set (text : List Int) (set : List (Int × Int)) : mir text.length (setR text set) = setR text.reverse set := rl_ext fun i j => by
  rw [mir_iff]
  unfold setR
  simp only [Bool.and_eq_true, decide_eq_true_eq]
  constructor
  · rintro ⟨h1, h2, h3⟩
    refine ⟨?_, by omega⟩
    rw [List.getElem?_reverse (by omega), show text.length - 1 - i = text.length - j from by omega]
    exact h2
  · rintro ⟨h1, h2⟩
    have hi : i < text.length := by
      rcases Nat.lt_or_ge i text.length with h | h
      · exact h
      · rw [List.getElem?_eq_none (by simpa using h)] at h1; simp at h1
    rw [List.getElem?_reverse hi, show text.length - 1 - i = text.length - j from by omega] at h1
    exact ⟨by omega, h1, by omega⟩
theorem cat_mir {text : List Int} (hn : text.length ≤ 24) : ∀ (l : List Re), (∀ x ∈ l, relOf text.reverse (revT x) = mir text.length (relOf text x)) → catR text.reverse (l.map revT).reverse = mir text.length (catR text l)
  | [], _ => by
    have : idR text.reverse.length = idR text.length := by simp
    show idR text.reverse.length = mir text.length (idR text.length)
    rw [mir_id, this]
  | x :: l, h => by
    have hr : text.reverse.length ≤ 24 := by simpa using hn
    have e : text.reverse.length = text.length := by simp
    rw [List.map_cons, List.reverse_cons, catR_append hr, cat_mir hn l (fun y hy => h y (by simp [hy])), catR_one hr, h x (by simp), catR_cons hn, mir_then hn (wf_rel text x) (wf_catR l), e]
mutual
theorem rel_rev {text : List Int} (hn : text.length ≤ 24) : ∀ (t : Re), okRe t → noLook t → relOf text.reverse (revT t) = mir text.length (relOf text t)
  | .mk k set args mn mx ng, h, hl => by
    have ho := okRe_args h
    simp only [noLook] at hl
    have ih := rel_revs hn args ho hl.2
    have e : text.reverse.length = text.length := by simp
    obtain ⟨hk0, hk1, _⟩ := okRe_form h
    simp only [Re.kind] at hk0 hk1
    rw [revT_mk]
    by_cases h3 : k = 3
    · subst h3
      rw [revA_3, rel_kcat (t := .mk 3 set (args.map revT).reverse mn mx ng) rfl, rel_kcat (t := .mk 3 set args mn mx ng) rfl]
      exact cat_mir hn args ih
    rw [revA_ne h3]
    by_cases h0 : k = 0
    · subst h0
      rw [rel_knone (t := .mk 0 set (args.map revT) mn mx ng) rfl, rel_knone (t := .mk 0 set args mn mx ng) rfl, mir_no]
    by_cases h1 : k = 1
    · subst h1
      rw [rel_kempty (t := .mk 1 set (args.map revT) mn mx ng) rfl, rel_kempty (t := .mk 1 set args mn mx ng) rfl, mir_id, e]
    by_cases h2 : k = 2
    · subst h2
      rw [relOf_eq, relOf_eq text]
      simp only [relK, Re.kind, Re.set]
      exact (mir_set text set).symm
    by_cases h4 : k = 4
    · subst h4
      rw [rel_kalt (t := .mk 4 set (args.map revT) mn mx ng) rfl, rel_kalt (t := .mk 4 set args mn mx ng) rfl]
      refine rl_ext fun i j => ?_
      rw [mir_iff]
      simp only [altR, Re.args, List.any_map, List.any_eq_true, Function.comp]
      constructor
      · rintro ⟨x, hx, h⟩
        rw [ih x hx, mir_iff] at h
        exact ⟨h.1, x, hx, h.2⟩
      · rintro ⟨h, x, hx, h5⟩
        exact ⟨x, hx, by rw [ih x hx, mir_iff]; exact ⟨h, h5⟩⟩
    by_cases h7 : k = 7
    · subst h7
      have h2 := okRe_two h (.inr (.inr rfl))
      simp only [Re.args] at h2
      rw [rel_kand (t := .mk 7 set (args.map revT) mn mx ng) rfl (by simp only [Re.args, List.length_map]; omega), rel_kand (t := .mk 7 set args mn mx ng) rfl (by simp only [Re.args]; omega)]
      refine rl_ext fun i j => ?_
      rw [mir_iff]
      simp only [allR, Re.args, List.all_map, List.all_eq_true, Function.comp]
      constructor
      · intro h
        obtain ⟨x, hx⟩ : ∃ x, x ∈ args := by cases args with | nil => simp at h2 | cons x r => exact ⟨x, by simp⟩
        have h5 := h x hx
        rw [ih x hx, mir_iff] at h5
        refine ⟨h5.1, fun z hz => ?_⟩
        have h6 := h z hz
        rw [ih z hz, mir_iff] at h6
        exact h6.2
      · rintro ⟨h5, h6⟩ x hx
        rw [ih x hx, mir_iff]
        exact ⟨h5, h6 x hx⟩
    have h10 := hl.1
    have hone := okRe_one h (by simp only [Re.kind]; omega)
    simp only [Re.args] at hone
    obtain ⟨x, hx⟩ := List.length_eq_one_iff.1 hone
    subst hx
    have hx := ih x (by simp)
    simp only [List.map_cons, List.map_nil]
    by_cases h5 : k = 5
    · subst h5
      rw [rel_k5 (t := .mk 5 set [revT x] mn mx ng) (x := revT x) rfl rfl, rel_k5 (t := .mk 5 set [x] mn mx ng) (x := x) rfl rfl, hx, e, mir_star hn (wf_rel text x)]
    by_cases h6 : k = 6
    · subst h6
      rw [rel_k6 (t := .mk 6 set [revT x] mn mx ng) (x := revT x) rfl rfl, rel_k6 (t := .mk 6 set [x] mn mx ng) (x := x) rfl rfl, hx, e, mir_rep hn (wf_rel text x)]
      rfl
    by_cases h8 : k = 8
    · subst h8
      rw [rel_k8 (t := .mk 8 set [revT x] mn mx ng) (x := revT x) rfl rfl, rel_k8 (t := .mk 8 set [x] mn mx ng) (x := x) rfl rfl, hx, e, mir_not]
    · have h9 : k = 9 := by omega
      subst h9
      rw [relOf_eq, relOf_eq text (.mk 9 set [x] mn mx ng)]
      simp only [relK, Re.kind, Re.args, List.map_cons, List.map_nil, List.headD_cons]
      exact hx
theorem rel_revs {text : List Int} (hn : text.length ≤ 24) : ∀ (ts : List Re), okRes ts → noLooks ts → ∀ x ∈ ts, relOf text.reverse (revT x) = mir text.length (relOf text x)
  | [], _, _, x, hx => by simp at hx
  | t :: ts, h, hl, x, hx => by
    simp only [okRes] at h
    simp only [noLooks] at hl
    rcases List.mem_cons.1 hx with hxt | hx
    · rw [hxt]; exact rel_rev hn t h.1 hl.1
    · exact rel_revs hn ts h.2 hl.2 x hx
end

/-! Lists of pairs. -/
theorem pairs_mem {R : Rl} {n : Nat} {p : Nat × Nat} : p ∈ pairsL R (n + 1) ↔ p.1 ≤ n ∧ p.2 < 25 ∧ R p.1 p.2 = true := by
  obtain ⟨i, j⟩ := p
  simp only [pairsL, rowL, List.mem_flatMap, List.mem_map, List.mem_filter, List.mem_range, Prod.mk.injEq]
  constructor
  · rintro ⟨a, h1, b, ⟨h2, h3⟩, rfl, rfl⟩; exact ⟨by omega, h2, h3⟩
  · rintro ⟨h1, h2, h3⟩; exact ⟨i, by omega, j, ⟨h2, h3⟩, rfl, rfl⟩
theorem row_nodup (R : Rl) (i p : Nat) : (rowL R i p).Nodup := by
  unfold rowL
  unfold List.Nodup
  rw [List.pairwise_map]
  refine List.Pairwise.filter _ (List.Pairwise.imp ?_ (List.nodup_range (n := p)))
  intro a b h e
  exact h (by simpa using e)
theorem pairs_nodup (R : Rl) : ∀ n, (pairsL R n).Nodup
  | 0 => by simp [pairsL]
  | n + 1 => by
    rw [pairsL_succ, List.nodup_append]
    refine ⟨pairs_nodup R n, row_nodup R n 25, ?_⟩
    intro a ha b hb hab
    subst hab
    simp only [pairsL, rowL, List.mem_flatMap, List.mem_map, List.mem_filter, List.mem_range] at ha hb
    obtain ⟨i, hi, j, _, rfl⟩ := ha
    obtain ⟨k, _, h⟩ := hb
    simp at h
    omega
theorem pairs_mir {R : Rl} {n : Nat} (hn : n ≤ 24) (a : Wf n R) : (pairsL (mir n R) (n + 1)).length = (pairsL R (n + 1)).length := by
  have h1 : ((pairsL R (n + 1)).map fun p => (n - p.2, n - p.1)).Nodup := by
    unfold List.Nodup
    rw [List.pairwise_map]
    refine List.Pairwise.imp_of_mem ?_ (pairs_nodup R (n + 1))
    intro p q hp hq hne h
    rw [pairs_mem] at hp hq
    have hp2 := a _ _ hp.2.2
    have hq2 := a _ _ hq.2.2
    simp only [Prod.mk.injEq] at h
    exact hne (Prod.ext (by omega) (by omega))
  have h2 : List.Perm (pairsL (mir n R) (n + 1)) ((pairsL R (n + 1)).map fun p => (n - p.2, n - p.1)) := by
    rw [List.perm_ext_iff_of_nodup (pairs_nodup _ _) h1]
    rintro ⟨i, j⟩
    rw [pairs_mem, List.mem_map]
    constructor
    · rintro ⟨h3, h4, h5⟩
      rw [mir_iff] at h5
      simp only at h3 h4 h5
      refine ⟨(n - j, n - i), pairs_mem.2 ⟨by simp, by simp; omega, h5.2⟩, ?_⟩
      simp only [Prod.mk.injEq]; omega
    · rintro ⟨p, hp, h⟩
      rw [pairs_mem] at hp
      have := a _ _ hp.2.2
      simp only [Prod.mk.injEq] at h
      obtain ⟨rfl, rfl⟩ := h
      refine ⟨by simp, by simp; omega, mir_iff.2 ⟨by simp only; omega, ?_⟩⟩
      simp only
      rw [show n - (n - p.1) = p.1 from by omega, show n - (n - p.2) = p.2 from by omega]; exact hp.2.2
  rw [h2.length_eq, List.length_map]
theorem pairs_mir_mem {R : Rl} {n : Nat} (hn : n ≤ 24) (a : Wf n R) {p : Nat × Nat} (hp : p ∈ pairsL R (n + 1)) : (n - p.2, n - p.1) ∈ pairsL (mir n R) (n + 1) := by
  rw [pairs_mem] at hp
  have := a _ _ hp.2.2
  rw [pairs_mem]
  refine ⟨by simp, by simp; omega, mir_iff.2 ⟨by simp only; omega, ?_⟩⟩
  simp only
  rw [show n - (n - p.1) = p.1 from by omega, show n - (n - p.2) = p.2 from by omega]; exact hp.2.2
end Go.Proofs
