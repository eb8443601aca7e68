/- Plain: normal forms of expressions. -/
import Derived.Test.YtiepeobnpmoghaaLm
namespace Go.Proofs
open Go Go.Eng

mutual
def sameT : Re → Re → Bool
  | .mk k s a m x g, .mk k' s' a' m' x' g' => decide (k = k') && decide (s = s') && decide (m = m') && decide (x = x') && decide (g = g') && sameTs a a'
def sameTs : List Re → List Re → Bool
  | [], [] => true
  | t :: ts, u :: us => sameT t u && sameTs ts us
  | _, _ => false
end
mutual
theorem sameT_iff : ∀ (t u : Re), sameT t u = true ↔ t = u
  | .mk k s a m x g, .mk k' s' a' m' x' g' => by
    simp only [sameT, Bool.and_eq_true, decide_eq_true_eq, sameTs_iff a a', Re.mk.injEq]
    constructor
    · rintro ⟨⟨⟨⟨⟨h1, h2⟩, h3⟩, h4⟩, h5⟩, h6⟩; exact ⟨h1, h2, h6, h3, h4, h5⟩
    · rintro ⟨h1, h2, h6, h3, h4, h5⟩; exact ⟨⟨⟨⟨⟨h1, h2⟩, h3⟩, h4⟩, h5⟩, h6⟩
theorem sameTs_iff : ∀ (ts us : List Re), sameTs ts us = true ↔ ts = us
  | [], [] => by simp [sameTs]
  | t :: ts, u :: us => by simp only [sameTs, Bool.and_eq_true, sameT_iff t u, sameTs_iff ts us, List.cons.injEq]
  | [], _ :: _ => by simp [sameTs]
  | _ :: _, [] => by simp [sameTs]
end
/-- Arguments of a kind replaced by their arguments. -/
def flatT (k : Int) (l : List Re) : List Re := l.flatMap fun x => if x.kind = k then x.args else [x]
/-- Each once, the first stays. -/
def onceT : List Re → List Re → List Re
  | out, [] => out
  | out, x :: l => if (out.any fun y => sameT x y) = true then onceT out l else onceT (out ++ [x]) l
def listT (k : Int) (l : List Re) : Re :=
  let l1 := flatT k l
  let l2 := if k = 3 then l1.filter fun x => !decide (x.kind = 1) else if k = 4 then l1.filter fun x => !decide (x.kind = 0) else l1
  if k ≠ 4 ∧ (l2.any fun x => decide (x.kind = 0)) = true then noneT
  else
    match (if k = 3 then l2 else onceT [] l2) with
    | [x] => x
    | [] => if k = 3 then emptyT else noneT
    | out => .mk k [] out 0 0 false
def normN (k : Int) (set : List (Int × Int)) (a : List Re) (mn mx : Int) (ng : Bool) : Re :=
  if k = 3 ∨ k = 4 ∨ k = 7 then listT k a
  else if k = 5 ∨ k = 6 then
    match a with
    | x :: _ =>
      if x.kind = 1 ∨ (k = 6 ∧ mx = 0) then emptyT
      else if x.kind = 0 ∧ (k = 5 ∨ mn = 0) then emptyT
      else if x.kind = 0 then noneT
      else if x.kind = 5 ∨ (k = 6 ∧ mn = 1 ∧ mx = 1) then x
      else .mk k set a mn mx ng
    | [] => .mk k set a mn mx ng
  else if k = 8 then
    match a with
    | x :: _ => if x.kind = 8 then x.args.headD noneT else .mk k set a mn mx ng
    | [] => .mk k set a mn mx ng
  else if k = 10 then
    match a with
    | x :: _ =>
      if (x.kind = 1 ∧ ng = true) ∨ (x.kind = 0 ∧ ng = false) then noneT
      else if x.kind = 1 ∨ x.kind = 0 then emptyT
      else .mk k set a mn mx ng
    | [] => .mk k set a mn mx ng
  else .mk k set a mn mx ng
mutual
def normT : Re → Re
  | .mk k set args mn mx ng => normN k set (normTs args) mn mx ng
def normTs : List Re → List Re
  | [] => []
  | t :: ts => normT t :: normTs ts
end
theorem normTs_map (ts : List Re) : normTs ts = ts.map normT := by
  induction ts with
  | nil => rfl
  | cons t ts ih => simp [normTs, ih]

/-! What lists of expressions match. -/
def catR (text : List Int) (l : List Re) : Rl := (l.map (relOf text)).foldl (fun a x => thenR a x text.length) (idR text.length)
theorem catR_cons {text : List Int} (hn : text.length ≤ 24) (x : Re) (l : List Re) : catR text (x :: l) = thenR (relOf text x) (catR text l) text.length := by
  unfold catR
  rw [List.map_cons]
  refine cat_cons hn (wf_rel text x) _ ?_
  intro R hR
  rw [List.mem_map] at hR
  obtain ⟨y, _, rfl⟩ := hR
  exact wf_rel text y
theorem wf_catR {text : List Int} (l : List Re) : Wf text.length (catR text l) := by
  unfold catR
  refine wf_foldThen _ _ (wf_id _) ?_
  intro R hR
  rw [List.mem_map] at hR
  obtain ⟨y, _, rfl⟩ := hR
  exact wf_rel text y
theorem catR_append {text : List Int} (hn : text.length ≤ 24) : ∀ (a b : List Re), catR text (a ++ b) = thenR (catR text a) (catR text b) text.length
  | [], b => by
    have : catR text [] = idR text.length := rfl
    rw [this, List.nil_append, id_then hn (wf_catR b)]
  | x :: a, b => by
    rw [List.cons_append, catR_cons hn, catR_append hn a b, catR_cons hn, then_assoc hn (wf_rel text x) (wf_catR a)]
theorem rel_kcat {text : List Int} {t : Re} (h : t.kind = 3) : relOf text t = catR text t.args := by
  rw [relOf_eq]; simp [relK, h, catR]
def altR (text : List Int) (l : List Re) : Rl := fun i j => l.any fun x => relOf text x i j
def allR (text : List Int) (l : List Re) : Rl := fun i j => l.all fun x => relOf text x i j
theorem rel_kalt {text : List Int} {t : Re} (h : t.kind = 4) : relOf text t = altR text t.args := by
  funext i j
  rw [relOf_eq text t]
  simp [relK, h, foldOr_any, noR, List.any_map, altR]
  rfl
theorem rel_kand {text : List Int} {t : Re} (h : t.kind = 7) (h0 : 0 < t.args.length) : relOf text t = allR text t.args := by
  funext i j
  rw [relOf_eq text t]
  cases ha : t.args with
  | nil => rw [ha] at h0; simp at h0
  | cons y r =>
    simp only [relK, h, show ¬ (7 : Int) = 1 from by decide, show ¬ (7 : Int) = 2 from by decide, show ¬ (7 : Int) = 3 from by decide, show ¬ (7 : Int) = 4 from by decide, if_false, if_true, allR]
    rw [foldAnd_all]
    simp [List.all_map, ← Bool.and_assoc]
    rfl
theorem rel_kempty {text : List Int} {t : Re} (h : t.kind = 1) : relOf text t = idR text.length := by
  rw [relOf_eq]; simp [relK, h]
theorem rel_knone {text : List Int} {t : Re} (h : t.kind = 0) : relOf text t = noR := by
  rw [relOf_eq]; simp [relK, h]

section
variable {text : List Int} (hn : text.length ≤ 24)
include hn
theorem cat_flat : ∀ (l : List Re), catR text (flatT 3 l) = catR text l
  | [] => rfl
  | x :: l => by
    have ih := cat_flat l
    show catR text ((if x.kind = 3 then x.args else [x]) ++ flatT 3 l) = _
    rw [catR_append hn, ih, catR_cons hn]
    by_cases h : x.kind = 3
    · rw [if_pos h, rel_kcat h]
    · rw [if_neg h, catR_cons hn]
      have h1 : catR text [] = idR text.length := rfl
      have h2 : thenR (relOf text x) (idR text.length) text.length = relOf text x := rl_ext fun i k => by
        rw [then_iff hn (wf_rel text x)]
        constructor
        · rintro ⟨j, h1, h2⟩; rw [id_iff] at h2; rw [h2.2]; exact h1
        · intro h; exact ⟨k, h, by rw [id_iff]; have := wf_rel text x i k h; omega⟩
      rw [h1, h2]
theorem cat_drop : ∀ (l : List Re), catR text (l.filter fun x => !decide (x.kind = 1)) = catR text l
  | [] => rfl
  | x :: l => by
    have ih := cat_drop l
    rw [List.filter_cons, catR_cons hn]
    by_cases h : x.kind = 1
    · rw [if_neg (by simp [h]), ih, rel_kempty h, id_then hn (wf_catR l)]
    · rw [if_pos (by simp [h]), catR_cons hn, ih]
theorem cat_none : ∀ (l : List Re), (l.any fun x => decide (x.kind = 0)) = true → catR text l = noR
  | [], h => by simp at h
  | x :: l, h => by
    rw [catR_cons hn]
    refine rl_ext fun i k => ?_
    rw [then_iff hn (wf_rel text x)]
    rw [List.any_cons, Bool.or_eq_true, decide_eq_true_eq] at h
    constructor
    · rintro ⟨j, h1, h2⟩
      rcases h with h | h
      · rw [rel_knone h] at h1; exact absurd h1 (by simp [noR])
      · rw [cat_none l h] at h2; exact absurd h2 (by simp [noR])
    · intro h; exact absurd h (by simp [noR])
omit hn in
theorem alt_flat (i j : Nat) : ∀ (l : List Re), altR text (flatT 4 l) i j = altR text l i j
  | [] => rfl
  | x :: l => by
    have ih := alt_flat i j l
    show altR text ((if x.kind = 4 then x.args else [x]) ++ flatT 4 l) i j = _
    unfold altR at ih ⊢
    rw [List.any_append, ih, List.any_cons]
    by_cases h : x.kind = 4
    · rw [if_pos h, rel_kalt h]; rfl
    · rw [if_neg h]; simp
omit hn in
theorem alt_drop (i j : Nat) : ∀ (l : List Re), altR text (l.filter fun x => !decide (x.kind = 0)) i j = altR text l i j
  | [] => rfl
  | x :: l => by
    have ih := alt_drop i j l
    unfold altR at ih ⊢
    rw [List.filter_cons, List.any_cons]
    by_cases h : x.kind = 0
    · rw [if_neg (by simp [h]), ih, rel_knone h]; simp [noR]
    · rw [if_pos (by simp [h]), List.any_cons, ih]
omit hn in
theorem all_flat (i j : Nat) : ∀ (l : List Re), (∀ x ∈ l, x.kind = 7 → 0 < x.args.length) → allR text (flatT 7 l) i j = allR text l i j
  | [], _ => rfl
  | x :: l, hl => by
    have ih := all_flat i j l fun y hy => hl y (by simp [hy])
    show allR text ((if x.kind = 7 then x.args else [x]) ++ flatT 7 l) i j = _
    unfold allR at ih ⊢
    rw [List.all_append, ih, List.all_cons]
    by_cases h : x.kind = 7
    · rw [if_pos h, rel_kand h (hl x (by simp) h)]; rfl
    · rw [if_neg h]; simp
omit hn in
theorem once_mem (x : Re) : ∀ (l out : List Re), x ∈ onceT out l ↔ x ∈ out ∨ x ∈ l
  | [], out => by simp [onceT]
  | y :: l, out => by
    unfold onceT
    split
    · rename_i h
      rw [once_mem x l out]
      rw [List.any_eq_true] at h
      obtain ⟨z, hz, hs⟩ := h
      rw [sameT_iff] at hs
      subst hs
      constructor
      · rintro (h | h); exact .inl h; exact .inr (by simp [h])
      · rintro (h | h)
        · exact .inl h
        · rcases List.mem_cons.1 h with rfl | h; exact .inl hz; exact .inr h
    · rw [once_mem x l]
      simp only [List.mem_append, List.mem_cons, List.not_mem_nil, or_false]
      constructor
      · rintro ((h | h) | h); exact .inl h; exact .inr (.inl h); exact .inr (.inr h)
      · rintro (h | (h | h)); exact .inl (.inl h); exact .inl (.inr h); exact .inr h
omit hn in
theorem alt_once (i j : Nat) (l : List Re) : altR text (onceT [] l) i j = altR text l i j := by
  unfold altR
  rw [Bool.eq_iff_iff, List.any_eq_true, List.any_eq_true]
  constructor
  · rintro ⟨x, h1, h2⟩; exact ⟨x, by simpa using (once_mem x l []).1 h1, h2⟩
  · rintro ⟨x, h1, h2⟩; exact ⟨x, (once_mem x l []).2 (.inr h1), h2⟩
omit hn in
theorem all_once (i j : Nat) (l : List Re) : allR text (onceT [] l) i j = allR text l i j := by
  unfold allR
  rw [Bool.eq_iff_iff, List.all_eq_true, List.all_eq_true]
  constructor
  · intro h x hx; exact h x ((once_mem x l []).2 (.inr hx))
  · intro h x hx; exact h x (by simpa using (once_mem x l []).1 hx)
end

theorem rel_mk_cat (text : List Int) (l : List Re) : relOf text (.mk 3 [] l 0 0 false) = catR text l := rel_kcat (t := .mk 3 [] l 0 0 false) rfl
theorem rel_mk_alt (text : List Int) (l : List Re) : relOf text (.mk 4 [] l 0 0 false) = altR text l := rel_kalt (t := .mk 4 [] l 0 0 false) rfl
theorem rel_mk_and (text : List Int) (l : List Re) (h : 0 < l.length) : relOf text (.mk 7 [] l 0 0 false) = allR text l := rel_kand (t := .mk 7 [] l 0 0 false) rfl h
theorem catR_one {text : List Int} (hn : text.length ≤ 24) (x : Re) : catR text [x] = relOf text x := by
  unfold catR
  simp only [List.map_cons, List.map_nil, List.foldl_cons, List.foldl_nil]
  exact id_then hn (wf_rel text x)
theorem rel_list3 {text : List Int} (hn : text.length ≤ 24) (l : List Re) : relOf text (listT 3 l) = catR text l := by
  unfold listT
  simp only [if_true, show (3 : Int) ≠ 4 from by decide, ne_eq, not_false_eq_true, true_and]
  have he : catR text ((flatT 3 l).filter fun x => !decide (x.kind = 1)) = catR text l := by rw [cat_drop hn, cat_flat hn]
  rw [← he]
  split
  · rename_i h; rw [rel_none, cat_none hn _ h]
  · split
    · rename_i x h; rw [h, catR_one hn]
    · rename_i h; rw [h, rel_empty]; rfl
    · exact rel_mk_cat text _
theorem rel_list4 {text : List Int} (l : List Re) : relOf text (listT 4 l) = altR text l := by
  unfold listT
  simp only [show ¬ (4 : Int) = 3 from by decide, if_false, if_true, ne_eq, not_true, false_and]
  have he : altR text (onceT [] ((flatT 4 l).filter fun x => !decide (x.kind = 0))) = altR text l := by
    funext i j; rw [alt_once, alt_drop, alt_flat]
  rw [← he]
  split
  · rename_i x h; rw [h]; funext i j; simp [altR]
  · rename_i h; rw [h, rel_none]; rfl
  · exact rel_mk_alt text _
theorem flat_pos {k : Int} {l : List Re} (h : 0 < l.length) (h7 : ∀ x ∈ l, x.kind = k → 0 < x.args.length) : 0 < (flatT k l).length := by
  cases l with
  | nil => simp at h
  | cons x l =>
    show 0 < ((if x.kind = k then x.args else [x]) ++ flatT k l).length
    have := h7 x (by simp)
    rw [List.length_append]
    split
    · rename_i hk; have := this hk; omega
    · simp; omega
theorem once_pos {l : List Re} (h : 0 < l.length) : onceT [] l ≠ [] := by
  cases l with
  | nil => simp at h
  | cons x l =>
    intro he
    have := (once_mem x (x :: l) []).2 (.inr (by simp))
    rw [he] at this; simp at this
theorem rel_list7 {text : List Int} (l : List Re) (h0 : 0 < l.length) (h7 : ∀ x ∈ l, x.kind = 7 → 0 < x.args.length) : relOf text (listT 7 l) = allR text l := by
  unfold listT
  simp only [show ¬ (7 : Int) = 3 from by decide, show ¬ (7 : Int) = 4 from by decide, if_false, ne_eq, not_false_eq_true, true_and]
  have he : allR text (onceT [] (flatT 7 l)) = allR text l := by
    funext i j; rw [all_once, all_flat i j l h7]
  have hp := once_pos (flat_pos h0 h7)
  split
  · rename_i h
    rw [rel_none]
    funext i j
    rw [List.any_eq_true] at h
    obtain ⟨x, hx, hk⟩ := h
    rw [decide_eq_true_eq] at hk
    rw [← all_flat i j l h7]
    symm
    unfold allR
    show _ = false
    rw [List.all_eq_false]
    exact ⟨x, hx, by rw [rel_knone hk]; simp [noR]⟩
  · rw [← he]
    split
    · rename_i x h; rw [h]; funext i j; simp [allR]
    · rename_i h; exact absurd h hp
    · exact rel_mk_and text _ (List.length_pos_iff.2 hp)

/-! Normal forms are well formed. -/
theorem okRes_iff (ts : List Re) : okRes ts ↔ ∀ x ∈ ts, okRe x := by
  induction ts with
  | nil => simp [okRes]
  | cons t ts ih => simp [okRes, ih]
theorem ok_many {k : Int} {l : List Re} (h : k = 3 ∨ k = 4 ∨ k = 7) (h2 : 2 ≤ l.length) (ho : ∀ x ∈ l, okRe x) : okRe (.mk k [] l 0 0 false) := by
  simp only [okRe]
  refine ⟨?_, (okRes_iff l).2 ho⟩
  have h2' : (2 : Int) ≤ (l.length : Int) := by omega
  rcases h with rfl | rfl | rfl <;> simp [nodeE, formB, okB, Re.kind, Re.set, Re.args, Re.mn, Re.mx, Re.neg, h2']
theorem flat_ok {k : Int} {l : List Re} (ho : ∀ x ∈ l, okRe x) : ∀ x ∈ flatT k l, okRe x := by
  intro x hx
  unfold flatT at hx
  rw [List.mem_flatMap] at hx
  obtain ⟨y, hy, hx⟩ := hx
  split at hx
  · exact (okRes_iff _).1 (okRe_args (ho y hy)) x hx
  · simp at hx; subst hx; exact ho x hy
theorem ok_listT {k : Int} {l : List Re} (h : k = 3 ∨ k = 4 ∨ k = 7) (ho : ∀ x ∈ l, okRe x) : okRe (listT k l) := by
  have hn : okRe noneT := ok_leaf (.inl rfl)
  have he : okRe emptyT := ok_leaf (.inr rfl)
  unfold listT
  simp only []
  have hf := flat_ok (k := k) ho
  generalize hl2 : (if k = 3 then (flatT k l).filter fun x => !decide (x.kind = 1) else if k = 4 then (flatT k l).filter fun x => !decide (x.kind = 0) else flatT k l) = l2
  have ho2 : ∀ x ∈ l2, okRe x := by
    intro x hx
    rw [← hl2] at hx
    split at hx
    · exact hf x (List.mem_filter.1 hx).1
    · split at hx
      · exact hf x (List.mem_filter.1 hx).1
      · exact hf x hx
  generalize hl3 : (if k = 3 then l2 else onceT [] l2) = l3
  have ho3 : ∀ x ∈ l3, okRe x := by
    intro x hx
    rw [← hl3] at hx
    split at hx
    · exact ho2 x hx
    · exact ho2 x (by simpa using (once_mem x l2 []).1 hx)
  split
  · exact hn
  · split
    · exact ho3 _ (by simp)
    · split
      · exact he
      · exact hn
    · rename_i h1 h2
      refine ok_many h ?_ ho3
      match l3, h1, h2 with
      | [], _, h2 => exact absurd rfl h2
      | [x], h1, _ => exact absurd rfl (h1 x)
      | _ :: _ :: _, _, _ => simp

theorem ok_same {k : Int} {set : List (Int × Int)} {a b : List Re} {mn mx : Int} {ng : Bool} (h : okRe (.mk k set a mn mx ng)) (hl : b.length = a.length) (hb : ∀ x ∈ b, okRe x) : okRe (.mk k set b mn mx ng) := by
  simp only [okRe] at h ⊢
  refine ⟨?_, (okRes_iff b).2 hb⟩
  have h1 := h.1
  have hf : formB (.mk k set b mn mx ng) = formB (.mk k set a mn mx ng) := by
    unfold formB
    simp only [Re.kind, Re.set, Re.args, Re.mn, Re.mx, Re.neg, hl]
    rfl
  unfold nodeE at h1 ⊢
  rw [hf]
  exact h1
theorem ok_normN {k : Int} {set : List (Int × Int)} {a b : List Re} {mn mx : Int} {ng : Bool} (h : okRe (.mk k set a mn mx ng)) (hl : b.length = a.length) (hb : ∀ x ∈ b, okRe x) : okRe (normN k set b mn mx ng) := by
  have hn : okRe noneT := ok_leaf (.inl rfl)
  have he : okRe emptyT := ok_leaf (.inr rfl)
  have hs := ok_same h hl hb
  unfold normN
  split
  · rename_i hk; exact ok_listT hk hb
  · split
    · split
      · rename_i x r
        have hx := hb x (by simp)
        split; exact he
        split; exact he
        split; exact hn
        split; exact hx
        exact hs
      · exact hs
    · split
      · split
        · rename_i x r
          have hx := hb x (by simp)
          split
          · rename_i hk
            have h1 := okRe_one hx (by omega)
            have ho := okRe_args hx
            match hh : x.args, h1, ho with
            | [y], _, ho => simp only [okRes] at ho; exact ho.1
          · exact hs
        · exact hs
      · split
        · split
          · split; exact hn
            split; exact he
            exact hs
          · exact hs
        · exact hs
mutual
theorem ok_normT : ∀ (t : Re), okRe t → okRe (normT t)
  | .mk k set args mn mx ng, h => by
    simp only [normT]
    exact ok_normN h (by rw [normTs_map]; simp) (ok_normTs args (okRe_args h))
theorem ok_normTs : ∀ (ts : List Re), okRes ts → ∀ x ∈ normTs ts, okRe x
  | [], _, x, hx => by simp [normTs] at hx
  | t :: ts, h, x, hx => by
    simp only [okRes] at h
    simp only [normTs] at hx
    rcases List.mem_cons.1 hx with rfl | hx
    · exact ok_normT t h.1
    · exact ok_normTs ts h.2 x hx
end

/-! Normal forms match the same. -/
theorem star_id {n : Nat} (hn : n ≤ 24) : starN n (idR n) (n + 1) = idR n := rl_ext fun i j => by
  rw [star_iff hn (wf_id n), id_iff]
  constructor
  · intro h
    induction h with
    | refl h => exact ⟨h, rfl⟩
    | step _ hA ih => rw [id_iff] at hA; exact ⟨ih.1, by omega⟩
  · rintro ⟨h, rfl⟩; exact .refl h
theorem star_no {n : Nat} (hn : n ≤ 24) : starN n noR (n + 1) = idR n := rl_ext fun i j => by
  rw [star_iff hn (wf_no n), id_iff]
  constructor
  · intro h
    induction h with
    | refl h => exact ⟨h, rfl⟩
    | step _ hA ih => simp [noR] at hA
  · rintro ⟨h, rfl⟩; exact .refl h
theorem pow_id {n : Nat} (hn : n ≤ 24) : ∀ p, powR n (idR n) p = idR n
  | 0 => rfl
  | p + 1 => by simp only [powR]; rw [pow_id hn p, id_then hn (wf_id n)]
theorem pow_no {n : Nat} (hn : n ≤ 24) (p : Nat) : powR n noR (p + 1) = noR := rl_ext fun i j => by
  rw [pow_left hn (wf_no n), then_iff hn (wf_no n)]
  constructor
  · rintro ⟨k, h, _⟩; exact absurd h (by simp [noR])
  · intro h; exact absurd h (by simp [noR])
theorem pow_star {n : Nat} (hn : n ≤ 24) {A : Rl} (a : Wf n A) : ∀ p, powR n (starN n A (n + 1)) (p + 1) = starN n A (n + 1)
  | 0 => by simp only [powR]; rw [id_then hn (wf_star a _)]
  | p + 1 => by
    have h := pow_star hn a p
    show thenR (powR n (starN n A (n + 1)) (p + 1)) _ n = _
    rw [h, star_then hn a]
theorem rep_id {n : Nat} (hn : n ≤ 24) {mn mx : Int} (h0 : 0 ≤ mn) (h1 : mn ≤ mx) : repR n (idR n) mn (mx + 1).toNat = idR n := rl_ext fun i j => by
  rw [rep_iff]
  constructor
  · rintro ⟨p, _, _, h⟩; rw [pow_id hn] at h; exact h
  · intro h; exact ⟨mx.toNat, by omega, by omega, by rw [pow_id hn]; exact h⟩
theorem rep_zero {n : Nat} {A : Rl} {mn : Int} (h1 : mn ≤ 0) : repR n A mn (0 + 1 : Int).toNat = idR n := rl_ext fun i j => by
  rw [rep_iff]
  constructor
  · rintro ⟨p, h2, _, h⟩
    obtain rfl : p = 0 := by have : (0 + 1 : Int).toNat = 1 := rfl; omega
    exact h
  · intro h; exact ⟨0, by decide, by simpa using h1, h⟩
theorem rep_no0 {n : Nat} (hn : n ≤ 24) {mx : Int} (h1 : 0 ≤ mx) : repR n noR 0 (mx + 1).toNat = idR n := rl_ext fun i j => by
  rw [rep_iff]
  constructor
  · rintro ⟨p, _, _, h⟩
    cases p with
    | zero => exact h
    | succ p => rw [pow_no hn] at h; exact absurd h (by simp [noR])
  · intro h; exact ⟨0, by omega, by simp, h⟩
theorem rep_no1 {n : Nat} (hn : n ≤ 24) {mn mx : Int} (h1 : 0 < mn) : repR n noR mn (mx + 1).toNat = noR := rl_ext fun i j => by
  rw [rep_iff]
  constructor
  · rintro ⟨p, _, h2, h⟩
    cases p with
    | zero => omega
    | succ p => rw [pow_no hn] at h; exact h
  · intro h; exact absurd h (by simp [noR])
theorem rep_star {n : Nat} (hn : n ≤ 24) {A : Rl} (a : Wf n A) {mn mx : Int} (h0 : 0 ≤ mn) (h1 : mn ≤ mx) (h2 : mx ≠ 0) : repR n (starN n A (n + 1)) mn (mx + 1).toNat = starN n A (n + 1) := rl_ext fun i j => by
  rw [rep_iff]
  constructor
  · rintro ⟨p, _, _, h⟩
    cases p with
    | zero =>
      simp only [powR] at h
      rw [id_iff] at h
      rw [star_iff hn a, h.2]
      exact .refl h.1
    | succ p => rw [pow_star hn a] at h; exact h
  · intro h
    refine ⟨mx.toNat, by omega, by omega, ?_⟩
    obtain ⟨q, hq⟩ : ∃ q, mx.toNat = q + 1 := ⟨mx.toNat - 1, by omega⟩
    rw [hq, pow_star hn a]; exact h
theorem rep_one {n : Nat} (hn : n ≤ 24) {A : Rl} (a : Wf n A) : repR n A 1 (1 + 1 : Int).toNat = A := rl_ext fun i j => by
  rw [rep_iff]
  have e1 : powR n A 1 = A := id_then hn a
  constructor
  · rintro ⟨p, h2, h3, h⟩
    obtain rfl : p = 1 := by have : (1 + 1 : Int).toNat = 2 := rfl; omega
    rw [e1] at h; exact h
  · intro h; exact ⟨1, by decide, by simp, by rw [e1]; exact h⟩
theorem not_not_rel {n : Nat} {A : Rl} (a : Wf n A) : notR n (notR n A) = A := rl_ext fun i j => by
  have := a i j
  simp only [notR, Bool.and_eq_true, decide_eq_true_eq, Bool.not_eq_true', Bool.and_eq_false_imp, Bool.not_eq_false']
  constructor
  · rintro ⟨⟨h1, h2, h3⟩, h⟩
    cases hA : A i j with
    | true => rfl
    | false => simp [hA, h1, h2, h3] at h
  · intro h
    have := this h
    exact ⟨⟨by omega, by omega, by omega⟩, by simp [h]⟩
theorem look_id {n : Nat} (hn : n ≤ 24) (ng : Bool) : lookR n (idR n) ng = if ng then noR else idR n := by
  funext i j
  by_cases hi : i ≤ n
  · rw [look_in hn (wf_id n) hi]
    have : ((List.range (n + 1)).any fun k => decide (i ≤ k) && idR n i k) = true := by
      rw [List.any_eq_true]; exact ⟨i, by simp; omega, by simp [idR, hi]⟩
    rw [this]
    cases ng <;> simp [idR, noR, hi, eq_comm]
  · cases ng <;> simp [lookR, idR, noR, hi]
theorem look_no {n : Nat} (hn : n ≤ 24) (ng : Bool) : lookR n noR ng = if ng then idR n else noR := by
  funext i j
  by_cases hi : i ≤ n
  · rw [look_in hn (wf_no n) hi]
    have : ((List.range (n + 1)).any fun k => decide (i ≤ k) && noR i k) = false := by
      rw [List.any_eq_false]; intro k _; simp [noR]
    rw [this]
    cases ng <;> simp [idR, noR, hi, eq_comm]
  · cases ng <;> simp [lookR, idR, noR, hi]
theorem okRe_len2 {t : Re} (h : okRe t) (hk : t.kind = 3 ∨ t.kind = 4 ∨ t.kind = 7) : 2 ≤ t.args.length := by
  cases t with
  | mk k set args mn mx ng =>
  simp only [okRe] at h
  have h1 := h.1
  simp only [Re.kind] at hk
  match args, h1 with
  | [], h1 => rcases hk with rfl | rfl | rfl <;> simp [nodeE, formB, okB, Re.kind, Re.set, Re.args, Re.mn, Re.mx, Re.neg] at h1
  | [x], h1 => rcases hk with rfl | rfl | rfl <;> simp [nodeE, formB, okB, Re.kind, Re.set, Re.args, Re.mn, Re.mx, Re.neg] at h1
  | _ :: _ :: _, _ => simp [Re.args]
theorem rel_k5 {text : List Int} {t x : Re} (h : t.kind = 5) (ha : t.args = [x]) : relOf text t = starN text.length (relOf text x) (text.length + 1) := by
  rw [relOf_eq]; simp [relK, h, ha]
theorem rel_k6 {text : List Int} {t x : Re} (h : t.kind = 6) (ha : t.args = [x]) : relOf text t = repR text.length (relOf text x) t.mn (t.mx + 1).toNat := by
  rw [relOf_eq]; simp [relK, h, ha]
theorem rel_k8 {text : List Int} {t x : Re} (h : t.kind = 8) (ha : t.args = [x]) : relOf text t = notR text.length (relOf text x) := by
  rw [relOf_eq]; simp [relK, h, ha]
theorem rel_k10 {text : List Int} {t x : Re} (h : t.kind = 10) (ha : t.args = [x]) : relOf text t = lookR text.length (relOf text x) t.neg := by
  rw [relOf_eq]; simp [relK, h, ha]
theorem rel_normN {text : List Int} (hn : text.length ≤ 24) {k : Int} {set : List (Int × Int)} {a : List Re} {mn mx : Int} {ng : Bool} (h : okRe (.mk k set a mn mx ng)) : relOf text (normN k set a mn mx ng) = relOf text (.mk k set a mn mx ng) := by
  have ho := (okRes_iff a).1 (okRe_args h)
  unfold normN
  split
  · rename_i hk
    have h2 := okRe_len2 h hk
    simp only [Re.args] at h2
    rcases hk with rfl | rfl | rfl
    · rw [rel_list3 hn, rel_kcat (t := .mk 3 set a mn mx ng) rfl]; rfl
    · rw [rel_list4, rel_kalt (t := .mk 4 set a mn mx ng) rfl]; rfl
    · rw [rel_list7 a (by omega) (fun x hx h7 => by have := okRe_len2 (ho x hx) (by omega); omega), rel_kand (t := .mk 7 set a mn mx ng) rfl (by simp only [Re.args]; omega)]; rfl
  · split
    · rename_i hk
      have h1 := okRe_one h (show _ ∨ _ from by first | (simp only [Re.kind]; omega) | (simp only [Re.kind]; decide))
      simp only [Re.args] at h1
      match a, h1 with
      | [x], _ =>
      simp only []
      have hx := wf_rel text x
      have ox := ho x (by simp)
      have hbd : k = 6 → 0 ≤ mn ∧ mn ≤ mx := fun h6 => by
        have := okRe_rep h (by simp only [Re.kind]; exact h6)
        simp only [Re.mn, Re.mx] at this; omega
      split
      · rename_i hc
        rw [rel_empty]
        rcases hk with rfl | rfl
        · rcases hc with hc | hc
          · rw [rel_k5 (t := .mk 5 set [x] mn mx ng) rfl rfl, rel_kempty hc, star_id hn]
          · omega
        · have hb := hbd rfl
          rw [rel_k6 (t := .mk 6 set [x] mn mx ng) rfl rfl]
          simp only [Re.mn, Re.mx]
          rcases hc with hc | hc
          · rw [rel_kempty hc, rep_id hn hb.1 hb.2]
          · obtain ⟨_, rfl⟩ := hc
            rw [rep_zero hb.2]
      · rename_i hc1
        split
        · rename_i hc
          rw [rel_empty]
          rcases hk with rfl | rfl
          · rw [rel_k5 (t := .mk 5 set [x] mn mx ng) rfl rfl, rel_knone hc.1, star_no hn]
          · have hb := hbd rfl
            obtain rfl : mn = 0 := by have := hc.2; omega
            rw [rel_k6 (t := .mk 6 set [x] 0 mx ng) rfl rfl]
            simp only [Re.mn, Re.mx]
            rw [rel_knone hc.1, rep_no0 hn hb.2]
        · rename_i hc2
          split
          · rename_i hc
            rw [rel_none]
            rcases hk with rfl | rfl
            · omega
            · have hb := hbd rfl
              rw [rel_k6 (t := .mk 6 set [x] mn mx ng) rfl rfl]
              simp only [Re.mn, Re.mx]
              rw [rel_knone hc, rep_no1 hn (by omega)]
          · split
            · rename_i hc3 hc
              rcases hk with rfl | rfl
              · have h5 : x.kind = 5 := by omega
                have h1 := okRe_one ox (by omega)
                match hh : x.args, h1 with
                | [z], _ =>
                rw [rel_k5 (t := .mk 5 set [x] mn mx ng) rfl rfl, rel_k5 h5 hh, star_star hn (wf_rel text z)]
              · have hb := hbd rfl
                rw [rel_k6 (t := .mk 6 set [x] mn mx ng) rfl rfl]
                simp only [Re.mn, Re.mx]
                rcases hc with h5 | h5
                · have h1 := okRe_one ox (by omega)
                  match hh : x.args, h1 with
                  | [z], _ =>
                  rw [rel_k5 h5 hh, rep_star hn (wf_rel text z) hb.1 hb.2 (by omega)]
                · obtain ⟨_, rfl, rfl⟩ := h5
                  rw [rep_one hn hx]
            · rfl
    · split
      · rename_i h8
        subst h8
        have h1 := okRe_one h (show _ ∨ _ from by first | (simp only [Re.kind]; omega) | (simp only [Re.kind]; decide))
        simp only [Re.args] at h1
        match a, h1 with
        | [x], _ =>
        simp only []
        have ox := ho x (by simp)
        split
        · rename_i hc
          have h1 := okRe_one ox (by omega)
          match hh : x.args, h1 with
          | [z], _ =>
          rw [rel_k8 (t := .mk 8 set [x] mn mx ng) rfl rfl, rel_k8 hc hh, not_not_rel (wf_rel text z)]
          rfl
        · rfl
      · split
        · rename_i hk
          subst hk
          have h1 := okRe_one h (show _ ∨ _ from by first | (simp only [Re.kind]; omega) | (simp only [Re.kind]; decide))
          simp only [Re.args] at h1
          match a, h1 with
          | [x], _ =>
          simp only []
          split
          · rename_i hc
            rw [rel_none, rel_k10 (t := .mk 10 set [x] mn mx ng) rfl rfl]
            simp only [Re.neg]
            rcases hc with ⟨hc, rfl⟩ | ⟨hc, rfl⟩
            · rw [rel_kempty hc, look_id hn]; rfl
            · rw [rel_knone hc, look_no hn]; rfl
          · split
            · rename_i hc1 hc
              rw [rel_empty, rel_k10 (t := .mk 10 set [x] mn mx ng) rfl rfl]
              simp only [Re.neg]
              rcases hc with hc | hc
              · rw [rel_kempty hc, look_id hn]
                cases ng with
                | true => exact absurd (Or.inl ⟨hc, rfl⟩) hc1
                | false => rfl
              · rw [rel_knone hc, look_no hn]
                cases ng with
                | false => exact absurd (Or.inr ⟨hc, rfl⟩) hc1
                | true => rfl
            · rfl
        · rfl
theorem rel_cong {text : List Int} {k : Int} {set : List (Int × Int)} {a b : List Re} {mn mx : Int} {ng : Bool} (h : b.map (relOf text) = a.map (relOf text)) : relOf text (.mk k set b mn mx ng) = relOf text (.mk k set a mn mx ng) := by
  simp only [relOf, relsOf_eq, h]
mutual
theorem rel_normT {text : List Int} (hn : text.length ≤ 24) : ∀ (t : Re), okRe t → relOf text (normT t) = relOf text t
  | .mk k set args mn mx ng, h => by
    simp only [normT]
    rw [rel_normN hn (ok_same h (by rw [normTs_map]; simp) (ok_normTs args (okRe_args h)))]
    exact rel_cong (rel_normTs hn args (okRe_args h))
theorem rel_normTs {text : List Int} (hn : text.length ≤ 24) : ∀ (ts : List Re), okRes ts → (normTs ts).map (relOf text) = ts.map (relOf text)
  | [], _ => rfl
  | t :: ts, h => by
    simp only [okRes] at h
    simp only [normTs, List.map_cons, rel_normT hn t h.1, rel_normTs hn ts h.2]
end

/-! Normal forms are not larger. -/
theorem sizes_flat (k : Int) : ∀ (l : List Re), Re.sizes (flatT k l) ≤ Re.sizes l
  | [] => by simp [flatT, Re.sizes]
  | x :: l => by
    have ih := sizes_flat k l
    show Re.sizes ((if x.kind = k then x.args else [x]) ++ flatT k l) ≤ _
    rw [Re.sizes_append]
    have := x.size_eq
    simp only [Re.sizes]
    split
    · omega
    · simp only [Re.sizes]; omega
theorem sizes_filter (p : Re → Bool) : ∀ (l : List Re), Re.sizes (l.filter p) ≤ Re.sizes l
  | [] => by simp [Re.sizes]
  | x :: l => by
    have ih := sizes_filter p l
    rw [List.filter_cons]
    simp only [Re.sizes]
    split
    · simp only [Re.sizes]; omega
    · omega
theorem sizes_once : ∀ (l out : List Re), Re.sizes (onceT out l) ≤ Re.sizes out + Re.sizes l
  | [], out => by simp [onceT, Re.sizes]
  | x :: l, out => by
    unfold onceT
    simp only [Re.sizes]
    split
    · have := sizes_once l out; omega
    · have := sizes_once l (out ++ [x])
      rw [Re.sizes_append] at this
      simp only [Re.sizes] at this
      omega
theorem size_listT (k : Int) (l : List Re) : (listT k l).size ≤ Re.sizes l + 1 := by
  have h0 : noneT.size = 1 := rfl
  have h1 : emptyT.size = 1 := rfl
  have hf := sizes_flat k l
  unfold listT
  simp only []
  generalize hl2 : (if k = 3 then (flatT k l).filter fun x => !decide (x.kind = 1) else if k = 4 then (flatT k l).filter fun x => !decide (x.kind = 0) else flatT k l) = l2
  have ho2 : Re.sizes l2 ≤ Re.sizes l := by
    rw [← hl2]
    split
    · exact Nat.le_trans (sizes_filter _ _) hf
    · split
      · exact Nat.le_trans (sizes_filter _ _) hf
      · exact hf
  generalize hl3 : (if k = 3 then l2 else onceT [] l2) = l3
  have ho3 : Re.sizes l3 ≤ Re.sizes l := by
    rw [← hl3]
    split
    · exact ho2
    · have := sizes_once l2 []; simp only [Re.sizes] at this; omega
  split
  · omega
  · split
    · simp only [Re.sizes] at ho3; omega
    · split <;> omega
    · simp only [Re.size]; omega
theorem size_normN (k : Int) (set : List (Int × Int)) (a : List Re) (mn mx : Int) (ng : Bool) : (normN k set a mn mx ng).size ≤ Re.sizes a + 1 := by
  have h0 : noneT.size = 1 := rfl
  have h1 : emptyT.size = 1 := rfl
  unfold normN
  split
  · exact size_listT k a
  · split
    · split
      · rename_i x r
        simp only [Re.sizes]
        split; omega
        split; omega
        split; omega
        split; omega
        simp only [Re.size, Re.sizes]; omega
      · simp only [Re.size]; omega
    · split
      · split
        · rename_i x r
          simp only [Re.sizes]
          split
          · have hx := x.size_eq
            cases hh : x.args with
            | nil => simp only [List.headD]; omega
            | cons z r => rw [hh] at hx; simp only [Re.sizes, List.headD] at hx ⊢; omega
          · simp only [Re.size, Re.sizes]; omega
        · simp only [Re.size]; omega
      · split
        · split
          · rename_i x r
            simp only [Re.sizes]
            split; omega
            split; omega
            simp only [Re.size, Re.sizes]; omega
          · simp only [Re.size]; omega
        · simp only [Re.size]; omega
mutual
theorem size_normT : ∀ (t : Re), (normT t).size ≤ t.size
  | .mk k set args mn mx ng => by
    simp only [normT, Re.size]
    have := size_normN k set (normTs args) mn mx ng
    have := size_normTs args
    omega
theorem size_normTs : ∀ (ts : List Re), Re.sizes (normTs ts) ≤ Re.sizes ts
  | [] => by simp [normTs, Re.sizes]
  | t :: ts => by
    simp only [normTs, Re.sizes]
    have := size_normT t
    have := size_normTs ts
    omega
end

/-! Normal forms are their own normal forms. -/
def isL (k : Int) : Prop := k = 3 ∨ k = 4 ∨ k = 7
mutual
def Nf : Re → Prop
  | .mk k set args mn mx ng => Nfs args ∧ (isL k → set = [] ∧ mn = 0 ∧ mx = 0 ∧ ng = false ∧ 2 ≤ args.length ∧ (∀ x ∈ args, x.kind ≠ k) ∧ (k = 3 → ∀ x ∈ args, x.kind ≠ 1) ∧ (∀ x ∈ args, x.kind ≠ 0) ∧ (k ≠ 3 → args.Nodup)) ∧
      (¬ isL k → normN k set args mn mx ng = .mk k set args mn mx ng)
def Nfs : List Re → Prop
  | [] => True
  | t :: ts => Nf t ∧ Nfs ts
end
theorem Nfs_iff (ts : List Re) : Nfs ts ↔ ∀ x ∈ ts, Nf x := by
  induction ts with
  | nil => simp [Nfs]
  | cons t ts ih => simp [Nfs, ih]
theorem flat_self {k : Int} : ∀ {l : List Re}, (∀ x ∈ l, x.kind ≠ k) → flatT k l = l
  | [], _ => rfl
  | x :: l, h => by
    show (if x.kind = k then x.args else [x]) ++ flatT k l = _
    rw [if_neg (h x (by simp)), flat_self fun y hy => h y (by simp [hy])]; rfl
theorem once_self : ∀ {l out : List Re}, (out ++ l).Nodup → onceT out l = out ++ l
  | [], out, _ => by simp [onceT]
  | x :: l, out, h => by
    unfold onceT
    have hx : ¬ (out.any fun y => sameT x y) = true := by
      rw [List.any_eq_true]
      rintro ⟨z, hz, hs⟩
      rw [sameT_iff] at hs
      subst hs
      rw [List.nodup_append] at h
      exact h.2.2 x hz x (by simp) rfl
    rw [if_neg hx, once_self (by simpa using h)]
    simp
theorem once_nodup : ∀ (l out : List Re), out.Nodup → (onceT out l).Nodup
  | [], out, h => by simpa [onceT] using h
  | x :: l, out, h => by
    unfold onceT
    split
    · exact once_nodup l out h
    · rename_i hx
      refine once_nodup l _ ?_
      rw [List.nodup_append]
      refine ⟨h, by simp, ?_⟩
      intro a ha b hb
      simp at hb
      subst hb
      rintro rfl
      apply hx
      rw [List.any_eq_true]
      exact ⟨a, ha, (sameT_iff a a).2 rfl⟩
mutual
theorem norm_nf : ∀ (t : Re), Nf t → normT t = t
  | .mk k set args mn mx ng, h => by
    simp only [Nf] at h
    simp only [normT]
    rw [norm_nfs args h.1]
    by_cases hk : isL k
    · obtain ⟨rfl, rfl, rfl, rfl, h2, h3, h4, h5, h6⟩ := h.2.1 hk
      unfold normN
      rw [if_pos (show k = 3 ∨ k = 4 ∨ k = 7 from hk)]
      unfold listT
      simp only []
      rw [flat_self h3]
      have e1 : (if k = 3 then args.filter fun x => !decide (x.kind = 1) else if k = 4 then args.filter fun x => !decide (x.kind = 0) else args) = args := by
        split
        · rename_i hk3
          rw [List.filter_eq_self]
          intro x hx; simp [h4 hk3 x hx]
        · split
          · rw [List.filter_eq_self]
            intro x hx; simp [h5 x hx]
          · rfl
      rw [e1]
      have e2 : ¬ (k ≠ 4 ∧ (args.any fun x => decide (x.kind = 0)) = true) := by
        rintro ⟨_, h⟩
        rw [List.any_eq_true] at h
        obtain ⟨x, hx, hd⟩ := h
        rw [decide_eq_true_eq] at hd
        exact h5 x hx hd
      rw [if_neg e2]
      have e3 : (if k = 3 then args else onceT [] args) = args := by
        split
        · rfl
        · rename_i hk3; rw [once_self (by simpa using h6 hk3)]; rfl
      rw [e3]
      match args, h2 with
      | _ :: _ :: _, _ => rfl
    · exact h.2.2 hk
theorem norm_nfs : ∀ (ts : List Re), Nfs ts → normTs ts = ts
  | [], _ => rfl
  | t :: ts, h => by
    simp only [Nfs] at h
    simp only [normTs]
    rw [norm_nf t h.1, norm_nfs ts h.2]
end
theorem nf_none : Nf noneT := by
  simp only [noneT, Nf, Nfs, isL]
  refine ⟨trivial, fun h => by omega, fun _ => ?_⟩
  simp [normN]
theorem nf_empty : Nf emptyT := by
  simp only [emptyT, Nf, Nfs, isL]
  refine ⟨trivial, fun h => by omega, fun _ => ?_⟩
  simp [normN]
theorem nf_args {t : Re} (h : Nf t) : ∀ x ∈ t.args, Nf x := by
  cases t; simp only [Nf] at h; exact (Nfs_iff _).1 h.1
theorem nf_kinds {t : Re} (h : Nf t) (hk : isL t.kind) : ∀ x ∈ t.args, x.kind ≠ t.kind := by
  cases t; simp only [Nf] at h; exact (h.2.1 hk).2.2.2.2.2.1
theorem nf_listT {k : Int} {l : List Re} (h : isL k) (ho : ∀ x ∈ l, Nf x) : Nf (listT k l) := by
  unfold listT
  simp only []
  have hf : ∀ x ∈ flatT k l, Nf x ∧ x.kind ≠ k := by
    intro x hx
    unfold flatT at hx
    rw [List.mem_flatMap] at hx
    obtain ⟨z, hz, hx⟩ := hx
    split at hx
    · rename_i hk
      exact ⟨nf_args (ho z hz) x hx, by have := nf_kinds (ho z hz) (by rw [hk]; exact h) x hx; rw [hk] at this; exact this⟩
    · rename_i hk
      simp at hx; subst hx; exact ⟨ho x hz, hk⟩
  generalize hl2 : (if k = 3 then (flatT k l).filter fun x => !decide (x.kind = 1) else if k = 4 then (flatT k l).filter fun x => !decide (x.kind = 0) else flatT k l) = l2
  have ho2 : ∀ x ∈ l2, (Nf x ∧ x.kind ≠ k) ∧ (k = 3 → x.kind ≠ 1) ∧ (k = 4 → x.kind ≠ 0) := by
    intro x hx
    rw [← hl2] at hx
    split at hx
    · rw [List.mem_filter] at hx
      have := hx.2
      simp at this
      exact ⟨hf x hx.1, fun _ => this, fun h4 => by omega⟩
    · split at hx
      · rw [List.mem_filter] at hx
        have := hx.2
        simp at this
        exact ⟨hf x hx.1, fun h3 => by omega, fun _ => this⟩
      · exact ⟨hf x hx, fun h3 => by omega, fun h3 => by omega⟩
  generalize hl3 : (if k = 3 then l2 else onceT [] l2) = l3
  have ho3 : ∀ x ∈ l3, x ∈ l2 := by
    intro x hx
    rw [← hl3] at hx
    split at hx
    · exact hx
    · simpa using (once_mem x l2 []).1 hx
  have hnd : k ≠ 3 → l3.Nodup := by
    intro hk
    rw [← hl3, if_neg hk]
    exact once_nodup l2 [] List.nodup_nil
  split
  · exact nf_none
  · rename_i hno
    split
    · exact (ho2 _ (ho3 _ (by simp))).1.1
    · split
      · exact nf_empty
      · exact nf_none
    · rename_i h1 h2
      simp only [Nf]
      refine ⟨(Nfs_iff _).2 fun x hx => (ho2 x (ho3 x hx)).1.1, fun _ => ⟨trivial, trivial, trivial, trivial, ?_, fun x hx => (ho2 x (ho3 x hx)).1.2, fun h3 x hx => (ho2 x (ho3 x hx)).2.1 h3, ?_, hnd⟩, fun hk => absurd h hk⟩
      · match l3, h1, h2 with
        | [], _, h2 => exact absurd rfl h2
        | [x], h1, _ => exact absurd rfl (h1 x)
        | _ :: _ :: _, _, _ => simp
      · intro x hx h0
        by_cases h4 : k = 4
        · exact (ho2 x (ho3 x hx)).2.2 h4 h0
        · apply hno
          refine ⟨h4, ?_⟩
          rw [List.any_eq_true]
          exact ⟨x, ho3 x hx, by simp [h0]⟩
theorem nf_normN {k : Int} {set : List (Int × Int)} {a : List Re} {mn mx : Int} {ng : Bool} (ho : ∀ x ∈ a, Nf x) : Nf (normN k set a mn mx ng) := by
  by_cases hk : isL k
  · unfold normN
    rw [if_pos (show k = 3 ∨ k = 4 ∨ k = 7 from hk)]
    exact nf_listT hk ho
  · by_cases hs : normN k set a mn mx ng = .mk k set a mn mx ng
    · rw [hs]
      simp only [Nf]
      exact ⟨(Nfs_iff _).2 ho, fun h => absurd h hk, fun _ => hs⟩
    · unfold normN at hs ⊢
      have hk' : ¬ (k = 3 ∨ k = 4 ∨ k = 7) := hk
      rw [if_neg hk'] at hs ⊢
      split
      · rename_i h5
        rw [if_pos h5] at hs
        split
        · rename_i x r
          have hx := ho x (by simp)
          simp only [] at hs
          split; exact nf_empty
          split; exact nf_empty
          split; exact nf_none
          split; exact hx
          rename_i c1 c2 c3 c4
          rw [if_neg c1, if_neg c2, if_neg c3, if_neg c4] at hs
          exact absurd rfl hs
        · exact absurd rfl hs
      · rename_i h5
        rw [if_neg h5] at hs
        split
        · rename_i h8
          rw [if_pos h8] at hs
          split
          · rename_i x r
            have hx := ho x (by simp)
            simp only [] at hs
            split
            · cases hh : x.args with
              | nil => exact nf_none
              | cons z r => exact nf_args hx z (by rw [hh]; simp)
            · rename_i c1
              rw [if_neg c1] at hs
              exact absurd rfl hs
          · exact absurd rfl hs
        · rename_i h8
          rw [if_neg h8] at hs
          split
          · rename_i h10
            rw [if_pos h10] at hs
            split
            · simp only [] at hs
              split; exact nf_none
              split; exact nf_empty
              rename_i c1 c2
              rw [if_neg c1, if_neg c2] at hs
              exact absurd rfl hs
            · exact absurd rfl hs
          · rename_i h10
            rw [if_neg h10] at hs
            exact absurd rfl hs
mutual
theorem nf_normT : ∀ (t : Re), Nf (normT t)
  | .mk k set args mn mx ng => by
    simp only [normT]
    exact nf_normN (nf_normTs args)
theorem nf_normTs : ∀ (ts : List Re), ∀ x ∈ normTs ts, Nf x
  | [], x, hx => by simp [normTs] at hx
  | t :: ts, x, hx => by
    simp only [normTs] at hx
    rcases List.mem_cons.1 hx with rfl | hx
    · exact nf_normT t
    · exact nf_normTs ts x hx
end
theorem norm_norm (t : Re) : normT (normT t) = normT t := norm_nf _ (nf_normT t)
end Go.Proofs
