/- Plain: the reference's normal form, rule by rule, is the normal form. -/
import Derived.Test.YtiepeobnpmoghaaW29
namespace Go.Proofs
open Go Go.Eng

def leftT (k : Int) (l : List Re) : Re := if 0 < l.length then .mk k [] l 0 0 false else if k = 3 then emptyT else noneT
def goneB (k : Int) (pre : List Re) (a : Re) : Bool := (decide (a.kind = 0) || (decide (a.kind = 1) && decide (k = 3))) || (decide (k ≠ 3) && pre.any fun b => sameT a b)
def keepB (k : Int) (pre : List Re) (a : Re) : Bool := !decide (a.kind = k) && !(decide (a.kind = 0) && decide (k ≠ 4)) && !goneB k pre a
def stepT (k : Int) (l : List Re) (i : Nat) (a : Re) : Re :=
  if a.kind = k then .mk k [] (l.take i ++ a.args ++ l.drop (i + 1)) 0 0 false else if a.kind = 0 ∧ k ≠ 4 then noneT else leftT k (l.take i ++ l.drop (i + 1))
def ManyR (k : Int) (l : List Re) (res : Option Re) : Prop :=
  (∃ i a, l[i]? = some a ∧ (∀ j b, j < i → l[j]? = some b → keepB k (l.take j) b = true) ∧ keepB k (l.take i) a = false ∧ res = some (stepT k l i a)) ∨
  ((∀ j b, l[j]? = some b → keepB k (l.take j) b = true) ∧ ((l.length = 1 ∧ ∃ x, l[0]? = some x ∧ res = some x) ∨ (l.length ≠ 1 ∧ res = none)))
def rep56 (k : Int) (y : Re) (mn mx : Int) : Option Re :=
  if (k = 6 ∧ mx = 0) ∨ y.kind = 1 then some emptyT else if y.kind = 0 then (if k = 5 ∨ mn = 0 then some emptyT else some noneT) else if y.kind = 5 ∨ (k = 6 ∧ mn = 1 ∧ mx = 1) then some y else none
instance (k : Int) : Decidable (isL k) := by unfold isL; infer_instance
def RuleR (r : Re) (res : Option Re) : Prop :=
  if isL r.kind then ManyR r.kind r.args res
  else match r.args with
    | [y] => if r.kind = 5 ∨ r.kind = 6 then res = rep56 r.kind y r.mn r.mx
      else if r.kind = 8 then res = (if y.kind = 8 then some (y.args.headD noneT) else none)
      else if r.kind = 10 then res = (if y.kind ≤ 1 then (if (decide (y.kind = 1)) != r.neg then some emptyT else some noneT) else none)
      else res = none
    | _ => res = none
/-- What every node on the way is like. -/
def InvR (r : Re) : Prop := (∀ x ∈ r.args, Nf x ∧ okRe x) ∧ (isL r.kind → r = .mk r.kind [] r.args 0 0 false ∧ r.args ≠ []) ∧ (r.kind = 5 ∨ r.kind = 6 ∨ r.kind = 8 ∨ r.kind = 9 ∨ r.kind = 10 → r.args.length = 1) ∧ (¬ isL r.kind ∧ ¬ (r.kind = 5 ∨ r.kind = 6 ∨ r.kind = 8 ∨ r.kind = 9 ∨ r.kind = 10) → r.args = []) ∧ 0 ≤ r.kind ∧ r.kind ≤ 10
def nodeN (r : Re) : Re := normN r.kind r.set r.args r.mn r.mx r.neg

theorem okRe_leaf {t : Re} (h : okRe t) (h1 : ¬ isL t.kind ∧ ¬ (t.kind = 5 ∨ t.kind = 6 ∨ t.kind = 8 ∨ t.kind = 9 ∨ t.kind = 10)) : t.args = [] := by
  obtain ⟨_, _, hf⟩ := okRe_form h
  simp only [formB, Bool.and_eq_true] at hf
  have := hf.1.1.1.1
  unfold okB at this
  unfold isL at h1
  rw [if_neg h1.1, if_neg h1.2] at this
  simp at this
  exact this
theorem okRe_bare {t : Re} (h : okRe t) (hk : isL t.kind) : t = .mk t.kind [] t.args 0 0 false := by
  obtain ⟨_, _, hf⟩ := okRe_form h
  unfold isL at hk
  simp only [formB, Bool.and_eq_true, Bool.or_eq_true, Bool.not_eq_true'] at hf
  obtain ⟨⟨⟨⟨_, h2⟩, h3⟩, h4⟩, h5⟩ := hf
  have e1 : t.set = [] := List.eq_nil_of_length_eq_zero (by rcases h2 with h | h <;> simp at h <;> first | omega | (rw [h]; rfl))
  have e2 : t.mn = 0 := by rcases h3 with (h | h) | h <;> simp at h <;> omega
  have e3 : t.mx = 0 := by rcases h4 with h | h <;> simp at h <;> omega
  have e4 : t.neg = false := by rcases h5 with h | h <;> first | exact h | (simp at h; omega)
  cases t with
  | mk k set args mn mx ng =>
  simp only [Re.set, Re.mn, Re.mx, Re.neg] at e1 e2 e3 e4
  simp only [Re.kind, Re.args, e1, e2, e3, e4]
theorem inv_ok {t : Re} (h : okRe t) (ha : ∀ x ∈ t.args, Nf x) : InvR t := by
  obtain ⟨h0, h1, _⟩ := okRe_form h
  refine ⟨fun x hx => ⟨ha x hx, (okRes_iff _).1 (okRe_args h) x hx⟩, fun hk => ⟨okRe_bare h hk, fun he => ?_⟩, fun hk => okRe_one h hk, fun hk => okRe_leaf h hk, h0, h1⟩
  have := okRe_two h hk
  rw [he] at this; simp at this
theorem inv_nf {t : Re} (h : okRe t) (hn : Nf t) : InvR t ∧ nodeN t = t := by
  refine ⟨inv_ok h (nf_args hn), ?_⟩
  have h1 := norm_nf t hn
  rw [normT_eq, norm_nfs t.args ((Nfs_iff _).2 (nf_args hn))] at h1
  exact h1
theorem inv_none : InvR noneT ∧ nodeN noneT = noneT := inv_nf (ok_leaf (.inl rfl)) nf_none
theorem inv_empty : InvR emptyT ∧ nodeN emptyT = emptyT := inv_nf (ok_leaf (.inr rfl)) nf_empty

/-! Lists. -/
theorem flat_append (k : Int) (l m : List Re) : flatT k (l ++ m) = flatT k l ++ flatT k m := by simp [flatT]
theorem listT_congr {k : Int} {l m : List Re} (h : restT k l = restT k m) : listT k l = listT k m := by
  rw [listT_def, listT_def]
  unfold outT
  rw [h]
theorem rest_flat {k : Int} {l m : List Re} (h : flatT k l = flatT k m) : restT k l = restT k m := by unfold restT; rw [h]
theorem once_dup {a : Re} : ∀ (X Y out : List Re), (a ∈ out ∨ a ∈ X) → onceT out (X ++ a :: Y) = onceT out (X ++ Y)
  | [], Y, out, h => by
    have ha : a ∈ out := by simpa using h
    have : (out.any fun y => sameT a y) = true := List.any_eq_true.2 ⟨a, ha, (sameT_iff a a).2 rfl⟩
    simp only [List.nil_append, onceT]
    rw [if_pos this]
  | x :: X, Y, out, h => by
    simp only [List.cons_append, onceT]
    split
    · rename_i hx
      refine once_dup X Y out ?_
      rcases h with h | h
      · exact .inl h
      · rcases List.mem_cons.1 h with rfl | h
        · obtain ⟨b, hb, he⟩ := List.any_eq_true.1 hx
          rw [(sameT_iff _ _).1 he]; exact .inl hb
        · exact .inr h
    · refine once_dup X Y _ ?_
      rcases h with h | h
      · exact .inl (by simp [h])
      · rcases List.mem_cons.1 h with rfl | h
        · exact .inl (by simp)
        · exact .inr h
theorem split_at {l : List Re} {i : Nat} {a : Re} (h : l[i]? = some a) : l = l.take i ++ a :: l.drop (i + 1) := by
  rw [← drop_cons h, List.take_append_drop]
theorem flat_one {k : Int} {a : Re} (h : a.kind ≠ k) : flatT k [a] = [a] := by simp [flatT, h]
theorem mem_rest {k : Int} {l : List Re} {a : Re} (h : a ∈ l) (hk : a.kind ≠ k) (h1 : ¬ (k = 3 ∧ a.kind = 1)) (h0 : ¬ (k = 4 ∧ a.kind = 0)) : a ∈ restT k l := by
  have hf : a ∈ flatT k l := List.mem_flatMap.2 ⟨a, h, by simp [hk]⟩
  unfold restT
  split
  · rename_i h3
    exact List.mem_filter.2 ⟨hf, by simp; exact fun h => h1 ⟨h3, h⟩⟩
  · split
    · rename_i h4
      exact List.mem_filter.2 ⟨hf, by simp; exact fun h => h0 ⟨h4, h⟩⟩
    · exact hf
theorem rest_append (k : Int) (l m : List Re) : restT k (l ++ m) = restT k l ++ restT k m := by
  unfold restT
  rw [flat_append]
  split
  · rw [List.filter_append]
  · split
    · rw [List.filter_append]
    · rfl
theorem rest_one {k : Int} {a : Re} (hk : a.kind ≠ k) : restT k [a] = if (k = 3 ∧ a.kind = 1) ∨ (k = 4 ∧ a.kind = 0) then [] else [a] := by
  unfold restT
  rw [flat_one hk]
  by_cases h3 : k = 3
  · subst h3
    by_cases h1 : a.kind = 1 <;> simp [h1]
  · by_cases h4 : k = 4
    · subst h4
      by_cases h1 : a.kind = 0 <;> simp [h1]
    · simp [h3, h4]
theorem many_flat {k : Int} {l : List Re} {i : Nat} {a : Re} (ha : l[i]? = some a) (hk : isL k) (hn : Nf a) (he : a.kind = k) : listT k (l.take i ++ a.args ++ l.drop (i + 1)) = listT k l := by
  refine listT_congr (rest_flat ?_)
  have e : l = l.take i ++ a :: l.drop (i + 1) := split_at ha
  have h1 : flatT k a.args = a.args := by
    refine flat_self ?_
    have := nf_kinds hn (by rw [he]; exact hk)
    rwa [he] at this
  have h2 : flatT k (a :: l.drop (i + 1)) = a.args ++ flatT k (l.drop (i + 1)) := by simp [flatT, he]
  conv => rhs; rw [e]
  rw [flat_append, flat_append, h1, flat_append, h2, List.append_assoc]
theorem many_none {k : Int} {l : List Re} {i : Nat} {a : Re} (ha : l[i]? = some a) (he : a.kind ≠ k) (h0 : a.kind = 0) (h4 : k ≠ 4) : listT k l = noneT := by
  refine listT_none h4 (List.any_eq_true.2 ⟨a, mem_rest (List.mem_of_getElem? ha) he (by omega) (by omega), by simp [h0]⟩)
theorem many_gone {k : Int} {l : List Re} {i : Nat} {a : Re} (ha : l[i]? = some a) (he : a.kind ≠ k) (h0 : ¬ (a.kind = 0 ∧ k ≠ 4)) (hg : goneB k (l.take i) a = true) : listT k (l.take i ++ l.drop (i + 1)) = listT k l := by
  have e : l = l.take i ++ ([a] ++ l.drop (i + 1)) := split_at ha
  by_cases hc : (k = 3 ∧ a.kind = 1) ∨ (k = 4 ∧ a.kind = 0)
  · refine listT_congr ?_
    conv => rhs; rw [e]
    rw [rest_append, rest_append, rest_append, rest_one he, if_pos hc]
    rfl
  · have hd : k ≠ 3 ∧ a ∈ l.take i := by
      simp only [goneB, Bool.or_eq_true, Bool.and_eq_true, decide_eq_true_eq] at hg
      rcases hg with (h | h) | h
      · exact absurd ⟨by omega, h⟩ (fun h2 => hc (.inr h2))
      · exact absurd ⟨h.2, h.1⟩ (fun h2 => hc (.inl h2))
      · obtain ⟨b, hb, hs⟩ := List.any_eq_true.1 h.2
        exact ⟨h.1, by rw [(sameT_iff _ _).1 hs]; exact hb⟩
    have hm : a ∈ restT k (l.take i) := mem_rest hd.2 he (fun h => hc (.inl h)) (fun h => hc (.inr h))
    have e2 : restT k l = restT k (l.take i) ++ a :: restT k (l.drop (i + 1)) := by
      conv => lhs; rw [e]
      rw [rest_append, rest_append, rest_one he, if_neg hc]
      rfl
    have e3 : restT k (l.take i ++ l.drop (i + 1)) = restT k (l.take i) ++ restT k (l.drop (i + 1)) := rest_append _ _ _
    have e4 : outT k (l.take i ++ l.drop (i + 1)) = outT k l := by
      unfold outT
      rw [if_neg hd.1, if_neg hd.1, e2, e3, once_dup _ _ _ (.inr hm)]
    have e5 : ((restT k (l.take i ++ l.drop (i + 1))).any fun x => decide (x.kind = 0)) = ((restT k l).any fun x => decide (x.kind = 0)) := by
      rw [e2, e3, Bool.eq_iff_iff]
      simp only [List.any_append, List.any_cons, Bool.or_eq_true]
      constructor
      · rintro (h | h); exact .inl h; exact .inr (.inr h)
      · rintro (h | h | h)
        · exact .inl h
        · exact .inl (List.any_eq_true.2 ⟨a, hm, h⟩)
        · exact .inr h
    rw [listT_def, listT_def, e4, e5]
theorem keep_iff {k : Int} {pre : List Re} {a : Re} : keepB k pre a = true ↔ a.kind ≠ k ∧ ¬ (a.kind = 0 ∧ k ≠ 4) ∧ goneB k pre a = false := by
  simp only [keepB, Bool.and_eq_true, Bool.not_eq_true', decide_eq_false_iff_not, Bool.and_eq_false_iff]
  constructor
  · rintro ⟨⟨h1, h2⟩, h3⟩
    exact ⟨h1, fun h => by rcases h2 with h2 | h2; exact h2 h.1; exact h2 h.2, h3⟩
  · rintro ⟨h1, h2, h3⟩
    refine ⟨⟨h1, ?_⟩, h3⟩
    by_cases h : a.kind = 0
    · exact .inr fun h' => h2 ⟨h, h'⟩
    · exact .inl h
theorem all_keep {k : Int} {l : List Re} (hl : ∀ j b, l[j]? = some b → keepB k (l.take j) b = true) : (∀ x ∈ l, x.kind ≠ k) ∧ (k = 3 → ∀ x ∈ l, x.kind ≠ 1) ∧ (∀ x ∈ l, x.kind ≠ 0) ∧ (k ≠ 3 → l.Nodup) := by
  have hget : ∀ x ∈ l, ∃ j, l[j]? = some x := fun x hx => List.mem_iff_getElem?.1 hx
  have hk : ∀ x ∈ l, x.kind ≠ k ∧ ¬ (x.kind = 0 ∧ k ≠ 4) ∧ ∃ j, l[j]? = some x ∧ goneB k (l.take j) x = false := fun x hx => by
    obtain ⟨j, hj⟩ := hget x hx
    have := keep_iff.1 (hl j x hj)
    exact ⟨this.1, this.2.1, j, hj, this.2.2⟩
  refine ⟨fun x hx => (hk x hx).1, fun h3 x hx h1 => ?_, fun x hx h0 => ?_, fun h3 => ?_⟩
  · obtain ⟨_, _, j, _, hg⟩ := hk x hx
    simp [goneB, h1, h3] at hg
  · obtain ⟨_, _, j, _, hg⟩ := hk x hx
    simp [goneB, h0] at hg
  · unfold List.Nodup
    rw [List.pairwise_iff_getElem]
    intro i j hi hj hij heq
    have h1 := keep_iff.1 (hl j l[j] (List.getElem?_eq_getElem hj))
    have h2 : l[i] ∈ l.take j := List.mem_iff_getElem?.2 ⟨i, by rw [List.getElem?_take_of_lt hij, List.getElem?_eq_getElem hi]⟩
    have h3' : goneB k (l.take j) l[j] = true := by
      simp only [goneB, Bool.or_eq_true, Bool.and_eq_true, decide_eq_true_eq]
      exact .inr ⟨h3, List.any_eq_true.2 ⟨l[i], h2, (sameT_iff _ _).2 heq.symm⟩⟩
    rw [h3'] at h1
    cases h1.2.2
theorem rest_keep {k : Int} {l : List Re} (hl : ∀ j b, l[j]? = some b → keepB k (l.take j) b = true) : restT k l = l := by
  obtain ⟨h1, h2, h3, _⟩ := all_keep hl
  unfold restT
  rw [flat_self h1]
  split
  · rename_i h
    rw [List.filter_eq_self]
    intro x hx; simp [h2 h x hx]
  · split
    · rw [List.filter_eq_self]
      intro x hx; simp [h3 x hx]
    · rfl
theorem once_distinct : ∀ (l out : List Re), (∀ x ∈ l, x ∉ out) → l.Nodup → onceT out l = out ++ l
  | [], out, _, _ => by simp [onceT]
  | x :: l, out, h, hn => by
    simp only [onceT]
    rw [if_neg]
    · rw [once_distinct l (out ++ [x]) ?_ (List.nodup_cons.1 hn).2]
      · simp
      · intro y hy hm
        rcases List.mem_append.1 hm with hm | hm
        · exact h y (by simp [hy]) hm
        · simp at hm; subst hm; exact (List.nodup_cons.1 hn).1 hy
    · intro ha
      obtain ⟨b, hb, hs⟩ := List.any_eq_true.1 ha
      rw [← (sameT_iff _ _).1 hs] at hb
      exact h x (by simp) hb
theorem out_keep {k : Int} {l : List Re} (hl : ∀ j b, l[j]? = some b → keepB k (l.take j) b = true) : outT k l = l ∧ ¬ (k ≠ 4 ∧ ((restT k l).any fun x => decide (x.kind = 0)) = true) := by
  obtain ⟨h1, h2, h3, h4⟩ := all_keep hl
  have hr := rest_keep hl
  constructor
  · unfold outT
    rw [hr]
    split
    · rfl
    · rename_i h
      rw [once_distinct l [] (by simp) (h4 h)]; rfl
  · rintro ⟨_, ha⟩
    rw [hr] at ha
    obtain ⟨x, hx, h0⟩ := List.any_eq_true.1 ha
    exact h3 x hx (by simpa using h0)
theorem left_list {k : Int} (hk : isL k) (l : List Re) (hl : ∀ x ∈ l, Nf x ∧ okRe x) : InvR (leftT k l) ∧ nodeN (leftT k l) = listT k l := by
  unfold leftT
  split
  · rename_i h
    refine ⟨⟨hl, fun _ => ⟨rfl, fun he => by simp only [Re.args] at he; rw [he] at h; simp at h⟩, fun h5 => ?_, fun h5 => ?_, ?_⟩, ?_⟩
    · simp only [Re.kind] at h5; unfold isL at hk; omega
    · exact absurd hk h5.1
    · simp only [Re.kind]; unfold isL at hk; omega
    · unfold nodeN; exact normN_list l hk
  · rename_i h
    have hn : l = [] := List.eq_nil_of_length_eq_zero (by omega)
    subst hn
    unfold isL at hk
    rcases hk with rfl | rfl | rfl
    · exact inv_empty
    · exact inv_none
    · exact inv_none
theorem sizes_split {l : List Re} {i : Nat} {a : Re} (h : l[i]? = some a) : Re.sizes l = Re.sizes (l.take i) + a.size + Re.sizes (l.drop (i + 1)) := by
  conv => lhs; rw [split_at h]
  rw [Re.sizes_append]; simp only [Re.sizes]; omega
theorem left_size (k : Int) (l : List Re) : (leftT k l).size ≤ Re.sizes l + 1 := by
  unfold leftT
  split
  · rw [Re.size_eq]; exact Nat.le_refl _
  · split <;> (rw [Re.size_eq]; simp [emptyT, noneT, Re.args, Re.sizes])
/-- One rule leads on to a smaller node with the same normal form; where there is none the node is normal. -/
def StepOk (r : Re) : Option Re → Prop
  | some r' => InvR r' ∧ nodeN r' = nodeN r ∧ r'.size < r.size
  | none => nodeN r = r
theorem stepOk_some {r r' : Re} (h : InvR r' ∧ nodeN r' = nodeN r ∧ r'.size < r.size) : StepOk r (some r') := h
theorem stepOk_none {r : Re} (h : nodeN r = r) : StepOk r none := h
theorem rule_step {r : Re} {res : Option Re} (hi : InvR r) (hr : RuleR r res) : StepOk r res := by
  obtain ⟨hargs, hlist, hone, hleaf, hk0, hk1⟩ := hi
  unfold RuleR at hr
  by_cases hL : isL r.kind
  · rw [if_pos hL] at hr
    obtain ⟨hb, hne⟩ := hlist hL
    have hN : nodeN r = listT r.kind r.args := normN_list _ hL
    rcases hr with ⟨i, a, ha, hkeep, hnot, rfl⟩ | ⟨hkeep, ⟨h1, x, hx, rfl⟩ | ⟨h1, rfl⟩⟩
    · have ham := hargs a (List.mem_of_getElem? ha)
      have hss := sizes_split ha
      have has := a.size_eq
      have hrs := r.size_eq
      refine stepOk_some ?_
      unfold stepT
      by_cases he : a.kind = r.kind
      · rw [if_pos he]
        refine ⟨⟨?_, fun _ => ⟨rfl, ?_⟩, fun h5 => ?_, fun h5 => ?_, hk0, hk1⟩, ?_, ?_⟩
        · intro x hx
          have hx : x ∈ r.args.take i ++ a.args ++ r.args.drop (i + 1) := hx
          simp only [List.mem_append] at hx
          rcases hx with (hx | hx) | hx
          · exact hargs x (List.mem_of_mem_take hx)
          · exact ⟨nf_args ham.1 x hx, (okRes_iff _).1 (okRe_args ham.2) x hx⟩
          · exact hargs x (List.mem_of_mem_drop hx)
        · have h2 := okRe_two ham.2 (by rw [he]; exact hL)
          intro h
          have h3 : (r.args.take i ++ a.args ++ r.args.drop (i + 1)).length = 0 := by
            have h4 : r.args.take i ++ a.args ++ r.args.drop (i + 1) = [] := h
            rw [h4]; rfl
          simp only [List.length_append] at h3
          omega
        · have h6 : r.kind = 5 ∨ r.kind = 6 ∨ r.kind = 8 ∨ r.kind = 9 ∨ r.kind = 10 := h5
          unfold isL at hL; omega
        · exact absurd hL h5.1
        · rw [hN]
          show normN r.kind [] (r.args.take i ++ a.args ++ r.args.drop (i + 1)) 0 0 false = _
          rw [normN_list _ hL]
          exact many_flat ha hL ham.1 he
        · rw [Re.size_eq]
          show Re.sizes (r.args.take i ++ a.args ++ r.args.drop (i + 1)) + 1 < _
          rw [Re.sizes_append, Re.sizes_append]; omega
      · rw [if_neg he]
        by_cases h0 : a.kind = 0 ∧ r.kind ≠ 4
        · rw [if_pos h0]
          refine ⟨inv_none.1, ?_, ?_⟩
          · rw [inv_none.2, hN, many_none ha he h0.1 h0.2]
          · rw [Re.size_eq]; simp only [noneT, Re.args, Re.sizes]; have := a.size_pos; omega
        · rw [if_neg h0]
          have hg : goneB r.kind (r.args.take i) a = true := by
            cases hg : goneB r.kind (r.args.take i) a with
            | true => rfl
            | false => rw [keep_iff.2 ⟨he, h0, hg⟩] at hnot; cases hnot
          obtain ⟨h2, h3⟩ := left_list hL (r.args.take i ++ r.args.drop (i + 1)) (fun x hx => by
            rcases List.mem_append.1 hx with hx | hx
            · exact hargs x (List.mem_of_mem_take hx)
            · exact hargs x (List.mem_of_mem_drop hx))
          refine ⟨h2, ?_, ?_⟩
          · rw [h3, hN, many_gone ha he h0 hg]
          · have := left_size r.kind (r.args.take i ++ r.args.drop (i + 1))
            rw [Re.sizes_append] at this
            have := a.size_pos
            omega
    · have hxm := hargs x (List.mem_of_getElem? hx)
      obtain ⟨h2, h3⟩ := inv_nf hxm.2 hxm.1
      obtain ⟨ho, hnn⟩ := out_keep hkeep
      refine stepOk_some ⟨h2, ?_, Re.size_arg hx⟩
      rw [h3, hN, listT_one hnn (x := x)]
      rw [ho]; exact getD_one h1 hx
    · obtain ⟨ho, hnn⟩ := out_keep hkeep
      refine stepOk_none ?_
      have h2 : 1 < r.args.length := by
        have : r.args.length ≠ 0 := fun h => hne (List.eq_nil_of_length_eq_zero h)
        omega
      rw [hN, listT_many hnn (by rw [ho]; exact h2), ho]
      exact hb.symm
  · rw [if_neg hL] at hr
    unfold isL at hL
    by_cases h5 : r.kind = 5 ∨ r.kind = 6 ∨ r.kind = 8 ∨ r.kind = 9 ∨ r.kind = 10
    · obtain ⟨y, hy⟩ := List.length_eq_one_iff.1 (hone h5)
      have hym := hargs y (by rw [hy]; simp)
      obtain ⟨hyi, hyn⟩ := inv_nf hym.2 hym.1
      have hsz : y.size < r.size := Re.size_arg (i := 0) (by rw [hy]; rfl)
      have hse := r.size_eq
      rw [hy] at hse
      simp only [Re.sizes] at hse
      have hyp := y.size_pos
      rw [hy] at hr
      simp only at hr
      have hnd : normN r.kind r.set [y] r.mn r.mx r.neg = nodeN r := by unfold nodeN; rw [hy]
      have hself : r = .mk r.kind r.set [y] r.mn r.mx r.neg := by rw [← hy]; cases r; rfl
      have e1 : emptyT.size = 1 := by rw [Re.size_eq]; rfl
      have e2 : noneT.size = 1 := by rw [Re.size_eq]; rfl
      by_cases h56 : r.kind = 5 ∨ r.kind = 6
      · rw [if_pos h56] at hr
        have hN := normN_56 (k := r.kind) (set := r.set) (y := y) (r := []) (mn := r.mn) (mx := r.mx) (ng := r.neg) h56; rw [hnd] at hN
        subst hr
        unfold rep56
        by_cases c1 : (r.kind = 6 ∧ r.mx = 0) ∨ y.kind = 1
        · rw [if_pos c1]
          refine stepOk_some ⟨inv_empty.1, ?_, by omega⟩
          rw [inv_empty.2, hN, if_pos (by omega)]
        · rw [if_neg c1]
          by_cases c2 : y.kind = 0
          · rw [if_pos c2]
            by_cases c3 : r.kind = 5 ∨ r.mn = 0
            · rw [if_pos c3]
              refine stepOk_some ⟨inv_empty.1, ?_, by omega⟩
              rw [inv_empty.2, hN, if_neg (by omega), if_pos ⟨c2, c3⟩]
            · rw [if_neg c3]
              refine stepOk_some ⟨inv_none.1, ?_, by omega⟩
              rw [inv_none.2, hN, if_neg (by omega), if_neg (by omega), if_pos c2]
          · rw [if_neg c2]
            by_cases c4 : y.kind = 5 ∨ (r.kind = 6 ∧ r.mn = 1 ∧ r.mx = 1)
            · rw [if_pos c4]
              refine stepOk_some ⟨hyi, ?_, hsz⟩
              rw [hyn, hN, if_neg (by omega), if_neg (by omega), if_neg c2, if_pos c4]
            · rw [if_neg c4]
              refine stepOk_none ?_
              rw [hN, if_neg (by omega), if_neg (by omega), if_neg c2, if_neg c4]
              exact hself.symm
      · rw [if_neg h56] at hr
        by_cases h8 : r.kind = 8
        · rw [if_pos h8] at hr
          have hN := normN_8 (k := r.kind) (set := r.set) (y := y) (r := []) (mn := r.mn) (mx := r.mx) (ng := r.neg) h8; rw [hnd] at hN
          subst hr
          by_cases c1 : y.kind = 8
          · rw [if_pos c1]
            have hl := okRe_one hym.2 (by omega)
            obtain ⟨z, hz⟩ := List.length_eq_one_iff.1 hl
            have hzm : Nf z ∧ okRe z := ⟨nf_args hym.1 z (by rw [hz]; simp), (okRes_iff _).1 (okRe_args hym.2) z (by rw [hz]; simp)⟩
            obtain ⟨hzi, hzn⟩ := inv_nf hzm.2 hzm.1
            have hzs : z.size < y.size := Re.size_arg (i := 0) (by rw [hz]; rfl)
            rw [hz]
            refine stepOk_some ⟨hzi, ?_, by simp only [List.headD_cons]; omega⟩
            rw [hN, if_pos c1, hz]
            exact hzn
          · rw [if_neg c1]
            refine stepOk_none ?_
            rw [hN, if_neg c1]
            exact hself.symm
        · rw [if_neg h8] at hr
          by_cases h10 : r.kind = 10
          · rw [if_pos h10] at hr
            have hN := normN_10 (k := r.kind) (set := r.set) (y := y) (r := []) (mn := r.mn) (mx := r.mx) (ng := r.neg) h10; rw [hnd] at hN
            obtain ⟨hy0, _, _⟩ := okRe_form hym.2
            subst hr
            by_cases c1 : y.kind ≤ 1
            · rw [if_pos c1]
              by_cases c2 : (decide (y.kind = 1) != r.neg) = true
              · rw [if_pos c2]
                refine stepOk_some ⟨inv_empty.1, ?_, by omega⟩
                rw [inv_empty.2, hN, if_neg (by intro h; rcases h with ⟨h, h'⟩ | ⟨h, h'⟩ <;> simp [h, h'] at c2), if_pos (by omega)]
              · rw [if_neg c2]
                refine stepOk_some ⟨inv_none.1, ?_, by omega⟩
                rw [inv_none.2, hN, if_pos]
                by_cases c3 : y.kind = 1
                · left; refine ⟨c3, ?_⟩; simpa [c3] using c2
                · right; refine ⟨by omega, ?_⟩; simpa [c3] using c2
            · rw [if_neg c1]
              refine stepOk_none ?_
              rw [hN, if_neg (by omega), if_neg (by omega)]
              exact hself.symm
          · rw [if_neg h10] at hr
            subst hr
            refine stepOk_none ?_
            unfold nodeN
            rw [normN_else _ (by omega)]
            cases r; rfl
    · have hl := hleaf ⟨by unfold isL; exact hL, h5⟩
      rw [hl] at hr
      simp only at hr
      subst hr
      refine stepOk_none ?_
      unfold nodeN
      rw [normN_else _ (by omega)]
      cases r; rfl
end Go.Proofs
