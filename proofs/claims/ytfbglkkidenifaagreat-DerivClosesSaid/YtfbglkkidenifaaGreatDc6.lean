/- Contracts and plain lemmas, part 6. -/
import Derived.Tactics
import Derived.Deep.Quiet
import Derived.Laws.AppendOwn
import Derived.KernelRfl
import Derived.Laws.Entries
import Derived.Laws.Build
import Derived.Below
import Derived.RowKit3
import Derived.StillTail
import Derived.Sort.Grow
import Derived.Deep.Draws
import Derived.Test.YtfbglkkidenifaaGreatChecked
import Derived.Laws.StructEq
import Derived.Shelf.SlSortCmp.WholeK
import Derived.Shelf.Sort.Plain
import Derived.Shelf.Slices.CompactI
import Derived.Test.YtfbglkkidenifaaGreatProg
import Derived.MapKept
import Derived.Laws.BytesArg
import Derived.Test.YtfbglkkidenifaaGreatDc5
namespace Go.Eng
open Go
/-- The facts of the operations that are done before the variable is made, as facts afterwards. -/
inductive Cvs (n : Nat) : List Fact → List Fact → Prop where
  | nil : Cvs n [] []
  | cons {F F' : Fact} {l l' : List Fact} (h : ∀ v w, w.heap.size = n → F.In v w → F'.In v w) (t : Cvs n l l') : Cvs n (F :: l) (F' :: l')
theorem Cvs.get {n : Nat} : ∀ {l l' : List Fact}, Cvs n l l' → ∀ {j : Nat} {F' : Fact}, l'[j]? = some F' → ∃ F, l[j]? = some F ∧ ∀ v w, w.heap.size = n → F.In v w → F'.In v w
  | _, _, .nil, _, _, h => by simp at h
  | _, _, .cons h _, 0, _, h1 => by simp at h1; subst h1; exact ⟨_, rfl, h⟩
  | _, _, .cons _ t, j + 1, _, h1 => by
    obtain ⟨F, h2, h3⟩ := t.get (j := j) (by simpa using h1)
    exact ⟨F, by simpa using h2, h3⟩
theorem Cvs.same {n : Nat} {F : Fact} {l l' : List Fact} (t : Cvs n l l') : Cvs n (F :: l) (F :: l') := .cons (fun _ _ _ h => h) t
def AlOp (P : Program) (t : TypeId) (c : Array Value) (d : Nat) (o : Oper) : Prop :=
 (∃ z rt pos af, Zer P t z ∧ z.cells = c ∧ o = ⟨some d, .alloc t, rt, pos, af, none⟩) ∧ o.dst = some d ∧ o.guard = none
theorem AlOp.mk' {P : Program} {t : TypeId} {c : Array Value} {d : Nat} {z : Value} {rt : TypeId} {pos : String} {af : Array Edge} (hz : Zer P t z) (hc : z.cells = c) : AlOp P t c d ⟨some d, .alloc t, rt, pos, af, none⟩ := ⟨⟨_, _, _, _, hz, hc, rfl⟩, rfl, rfl⟩
/-- Each operation is of the head or of the tail; the first of the tail waits for the whole head but for one, each other of the tail for another of the tail. -/
def tailLB (l : List Oper) (hd : List Bool) (ts : List Nat) (lt f : Nat) : Bool :=
 (List.range l.length).all fun i => hd.getD i false || (ts.contains i && bif Nat.beq i f then (List.range l.length).all (fun u => !hd.getD u false || (Nat.beq u lt || edgeB l i u)) else ts.any fun p => !hd.getD p true && edgeB l i p)
def lateB (ops : Array Oper) (hd : List Bool) (ts : List Nat) (lt f al : Nat) (ks : List Nat) : Bool := !hd.getD lt false || (permB ops ks (((hd.set lt false).set f true).toArray) && (Nat.beq ks.length ts.length && !Nat.beq al lt))
theorem leftH_self : ∀ hd : List Bool, leftH hd hd = 0
  | [] => rfl
  | true :: hd => by have := leftH_self hd; simpa [leftH] using this
  | false :: hd => by have := leftH_self hd; simpa [leftH] using this
theorem Wp_dagA {P : Program} {N : Nat} {Q : Post} {σ : Env} {w : World} {id : Nat} {l : List Oper} (hd : List Bool) (ts : List Nat) (lt f : Nat) (ks : List Nat) (ds : List Nat) (wss : List (List Nat)) (Fs : (Nat → Prop) → List Fact) {Gs : (Nat → Prop) → List Fact} (hG : Fs = Gs) (R0 : Nat → Prop) (hR0 : ∀ y, w.heap.size ≤ y → R0 y) (al dA : Nat) {tA : TypeId} {oA : Oper} {cA : Array Value} {lo : Nat} (hlo : lo ≤ w.heap.size) (hdA : ds[al]? = some dA) (hoA : l[al]? = some oA) (hoA2 : AlOp P tA cA dA oA) (hFA : ∀ R, ∃ h, (Fs R)[al]? = some (.gen (alF tA cA lo) h))
    (hcv : ∀ n, Cvs n (Fs R0) (Fs fun y => R0 y ∧ y ≠ n)) (hm : P.follows .mixedOrders = true) (hB : dagPB N hd 0 l ds wss hd = true) (hn : nodupB ds = true)
    (hAt : hd[al]? = some true) (hT : (tailLB l hd ts lt f && permB l.toArray ts hd.toArray) = true) (hL : lateB l.toArray hd ts lt f al ks = true) (hN : Nat.beq (leftH hd (List.replicate l.length false) + ts.length) l.length = true)
    (steps : ∀ w1, Ext w w1 → ∀ RR : Nat → Prop, (∀ y, y < w.heap.size → R0 y → RR y) → (∀ y, w1.heap.size ≤ y → RR y) → DagStepsP P N ds (Fs RR) σ w1 l wss hd (Gs RR))
    (k : ∀ σ' w' (RR : Nat → Prop) β, Ext w w' → (∀ t, ds.contains t = false → σ' t = σ t) → (∀ y, RR y → R0 y ∧ y ≠ β) → σ' dA = .pointer (some ⟨β, 0, none⟩) → (∀ j, hd[j]? = some true → Holds ds (Fs RR) j σ' w') → WpL P N l.toArray (Q .normal) Q (ts.filterMap fun k => l[k]?) σ' w')
    (k2 : hd.getD lt false = true → ∀ σ' w' (RR : Nat → Prop) β, Ext w w' → (∀ t, ds.contains t = false → σ' t = σ t) → (∀ y, RR y → R0 y ∧ y ≠ β) → σ' dA = .pointer (some ⟨β, 0, none⟩) → (∀ j, hd[j]? = some true → j ≠ lt → Holds ds (Fs RR) j σ' w') → WpL P N l.toArray (Q .normal) Q ((f :: ks).filterMap fun k => l[k]?) σ' w') : Wp P N (.region id l.toArray true) Q σ w := by
  intro a ha he
  have eQ : lift N (thn (Q .normal) Q) = lift N Q := by funext e a w; cases e <;> rfl
  refine wp_region_any hm ?_
  obtain ⟨w1, hw1⟩ : ∃ w1 : World, w1 = { w with drawn := w.drawn + 1 } := ⟨_, rfl⟩
  have hE1 : Ext w w1 := by rw [hw1]; exact drew_ext w
  rw [← hw1]
  have hst0 := steps w1 hE1 R0 (fun y _ h => h) (fun y hy => hR0 y (by have := hE1.size; omega))
  rw [← hG] at hst0
  rw [Bool.and_eq_true] at hT
  obtain ⟨hT1, hT2⟩ := hT
  obtain ⟨hlen, hlen2⟩ := dagPB_len hB
  obtain ⟨hopA, hAft, hGA⟩ := hoA2
  have key : ∀ (m : Nat) (RR : Nat → Prop) (wB : World) (listed : Array Bool) (a : Act) (w' : World), DagStepsP P N ds (Fs RR) σ wB l wss hd (Fs RR) → Ext w wB → (listed.getD al false = false → RR = R0) → (listed.getD al false = true → ∃ β, (∀ y, RR y → R0 y ∧ y ≠ β) ∧ env a dA = .pointer (some ⟨β, 0, none⟩)) → leftH hd listed.toList = m → listed.size = l.length → (∀ (t : Nat), hd[t]? = some false → listed.toList[t]? = some false) → Ok N a → Ext wB w' → (∀ t, ds.contains t = false → env a t = σ t) → (∀ j, hd[j]? = some true → listed.getD j false = true → Holds ds (Fs RR) j (env a) w') →
      wpAny P .any l.toArray (lift N Q) (m + ts.length) listed a w' := by
    intro m
    induction m with
    | zero =>
      intro RR wB listed a w' hst hEB hA1 hA2 hc0 hsz htl ha hx hu hh
      have hl : listed = hd.toArray := by
        apply Array.ext'
        exact leftH_zero (by simp; omega) hc0 htl
      have hlA : listed.getD al false = true := by
        rw [hl]
        exact getD_arr (by simpa using hAt)
      rw [Nat.zero_add]
      obtain ⟨β, hβ1, hβ2⟩ := hA2 hlA
      have h1 := k (env a) w' RR β (hEB.trans hx) hu hβ1 hβ2 (fun j hj => hh j hj (getD_arr (by rw [hl]; exact hj))) a ha rfl
      rw [eQ] at h1
      exact wpAny_of_perm ts listed a w' (by rw [hl]; exact hT2) (by simpa using h1)
    | succ m ih =>
      intro RR wB listed a w' hst hEB hA1 hA2 hcm hsz htl ha hx hu hh
      obtain ⟨i0, hi0, hi1⟩ := leftH_pos (hd := hd) (listed := listed.toList) (by omega)
      rw [show m + 1 + ts.length = (m + ts.length) + 1 by omega]
      refine ⟨fun hr => ?_, fun i hi => ?_⟩
      · exfalso
        have hall : ∀ i : Nat, hd[i]? = some true → listed.getD i true = true := by
          intro i
          induction i using Nat.strongRecOn with
          | _ i ihi =>
            intro hi
            cases hv : listed.getD i true with
            | true => rfl
            | false =>
              exfalso
              obtain ⟨o, ho⟩ := get_of_lt (l := l) (i := i) (by have := lt_of_get hi; omega)
              obtain ⟨d, ws, h, _, _, h2, h3⟩ := dagPB_get hB ho
              rw [hi] at h2
              cases h2
              simp only [cond_true, Bool.and_eq_true, Nat.zero_add] at h3
              have : i ∈ Region.ready .any l.toArray listed := by
                refine mem_ready.2 ⟨hv, o, by simpa using ho, fun e he hb => ?_⟩
                have h4 := h3.1
                simp only [dagOne, Bool.and_eq_true, Array.all_eq_true_iff_forall_mem, Bool.or_eq_true, Bool.not_eq_true'] at h4
                have h5 := h3.2.1
                simp only [Array.all_eq_true_iff_forall_mem, Bool.or_eq_true, Bool.not_eq_true'] at h5
                have h6 := (h4.1.2 e he).resolve_left (by simp [hb])
                have hlt : e.on < i := by simpa [Nat.blt_eq] using h6
                have h7 := (h5 e he).resolve_left (by simp [hb])
                have hj0 : e.on < hd.length := by have := lt_of_get hi; omega
                have h8 : hd[e.on]? = some true := by
                  rw [List.getD_eq_getElem?_getD, List.getElem?_eq_getElem hj0, Option.getD_some] at h7
                  rw [List.getElem?_eq_getElem hj0, h7]
                have h9 := ihi e.on hlt h8
                have hj : e.on < listed.size := by omega
                simpa only [Array.getD_eq_getD_getElem?, Array.getElem?_eq_getElem hj, Option.getD_some] using h9
              rw [hr] at this
              cases this
        have := hall i0 hi0
        rw [getD_arr hi1] at this
        cases this
      · obtain ⟨h1, o, h2, h3⟩ := mem_ready.1 hi
        have ho : l[i]? = some o := by simpa using h2
        have hil : i < l.length := lt_of_get ho
        by_cases hih : hd[i]? = some true
        rotate_left
        · -- one of the tail: all of the head but one are listed
          have hb : hd[i]? = some false := by
            obtain ⟨b, hb⟩ := get_of_lt (l := hd) (i := i) (by omega)
            cases b with
            | true => exact absurd hb hih
            | false => exact hb
          have h4 := List.all_eq_true.1 hT1 i (List.mem_range.2 hil)
          rw [List.getD_eq_getElem?_getD, hb, Option.getD_some, Bool.false_or, Bool.and_eq_true] at h4
          have edge : ∀ u, edgeB l i u = true → listed.getD u false = true := fun u hu' => by
            unfold edgeB at hu'
            rw [ho] at hu'
            simp only [Array.any_eq_true', Bool.and_eq_true] at hu'
            obtain ⟨e, he, hb1, hb2⟩ := hu'
            have := Nat.eq_of_beq_eq_true hb2
            rw [← this]
            exact h3 e he hb1
          cases hif : Nat.beq i f with
          | false =>
            exfalso
            rw [hif, cond_false] at h4
            obtain ⟨p, _, h6⟩ := List.any_eq_true.1 h4.2
            rw [Bool.and_eq_true, Bool.not_eq_true'] at h6
            have h7 := edge p h6.2
            have hp : hd[p]? = some false := by
              have h8 := h6.1
              rw [List.getD_eq_getElem?_getD] at h8
              cases h9 : hd[p]? with
              | none => rw [h9] at h8; cases h8
              | some b => rw [h9, Option.getD_some] at h8; rw [h8]
            rw [getD_arr (htl p hp)] at h7
            cases h7
          | true =>
            rw [hif, cond_true] at h4
            have hfi : i = f := Nat.eq_of_beq_eq_true hif
            have hdone : ∀ u, hd[u]? = some true → u ≠ lt → listed.getD u false = true := fun u hu1 hu2 => by
              have h6 := List.all_eq_true.1 h4.2 u (List.mem_range.2 (by have := lt_of_get hu1; omega))
              rw [List.getD_eq_getElem?_getD, hu1, Option.getD_some, Bool.not_true, Bool.false_or, Bool.or_eq_true] at h6
              rcases h6 with h6 | h6
              · exact absurd (Nat.eq_of_beq_eq_true h6) hu2
              · exact edge u h6
            have hi0l : i0 = lt := Classical.byContradiction fun hne => by
              have := hdone i0 hi0 hne
              rw [getD_arr hi1] at this; cases this
            subst hi0l
            have hlE : listed.toList = hd.set i0 false := by
              apply List.ext_getElem?
              intro t
              rw [List.getElem?_set]
              by_cases ht : i0 = t
              · subst ht
                rw [if_pos rfl, if_pos (lt_of_get hi0)]
                exact hi1
              · rw [if_neg ht]
                cases h9 : hd[t]? with
                | none => exact List.getElem?_eq_none (by have := List.getElem?_eq_none_iff.1 h9; simp; omega)
                | some b =>
                  cases b with
                  | false => exact htl t h9
                  | true =>
                    have h10 := hdone t h9 (Ne.symm ht)
                    have h11 : t < listed.size := by have := lt_of_get h9; omega
                    simp only [Array.getD_eq_getD_getElem?, Array.getElem?_eq_getElem h11, Option.getD_some] at h10
                    rw [Array.getElem?_toList, Array.getElem?_eq_getElem h11, h10]
            have hm0 : m = 0 := by
              have h9 := leftH_set hi0 hi1
              have h10 : listed.toList.set i0 true = hd := by
                rw [hlE, List.set_set]
                apply List.ext_getElem?
                intro t
                rw [List.getElem?_set]
                by_cases ht : i0 = t
                · subst ht; rw [if_pos rfl, if_pos (lt_of_get hi0), hi0]
                · rw [if_neg ht]
              rw [h10, leftH_self] at h9
              omega
            subst hm0
            have hgd : hd.getD i0 false = true := by rw [List.getD_eq_getElem?_getD, hi0, Option.getD_some]
            unfold lateB at hL
            rw [hgd, Bool.not_true, Bool.false_or, Bool.and_eq_true, Bool.and_eq_true, Bool.not_eq_true'] at hL
            obtain ⟨hp1, hp2, hp3⟩ := hL
            have hp2 := Nat.eq_of_beq_eq_true hp2
            have hne : al ≠ i0 := fun e => by rw [e, Nat.beq_refl] at hp3; cases hp3
            obtain ⟨β, hβ1, hβ2⟩ := hA2 (hdone al hAt hne)
            have h9 := k2 hgd (env a) w' RR β (hEB.trans hx) hu hβ1 hβ2 (fun j hj hjn => hh j hj (hdone j hj hjn)) a ha rfl
            rw [eQ] at h9
            have h9' : wpList P l.toArray (lift N Q) ((f :: ks).filterMap fun k => l.toArray[k]?) a w' := by simpa using h9
            have hw : wpOp P l.toArray (lift N Q) i (wpList P l.toArray (lift N Q) (ks.filterMap fun k => l.toArray[k]?)) a w' := by
              rw [List.filterMap_cons, ← hfi, h2] at h9'
              unfold wpOp; simp only [h2]; exact h9'
            rw [Nat.zero_add, ← hp2]
            refine wpOp_mono (fun a2 w2 h10 => wpAny_of_perm ks _ a2 w2 ?_ h10) hw
            have hle : listed.setIfInBounds i true = (((hd.set i0 false).set f true).toArray) := by
              apply Array.ext'
              rw [Array.toList_setIfInBounds, hlE, hfi]
            rw [hle]; exact hp1
        obtain ⟨d, ws, h, hd', hws, hhs, h4⟩ := dagPB_get hB ho
        rw [hih] at hhs
        cases hhs
        obtain ⟨ws', F, hws', hF, hstep⟩ := hst.get ho hih
        rw [hws] at hws'
        cases hws'
        simp only [cond_true, Bool.and_eq_true, Nat.zero_add] at h4
        have hgB := h4.2.2
        have h4 := h4.1
        simp only [dagOne, Bool.and_eq_true, List.all_eq_true, Array.any_eq_true', Array.all_eq_true_iff_forall_mem, Bool.or_eq_true, Bool.not_eq_true'] at h4
        obtain ⟨⟨⟨hdst, hdN⟩, _⟩, hwait⟩ := h4
        have hdst : o.dst = some d := by
          split at hdst
          · rename_i d' h; rw [h, Nat.eq_of_beq_eq_true hdst]
          · cases hdst
        have hdN : d < N := by simpa [Nat.blt_eq] using hdN
        have hH : ∀ j, ws.contains j = true → Holds ds (Fs RR) j (env a) w' := by
          intro j hj
          have hj' : j ∈ ws := by simpa using hj
          obtain ⟨e, he, hb⟩ := hwait j hj'
          obtain ⟨hb1, hb2⟩ := hb
          have hej : e.on = j := Nat.eq_of_beq_eq_true hb2
          have hl1 := h3 e he hb1
          rw [hej] at hl1
          refine hh j ?_ hl1
          obtain ⟨b, hb⟩ := get_of_lt (l := hd) (i := j) (by
            rcases Nat.lt_or_ge j listed.size with h9 | h9
            · omega
            · simp [Array.getD_eq_getD_getElem?, Array.getElem?_eq_none h9] at hl1)
          cases b with
          | true => exact hb
          | false => rw [getD_arr (htl j hb)] at hl1; cases hl1
        have gd : ∀ j b, o.guard = some (j, b) → ∀ dj, ds[j]? = some dj → (∃ oj, l[j]? = some oj ∧ oj.dst = some dj) ∧ dj < N := fun j b hgd dj hdj => by
          obtain ⟨oj, hoj⟩ := get_of_lt (l := l) (i := j) (by have := lt_of_get hdj; omega)
          obtain ⟨dj', _, hj, hdj', _, h5, h6⟩ := dagPB_get hB hoj
          rw [hdj] at hdj'
          cases hdj'
          unfold guardB at hgB
          rw [hgd] at hgB
          simp only at hgB
          have h7 : hj = true := by rw [List.getD_eq_getElem?_getD, h5, Option.getD_some] at hgB; exact hgB
          rw [h7] at h6
          simp only [cond_true, Bool.and_eq_true, dagOne] at h6
          obtain ⟨⟨⟨hdst2, hdN2⟩, _⟩, _⟩ := h6.1
          refine ⟨⟨oj, hoj, ?_⟩, by simpa [Nat.blt_eq] using hdN2⟩
          split at hdst2
          · rename_i d' h; rw [h, Nat.eq_of_beq_eq_true hdst2]
          · cases hdst2
        have cont0 : ∀ (R2 : Nat → Prop) (wC : World) v w2, DagStepsP P N ds (Fs R2) σ wC l wss hd (Fs R2) → Ext w wC → Ext wC w2 → ((listed.setIfInBounds i true).getD al false = false → R2 = R0) → ((listed.setIfInBounds i true).getD al false = true → ∃ β, (∀ y, R2 y → R0 y ∧ y ≠ β) ∧ upd (env a) d v dA = .pointer (some ⟨β, 0, none⟩)) → (∀ F, (Fs R2)[i]? = some F → F.In v w2) → (∀ j, j ≠ i → hd[j]? = some true → listed.getD j false = true → Holds ds (Fs R2) j (env a) w2) → wpAny P .any l.toArray (lift N Q) (m + ts.length) (listed.setIfInBounds i true) (a.put o.dst v) w2 := by
          intro R2 wC v w2 hst2 hEC hxC hB1 hB2 hv hh2
          have henv : env (a.put o.dst v) = upd (env a) d v := by rw [hdst]; exact env_put ha hdN v
          have hlf : listed.toList[i]? = some false := by
            have hj : i < listed.size := by omega
            simp only [Array.getD_eq_getD_getElem?, Array.getElem?_eq_getElem hj, Option.getD_some] at h1
            rw [Array.getElem?_toList, Array.getElem?_eq_getElem hj, h1]
          refine ih R2 wC _ _ _ hst2 hEC hB1 (fun h => by obtain ⟨β, h5, h6⟩ := hB2 h; exact ⟨β, h5, by rw [henv]; exact h6⟩) ?_ (by simpa using hsz) (fun t ht => ?_) (ha.put _ _) hxC ?_ ?_
          · rw [Array.toList_setIfInBounds]
            have := leftH_set hih hlf
            omega
          · rw [Array.toList_setIfInBounds, List.getElem?_set]
            have hne : i ≠ t := fun e => by rw [← e, hih] at ht; cases ht
            rw [if_neg hne]
            exact htl t ht
          · intro t ht
            rw [henv, ← hu t ht]
            simp only [upd]
            cases hb : Nat.beq t d
            · rfl
            · exfalso
              have : t = d := Nat.eq_of_beq_eq_true hb
              subst this
              have := List.mem_of_getElem? hd'
              simp [this] at ht
          · intro j hjh hj d' F' hd'' hF'
            rw [henv]
            by_cases hij : j = i
            · subst hij
              rw [hd'] at hd''; cases hd''
              simp only [upd, Nat.beq_refl, cond_true]
              exact hv _ hF'
            · have hne : Nat.beq d' d = false := by
                cases hb : Nat.beq d' d
                · rfl
                · exfalso
                  have : d' = d := Nat.eq_of_beq_eq_true hb
                  subst this
                  exact hij (nodupB_get hn hd'' hd')
              simp only [upd, hne, cond_false]
              rw [getD_set_ne _ (Ne.symm hij)] at hj
              exact hh2 j hij hjh hj d' F' hd'' hF'
        by_cases hia : i = al
        · -- the new variable itself
          subst hia
          rw [hoA] at ho; cases ho
          rw [hdA] at hd'; cases hd'
          have hA0 := hA1 (getD_both h1)
          subst hA0
          obtain ⟨z, rt, pos, af, hz, hzc, hop⟩ := hopA
          have hw : Region.wanted oA (yielded l.toArray a.tmps) = true := by simp [Region.wanted, hGA]
          have hdo : Does P N oA (fun v w2 => v = .pointer (some ⟨w'.heap.size, 0, none⟩) ∧ Blk w2 w'.heap.size cA tA ∧ w'.heap.size < w2.heap.size) (env a) w' := by
            subst hop
            subst hzc
            have hn := New.mk' w' z.cells tA
            exact Does_val (v := .pointer (some ⟨w'.heap.size, 0, none⟩)) (by simp [execOp, Instr.alloc, hz.run, newVar, newRow]) hn.ext ⟨rfl, hn.blk, hn.blk.lt⟩
          unfold wpOp
          simp only [h2, hw, if_true]
          refine Or.inl (hdo a ha rfl _ _ ?_)
          rintro v w2 hx2 ⟨rfl, hblk, hlt⟩
          have hEB2 := hEB.trans hx
          have hs1 := hEB2.size
          have hst2 := steps w2 (hEB2.trans hx2) (fun y => RR y ∧ y ≠ w'.heap.size) (fun y hy h => ⟨h, by omega⟩) (fun y hy => ⟨hR0 y (by omega), by omega⟩)
          rw [← hG] at hst2
          refine cont0 _ w2 _ w2 hst2 (hEB2.trans hx2) (Ext.refl _) (fun h => ?_) (fun _ => ⟨w'.heap.size, fun y h => h, by simp [upd]⟩) (fun F2 hF2 => ?_) (fun j hij hjh hj => ?_)
          · rw [getD_arr (b := true) (by rw [Array.toList_setIfInBounds, List.getElem?_set, if_pos rfl, if_pos (by simpa using (by omega : i < listed.size))])] at h; cases h
          · obtain ⟨h5, h6⟩ := hFA fun y => RR y ∧ y ≠ w'.heap.size
            rw [h6] at hF2; cases hF2
            exact ⟨_, rfl, hblk, by omega⟩
          · intro dj Fj hdj hFj
            obtain ⟨F0, hF0, hc⟩ := (hcv w'.heap.size).get hFj
            exact Fact.ext (hc _ _ rfl (hh j hjh hj dj F0 hdj hF0)) hx2
        have cont : ∀ v w2, Ext w' w2 → F.In v w2 → wpAny P .any l.toArray (lift N Q) (m + ts.length) (listed.setIfInBounds i true) (a.put o.dst v) w2 := by
          intro v w2 hx2 hv
          refine cont0 RR wB v w2 hst hEB (hx.trans hx2) (fun h => hA1 (by rw [getD_set_ne _ (by omega : i ≠ al)] at h; exact h)) (fun h => ?_) (fun F2 hF2 => by rw [hF] at hF2; cases hF2; exact hv) (fun j _ hjh hj d3 F3 hd3 hF3 => Fact.ext (hh j hjh hj d3 F3 hd3 hF3) hx2)
          rw [getD_set_ne _ (by omega : i ≠ al)] at h
          obtain ⟨β, h5, h6⟩ := hA2 h
          refine ⟨β, h5, ?_⟩
          have hne : Nat.beq dA d = false := by
            cases hb : Nat.beq dA d
            · rfl
            · exfalso
              have : dA = d := Nat.eq_of_beq_eq_true hb
              subst this
              exact hia (nodupB_get hn hd' hdA)
          simp only [upd, hne, cond_false]
          exact h6
        rcases hstep (env a) w' hx hu hH with ⟨hg, hdo⟩ | ⟨⟨j, b, dj, hgd, hdj, hvj⟩, hund⟩
        · have hw : Region.wanted o (yielded l.toArray a.tmps) = true := by
            cases hgd : o.guard with
            | none => simp [Region.wanted, hgd]
            | some p =>
              obtain ⟨j, b⟩ := p
              obtain ⟨dj, hdj, hvj⟩ := hg j b hgd
              obtain ⟨hdst2, hdN2⟩ := gd j b hgd dj hdj
              have h6 : a.tmps[dj]? = some (Value.bool b) := by
                have h2 : a.tmps.getD dj undef = .bool b := hvj
                have hlt : dj < a.tmps.size := by rw [ha.size]; exact hdN2
                rw [Array.getElem?_eq_getElem hlt]
                simpa [hlt] using h2
              obtain ⟨oj, hoj, hdst2⟩ := hdst2
              simp [Region.wanted, hgd, yielded, hoj, hdst2, h6]
          unfold wpOp
          simp only [h2, hw, if_true]
          exact Or.inl (hdo a ha rfl _ _ cont)
        · have hw : Region.wanted o (yielded l.toArray a.tmps) = false := by
            obtain ⟨hdst2, hdN2⟩ := gd j b hgd dj hdj
            have hlt : dj < a.tmps.size := by rw [ha.size]; exact hdN2
            have h6 : a.tmps[dj]? = some (env a dj) := by
              rw [Array.getElem?_eq_getElem hlt]
              simp [env, hlt]
            obtain ⟨oj, hoj, hdst2⟩ := hdst2
            rcases hvj with hvj | hvj
            · rw [hvj] at h6
              cases b <;> simp [Region.wanted, hgd, yielded, hoj, hdst2, h6]
            · rw [hvj] at h6
              simp [Region.wanted, hgd, yielded, hoj, hdst2, h6, undef]
          unfold wpOp
          simp only [h2, hw, Bool.false_eq_true, if_false]
          exact cont undef w' (Ext.refl _) hund
  have h1 := key (leftH hd (Array.replicate l.toArray.size false).toList) R0 w1 (Array.replicate l.toArray.size false) a w1 hst0 hE1 (fun _ => rfl) (fun h => by rw [getD_replicate_false] at h; cases h) rfl (by simp) (fun t ht => by have h9 := lt_of_get ht; rw [Array.toList_replicate, List.getElem?_replicate, if_pos (by rw [List.size_toArray]; omega)]) ha (Ext.refl _) (fun t _ => by rw [he]) (fun j _ hj => by rw [getD_replicate_false] at hj; cases hj)
  have e3 : leftH hd (Array.replicate l.toArray.size false).toList + ts.length = l.toArray.size := by have h9 := Nat.eq_of_beq_eq_true hN; simpa using h9
  rw [e3] at h1
  exact h1
end Go.Eng
namespace Go.Proofs
open Go Go.Eng Go.Sort
set_option maxRecDepth 100000
theorem reG_ne {S : Nat → Prop} {x : Re} {v : Value} {w : World} {n : Nat} (e : w.heap.size = n) (h : reG S x v w) : reG (fun y => S y ∧ y ≠ n) x v w := by
 obtain ⟨sa, sc, aa, ac, h1, h2⟩ := h
 exact ⟨sa, sc, aa, ac, h1, ReIn.mono (fun y hy => ⟨hy.1, by omega⟩) x (ReIn.lt x h2)⟩
theorem rsG_ne {S : Nat → Prop} {l : List Re} {v : Value} {w : World} {n : Nat} (e : w.heap.size = n) (h : rsG S l v w) : rsG (fun y => S y ∧ y ≠ n) l v w := by
 obtain ⟨b, h1, h2⟩ := h
 exact ⟨b, h1, rs_mono (fun y hy => ⟨hy.1, by omega⟩) (RsIn.lt h2)⟩
theorem rs_tail {S : Nat → Prop} {w : World} {ab ao ac : Nat} {x : Re} {l : List Re} (h : RsIn S w (.slice (some ⟨ab, ao, none⟩) (x :: l).length ac) (x :: l)) : RsIn S w (.slice (some ⟨ab, ao + 6, none⟩) l.length (ac - 1)) l := by
 obtain ⟨aa, ac', h1, h2, h3⟩ := h
 simp only [Value.slice.injEq, true_and] at h1
 obtain ⟨rfl, rfl⟩ := h1
 obtain ⟨b, o, h4, h5, h6⟩ := h3.resolve_left (by simp)
 simp only [Option.some.injEq, Addr.mk.injEq, and_true] at h5
 obtain ⟨rfl, rfl⟩ := h5
 simp only [List.length_cons] at h2
 simp only [ResIn] at h6
 exact ⟨_, _, rfl, by omega, .inr ⟨_, _, h4, rfl, h6.2⟩⟩
theorem cat_rest {l : List Re} (h : ∀ y ∈ l, y.kind ≠ 0 ∧ y.kind ≠ 1 ∧ y.kind ≠ 3) : catD l = wrapT 3 emptyT l := by
  have h1 : flatT 3 l = l := by
    induction l with
    | nil => rfl
    | cons y l ih =>
      have hy := h y (by simp)
      have hl := ih fun z hz => h z (by simp [hz])
      unfold flatT at hl ⊢
      rw [List.flatMap_cons, hl]
      simp [hy]
  have h2 : delT isEmptyB l = l := List.filter_eq_self.2 fun y hy => by
    have := h y hy
    simp [isEmptyB, this]
  have h3 : l.any isNoneB = false := by
    rw [List.any_eq_false]
    intro y hy
    have := h y hy
    simp [isNoneB, this]
  unfold catD
  simp only [h1, h2, h3]
  simp
theorem stepC_rest (c : Int) {l : List Re} (h : l ≠ []) : stepR c (wrapT 3 emptyT l) = stepC c l := by
  match l, h with
  | [y], _ => simp [wrapT, stepC]
  | y :: z :: l, _ => show stepR c (.mk 3 [] (y :: z :: l) 0 0 false) = _; simp [stepR]
theorem pre4 (l : List Re) : PreN 4 [] l 0 0 false := ⟨by omega, rfl, fun _ => rfl, fun _ => ⟨rfl, rfl⟩, by omega, by omega, by omega, by omega⟩
theorem st3' {c : Int} {t x : Re} {l : List Re} (h : t.kind = 3) (ha : t.args = x :: l) (hl : l ≠ []) : stepR c t = if emptR x = true then nodeS (.mk 4 [] [catD [stepR c x, wrapT 3 emptyT l], stepR c (wrapT 3 emptyT l)] 0 0 false) else catD [stepR c x, wrapT 3 emptyT l] := by
 rw [st3 h, ha, stepC_rest c hl]
 conv => lhs; unfold stepC
 rw [if_neg hl]
 rfl
set_option maxHeartbeats 2000000 in
theorem step_k3 (c : Int) (n : Nat) (ih : StepOkD c n) (t : Re) (hn : t.size ≤ n) (h300 : t.size ≤ 300) (hok : SimOk t) (hk : t.kind = 3) (w0 : World) (S : Nat → Prop) (vs : List Value) (ht : ReIn S w0 t vs) (hS : ∀ x, S x → x < w0.heap.size) :
    Ret Tryz.prog 60 #[.agg vs.toArray, .int .i64 c] w0 fun r w => (∃ us, r = .agg us.toArray ∧ ReIn (fun b => S b ∨ w0.heap.size ≤ b) w (stepR c t) us) ∧ Ext w0 w := by
  have ht0 := ht
  obtain ⟨sa, sc, aa, ac, rfl, hset, hlen, hargs⟩ := ht.form
  have hRs : RsIn S w0 (.slice aa t.args.length ac) t.args := rs_in ht0
  have hal := len_lt_size t
  have hszt := t.size_eq
  obtain ⟨hk2, hk3⟩ := hok.n.k3 hk
  obtain ⟨x, l, hax, hl0⟩ : ∃ x l, t.args = x :: l ∧ l ≠ [] := by
    match h : t.args with
    | [] => rw [h] at hk2; simp at hk2
    | [y] => rw [h] at hk2; simp at hk2
    | y :: z :: l => exact ⟨y, z :: l, rfl, by simp⟩
  have hkl : ∀ y ∈ l, y.kind ≠ 0 ∧ y.kind ≠ 1 ∧ y.kind ≠ 3 := fun y hy => hk3 y (by rw [hax]; simp [hy])
  have hox : SimOk x := hok.a x (by rw [hax]; simp)
  have hol : ∀ y ∈ l, SimOk y := fun y hy => hok.a y (by rw [hax]; simp [hy])
  have hx : t.args[0]? = some x := by rw [hax]; rfl
  have hal1 : t.args.length = l.length + 1 := by rw [hax]; rfl
  have hl1 : 0 < l.length := List.length_pos_iff.2 hl0
  have hxz := Re.size_arg hx
  obtain ⟨ab, ao, hab, rfl, hres⟩ := hargs.resolve_left (fun h => by rw [h] at hx; cases hx)
  obtain ⟨us, hus, hxt⟩ := hres.get hx
  have hxt0 := hxt
  obtain ⟨xsa, xsc, xaa, xac, rfl, _, _, _⟩ := hxt.form
  have hRl : RsIn S w0 (.slice (some ⟨ab, ao + 6, none⟩) l.length (ac - 1)) l := by
    refine rs_tail (x := x) ?_
    rw [← hax]; exact hRs
  obtain ⟨R, hR⟩ : ∃ R, R = wrapT 3 emptyT l := ⟨_, rfl⟩
  have hRc : catD l = R := by rw [hR]; exact cat_rest hkl
  have hRo : SimOk R := by rw [hR]; exact wrap_ok hol hkl
  have hszl : t.size = x.size + Re.sizes l + 1 := by rw [hszt, hax]; simp only [Re.sizes]
  have hRz : R.size ≤ Re.sizes l + 1 := by rw [hR]; exact wrap_size l
  have hxp := x.size_pos
  obtain ⟨D, hD⟩ : ∃ D, D = stepR c x := ⟨_, rfl⟩
  obtain ⟨F, hF⟩ : ∃ F, F = catD [D, R] := ⟨_, rfl⟩
  obtain ⟨G, hG⟩ : ∃ G, G = stepR c R := ⟨_, rfl⟩
  obtain ⟨N, hN⟩ : ∃ N, N = nodeS (.mk 4 [] [F, G] 0 0 false) := ⟨_, rfl⟩
  have hDo : SimOk D := by rw [hD]; exact step_ok c hox
  have hGo : SimOk G := by rw [hG]; exact step_ok c hRo
  have hst : stepR c t = if emptR x = true then N else F := by rw [hN, hG, hF, hD, hR]; exact st3' hk hax hl0
  have hDz : D.size ≤ 200000 := by rw [hD]; exact step_small hox (by omega)
  have hGz : G.size ≤ 200000 := by rw [hG]; exact step_small hRo (by omega)
  have hFo : SimOk F := by
    rw [hF]
    refine catD_ok fun z hz => ?_
    simp only [List.mem_cons, List.not_mem_nil, or_false] at hz
    rcases hz with rfl | rfl
    · exact hDo
    · exact hRo
  have hFz : F.size ≤ 200400 := by
    have := catD_size [D, R]
    rw [← hF] at this
    simp only [Re.sizes] at this
    omega
  rw [hst]
  clear hst hszt hk2 hk3
  refine Ret_of Tryz.func60 rfl Tryz.ntmps60 (Nat.le_of_ble_eq_true rfl) ?_
  have E : Chg none1 w0 w0 := Chg.refl _ _
  refine Wp_seq_region ?_
  refine s_box (v := (.agg (R6 t sa sc (some ⟨ab, ao, none⟩) ac))) (c := (R6 t sa sc (some ⟨ab, ao, none⟩) ac)) (by decide) rfl rfl ?_
  intro br wr Nr
  have Fr := Nr.ge E
  replace E := E.ext Nr.ext
  have Br := Nr.blk
  refine s_alloc (c := #[(I6 0), (.slice none 0 0), (.slice none 0 0), (I6 0), (I6 0), (.bool false)]) (by decide) zer25 rfl ?_
  intro bo wo No
  have Fo := No.ge E
  have Oo_br := No.lt Br
  replace Br := No.keep Br
  replace E := E.ext No.ext
  have Bo := No.blk
  refine WpL_nil (Wp_seq (Wp_seq_region ?_))
  refine qF br 0 0 rfl Tryz.underlying25 rfl siz3 rfl ?_
  refine qV (r_load (v := (I6 t.kind)) rfl flat3 (Br.cell rfl)) ?_
  refine WpL_nil (Wp_block (Wp_seq_region ?_))
  refine qV (r_eql (k := .i64) (a := t.kind) (b := 2) rfl rfl) ?_
  refine qA (.bool (decide ((t.kind : Int) = 2))) rfl ?_
  refine WpL_nil ?_
  obtain ⟨n1, hn1⟩ : ∃ n1, n1 = wo.heap.size := ⟨_, rfl⟩
  have hob : br < n1 ∧ bo < n1 ∧ w0.heap.size ≤ bo ∧ w0.heap.size ≤ n1 := ⟨by rw [hn1]; exact Br.lt, by rw [hn1]; exact Bo.lt, by omega, by rw [hn1]; exact E.size⟩
  have hn1w : n1 ≤ wo.heap.size := by omega
  have E1 : Chg none1 wo wo := Chg.refl _ _
  have hc1 : (decide ((t.kind : Int) = 2)) = false := decide_eq_false (by omega)
  refine Wp_cond_false (congrArg Value.bool hc1) ?_
  refine Wp_seq_region ?_
  refine qV (r_eql (k := .i64) (a := t.kind) (b := 3) rfl rfl) ?_
  refine qA (.bool (decide ((t.kind : Int) = 3))) rfl ?_
  refine WpL_nil ?_
  have hc2 : (decide ((t.kind : Int) = 3)) = true := decide_eq_true hk
  refine Wp_cond_true (congrArg Value.bool hc2) ?_
  refine Wp_seq_region ?_
  refine qF br 0 2 rfl Tryz.underlying25 rfl siz23 rfl ?_
  refine qV (r_load (v := (.slice (some ⟨ab, ao, none⟩) t.args.length ac)) rfl flat23 (Br.cell rfl)) ?_
  obtain ⟨a24, ha24⟩ : ∃ a' : Option Addr, (if ac = 1 then (some ⟨ab, ao, none⟩) else Option.map (fun q : Addr => q.add (1 * 6)) (some ⟨ab, ao, none⟩)) = a' := ⟨_, rfl⟩
  refine qV (r_sliceLo (a := (some ⟨ab, ao, none⟩)) (len := t.args.length) (cap := ac) (lo := 1) (l := 1) (n' := l.length) (c' := ac - 1) Tryz.underlying23 siz25 rfl rfl (by omega) (by omega) ha24 (by omega) (by omega)) ?_
  have ha24' : a24 = some ⟨ab, ao + 6, none⟩ := by rw [← ha24, if_neg (by omega)]; rfl
  rw [← ha24'] at hRl
  refine WpL_enter rfl rfl (by decide) (r_callF (vs := [(.slice a24 l.length (ac - 1))]) Tryz.func119 nm119 bd119 rfl) ((clonere_c _ S _ l (hRl.ext E) hl0 (by omega)).mono (R' := fun r w => (∃ a c, r = .slice a l.length c ∧ RsIn (fun b => S b ∨ n1 ≤ b) w r l) ∧ Ext wo w) (fun r w h => ⟨by obtain ⟨⟨a, c, h1, h2⟩, _⟩ := h; exact ⟨a, c, h1, rs_mono (fun b hb => by rcases hb with h1 | h1; exact .inl h1; exact .inr (by omega)) h2⟩, h.2⟩)) ?_
  rintro _ w25 ⟨⟨ca, cc, rfl, hcl⟩, X25⟩
  replace Br := X25.keep Br
  replace Bo := X25.keep Bo
  replace E := E.ext X25
  replace E1 := E1.ext X25
  obtain ⟨h25, hh25⟩ : ∃ h, h = w25.heap.size := ⟨_, rfl⟩
  refine WpL_enter rfl rfl (by decide) (r_callF (vs := [(.slice ca l.length cc)]) Tryz.func118 nm118 bd118 rfl) ((dcat_c _ _ _ l (RsIn.lt hcl) (fun y hy => hy.2) (fun y hy hk => by have := hkl y hy; omega) (by omega)).mono (R' := fun r w => reG (fun b => S b ∨ n1 ≤ b) R r w ∧ Ext w25 w) (fun r w h => ⟨reG_of (S' := fun b => ((S b ∨ n1 ≤ b) ∧ b < w25.heap.size) ∨ w25.heap.size ≤ b) (fun b hb => by rcases hb with h1 | h1; exact h1.1; exact .inr (by have := X25.size; omega)) (by rw [← hRc]; exact h.1), h.2⟩)) ?_
  rintro _ w26 ⟨⟨xa, xc, ya, yc, rfl, hR0⟩, X26⟩
  replace Br := X26.keep Br
  replace Bo := X26.keep Bo
  replace E := E.ext X26
  replace E1 := E1.ext X26
  have hR1 := ReIn.lt R hR0
  obtain ⟨h26, hh26⟩ : ∃ h, h = w26.heap.size := ⟨_, rfl⟩
  rw [← hh26] at hR1
  have E2 : Chg none1 w26 w26 := Chg.refl _ _
  refine s_allocStore (v := (.agg (R6 R xa xc ya yc))) (c := (R6 R xa xc ya yc)) (n := 6) (by decide) zer25 rfl siz25 rfl rfl rfl (by simp [Value.oneCell']) ?_
  intro bq wq Nq
  have Fq := Nq.ge E
  have Fq_E1 := Nq.ge E1
  have Fq_E2 := Nq.ge E2
  have Oq_br := Nq.lt Br
  have Oq_bo := Nq.lt Bo
  replace Br := Nq.keep Br
  replace Bo := Nq.keep Bo
  replace hR1 := ReIn.ext Nq.ext _ hR1
  replace E := E.ext Nq.ext
  have Bq := Nq.blk
  replace E1 := E1.ext Nq.ext
  replace E2 := E2.ext Nq.ext
  refine WpL_nil ?_
  have hz_3 : w0.heap.size ≤ wq.heap.size := E.size
  have lz_3_br : br < wq.heap.size := Br.lt
  have lz_3_bo : bo < wq.heap.size := Bo.lt
  have lz_3_bq : bq < wq.heap.size := Bq.lt
  refine Wp_seq ?_
  obtain ⟨Fs3, hFs3⟩ : ∃ Fs : (Nat → Prop) → List Fact, Fs = fun RR => [.eq (P6 br 2), .eq (.slice (some ⟨ab, ao, none⟩) t.args.length ac), .eq (.pointer (some ⟨ab, ao + 0 * 6, none⟩)), .eq (.agg (R6 x xsa xsc xaa xac)), .eq (I6 c), .gen (reG RR D) (reG_ext _ _), .eq (.agg (R6 R xa xc ya yc)), .gen (rsG RR [D, R]) (rsG_ext _ _), .gen (reG RR F) (reG_ext _ _), .gen (alF 25 #[(I6 0), (.slice none 0 0), (.slice none 0 0), (I6 0), (I6 0), (.bool false)] wq.heap.size) (alF_ext _ _ _), .eq undef] := ⟨_, rfl⟩
  refine Wp_dagA [true, true, true, true, true, true, true, true, true, true, false] [10] 11 10 [] [27, 28, 29, 30, 31, 32, 33, 34, 35, 6, 120] [[], [0], [1], [2], [], [3, 4], [], [5, 6], [5, 7], [], []] Fs3 hFs3 (fun b => S b ∨ n1 ≤ b) (fun y hy => .inr (by have := E1.size; omega)) 9 6 (lo := wq.heap.size) (Nat.le_refl _) rfl rfl (AlOp.mk' zer25 rfl) (fun RR => ⟨_, by rw [hFs3]; rfl⟩) (fun n => by rw [hFs3]; repeat (first | exact Cvs.nil | refine Cvs.same ?_ | refine Cvs.cons (fun v w e h => by first | exact reG_ne e h | exact rsG_ne e h | exact tupG_ne e h) ?_)) mixed (by kernel_rfl) (by kernel_rfl) rfl (by kernel_rfl) (by kernel_rfl) (by kernel_rfl) ?_ ?_ (fun h9 => absurd h9 (by decide))
  · intro wd X0 RR hRR1 hRR2
    refine DagStepsP.cons (fun s' w' X U H => Or.inl ⟨?_, ?_⟩) ?_
    · exact Guarded_none rfl
    · exact Does_val (r_fieldAddr (b := br) (o := 0) (o' := 2) (U 2 rfl) Tryz.underlying25 rfl siz23 rfl) (Ext.refl _) rfl
    refine DagStepsP.cons (fun s' w' X U H => Or.inl ⟨?_, ?_⟩) ?_
    · exact Guarded_none rfl
    · have e27 : s' 27 = (.pointer (some ⟨br, 2, none⟩)) := H 0 rfl 27 (.eq (.pointer (some ⟨br, 2, none⟩))) rfl (by rw [hFs3]; rfl)
      exact Does_val (r_load (v := (.slice (some ⟨ab, ao, none⟩) t.args.length ac)) e27 flat23 (((X0.trans X).keep Br).cell rfl)) (Ext.refl _) rfl
    refine DagStepsP.cons (fun s' w' X U H => Or.inl ⟨?_, ?_⟩) ?_
    · exact Guarded_none rfl
    · have e28 : s' 28 = (.slice (some ⟨ab, ao, none⟩) t.args.length ac) := H 1 rfl 28 (.eq (.slice (some ⟨ab, ao, none⟩) t.args.length ac)) rfl (by rw [hFs3]; rfl)
      exact Does_val (r_indexSlice (b := ab) (o := ao) (len := t.args.length) (cap := ac) (i := 0) (o' := ao + 0 * 6) e28 rfl rfl Tryz.underlying23 siz25 (by omega) (by omega)) (Ext.refl _) rfl
    refine DagStepsP.cons (fun s' w' X U H => Or.inl ⟨?_, ?_⟩) ?_
    · exact Guarded_none rfl
    · have e29 : s' 29 = (.pointer (some ⟨ab, ao + 0 * 6, none⟩)) := H 2 rfl 29 (.eq (.pointer (some ⟨ab, ao + 0 * 6, none⟩))) rfl (by rw [hFs3]; rfl)
      exact Does_val (r_loadAgg (vs := [(I6 x.kind), (.slice xsa x.set.length xsc), (.slice xaa x.args.length xac), (I6 x.mn), (I6 x.mx), (.bool x.neg)]) e29 agg25 siz25 rfl (hus.ext (Ext.trans E (X0.trans X)))) (Ext.refl _) rfl
    refine DagStepsP.cons (fun s' w' X U H => Or.inl ⟨?_, ?_⟩) ?_
    · exact Guarded_none rfl
    · exact Does_val (r_move (v := (I6 c)) (U 1 rfl)) (Ext.refl _) rfl
    refine DagStepsP.cons (fun s' w' X U H => Or.inl ⟨?_, ?_⟩) ?_
    · exact Guarded_none rfl
    · have e30 : s' 30 = (.agg #[(.int .i64 x.kind), (.slice xsa x.set.length xsc), (.slice xaa x.args.length xac), (.int .i64 x.mn), (.int .i64 x.mx), (.bool x.neg)]) := H 3 rfl 30 (.eq (.agg #[(.int .i64 x.kind), (.slice xsa x.set.length xsc), (.slice xaa x.args.length xac), (.int .i64 x.mn), (.int .i64 x.mx), (.bool x.neg)])) rfl (by rw [hFs3]; rfl)
      have e31 : s' 31 = (.int .i64 c) := H 4 rfl 31 (.eq (.int .i64 c)) rfl (by rw [hFs3]; rfl)
      exact Does_enter (r_callF (vs := [(.agg (R6 x xsa xsc xaa xac)), (I6 c)]) Tryz.func60 nm60 bd60 (lst2 e30 e31)) ((ih x _ S _ (by omega) hox (ReIn.ext (Ext.trans E (X0.trans X)) x hxt0) (fun y hy => by have := hS y hy; have := E.size; have := X0.size; have := X.size; omega)).mono (fun r w h => ⟨reG_of (S' := fun b => S b ∨ w'.heap.size ≤ b) (fun b hb => by rcases hb with h1 | h1; exact hRR1 b (by have := hS b h1; have := E.size; omega) (.inl h1); exact hRR2 b (by have := X.size; omega)) (by rw [hD]; exact h.1), h.2⟩))
    refine DagStepsP.cons (fun s' w' X U H => Or.inl ⟨?_, ?_⟩) ?_
    · exact Guarded_none rfl
    · exact Does_val (r_loadAgg (vs := [(I6 R.kind), (.slice xa R.set.length xc), (.slice ya R.args.length yc), (I6 R.mn), (I6 R.mx), (.bool R.neg)]) (U 5 rfl) agg25 siz25 rfl (((X0.trans X).keep Bq).cells rfl)) (Ext.refl _) rfl
    refine DagStepsP.cons (fun s' w' X U H => Or.inl ⟨?_, ?_⟩) ?_
    · exact Guarded_none rfl
    · obtain ⟨xa32, xc32, ya32, yc32, e32, r32⟩ := H 5 rfl 32 (.gen (reG RR D) (reG_ext _ _)) rfl (by rw [hFs3]; rfl)
      have e33 : s' 33 = (.agg #[(.int .i64 R.kind), (.slice xa R.set.length xc), (.slice ya R.args.length yc), (.int .i64 R.mn), (.int .i64 R.mx), (.bool R.neg)]) := H 6 rfl 33 (.eq (.agg #[(.int .i64 R.kind), (.slice xa R.set.length xc), (.slice ya R.args.length yc), (.int .i64 R.mn), (.int .i64 R.mx), (.bool R.neg)])) rfl (by rw [hFs3]; rfl)
      exact Does_two e32 e33 r32 (ReIn.mono (S := fun b => (S b ∨ n1 ≤ b) ∧ b < h26) (fun y hy => hRR1 y (by have := hy.2; have := E2.size; omega) hy.1) R (ReIn.ext (X0.trans X) R hR1)) (fun b hb => hRR2 b (by have := X.size; omega))
    refine DagStepsP.cons (fun s' w' X U H => Or.inl ⟨?_, ?_⟩) ?_
    · exact Guarded_none rfl
    · obtain ⟨b34, e34, q34⟩ := H 7 rfl 34 (.gen (rsG RR [D, R]) (rsG_ext _ _)) rfl (by rw [hFs3]; rfl)
      exact Does_enter (r_callF (vs := [(.slice (some ⟨b34, 0, none⟩) 2 2)]) Tryz.func118 nm118 bd118 (lst1 e34)) ((dcat_c _ (fun b => RR b ∧ b < w'.heap.size) _ [D, R] (RsIn.lt q34) (fun y hy => hy.2) (fun y hm hk => by rcases List.mem_cons.1 hm with rfl | hm; exact (sim_three hDo).1 (.inl hk); simp at hm; subst hm; exact (sim_three hRo).1 (.inl hk)) (by simp only [Re.sizes]; omega)).mono (fun r w h => ⟨reG_of (S' := fun b => (RR b ∧ b < w'.heap.size) ∨ w'.heap.size ≤ b) (fun b hb => by rcases hb with h1 | h1; exact h1.1; exact hRR2 b (by have := X.size; omega)) (by rw [hF]; exact h.1), h.2⟩))
    refine DagStepsP.cons (fun s' w' X U H => Or.inl ⟨?_, ?_⟩) ?_
    · exact Guarded_none rfl
    · exact Does_alloc (c := #[(I6 0), (.slice none 0 0), (.slice none 0 0), (I6 0), (I6 0), (.bool false)]) zer25 rfl (by have := X0.size; have := X.size; omega)
    refine DagStepsP.tail ?_
    exact DagStepsP.nil
  · intro s' w3 RR β X3 U hRA hβ H
    obtain ⟨xa35, xc35, ya35, yc35, e35, r35⟩ := H 8 rfl 35 (.gen (reG RR F) (reG_ext _ _)) rfl (by rw [hFs3]; rfl)
    obtain ⟨b6, e6, B6, g6⟩ := H 9 rfl 6 (.gen (alF 25 #[(.int .i64 0), (.slice none 0 0), (.slice none 0 0), (.int .i64 0), (.int .i64 0), (.bool false)] wq.heap.size) (alF_ext _ _ _)) rfl (by rw [hFs3]; rfl)
    have hβ2 : β = b6 := by have h9 := e6.symm.trans hβ; simpa using h9.symm
    rw [hβ2] at hRA
    clear hβ hβ2 β
    obtain ⟨j3, rfl⟩ := Fits.out (σ := s') (l := [(1, (.int .i64 c)), (2, (.pointer (some ⟨br, 0, none⟩))), (4, (.pointer (some ⟨bo, 0, none⟩))), (5, (.pointer (some ⟨bq, 0, none⟩))), (35, (.agg #[(.int .i64 F.kind), (.slice xa35 F.set.length xc35), (.slice ya35 F.args.length yc35), (.int .i64 F.mn), (.int .i64 F.mx), (.bool F.neg)])), (6, (.pointer (some ⟨b6, 0, none⟩)))]) ⟨U 1 rfl, U 2 rfl, U 4 rfl, U 5 rfl, e35, e6, trivial⟩
    clear U H
    replace Br := X3.keep Br
    replace Bo := X3.keep Bo
    replace Bq := X3.keep Bq
    replace hR1 := ReIn.ext X3 _ hR1
    replace E := E.ext X3
    replace E1 := E1.ext X3
    replace E2 := E2.ext X3
    refine s_storeAgg (b := b6) (o := 0) (c' := (R6 F xa35 xc35 ya35 yc35)) rfl rfl (by simp [Value.oneCell']) siz25 rfl B6 (by first | (simp; done) | exact Nat.le_of_ble_eq_true rfl) rfl ?_
    intro w4 S4
    replace hR1 := ReIn.chg S4.chg (fun y hy h => by have h2 : y = b6 := h; have := hy.2; omega) _ hR1
    replace r35 := ReIn.chg S4.chg (fun y hy h => by have h2 : y = b6 := h; have := (hRA y hy).2; omega) _ r35
    replace Br := S4.keep (by omega) Br
    replace Bo := S4.keep (by omega) Bo
    replace Bq := S4.keep (by omega) Bq
    replace E := S4.step E (by first | exact Or.inl (by omega) | exact Or.inr rfl | exact Or.inr (by assumption) | exact Or.inr (by simp) | exact Or.inr (by omega) | exact Or.inr (by dsimp only; omega))
    replace E1 := S4.step E1 (Or.inl (by omega))
    replace E2 := S4.step E2 (Or.inl (by omega))
    replace B6 := S4.blk
    refine WpL_nil (thn_normal (Wp_seq (Wp_seq_region ?_)))
    refine qF br 0 2 rfl Tryz.underlying25 rfl siz23 rfl ?_
    refine qV (r_load (v := (.slice (some ⟨ab, ao, none⟩) t.args.length ac)) rfl flat23 (Br.cell rfl)) ?_
    refine qV (r_indexSlice (b := ab) (o := ao) (len := t.args.length) (cap := ac) (i := 0) (o' := ao + 0 * 6) rfl rfl rfl Tryz.underlying23 siz25 (by omega) (by omega)) ?_
    refine qV (r_loadAgg (vs := [(I6 x.kind), (.slice xsa x.set.length xsc), (.slice xaa x.args.length xac), (I6 x.mn), (I6 x.mx), (.bool x.neg)]) rfl agg25 siz25 rfl (hus.ext E)) ?_
    refine WpL_enter rfl rfl (by decide) (r_callF (vs := [(.agg (R6 x xsa xsc xaa xac))]) Tryz.func63 nm63 bd63 rfl) (empt_c 300 x _ _ (by omega) (by omega) (ReIn.at x (ReIn.ext E x hxt0))) ?_
    rintro _ w40 ⟨rfl, X40⟩
    replace Br := X40.keep Br
    replace Bo := X40.keep Bo
    replace Bq := X40.keep Bq
    replace B6 := X40.keep B6
    replace hR1 := ReIn.ext X40 _ hR1
    replace r35 := ReIn.ext X40 _ r35
    replace E := E.ext X40
    replace E1 := E1.ext X40
    replace E2 := E2.ext X40
    refine qV (r_not (b := emptR x) rfl) ?_
    refine WpL_nil ?_
    refine Wp_cond (b := !(emptR x)) rfl (fun he => ?_) (fun he => ?_)
    · have khe := he
      replace he := by simpa using he
      refine Wp_seq_region ?_
      refine qV (r_loadAgg (vs := [(I6 F.kind), (.slice xa35 F.set.length xc35), (.slice ya35 F.args.length yc35), (I6 F.mn), (I6 F.mx), (.bool F.neg)]) rfl agg25 siz25 rfl (B6.cells rfl)) ?_
      refine s_storeAgg (b := bo) (o := 0) (c' := (R6 F xa35 xc35 ya35 yc35)) rfl rfl (by simp [Value.oneCell']) siz25 rfl Bo (by first | (simp; done) | exact Nat.le_of_ble_eq_true rfl) rfl ?_
      intro w6 S6
      replace r35 := ReIn.chg S6.chg (fun y hy h => by have h2 : y = bo := h; rcases (hRA y hy).1 with h1 | h1; have := hS y h1; omega; omega) _ r35
      replace Br := S6.keep (by omega) Br
      replace Bq := S6.keep (by omega) Bq
      replace B6 := S6.keep (by omega) B6
      replace E := S6.step E (by first | exact Or.inl (by omega) | exact Or.inr rfl | exact Or.inr (by assumption) | exact Or.inr (by simp) | exact Or.inr (by omega) | exact Or.inr (by dsimp only; omega))
      replace Bo := S6.blk
      refine WpL_nil (Wp_ret (thn_ret (inB_ret (thn_ret ?_))))
      refine fin_agg Tryz.results60 (vs := [(.int .i64 F.kind), (.slice xa35 F.set.length xc35), (.slice ya35 F.args.length yc35), (.int .i64 F.mn), (.int .i64 F.mx), (.bool F.neg)]) (b := bo) rfl agg25 siz25 rfl (Bo.cells rfl) ?_
      exact ⟨⟨_, rfl, by rw [if_neg (by simpa using he)]; exact ReIn.mono (fun y hy => by rcases (hRA y hy).1 with h1 | h1; exact .inl h1; exact .inr (by omega)) _ r35⟩, E⟩
    · have khe := he
      replace he := by simpa using he
      refine Wp_skip (thn_normal ?_)
      have hz_7 : w0.heap.size ≤ w40.heap.size := E.size
      have lz_7_br : br < w40.heap.size := Br.lt
      have lz_7_bo : bo < w40.heap.size := Bo.lt
      have lz_7_bq : bq < w40.heap.size := Bq.lt
      have lz_7_b6 : b6 < w40.heap.size := B6.lt
      refine Wp_seq ?_
      obtain ⟨Fs7, hFs7⟩ : ∃ Fs : List Fact, Fs = [.eq (.agg (R6 F xa35 xc35 ya35 yc35)), .eq (.agg (R6 R xa xc ya yc)), .eq (I6 c), .gen (reG (fun b => S b ∨ n1 ≤ b) G) (reG_ext _ _), .gen (rsG (fun b => S b ∨ n1 ≤ b) [F, G]) (rsG_ext _ _), .gen (reG (fun b => S b ∨ n1 ≤ b) (.mk 4 [] [F, G] 0 0 false)) (reG_ext _ _), .gen (reG (fun b => S b ∨ n1 ≤ b) N) (reG_ext _ _), .eq undef] := ⟨_, rfl⟩
      refine Wp_dagP [true, true, true, true, true, true, true, false] [7] [43, 44, 45, 46, 47, 48, 49, 117] [[], [], [], [1, 2], [0, 3], [4], [3, 5], []] Fs7 hFs7 mixed (by kernel_rfl) (by kernel_rfl) (by kernel_rfl) (by kernel_rfl) ?_ ?_
      · intro wd X0
        refine DagStepsP.cons (fun s' w' X U H => Or.inl ⟨?_, ?_⟩) ?_
        · exact Guarded_none rfl
        · exact Does_val (r_loadAgg (vs := [(I6 F.kind), (.slice xa35 F.set.length xc35), (.slice ya35 F.args.length yc35), (I6 F.mn), (I6 F.mx), (.bool F.neg)]) (U 6 rfl) agg25 siz25 rfl (((X0.trans X).keep B6).cells rfl)) (Ext.refl _) rfl
        refine DagStepsP.cons (fun s' w' X U H => Or.inl ⟨?_, ?_⟩) ?_
        · exact Guarded_none rfl
        · exact Does_val (r_loadAgg (vs := [(I6 R.kind), (.slice xa R.set.length xc), (.slice ya R.args.length yc), (I6 R.mn), (I6 R.mx), (.bool R.neg)]) (U 5 rfl) agg25 siz25 rfl (((X0.trans X).keep Bq).cells rfl)) (Ext.refl _) rfl
        refine DagStepsP.cons (fun s' w' X U H => Or.inl ⟨?_, ?_⟩) ?_
        · exact Guarded_none rfl
        · exact Does_val (r_move (v := (I6 c)) (U 1 rfl)) (Ext.refl _) rfl
        refine DagStepsP.cons (fun s' w' X U H => Or.inl ⟨?_, ?_⟩) ?_
        · exact Guarded_none rfl
        · have e44 : s' 44 = (.agg #[(.int .i64 R.kind), (.slice xa R.set.length xc), (.slice ya R.args.length yc), (.int .i64 R.mn), (.int .i64 R.mx), (.bool R.neg)]) := H 1 rfl 44 (.eq (.agg #[(.int .i64 R.kind), (.slice xa R.set.length xc), (.slice ya R.args.length yc), (.int .i64 R.mn), (.int .i64 R.mx), (.bool R.neg)])) rfl (by rw [hFs7]; rfl)
          have e45 : s' 45 = (.int .i64 c) := H 2 rfl 45 (.eq (.int .i64 c)) rfl (by rw [hFs7]; rfl)
          exact Does_enter (r_callF (vs := [(.agg (R6 R xa xc ya yc)), (I6 c)]) Tryz.func60 nm60 bd60 (lst2 e44 e45)) ((ih R _ (fun b => (S b ∨ n1 ≤ b) ∧ b < h26) _ (by omega) hRo (ReIn.ext (X0.trans X) R hR1) (fun y hy => by have := hy.2; have := X0.size; have := X.size; omega)).mono (fun r w h => ⟨reG_of (S' := fun b => ((S b ∨ n1 ≤ b) ∧ b < h26) ∨ w'.heap.size ≤ b) (fun b hb => by rcases hb with h1 | h1; exact h1.1; exact .inr (by have := X0.size; have := X.size; omega)) (by rw [hG]; exact h.1), h.2⟩))
        refine DagStepsP.cons (fun s' w' X U H => Or.inl ⟨?_, ?_⟩) ?_
        · exact Guarded_none rfl
        · have e43 : s' 43 = (.agg #[(.int .i64 F.kind), (.slice xa35 F.set.length xc35), (.slice ya35 F.args.length yc35), (.int .i64 F.mn), (.int .i64 F.mx), (.bool F.neg)]) := H 0 rfl 43 (.eq (.agg #[(.int .i64 F.kind), (.slice xa35 F.set.length xc35), (.slice ya35 F.args.length yc35), (.int .i64 F.mn), (.int .i64 F.mx), (.bool F.neg)])) rfl (by rw [hFs7]; rfl)
          obtain ⟨xa46, xc46, ya46, yc46, e46, r46⟩ := H 3 rfl 46 (.gen (reG (fun b => S b ∨ n1 ≤ b) G) (reG_ext _ _)) rfl (by rw [hFs7]; rfl)
          exact Does_two e43 e46 (ReIn.mono (fun y hy => (hRA y hy).1) F (ReIn.ext (X0.trans X) F r35)) r46 (fun b hb => .inr (by have := X0.size; have := X.size; omega))
        refine DagStepsP.cons (fun s' w' X U H => Or.inl ⟨?_, ?_⟩) ?_
        · exact Guarded_none rfl
        · obtain ⟨b47, e47, q47⟩ := H 4 rfl 47 (.gen (rsG (fun b => S b ∨ n1 ≤ b) [F, G]) (rsG_ext _ _)) rfl (by rw [hFs7]; rfl)
          exact Does_node4 e47 q47 rfl
        refine DagStepsP.cons (fun s' w' X U H => Or.inl ⟨?_, ?_⟩) ?_
        · exact Guarded_none rfl
        · obtain ⟨xa48, xc48, ya48, yc48, e48, r48⟩ := H 5 rfl 48 (.gen (reG (fun b => S b ∨ n1 ≤ b) (.mk 4 [] [F, G] 0 0 false)) (reG_ext _ _)) rfl (by rw [hFs7]; rfl)
          exact Does_enter (r_callF (vs := [(.agg #[(I6 4), (.slice xa48 0 xc48), (.slice ya48 2 yc48), (I6 0), (I6 0), (.bool false)])]) Tryz.func115 nm115 bd115 (lst1 e48)) ((dnode_c _ (fun b => (S b ∨ n1 ≤ b) ∧ b < w'.heap.size) (.mk 4 [] [F, G] 0 0 false) _ (ReIn.lt _ r48) (fun y hy => hy.2) (pre4 _) (fun y hy => by simp only [Re.args, List.mem_cons, List.not_mem_nil, or_false] at hy; rcases hy with rfl | rfl; exact hFo; exact hGo) (by simp only [Re.args, Re.sizes]; omega)).mono (fun r w h => ⟨reG_of (S' := fun b => ((S b ∨ n1 ≤ b) ∧ b < w'.heap.size) ∨ w'.heap.size ≤ b) (fun b hb => by rcases hb with h1 | h1; exact h1.1; exact .inr (by have := X0.size; have := X.size; omega)) (by rw [hN]; exact h.1), h.2⟩))
        refine DagStepsP.tail ?_
        exact DagStepsP.nil
      · intro s' w7 X7 U H
        obtain ⟨xa49, xc49, ya49, yc49, e49, r49⟩ := H 6 rfl 49 (.gen (reG (fun b => S b ∨ n1 ≤ b) N) (reG_ext _ _)) rfl (by rw [hFs7]; rfl)
        obtain ⟨j7, rfl⟩ := Fits.out (σ := s') (l := [(4, (.pointer (some ⟨bo, 0, none⟩))), (49, (.agg #[(.int .i64 N.kind), (.slice xa49 N.set.length xc49), (.slice ya49 N.args.length yc49), (.int .i64 N.mn), (.int .i64 N.mx), (.bool N.neg)]))]) ⟨U 4 rfl, e49, trivial⟩
        clear U H
        replace Br := X7.keep Br
        replace Bo := X7.keep Bo
        replace Bq := X7.keep Bq
        replace B6 := X7.keep B6
        replace E := E.ext X7
        refine s_storeAgg (b := bo) (o := 0) (c' := (R6 N xa49 xc49 ya49 yc49)) rfl rfl (by simp [Value.oneCell']) siz25 rfl Bo (by first | (simp; done) | exact Nat.le_of_ble_eq_true rfl) rfl ?_
        intro w8 S8
        replace r49 := ReIn.chg S8.chg (fun y hy h => by have h2 : y = bo := h; rcases hy with h1 | h1; have := hS y h1; omega; omega) _ r49
        replace Br := S8.keep (by omega) Br
        replace Bq := S8.keep (by omega) Bq
        replace B6 := S8.keep (by omega) B6
        replace E := S8.step E (by first | exact Or.inl (by omega) | exact Or.inr rfl | exact Or.inr (by assumption) | exact Or.inr (by simp) | exact Or.inr (by omega) | exact Or.inr (by dsimp only; omega))
        replace Bo := S8.blk
        refine WpL_nil (thn_normal (Wp_ret (inB_ret (thn_ret ?_))))
        refine fin_agg Tryz.results60 (vs := [(.int .i64 N.kind), (.slice xa49 N.set.length xc49), (.slice ya49 N.args.length yc49), (.int .i64 N.mn), (.int .i64 N.mx), (.bool N.neg)]) (b := bo) rfl agg25 siz25 rfl (Bo.cells rfl) ?_
        exact ⟨⟨_, rfl, by rw [if_pos (by simpa using he)]; exact ReIn.mono (fun y hy => by rcases hy with h1 | h1; exact .inl h1; exact .inr (by omega)) _ r49⟩, E⟩
end Go.Proofs
namespace Go.Proofs
open Go Go.Eng Go.Sort
set_option maxRecDepth 100000
theorem pre6 {m x : Int} (y : Re) (h : 0 ≤ m ∧ m ≤ x ∧ x ≤ 8) : PreN 6 [] [y] m x false := ⟨by omega, rfl, fun _ => rfl, by omega, by omega, by omega, fun _ => rfl, fun _ => h⟩
set_option maxHeartbeats 2000000 in
theorem step_k6 (c : Int) (n : Nat) (ih : StepOkD c n) (t : Re) (hn : t.size ≤ n) (h300 : t.size ≤ 300) (hok : SimOk t) (hk : t.kind = 6) (w0 : World) (S : Nat → Prop) (vs : List Value) (ht : ReIn S w0 t vs) (hS : ∀ x, S x → x < w0.heap.size) :
  Ret Tryz.prog 60 #[.agg vs.toArray, .int .i64 c] w0 fun r w => (∃ us, r = .agg us.toArray ∧ ReIn (fun b => S b ∨ w0.heap.size ≤ b) w (stepR c t) us) ∧ Ext w0 w := by
 have ht0 := ht
 obtain ⟨sa, sc, aa, ac, rfl, hset, hlen, hargs⟩ := ht.form
 have hRs : RsIn S w0 (.slice aa t.args.length ac) t.args := rs_in ht0
 have hal := len_lt_size t
 have hszt := t.size_eq
 obtain ⟨x, hax, hx01, hx02, hm1, hm2, hm3, hm4, hm5⟩ := hok.n.k6 hk
 have hox : SimOk x := hok.a x (by rw [hax]; simp)
 have hx : t.args[0]? = some x := by rw [hax]; rfl
 have hal1 : t.args.length = 1 := by rw [hax]; rfl
 have hxz := Re.size_arg hx
 obtain ⟨ab, ao, hab, rfl, hres⟩ := hargs.resolve_left (fun h => by rw [h] at hx; cases hx)
 obtain ⟨us, hus, hxt⟩ := hres.get hx
 have hxt0 := hxt
 obtain ⟨xsa, xsc, xaa, xac, rfl, _, _, _⟩ := hxt.form
 obtain ⟨m1, hmm⟩ : ∃ m1, m1 = max 0 (t.mn - 1) := ⟨_, rfl⟩
 obtain ⟨x1, hx1⟩ : ∃ x1, x1 = t.mx - 1 := ⟨_, rfl⟩
 obtain ⟨R, hR⟩ : ∃ R, R = nodeS (.mk 6 [] [x] m1 x1 false) := ⟨_, rfl⟩
 have hp6 : PreN 6 [] [x] m1 x1 false := pre6 x (by omega)
 have hRo : SimOk R := by rw [hR]; exact node_ok hp6 (by intro z hz; simp at hz; subst hz; exact hox)
 have hRz : R.size ≤ 400 := by
  have h4 := node_size (k := 6) (s := []) (a := [x]) (m := m1) (x := x1) (g := false) (by omega) (by omega)
  rw [hR, nodeS_eq]
  simp only [Re.sizes] at h4
  simp only [Re.kind, Re.set, Re.args, Re.mn, Re.mx, Re.neg]
  omega
 obtain ⟨D, hD⟩ : ∃ D, D = stepR c x := ⟨_, rfl⟩
 obtain ⟨F, hF⟩ : ∃ F, F = catD [D, R] := ⟨_, rfl⟩
 have hDo : SimOk D := by rw [hD]; exact step_ok c hox
 have hDz : D.size ≤ 200000 := by rw [hD]; exact step_small hox (by omega)
 have hst : stepR c t = F := by rw [hF, hD, hR, hmm, hx1]; exact st6 hk hax
 rw [hst]
 clear hst hszt
 refine Ret_of Tryz.func60 rfl Tryz.ntmps60 (Nat.le_of_ble_eq_true rfl) ?_
 have E : Chg none1 w0 w0 := Chg.refl _ _
 refine Wp_seq_region ?_
 refine s_box (v := (.agg (R6 t sa sc (some ⟨ab, ao, none⟩) ac))) (c := (R6 t sa sc (some ⟨ab, ao, none⟩) ac)) (by decide) rfl rfl ?_
 intro br wr Nr
 have Fr := Nr.ge E
 replace E := E.ext Nr.ext
 have Br := Nr.blk
 refine s_alloc (c := #[(I6 0), (.slice none 0 0), (.slice none 0 0), (I6 0), (I6 0), (.bool false)]) (by decide) zer25 rfl ?_
 intro bo wo No
 have Fo := No.ge E
 have Oo_br := No.lt Br
 replace Br := No.keep Br
 replace E := E.ext No.ext
 have Bo := No.blk
 refine WpL_nil (Wp_seq (Wp_seq_region ?_))
 refine qF br 0 0 rfl Tryz.underlying25 rfl siz3 rfl ?_
 refine qV (r_load (v := (I6 t.kind)) rfl flat3 (Br.cell rfl)) ?_
 refine WpL_nil (Wp_block (Wp_seq_region ?_))
 refine qV (r_eql (k := .i64) (a := t.kind) (b := 2) rfl rfl) ?_
 refine qA (.bool (decide ((t.kind : Int) = 2))) rfl ?_
 refine WpL_nil ?_
 obtain ⟨n1, hn1⟩ : ∃ n1, n1 = wo.heap.size := ⟨_, rfl⟩
 have hob : br < n1 ∧ bo < n1 ∧ w0.heap.size ≤ bo ∧ w0.heap.size ≤ n1 := ⟨by rw [hn1]; exact Br.lt, by rw [hn1]; exact Bo.lt, by omega, by rw [hn1]; exact E.size⟩
 have hn1w : n1 ≤ wo.heap.size := by omega
 have hc1 : (decide ((t.kind : Int) = 2)) = false := decide_eq_false (by omega)
 refine Wp_cond_false (congrArg Value.bool hc1) ?_
 refine Wp_seq_region ?_
 refine qV (r_eql (k := .i64) (a := t.kind) (b := 3) rfl rfl) ?_
 refine qA (.bool (decide ((t.kind : Int) = 3))) rfl ?_
 refine WpL_nil ?_
 have hc2 : (decide ((t.kind : Int) = 3)) = false := decide_eq_false (by omega)
 refine Wp_cond_false (congrArg Value.bool hc2) ?_
 refine Wp_seq (Wp_seq_region ?_)
 refine qV (r_eql (k := .i64) (a := t.kind) (b := 4) rfl rfl) ?_
 refine qA (.bool (decide ((t.kind : Int) = 4))) rfl ?_
 refine WpL_nil ?_
 have hc3 : (decide ((t.kind : Int) = 4)) = false := decide_eq_false (by omega)
 refine Wp_cond_false (congrArg Value.bool hc3) ?_
 refine Wp_seq_region ?_
 refine qV (r_eql (k := .i64) (a := t.kind) (b := 7) rfl rfl) ?_
 refine qA (.bool (decide ((t.kind : Int) = 7))) rfl ?_
 refine WpL_nil ?_
 have hc4 : (decide ((t.kind : Int) = 7)) = false := decide_eq_false (by omega)
 refine Wp_cond_false (congrArg Value.bool hc4) ?_
 refine Wp_region ?_
 refine qV (r_eql (k := .i64) (a := t.kind) (b := 8) rfl rfl) ?_
 refine qA (.bool (decide ((t.kind : Int) = 8))) rfl ?_
 refine WpL_nil (thn_normal ?_)
 have hc5 : (decide ((t.kind : Int) = 8)) = false := decide_eq_false (by omega)
 refine Wp_cond_false (congrArg Value.bool hc5) ?_
 refine Wp_seq_region ?_
 refine qV (r_eql (k := .i64) (a := t.kind) (b := 5) rfl rfl) ?_
 refine qA (.bool (decide ((t.kind : Int) = 5))) rfl ?_
 refine WpL_nil ?_
 have hc6 : (decide ((t.kind : Int) = 5)) = false := decide_eq_false (by omega)
 refine Wp_cond_false (congrArg Value.bool hc6) ?_
 refine Wp_seq_region ?_
 refine qV (r_eql (k := .i64) (a := t.kind) (b := 6) rfl rfl) ?_
 refine qA (.bool (decide ((t.kind : Int) = 6))) rfl ?_
 refine WpL_nil ?_
 have hc7 : (decide ((t.kind : Int) = 6)) = true := decide_eq_true hk
 refine Wp_cond_true (congrArg Value.bool hc7) ?_
 have hz_8 : w0.heap.size ≤ wo.heap.size := E.size
 have lz_8_br : br < wo.heap.size := Br.lt
 have lz_8_bo : bo < wo.heap.size := Bo.lt
 refine Wp_seq ?_
 obtain ⟨Fs8, hFs8⟩ : ∃ Fs : (Nat → Prop) → List Fact, Fs = fun RR => [.eq (P6 br 2), .eq (.slice (some ⟨ab, ao, none⟩) t.args.length ac), .eq (.pointer (some ⟨ab, ao + 0 * 6, none⟩)), .eq (.agg (R6 x xsa xsc xaa xac)), .gen (rsG RR [x]) (rsG_ext _ _), .eq (P6 br 3), .eq (I6 t.mn), .eq (I6 (t.mn - 1)), .eq (I6 m1), .eq (P6 br 4), .eq (I6 t.mx), .eq (I6 (t.mx - 1)), .gen (reG RR (.mk 6 [] [x] m1 x1 false)) (reG_ext _ _), .gen (reG RR R) (reG_ext _ _), .gen (alF 25 #[(I6 0), (.slice none 0 0), (.slice none 0 0), (I6 0), (I6 0), (.bool false)] wo.heap.size) (alF_ext _ _ _), .eq undef] := ⟨_, rfl⟩
 refine Wp_dagA [true, true, true, true, true, true, true, true, true, true, true, true, true, true, true, false] [15] 16 15 [] [86, 87, 88, 89, 90, 91, 92, 93, 94, 95, 96, 97, 98, 99, 10, 125] [[], [0], [1], [2], [3], [], [5], [6], [7], [], [9], [10], [4, 8, 11], [12], [], []] Fs8 hFs8 (fun b => S b ∨ n1 ≤ b) (fun y hy => .inr (by omega)) 14 10 (lo := wo.heap.size) (Nat.le_refl _) rfl rfl (AlOp.mk' zer25 rfl) (fun RR => ⟨_, by rw [hFs8]; rfl⟩) (fun n => by rw [hFs8]; repeat (first | exact Cvs.nil | refine Cvs.same ?_ | refine Cvs.cons (fun v w e h => by first | exact reG_ne e h | exact rsG_ne e h | exact tupG_ne e h) ?_)) mixed (by kernel_rfl) (by kernel_rfl) rfl (by kernel_rfl) (by kernel_rfl) (by kernel_rfl) ?_ ?_ (fun h9 => absurd h9 (by decide))
 ·intro wd X0 RR hRR1 hRR2
  refine DagStepsP.cons (fun s' w' X U H => Or.inl ⟨?_, ?_⟩) ?_
  ·exact Guarded_none rfl
  ·exact Does_val (r_fieldAddr (b := br) (o := 0) (o' := 2) (U 2 rfl) Tryz.underlying25 rfl siz23 rfl) (Ext.refl _) rfl
  refine DagStepsP.cons (fun s' w' X U H => Or.inl ⟨?_, ?_⟩) ?_
  ·exact Guarded_none rfl
  ·have e86 : s' 86 = (.pointer (some ⟨br, 2, none⟩)) := H 0 rfl 86 (.eq (.pointer (some ⟨br, 2, none⟩))) rfl (by rw [hFs8]; rfl)
   exact Does_val (r_load (v := (.slice (some ⟨ab, ao, none⟩) t.args.length ac)) e86 flat23 (((X0.trans X).keep Br).cell rfl)) (Ext.refl _) rfl
  refine DagStepsP.cons (fun s' w' X U H => Or.inl ⟨?_, ?_⟩) ?_
  ·exact Guarded_none rfl
  ·have e87 : s' 87 = (.slice (some ⟨ab, ao, none⟩) t.args.length ac) := H 1 rfl 87 (.eq (.slice (some ⟨ab, ao, none⟩) t.args.length ac)) rfl (by rw [hFs8]; rfl)
   exact Does_val (r_indexSlice (b := ab) (o := ao) (len := t.args.length) (cap := ac) (i := 0) (o' := ao + 0 * 6) e87 rfl rfl Tryz.underlying23 siz25 (by omega) (by omega)) (Ext.refl _) rfl
  refine DagStepsP.cons (fun s' w' X U H => Or.inl ⟨?_, ?_⟩) ?_
  ·exact Guarded_none rfl
  ·have e88 : s' 88 = (.pointer (some ⟨ab, ao + 0 * 6, none⟩)) := H 2 rfl 88 (.eq (.pointer (some ⟨ab, ao + 0 * 6, none⟩))) rfl (by rw [hFs8]; rfl)
   exact Does_val (r_loadAgg (vs := [(I6 x.kind), (.slice xsa x.set.length xsc), (.slice xaa x.args.length xac), (I6 x.mn), (I6 x.mx), (.bool x.neg)]) e88 agg25 siz25 rfl (hus.ext (Ext.trans E (X0.trans X)))) (Ext.refl _) rfl
  refine DagStepsP.cons (fun s' w' X U H => Or.inl ⟨?_, ?_⟩) ?_
  ·exact Guarded_none rfl
  ·have e89 : s' 89 = (.agg #[(.int .i64 x.kind), (.slice xsa x.set.length xsc), (.slice xaa x.args.length xac), (.int .i64 x.mn), (.int .i64 x.mx), (.bool x.neg)]) := H 3 rfl 89 (.eq (.agg #[(.int .i64 x.kind), (.slice xsa x.set.length xsc), (.slice xaa x.args.length xac), (.int .i64 x.mn), (.int .i64 x.mx), (.bool x.neg)])) rfl (by rw [hFs8]; rfl)
   exact Does_oneR e89 (ReIn.mono (fun y hy => hRR1 y (by have := hS y hy; have := E.size; omega) (.inl hy)) x (ReIn.ext (Ext.trans E (X0.trans X)) x hxt0)) (fun b hb => hRR2 b (by have := X.size; omega))
  refine DagStepsP.cons (fun s' w' X U H => Or.inl ⟨?_, ?_⟩) ?_
  ·exact Guarded_none rfl
  ·exact Does_val (r_fieldAddr (b := br) (o := 0) (o' := 3) (U 2 rfl) Tryz.underlying25 rfl siz3 rfl) (Ext.refl _) rfl
  refine DagStepsP.cons (fun s' w' X U H => Or.inl ⟨?_, ?_⟩) ?_
  ·exact Guarded_none rfl
  ·have e91 : s' 91 = (.pointer (some ⟨br, 3, none⟩)) := H 5 rfl 91 (.eq (.pointer (some ⟨br, 3, none⟩))) rfl (by rw [hFs8]; rfl)
   exact Does_val (r_load (v := (I6 t.mn)) e91 flat3 (((X0.trans X).keep Br).cell rfl)) (Ext.refl _) rfl
  refine DagStepsP.cons (fun s' w' X U H => Or.inl ⟨?_, ?_⟩) ?_
  ·exact Guarded_none rfl
  ·have e92 : s' 92 = (.int .i64 t.mn) := H 6 rfl 92 (.eq (.int .i64 t.mn)) rfl (by rw [hFs8]; rfl)
   exact Does_val (r_sub (k := .i64) (a := t.mn) (b := 1) (c := t.mn - 1) e92 rfl (wI64 (by omega))) (Ext.refl _) rfl
  refine DagStepsP.cons (fun s' w' X U H => Or.inl ⟨?_, ?_⟩) ?_
  ·exact Guarded_none rfl
  ·have e93 : s' 93 = (.int .i64 (t.mn - 1)) := H 7 rfl 93 (.eq (.int .i64 (t.mn - 1))) rfl (by rw [hFs8]; rfl)
   exact Does_val (r_maxI (k := .i64) (c := m1) rfl e93 hmm.symm) (Ext.refl _) rfl
  refine DagStepsP.cons (fun s' w' X U H => Or.inl ⟨?_, ?_⟩) ?_
  ·exact Guarded_none rfl
  ·exact Does_val (r_fieldAddr (b := br) (o := 0) (o' := 4) (U 2 rfl) Tryz.underlying25 rfl siz3 rfl) (Ext.refl _) rfl
  refine DagStepsP.cons (fun s' w' X U H => Or.inl ⟨?_, ?_⟩) ?_
  ·exact Guarded_none rfl
  ·have e95 : s' 95 = (.pointer (some ⟨br, 4, none⟩)) := H 9 rfl 95 (.eq (.pointer (some ⟨br, 4, none⟩))) rfl (by rw [hFs8]; rfl)
   exact Does_val (r_load (v := (I6 t.mx)) e95 flat3 (((X0.trans X).keep Br).cell rfl)) (Ext.refl _) rfl
  refine DagStepsP.cons (fun s' w' X U H => Or.inl ⟨?_, ?_⟩) ?_
  ·exact Guarded_none rfl
  ·have e96 : s' 96 = (.int .i64 t.mx) := H 10 rfl 96 (.eq (.int .i64 t.mx)) rfl (by rw [hFs8]; rfl)
   exact Does_val (r_sub (k := .i64) (a := t.mx) (b := 1) (c := t.mx - 1) e96 rfl (wI64 (by omega))) (Ext.refl _) rfl
  refine DagStepsP.cons (fun s' w' X U H => Or.inl ⟨?_, ?_⟩) ?_
  ·exact Guarded_none rfl
  ·obtain ⟨b90, e90, q90⟩ := H 4 rfl 90 (.gen (rsG RR [x]) (rsG_ext _ _)) rfl (by rw [hFs8]; rfl)
   have e94 : s' 94 = (.int .i64 m1) := H 8 rfl 94 (.eq (.int .i64 m1)) rfl (by rw [hFs8]; rfl)
   have e97 : s' 97 = (.int .i64 (t.mx - 1)) := H 11 rfl 97 (.eq (.int .i64 (t.mx - 1))) rfl (by rw [hFs8]; rfl)
   exact Does_node6 e90 e94 (e97.trans (by rw [hx1])) q90 rfl
  refine DagStepsP.cons (fun s' w' X U H => Or.inl ⟨?_, ?_⟩) ?_
  ·exact Guarded_none rfl
  ·obtain ⟨xa98, xc98, ya98, yc98, e98, r98⟩ := H 12 rfl 98 (.gen (reG RR (.mk 6 [] [x] m1 x1 false)) (reG_ext _ _)) rfl (by rw [hFs8]; rfl)
   exact Does_enter (r_callF (vs := [(.agg #[(I6 6), (.slice xa98 0 xc98), (.slice ya98 1 yc98), (I6 m1), (I6 x1), (.bool false)])]) Tryz.func115 nm115 bd115 (lst1 e98)) ((dnode_c _ (fun b => RR b ∧ b < w'.heap.size) (.mk 6 [] [x] m1 x1 false) _ (ReIn.lt _ r98) (fun y hy => hy.2) hp6 (fun y hy => by simp only [Re.args, List.mem_cons, List.not_mem_nil, or_false] at hy; subst hy; exact hox) (by simp only [Re.args, Re.sizes]; omega)).mono (fun r w h => ⟨reG_of (S' := fun b => (RR b ∧ b < w'.heap.size) ∨ w'.heap.size ≤ b) (fun b hb => by rcases hb with h1 | h1; exact h1.1; exact hRR2 b (by have := X.size; omega)) (by rw [hR]; exact h.1), h.2⟩))
  refine DagStepsP.cons (fun s' w' X U H => Or.inl ⟨?_, ?_⟩) ?_
  ·exact Guarded_none rfl
  ·exact Does_alloc (c := #[(I6 0), (.slice none 0 0), (.slice none 0 0), (I6 0), (I6 0), (.bool false)]) zer25 rfl (by have := X0.size; have := X.size; omega)
  refine DagStepsP.tail ?_
  exact DagStepsP.nil
 ·intro s' w8 RR β X8 U hRA hβ H
  obtain ⟨xa99, xc99, ya99, yc99, e99, r99⟩ := H 13 rfl 99 (.gen (reG RR R) (reG_ext _ _)) rfl (by rw [hFs8]; rfl)
  obtain ⟨b10, e10, B10, g10⟩ := H 14 rfl 10 (.gen (alF 25 #[(.int .i64 0), (.slice none 0 0), (.slice none 0 0), (.int .i64 0), (.int .i64 0), (.bool false)] wo.heap.size) (alF_ext _ _ _)) rfl (by rw [hFs8]; rfl)
  have hβ2 : β = b10 := by have h9 := e10.symm.trans hβ; simpa using h9.symm
  rw [hβ2] at hRA
  clear hβ hβ2 β
  obtain ⟨j8, rfl⟩ := Fits.out (σ := s') (l := [(1, (.int .i64 c)), (2, (.pointer (some ⟨br, 0, none⟩))), (4, (.pointer (some ⟨bo, 0, none⟩))), (99, (.agg #[(.int .i64 R.kind), (.slice xa99 R.set.length xc99), (.slice ya99 R.args.length yc99), (.int .i64 R.mn), (.int .i64 R.mx), (.bool R.neg)])), (10, (.pointer (some ⟨b10, 0, none⟩)))]) ⟨U 1 rfl, U 2 rfl, U 4 rfl, e99, e10, trivial⟩
  clear U H
  replace Br := X8.keep Br
  replace Bo := X8.keep Bo
  replace E := E.ext X8
  refine s_storeAgg (b := b10) (o := 0) (c' := (R6 R xa99 xc99 ya99 yc99)) rfl rfl (by simp [Value.oneCell']) siz25 rfl B10 (by first | (simp; done) | exact Nat.le_of_ble_eq_true rfl) rfl ?_
  intro w9 S9
  replace r99 := ReIn.chg S9.chg (fun y hy h => by have h2 : y = b10 := h; have := (hRA y hy).2; omega) _ r99
  replace Br := S9.keep (by omega) Br
  replace Bo := S9.keep (by omega) Bo
  replace E := S9.step E (by first | exact Or.inl (by omega) | exact Or.inr rfl | exact Or.inr (by assumption) | exact Or.inr (by simp) | exact Or.inr (by omega) | exact Or.inr (by dsimp only; omega))
  replace B10 := S9.blk
  refine WpL_nil (thn_normal ?_)
  have hz_10 : w0.heap.size ≤ w9.heap.size := E.size
  have lz_10_br : br < w9.heap.size := Br.lt
  have lz_10_bo : bo < w9.heap.size := Bo.lt
  have lz_10_b10 : b10 < w9.heap.size := B10.lt
  refine Wp_seq ?_
  obtain ⟨Fs10, hFs10⟩ : ∃ Fs : List Fact, Fs = [.eq (P6 br 2), .eq (.slice (some ⟨ab, ao, none⟩) t.args.length ac), .eq (.pointer (some ⟨ab, ao + 0 * 6, none⟩)), .eq (.agg (R6 x xsa xsc xaa xac)), .eq (I6 c), .gen (reG (fun b => S b ∨ n1 ≤ b) D) (reG_ext _ _), .eq (.agg (R6 R xa99 xc99 ya99 yc99)), .gen (rsG (fun b => S b ∨ n1 ≤ b) [D, R]) (rsG_ext _ _), .gen (reG (fun b => S b ∨ n1 ≤ b) F) (reG_ext _ _), .eq undef] := ⟨_, rfl⟩
  refine Wp_dagP [true, true, true, true, true, true, true, true, true, false] [9] [100, 101, 102, 103, 104, 105, 106, 107, 108, 119] [[], [0], [1], [2], [], [3, 4], [], [5, 6], [5, 7], []] Fs10 hFs10 mixed (by kernel_rfl) (by kernel_rfl) (by kernel_rfl) (by kernel_rfl) ?_ ?_
  ·intro wd X0
   refine DagStepsP.cons (fun s' w' X U H => Or.inl ⟨?_, ?_⟩) ?_
   ·exact Guarded_none rfl
   ·exact Does_val (r_fieldAddr (b := br) (o := 0) (o' := 2) (U 2 rfl) Tryz.underlying25 rfl siz23 rfl) (Ext.refl _) rfl
   refine DagStepsP.cons (fun s' w' X U H => Or.inl ⟨?_, ?_⟩) ?_
   ·exact Guarded_none rfl
   ·have e100 : s' 100 = (.pointer (some ⟨br, 2, none⟩)) := H 0 rfl 100 (.eq (.pointer (some ⟨br, 2, none⟩))) rfl (by rw [hFs10]; rfl)
    exact Does_val (r_load (v := (.slice (some ⟨ab, ao, none⟩) t.args.length ac)) e100 flat23 (((X0.trans X).keep Br).cell rfl)) (Ext.refl _) rfl
   refine DagStepsP.cons (fun s' w' X U H => Or.inl ⟨?_, ?_⟩) ?_
   ·exact Guarded_none rfl
   ·have e101 : s' 101 = (.slice (some ⟨ab, ao, none⟩) t.args.length ac) := H 1 rfl 101 (.eq (.slice (some ⟨ab, ao, none⟩) t.args.length ac)) rfl (by rw [hFs10]; rfl)
    exact Does_val (r_indexSlice (b := ab) (o := ao) (len := t.args.length) (cap := ac) (i := 0) (o' := ao + 0 * 6) e101 rfl rfl Tryz.underlying23 siz25 (by omega) (by omega)) (Ext.refl _) rfl
   refine DagStepsP.cons (fun s' w' X U H => Or.inl ⟨?_, ?_⟩) ?_
   ·exact Guarded_none rfl
   ·have e102 : s' 102 = (.pointer (some ⟨ab, ao + 0 * 6, none⟩)) := H 2 rfl 102 (.eq (.pointer (some ⟨ab, ao + 0 * 6, none⟩))) rfl (by rw [hFs10]; rfl)
    exact Does_val (r_loadAgg (vs := [(I6 x.kind), (.slice xsa x.set.length xsc), (.slice xaa x.args.length xac), (I6 x.mn), (I6 x.mx), (.bool x.neg)]) e102 agg25 siz25 rfl (hus.ext (Ext.trans E (X0.trans X)))) (Ext.refl _) rfl
   refine DagStepsP.cons (fun s' w' X U H => Or.inl ⟨?_, ?_⟩) ?_
   ·exact Guarded_none rfl
   ·exact Does_val (r_move (v := (I6 c)) (U 1 rfl)) (Ext.refl _) rfl
   refine DagStepsP.cons (fun s' w' X U H => Or.inl ⟨?_, ?_⟩) ?_
   ·exact Guarded_none rfl
   ·have e103 : s' 103 = (.agg #[(.int .i64 x.kind), (.slice xsa x.set.length xsc), (.slice xaa x.args.length xac), (.int .i64 x.mn), (.int .i64 x.mx), (.bool x.neg)]) := H 3 rfl 103 (.eq (.agg #[(.int .i64 x.kind), (.slice xsa x.set.length xsc), (.slice xaa x.args.length xac), (.int .i64 x.mn), (.int .i64 x.mx), (.bool x.neg)])) rfl (by rw [hFs10]; rfl)
    have e104 : s' 104 = (.int .i64 c) := H 4 rfl 104 (.eq (.int .i64 c)) rfl (by rw [hFs10]; rfl)
    exact Does_enter (r_callF (vs := [(.agg (R6 x xsa xsc xaa xac)), (I6 c)]) Tryz.func60 nm60 bd60 (lst2 e103 e104)) ((ih x _ S _ (by omega) hox (ReIn.ext (Ext.trans E (X0.trans X)) x hxt0) (fun y hy => by have := hS y hy; have := E.size; have := X0.size; have := X.size; omega)).mono (fun r w h => ⟨reG_of (S' := fun b => S b ∨ w'.heap.size ≤ b) (fun b hb => by rcases hb with h1 | h1; exact .inl h1; exact .inr (by have := E.size; have := X0.size; have := X.size; omega)) (by rw [hD]; exact h.1), h.2⟩))
   refine DagStepsP.cons (fun s' w' X U H => Or.inl ⟨?_, ?_⟩) ?_
   ·exact Guarded_none rfl
   ·exact Does_val (r_loadAgg (vs := [(I6 R.kind), (.slice xa99 R.set.length xc99), (.slice ya99 R.args.length yc99), (I6 R.mn), (I6 R.mx), (.bool R.neg)]) (U 10 rfl) agg25 siz25 rfl (((X0.trans X).keep B10).cells rfl)) (Ext.refl _) rfl
   refine DagStepsP.cons (fun s' w' X U H => Or.inl ⟨?_, ?_⟩) ?_
   ·exact Guarded_none rfl
   ·obtain ⟨xa105, xc105, ya105, yc105, e105, r105⟩ := H 5 rfl 105 (.gen (reG (fun b => S b ∨ n1 ≤ b) D) (reG_ext _ _)) rfl (by rw [hFs10]; rfl)
    have e106 : s' 106 = (.agg #[(.int .i64 R.kind), (.slice xa99 R.set.length xc99), (.slice ya99 R.args.length yc99), (.int .i64 R.mn), (.int .i64 R.mx), (.bool R.neg)]) := H 6 rfl 106 (.eq (.agg #[(.int .i64 R.kind), (.slice xa99 R.set.length xc99), (.slice ya99 R.args.length yc99), (.int .i64 R.mn), (.int .i64 R.mx), (.bool R.neg)])) rfl (by rw [hFs10]; rfl)
    exact Does_two e105 e106 r105 (ReIn.mono (fun y hy => (hRA y hy).1) R (ReIn.ext (X0.trans X) R r99)) (fun b hb => .inr (by have := E.size; have := X0.size; have := X.size; omega))
   refine DagStepsP.cons (fun s' w' X U H => Or.inl ⟨?_, ?_⟩) ?_
   ·exact Guarded_none rfl
   ·obtain ⟨b107, e107, q107⟩ := H 7 rfl 107 (.gen (rsG (fun b => S b ∨ n1 ≤ b) [D, R]) (rsG_ext _ _)) rfl (by rw [hFs10]; rfl)
    exact Does_enter (r_callF (vs := [(.slice (some ⟨b107, 0, none⟩) 2 2)]) Tryz.func118 nm118 bd118 (lst1 e107)) ((dcat_c _ (fun b => (S b ∨ n1 ≤ b) ∧ b < w'.heap.size) _ [D, R] (RsIn.lt q107) (fun y hy => hy.2) (fun y hm hk => by rcases List.mem_cons.1 hm with rfl | hm; exact (sim_three hDo).1 (.inl hk); simp at hm; subst hm; exact (sim_three hRo).1 (.inl hk)) (by simp only [Re.sizes]; omega)).mono (fun r w h => ⟨reG_of (S' := fun b => ((S b ∨ n1 ≤ b) ∧ b < w'.heap.size) ∨ w'.heap.size ≤ b) (fun b hb => by rcases hb with h1 | h1; exact h1.1; exact .inr (by have := E.size; have := X0.size; have := X.size; omega)) (by rw [hF]; exact h.1), h.2⟩))
   refine DagStepsP.tail ?_
   exact DagStepsP.nil
  ·intro s' w10 X10 U H
   obtain ⟨xa108, xc108, ya108, yc108, e108, r108⟩ := H 8 rfl 108 (.gen (reG (fun b => S b ∨ n1 ≤ b) F) (reG_ext _ _)) rfl (by rw [hFs10]; rfl)
   obtain ⟨j10, rfl⟩ := Fits.out (σ := s') (l := [(4, (.pointer (some ⟨bo, 0, none⟩))), (108, (.agg #[(.int .i64 F.kind), (.slice xa108 F.set.length xc108), (.slice ya108 F.args.length yc108), (.int .i64 F.mn), (.int .i64 F.mx), (.bool F.neg)]))]) ⟨U 4 rfl, e108, trivial⟩
   clear U H
   replace Br := X10.keep Br
   replace Bo := X10.keep Bo
   replace B10 := X10.keep B10
   replace E := E.ext X10
   refine s_storeAgg (b := bo) (o := 0) (c' := (R6 F xa108 xc108 ya108 yc108)) rfl rfl (by simp [Value.oneCell']) siz25 rfl Bo (by first | (simp; done) | exact Nat.le_of_ble_eq_true rfl) rfl ?_
   intro w11 S11
   replace r108 := ReIn.chg S11.chg (fun y hy h => by have h2 : y = bo := h; rcases hy with h1 | h1; have := hS y h1; omega; omega) _ r108
   replace Br := S11.keep (by omega) Br
   replace B10 := S11.keep (by omega) B10
   replace E := S11.step E (by first | exact Or.inl (by omega) | exact Or.inr rfl | exact Or.inr (by assumption) | exact Or.inr (by simp) | exact Or.inr (by omega) | exact Or.inr (by dsimp only; omega))
   replace Bo := S11.blk
   refine WpL_nil (thn_normal (Wp_ret (inB_ret (thn_ret ?_))))
   refine fin_agg Tryz.results60 (vs := [(.int .i64 F.kind), (.slice xa108 F.set.length xc108), (.slice ya108 F.args.length yc108), (.int .i64 F.mn), (.int .i64 F.mx), (.bool F.neg)]) (b := bo) rfl agg25 siz25 rfl (Bo.cells rfl) ?_
   exact ⟨⟨_, rfl, ReIn.mono (fun y hy => by rcases hy with h1 | h1; exact .inl h1; exact .inr (by omega)) _ r108⟩, E⟩
end Go.Proofs
namespace Go.Proofs
open Go Go.Eng Go.Sort
set_option maxRecDepth 100000
theorem pre478 {k : Int} {l m : List Re} (hk : k = 4 ∨ k = 7 ∨ k = 8) (h8 : k = 8 → l.length = 1) (hl : m.length = l.length) : PreN k [] m 0 0 false := ⟨by omega, rfl, fun _ => rfl, fun _ => ⟨rfl, rfl⟩, by omega, by omega, fun h => by rw [hl]; exact h8 (by omega), by omega⟩
theorem steps_small {c : Int} {ts : List Re} (h : ∀ x ∈ ts, SimOk x) (hs : Re.sizes ts ≤ 300) : Re.sizes (ts.map (stepR c)) ≤ 200000 := by
 have h1 := steps_size c 300 (simOks_iff.2 h) hs
 have h2 : (300 + 6) * (2 * Re.sizes ts) ≤ (300 + 6) * 600 := Nat.mul_le_mul_left _ (by omega)
 rw [stepRs_map] at h1
 omega
set_option maxHeartbeats 2000000 in
theorem step_k4 (c : Int) (n : Nat) (ih : StepOkD c n) (t : Re) (hn : t.size ≤ n) (h300 : t.size ≤ 300) (hok : SimOk t) (hk : t.kind = 4 ∨ t.kind = 7 ∨ t.kind = 8) (w0 : World) (S : Nat → Prop) (vs : List Value) (ht : ReIn S w0 t vs) (hS : ∀ x, S x → x < w0.heap.size) :
  Ret Tryz.prog 60 #[.agg vs.toArray, .int .i64 c] w0 fun r w => (∃ us, r = .agg us.toArray ∧ ReIn (fun b => S b ∨ w0.heap.size ≤ b) w (stepR c t) us) ∧ Ext w0 w := by
 have ht0 := ht
 obtain ⟨sa, sc, aa, ac, rfl, hset, hlen, hargs⟩ := ht.form
 have hal := len_lt_size t
 have hszt := t.size_eq
 obtain ⟨N, hN⟩ : ∃ N, N = nodeS (.mk t.kind [] (t.args.map (stepR c)) 0 0 false) := ⟨_, rfl⟩
 have hst : stepR c t = N := by rw [hN]; exact st478 hk
 rw [hst]
 clear hst
 have h8 : t.kind = 8 → t.args.length = 1 := fun h => by obtain ⟨y, hy, _⟩ := hok.n.k8 h; rw [hy]; rfl
 refine Ret_of Tryz.func60 rfl Tryz.ntmps60 (Nat.le_of_ble_eq_true rfl) ?_
 have E : Chg none1 w0 w0 := Chg.refl _ _
 refine Wp_seq_region ?_
 refine s_box (v := (.agg (R6 t sa sc aa ac))) (c := (R6 t sa sc aa ac)) (by decide) rfl rfl ?_
 intro br wr Nr
 have Fr := Nr.ge E
 replace E := E.ext Nr.ext
 have Br := Nr.blk
 refine s_alloc (c := #[(I6 0), (.slice none 0 0), (.slice none 0 0), (I6 0), (I6 0), (.bool false)]) (by decide) zer25 rfl ?_
 intro bo wo No
 have Fo := No.ge E
 have Oo_br := No.lt Br
 replace Br := No.keep Br
 replace E := E.ext No.ext
 have Bo := No.blk
 refine WpL_nil (Wp_seq (Wp_seq_region ?_))
 refine qF br 0 0 rfl Tryz.underlying25 rfl siz3 rfl ?_
 refine qV (r_load (v := (I6 t.kind)) rfl flat3 (Br.cell rfl)) ?_
 refine WpL_nil (Wp_block (Wp_seq_region ?_))
 refine qV (r_eql (k := .i64) (a := t.kind) (b := 2) rfl rfl) ?_
 refine qA (.bool (decide ((t.kind : Int) = 2))) rfl ?_
 refine WpL_nil ?_
 obtain ⟨n1, hn1⟩ : ∃ n1, n1 = wo.heap.size := ⟨_, rfl⟩
 have hob : br < n1 ∧ bo < n1 ∧ w0.heap.size ≤ bo ∧ w0.heap.size ≤ n1 := ⟨by rw [hn1]; exact Br.lt, by rw [hn1]; exact Bo.lt, by omega, by rw [hn1]; exact E.size⟩
 have hn1w : n1 ≤ wo.heap.size := by omega
 have hc1 : (decide ((t.kind : Int) = 2)) = false := decide_eq_false (by omega)
 refine Wp_cond_false (congrArg Value.bool hc1) ?_
 refine Wp_seq_region ?_
 refine qV (r_eql (k := .i64) (a := t.kind) (b := 3) rfl rfl) ?_
 refine qA (.bool (decide ((t.kind : Int) = 3))) rfl ?_
 refine WpL_nil ?_
 have hc2 : (decide ((t.kind : Int) = 3)) = false := decide_eq_false (by omega)
 refine Wp_cond_false (congrArg Value.bool hc2) ?_
 refine Wp_cut (fun σ W3 => ∃ (q : Bool), (∃ jj_, σ = upds jj_ [(1, (I6 c)), (2, (P6 br 0)), (4, (P6 bo 0)), (12, (I6 t.kind)), (50, (.bool q))]) ∧ Chg none1 w0 W3 ∧ Blk W3 br (R6 t sa sc aa ac) 25 ∧ Blk W3 bo #[(I6 0), (.slice none 0 0), (.slice none 0 0), (I6 0), (I6 0), (.bool false)] 25 ∧ (q = true) ∧ (n1 ≤ W3.heap.size)) ?_ ?_
 ·skip
  refine Wp_seq_region ?_
  refine qV (r_eql (k := .i64) (a := t.kind) (b := 4) rfl rfl) ?_
  refine qA (.bool (decide ((t.kind : Int) = 4))) rfl ?_
  refine WpL_nil ?_
  refine Wp_cond (b := decide ((t.kind : Int) = 4)) rfl (fun h4 => ?_) (fun h4 => ?_)
  ·have kh4 := h4
   replace h4 := of_decide_eq_true h4
   refine Wp_skip (thn_normal ?_)
   exact ⟨(decide ((t.kind : Int) = 4)), Fits.out ⟨rfl, rfl, rfl, rfl, rfl, trivial⟩, E, Br, Bo, decide_eq_true h4, hn1w⟩
  ·have kh4 := h4
   replace h4 := of_decide_eq_false h4
   refine Wp_seq_region ?_
   refine qV (r_eql (k := .i64) (a := t.kind) (b := 7) rfl rfl) ?_
   refine qA (.bool (decide ((t.kind : Int) = 7))) rfl ?_
   refine WpL_nil ?_
   refine Wp_cond (b := decide ((t.kind : Int) = 7)) rfl (fun h7 => ?_) (fun h7 => ?_)
   ·have kh7 := h7
    replace h7 := of_decide_eq_true h7
    refine Wp_skip (thn_normal ?_)
    exact ⟨(decide ((t.kind : Int) = 7)), Fits.out ⟨rfl, rfl, rfl, rfl, rfl, trivial⟩, E, Br, Bo, decide_eq_true h7, hn1w⟩
   ·have kh7 := h7
    replace h7 := of_decide_eq_false h7
    refine Wp_region ?_
    refine qV (r_eql (k := .i64) (a := t.kind) (b := 8) rfl rfl) ?_
    refine qA (.bool (decide ((t.kind : Int) = 8))) rfl ?_
    refine WpL_nil (thn_normal ?_)
    exact ⟨(decide ((t.kind : Int) = 8)), Fits.out ⟨rfl, rfl, rfl, rfl, rfl, trivial⟩, E, Br, Bo, decide_eq_true (by omega), hn1w⟩
 ·clear E Br Bo
  rintro _ W3 ⟨q, ⟨j3, rfl⟩, E, Br, Bo, hq, hn1w⟩
  have hc6 : (q) = true := hq
  refine Wp_cond_true (congrArg Value.bool hc6) ?_
  refine Wp_seq_region ?_
  refine qA (.slice none 0 0) rfl ?_
  refine WpL_nil (Wp_seq (Wp_seq_region ?_))
  refine qF br 0 2 rfl Tryz.underlying25 rfl siz23 rfl ?_
  refine qV (r_load (v := (.slice aa t.args.length ac)) rfl flat23 (Br.cell rfl)) ?_
  refine qV (r_lenSlice (ad := aa) (n := t.args.length) (cap := ac) Tryz.underlying23 rfl) ?_
  refine qM (I6 0) rfl ?_
  refine WpL_nil (Wp_block ?_)
  refine Wp_loop (fun nn_ σ W7 => ∃ (i : Nat) (la : Option Addr) (lc : Nat) (rows : List (List Value)) (T : Nat → Prop), (∃ jj_, σ = upds jj_ [(1, (I6 c)), (2, (P6 br 0)), (4, (P6 bo 0)), (55, (.slice aa t.args.length ac)), (56, (I6 (t.args.length : Int))), (57, (I6 (i : Int))), (7, (.slice la i lc))]) ∧ Chg none1 w0 W7 ∧ Blk W7 br (R6 t sa sc aa ac) 25 ∧ Blk W7 bo #[(I6 0), (.slice none 0 0), (.slice none 0 0), (I6 0), (I6 0), (.bool false)] 25 ∧ (i ≤ t.args.length) ∧ (W7.ownsRow n1 TRe 6 (.slice la i lc) i rows.flatten) ∧ (RowsIn T W7 ((t.args.take i).map (stepR c)) rows) ∧ (n1 ≤ W7.heap.size) ∧ (∀ y, T y → (S y ∨ n1 ≤ y) ∧ y < W7.heap.size) ∧ (∀ b, (Value.slice la i lc).ownBlock = some b → ¬ T b) ∧ nn_ = t.args.length - i) (n := t.args.length - 0) ?_ ?_
  ·exact ⟨0, none, 0, [], (fun _ => False), Fits.out ⟨rfl, rfl, rfl, rfl, rfl, rfl, rfl, trivial⟩, E, Br, Bo, Nat.zero_le _, World.ownsRow_nil _ _ _ _, rfl, hn1w, (fun y h => h.elim), (fun b _ h => h), rfl⟩
  ·clear E Br Bo
   rintro _ _ W7 ⟨i, la, lc, rows, T, ⟨j7, rfl⟩, E, Br, Bo, hi, hO, hR, hbs, hT, hTn, rfl⟩
   refine Wp_seq_region ?_
   refine qV (r_lss (k := .i64) (a := (i : Int)) (b := (t.args.length : Int)) rfl rfl) ?_
   refine WpL_nil (Wp_seq ?_)
   refine Wp_cond (b := decide (((i : Int) : Int) < (t.args.length : Int))) rfl (fun hlt => ?_) (fun hlt => ?_)
   ·have khlt := hlt
    replace hlt := of_decide_eq_true hlt
    obtain ⟨x, hx⟩ := get_of_lt (l := t.args) (i := i) (by omega)
    have hxo := hok.a x (List.mem_of_getElem? hx)
    have hxz := Re.size_arg hx
    obtain ⟨ab, ao, hab, rfl, hres⟩ := hargs.resolve_left (fun h => by rw [h] at hx; cases hx)
    obtain ⟨us, hus, hxt⟩ := hres.get hx
    have hxt0 := hxt
    obtain ⟨xsa, xsc, xaa, xac, rfl, _, _, _⟩ := hxt.form
    obtain ⟨M, hM⟩ : ∃ M, M = stepR c x := ⟨_, rfl⟩
    refine Wp_skip (thn_normal (Wp_seq (Wp_block (Wp_seq_region ?_))))
    refine qV (r_indexSlice (b := ab) (o := ao) (len := t.args.length) (cap := ac) (i := i) (o' := ao + i * 6) rfl rfl rfl Tryz.underlying23 siz25 (by omega) (by omega)) ?_
    refine qV (r_loadAgg (vs := [(I6 x.kind), (.slice xsa x.set.length xsc), (.slice xaa x.args.length xac), (I6 x.mn), (I6 x.mx), (.bool x.neg)]) rfl agg25 siz25 rfl (hus.ext E)) ?_
    refine s_allocStore (v := (.agg (R6 x xsa xsc xaa xac))) (c := (R6 x xsa xsc xaa xac)) (n := 6) (by decide) zer25 rfl siz25 rfl rfl rfl (by simp [Value.oneCell']) ?_
    intro bu wu Nu
    have Fu := Nu.ge E
    have Ou_br := Nu.lt Br
    have Ou_bo := Nu.lt Bo
    replace Br := Nu.keep Br
    replace Bo := Nu.keep Bo
    replace hO := own_ext hO Nu.ext
    replace hR := RowsIn.ext Nu.ext hR
    replace hbs := Nat.le_trans hbs Nu.ext.size
    replace hT := tl_ext hT Nu.ext
    replace E := E.ext Nu.ext
    have Bu := Nu.blk
    refine WpL_nil (Wp_region ?_)
    refine qM (.slice la i lc) rfl ?_
    refine qV (r_loadAgg (vs := [(I6 x.kind), (.slice xsa x.set.length xsc), (.slice xaa x.args.length xac), (I6 x.mn), (I6 x.mx), (.bool x.neg)]) rfl agg25 siz25 rfl (Bu.cells rfl)) ?_
    refine qM (I6 c) rfl ?_
    obtain ⟨n2, hn2⟩ : ∃ n2, n2 = (wu).heap.size := ⟨_, rfl⟩
    have hn12 : n1 ≤ n2 := by rw [hn2]; exact hbs
    have hOb : ∀ b, (Value.slice la i lc).ownBlock = some b → n1 ≤ b ∧ b < n2 := fun b hb => ⟨(hO.lt b hb).1, by rw [hn2]; exact (hO.lt b hb).2⟩
    refine WpL_enter rfl rfl (by decide) (r_callF (vs := [(.agg (R6 x xsa xsc xaa xac)), (I6 c)]) Tryz.func60 nm60 bd60 rfl) ((ih x _ S _ (by omega) hxo (ReIn.ext E x hxt0) (fun y hy => by have := hS y hy; have := E.size; omega)).mono (R' := fun r w => reG (fun b => S b ∨ n2 ≤ b) M r w ∧ Ext wu w) (fun r w h => ⟨reG_of (S' := fun b => S b ∨ _ ≤ b) (fun b hb => by rcases hb with h1 | h1; exact .inl h1; exact .inr (by rw [hn2]; exact h1)) (by rw [hM]; exact h.1), h.2⟩)) ?_
    rintro _ w9 ⟨⟨ma, mc, pa, pc, rfl, hX⟩, X9⟩
    replace Br := X9.keep Br
    replace Bo := X9.keep Bo
    replace Bu := X9.keep Bu
    replace hO := own_ext hO X9
    replace hR := RowsIn.ext X9 hR
    replace hbs := Nat.le_trans hbs X9.size
    replace hT := tl_ext hT X9
    replace E := E.ext X9
    have hXl := ReIn.lt M hX
    refine s_buildSlice (ps := [(0, (.agg (R6 M ma mc pa pc)))]) (c := (R6 M ma mc pa pc)) (by decide) rfl Tryz.underlying23 siz25 zer25 (by decide) (by decide) (by kernel_rfl) ?_
    intro bz wz Nz
    have Fz := Nz.ge E
    have Oz_br := Nz.lt Br
    have Oz_bo := Nz.lt Bo
    have Oz_bu := Nz.lt Bu
    replace Br := Nz.keep Br
    replace Bo := Nz.keep Bo
    replace Bu := Nz.keep Bu
    replace hO := own_ext hO Nz.ext
    replace hR := RowsIn.ext Nz.ext hR
    replace hbs := Nat.le_trans hbs Nz.ext.size
    replace hT := tl_ext hT Nz.ext
    replace hXl := ReIn.ext Nz.ext M hXl
    replace E := E.ext Nz.ext
    have Bz := Nz.blk
    have hQ9 : True := trivial
    refine s_append (base := n1) (n := i) (m := 1) (xs := rows.flatten) (news := [(I6 M.kind), (.slice ma M.set.length mc), (.slice pa M.args.length pc), (I6 M.mn), (I6 M.mx), (.bool M.neg)]) (size := 6) (bytes := 80) (v := (.slice la i lc)) (by decide) Tryz.underlying23 siz25 byt25 zer25 rfl (by decide) rfl hO rfl (rfl) (Bz.cells rfl) (by simp [Value.oneCell']) (by unfold maxLen; omega) (by omega) (hbs) ?_
    intro v9 w66 Ov9 Cv9 Dv9
    replace Br := Cv9.keep (fun h => by have := (hO.lt _ h).1; omega) Br
    replace Bo := Cv9.keep (fun h => by have := (hO.lt _ h).1; omega) Bo
    replace E := E.step Cv9 (fun x hx h => absurd (hO.lt x h).1 (by omega))
    obtain ⟨la2, lc2, rfl⟩ := own_form Ov9
    have hT2 : ∀ y, (T y ∨ ((S y ∨ n2 ≤ y) ∧ y < w9.heap.size)) → (S y ∨ n1 ≤ y) ∧ y < (w66).heap.size ∧ (Value.slice la i lc).ownBlock ≠ some y := by
     intro y hy
     have hz1 := Nz.ext.size
     have hz2 := Cv9.size
     rcases hy with hy | ⟨hy, hy2⟩
     ·exact ⟨(hT y hy).1, by have := (hT y hy).2; omega, fun hb => hTn y hb hy⟩
     ·refine ⟨hy.imp id (fun h => by have := X9.size; omega), by omega, fun hb => ?_⟩
      have h9 := hOb y hb
      rcases hy with h1 | h1
      ·have := hS y h1; omega
      ·omega
    have hR9 : RowsIn (fun y => T y ∨ ((S y ∨ n2 ≤ y) ∧ y < w9.heap.size)) (w66) ((t.args.take (i + 1)).map (stepR c)) (rows ++ [[.int .i64 M.kind, .slice ma M.set.length mc, .slice pa M.args.length pc, .int .i64 M.mn, .int .i64 M.mx, .bool M.neg]]) := by
     rw [List.take_add_one, hx, Option.toList_some, List.map_append, List.map_cons, List.map_nil, ← hM]
     exact rowsin_snoc (RowsIn.mono (fun y hy => .inl hy) (RowsIn.chg Cv9 (fun y hy hm => hTn y hm hy) hR)) (ReIn.mono (fun y hy => .inr hy) M (ReIn.chg Cv9 (fun y hy hm => (hT2 y (.inr hy)).2.2 hm) M hXl))
    refine qA (.slice la2 (i + 1) lc2) rfl ?_
    refine WpL_nil (inB_normal (thn_normal (Wp_region ?_)))
    refine qV (r_add (k := .i64) (a := (i : Int)) (b := 1) (c := (i : Int) + 1) rfl rfl (wI64 (by omega))) ?_
    refine qM (I6 ((i : Int) + 1)) rfl ?_
    refine WpL_nil (thn_normal ?_)
    exact ⟨t.args.length - (i + 1), by omega, i + 1, la2, lc2, rows ++ [[.int .i64 M.kind, .slice ma M.set.length mc, .slice pa M.args.length pc, .int .i64 M.mn, .int .i64 M.mx, .bool M.neg]], (fun y => T y ∨ ((S y ∨ n2 ≤ y) ∧ y < w9.heap.size)), Fits.out ⟨rfl, rfl, rfl, rfl, rfl, rfl, rfl, trivial⟩, E, Br, Bo, (by omega), (by simpa using Ov9), hR9, Nat.le_trans hbs Cv9.size, (fun y hy => ⟨(hT2 y hy).1, (hT2 y hy).2.1⟩), (fun b hb hy => by rcases Dv9 b hb with h | h; exact (hT2 b hy).2.2 h; have hz1 := Nz.ext.size; rcases hy with hy | hy; have := (hT b hy).2; omega; have := hy.2; omega), rfl⟩
   ·have khlt := hlt
    replace hlt := of_decide_eq_false hlt
    have hii : i = t.args.length := by omega
    rw [hii] at hO hR hTn
    rw [hii]
    rw [List.take_length] at hR
    refine Wp_exit (thn_exit (thn_exit (inB_here (thn_normal (Wp_seq_region ?_)))))
    refine qF br 0 0 rfl Tryz.underlying25 rfl siz3 rfl ?_
    refine qV (r_load (v := (I6 t.kind)) rfl flat3 (Br.cell rfl)) ?_
    refine qM (.slice la t.args.length lc) rfl ?_
    refine qV (r_build (ps := [(0, (I6 t.kind)), (2, (.slice la t.args.length lc))]) (v := (.agg #[(I6 t.kind), (.slice none 0 0), (.slice la t.args.length lc), (I6 0), (I6 0), (.bool false)])) rfl (by kernel_rfl)) ?_
    have hml : (t.args.map (stepR c)).length = t.args.length := List.length_map _
    obtain ⟨hoc, hocl⟩ := own_res hO hR hml
    have hTS : ReIn (fun y => (S y ∨ n1 ≤ y) ∧ y < (W7).heap.size) (W7) (.mk t.kind [] (t.args.map (stepR c)) 0 0 false) [.int .i64 t.kind, .slice none 0 0, .slice la t.args.length lc, .int .i64 0, .int .i64 0, .bool false] := by
     have h9 := ReIn.of (S := fun y => (S y ∨ n1 ≤ y) ∧ y < (W7).heap.size) (w := W7) (k := t.kind) (set := []) (args := t.args.map (stepR c)) (mn := 0) (mx := 0) (ng := false) (sa := none) (sc := 0) (aa := la) (ac := lc) (SlIn.nil _ _ _ _ _) (by rw [hml]; exact hoc) (by
      rcases hocl with h | ⟨ob, hob1, hob2, hob3, hclo⟩
      ·exact .inl h
      ·exact .inr ⟨ob, 0, ⟨.inr hob1, hob2⟩, hob3, resin_of fun i t ht => by obtain ⟨vs, h6, h7⟩ := hclo i t ht; exact ⟨vs, h6, ReIn.mono (fun y hy => hT y hy) t h7⟩⟩)
     rw [hml] at h9
     exact h9
    have hnb1 : n1 ≤ (W7).heap.size := hbs
    refine WpL_enter rfl rfl (by decide) (r_callF (vs := [(.agg #[(I6 t.kind), (.slice none 0 0), (.slice la t.args.length lc), (I6 0), (I6 0), (.bool false)])]) Tryz.func115 nm115 bd115 rfl) ((dnode_c _ _ _ _ hTS (fun y hy => hy.2) (pre478 hk h8 hml) (fun y hy => by obtain ⟨z, hz, rfl⟩ := List.mem_map.1 hy; exact step_ok c (hok.a z hz)) (by have := steps_small (c := c) hok.a (by omega); show Re.sizes (t.args.map (stepR c)) ≤ 1000000; omega)).mono (R' := fun r w => reG (fun b => S b ∨ n1 ≤ b) N r w ∧ Ext _ w) (fun r w h => ⟨reG_of (S' := fun b => ((S b ∨ n1 ≤ b) ∧ b < _) ∨ _ ≤ b) (fun b hb => by rcases hb with h1 | h1; exact h1.1; exact .inr (Nat.le_trans hnb1 h1)) (by rw [hN]; exact h.1), h.2⟩)) ?_
    rintro _ w49 ⟨⟨xa, xc, ya, yc, rfl, hR4⟩, X49⟩
    replace Br := X49.keep Br
    replace Bo := X49.keep Bo
    replace E := E.ext X49
    refine s_storeAgg (b := bo) (o := 0) (c' := (R6 N xa xc ya yc)) rfl rfl (by simp [Value.oneCell']) siz25 rfl Bo (by first | (simp; done) | exact Nat.le_of_ble_eq_true rfl) rfl ?_
    intro w9 S9
    replace hR4 := ReIn.chg S9.chg (fun y hy h => by have h2 : y = bo := h; rcases hy with h1 | h1; have := hS y h1; omega; omega) _ hR4
    replace Br := S9.keep (by omega) Br
    replace E := S9.step E (by first | exact Or.inl (by omega) | exact Or.inr rfl | exact Or.inr (by assumption) | exact Or.inr (by simp) | exact Or.inr (by omega) | exact Or.inr (by dsimp only; omega))
    replace Bo := S9.blk
    refine WpL_nil (Wp_ret (inB_ret (thn_ret ?_)))
    refine fin_agg Tryz.results60 (vs := [(.int .i64 N.kind), (.slice xa N.set.length xc), (.slice ya N.args.length yc), (.int .i64 N.mn), (.int .i64 N.mx), (.bool N.neg)]) (b := bo) rfl agg25 siz25 rfl (Bo.cells rfl) ?_
    exact ⟨⟨_, rfl, ReIn.mono (fun y hy => by rcases hy with h1 | h1; exact .inl h1; exact .inr (by omega)) _ hR4⟩, E⟩
end Go.Proofs
namespace Go.Proofs
open Go Go.Eng Go.Sort
set_option maxRecDepth 100000
theorem step_c (c : Int) : ∀ n, n ≤ 301 → StepOkD c n
  | 0, _ => fun t _ _ _ h => absurd h (by omega)
  | n + 1, hn => fun t w0 S vs h hok ht hS => by
    have ih := step_c c n (by omega)
    have hks := hok.n.ks
    by_cases h0 : t.kind = 0 ∨ t.kind = 1
    · exact step_k0 c n ih t (by omega) (by omega) hok h0 w0 S vs ht hS
    by_cases h2 : t.kind = 2
    · exact step_k2 c n ih t (by omega) (by omega) hok h2 w0 S vs ht hS
    by_cases h3 : t.kind = 3
    · exact step_k3 c n ih t (by omega) (by omega) hok h3 w0 S vs ht hS
    by_cases h5 : t.kind = 5
    · exact step_k5 c n ih t (by omega) (by omega) hok h5 w0 S vs ht hS
    by_cases h6 : t.kind = 6
    · exact step_k6 c n ih t (by omega) (by omega) hok h6 w0 S vs ht hS
    exact step_k4 c n ih t (by omega) (by omega) hok (by omega) w0 S vs ht hS
mutual
theorem okv_sets : ∀ (t : Re), okRe t → setsOk t
  | .mk k set args mn mx ng, h => by
    have h1 := okRe_node h
    have h2 := okRe_form h
    have h3 := okRe_args h
    simp only [setsOk]
    refine ⟨?_, okvs_sets args h3⟩
    obtain ⟨ha, hb, hf⟩ := h2
    by_cases hk : k = 2
    · unfold nodeE at h1
      simp only [Re.kind] at ha hb
      rw [if_neg (by simp only [Re.kind]; omega), if_neg (by simp [hf]), if_pos (by simp only [Re.kind]; exact hk)] at h1
      split at h1
      · omega
      · rename_i hc
        simp only [Re.set] at hc
        unfold checkE at hc
        split at hc
        · omega
        · omega
    · simp only [formB, Bool.and_eq_true, Bool.or_eq_true, decide_eq_true_eq, Re.kind, Re.set] at hf
      have := hf.1.1.1.2.resolve_left (by simp [hk])
      simp at this
      rw [this]; simp
theorem okvs_sets : ∀ (ts : List Re), okRes ts → setsOks ts
  | [], _ => by simp only [setsOks]
  | t :: ts, h => by simp only [okRes] at h; simp only [setsOks]; exact ⟨okv_sets t h.1, okvs_sets ts h.2⟩
end
mutual
theorem tree_rein {S Z : Nat → Prop} {w : World} (hZ : ∀ x, Z x → S x) : ∀ (t : Re) {vs : List Value} {L : Nat → Prop}, Tree Z w t vs L → (∀ x, L x → S x) → ReIn S w t vs
  | .mk k set args mn mx ng, vs, L, h, hL => by
    simp only [Tree] at h
    obtain ⟨sa, sc, aa, ac, hv, hs, hn, ha⟩ := h
    simp only [ReIn]
    refine ⟨sa, sc, aa, ac, hv, hs.mono hZ, hn, ?_⟩
    rcases ha with h | ⟨b, rows, rest, L', h1, h2, h3, h4, h5, h6⟩
    · exact .inl h
    · refine .inr ⟨b, 0, hL b h1, h2, resin_of fun i t ht => ?_⟩
      obtain ⟨us, h7, h8⟩ := trees_rein hZ args h5 (fun x hx => hL x (h6 x hx).1) i t ht
      exact ⟨us, by rw [Nat.zero_add]; exact rows_at h3 h4 h7, h8⟩
theorem trees_rein {S Z : Nat → Prop} {w : World} (hZ : ∀ x, Z x → S x) : ∀ (ts : List Re) {rows : List (List Value)} {L : Nat → Prop}, Trees Z w ts rows L → (∀ x, L x → S x) → ∀ (i : Nat) (t : Re), ts[i]? = some t → ∃ vs, rows[i]? = some vs ∧ ReIn S w t vs
  | [], _, _, _, _, i, t, h => by simp at h
  | u :: ts, rows, L, h, hL, i, t, ht => by
    simp only [Trees] at h
    obtain ⟨vs, rs, L1, L2, rfl, h1, h2, h3, h4⟩ := h
    cases i with
    | zero => simp at ht; subst ht; exact ⟨vs, rfl, tree_rein hZ u h1 fun x hx => hL x (h3 x hx).1⟩
    | succ i =>
      obtain ⟨us, h5, h6⟩ := trees_rein hZ ts h2 (fun x hx => hL x (h4 x hx)) i t (by simpa using ht)
      exact ⟨us, by simpa using h5, h6⟩
end
set_option maxHeartbeats 1000000 in
theorem dchk_c (w0 : World) (t : Re) (vs : List Value) (ht : ReAt w0 t vs) :
  Ret Tryz.prog 14 #[.agg vs.toArray] w0 fun r w => r = .int .i64 (chkD t) ∧ Ext w0 w := by
 have ht0 := ht
 obtain ⟨sa, sc, aa, ac, rfl, hset, hlen, hargs⟩ := ht.form
 have hD : chkD t = if fitsE t 300 ≠ 0 then fitsE t 300 else if usesB [9, 10] t = true then 3 else 0 := rfl
 rw [hD]
 refine Ret_of Tryz.func14 rfl Tryz.ntmps14 (Nat.le_of_ble_eq_true rfl) ?_
 have E : Chg none1 w0 w0 := Chg.refl _ _
 refine Wp_seq_region ?_
 refine s_box (v := (.agg (R6 t sa sc aa ac))) (c := (R6 t sa sc aa ac)) (by decide) rfl rfl ?_
 intro br wr Nr
 have Fr := Nr.ge E
 replace E := E.ext Nr.ext
 have Br := Nr.blk
 refine qA (I6 0) rfl ?_
 refine WpL_nil (Wp_seq (Wp_seq_region ?_))
 refine qV (r_loadAgg (vs := [(I6 t.kind), (.slice sa t.set.length sc), (.slice aa t.args.length ac), (I6 t.mn), (I6 t.mx), (.bool t.neg)]) rfl agg25 siz25 rfl (Br.cells rfl)) ?_
 refine WpL_enter rfl rfl (by decide) (r_callF (vs := [(.agg (R6 t sa sc aa ac)), (I6 300)]) Tryz.func65 nm65 bd65 rfl) (fits_c _ t _ (ReAt.ext E t ht0) 300) ?_
 rintro _ w9 ⟨rfl, X9⟩
 replace Br := X9.keep Br
 replace E := E.ext X9
 refine qA (I6 (fitsE t 300)) rfl ?_
 refine WpL_nil (Wp_seq_region ?_)
 refine qM (I6 (fitsE t 300)) rfl ?_
 refine qV (r_neq (k := .i64) (a := fitsE t 300) (b := 0) rfl rfl) ?_
 refine WpL_nil ?_
 refine Wp_cond (b := decide ((fitsE t 300 : Int) ≠ 0)) rfl (fun hf => ?_) (fun hf => ?_)
 ·have khf := hf
  replace hf := of_decide_eq_true hf
  refine Wp_seq_region ?_
  refine qM (I6 (fitsE t 300)) rfl ?_
  refine qA (I6 (fitsE t 300)) rfl ?_
  refine WpL_nil (Wp_ret (thn_ret ?_))
  refine fin_tmp Tryz.results14 (v := (.int .i64 (fitsE t 300))) rfl ?_
  exact ⟨by rw [if_pos hf], E⟩
 ·have khf := hf
  replace hf := of_decide_eq_false hf
  refine Wp_skip (thn_normal (Wp_seq (Wp_seq_region ?_)))
  refine qV (r_loadAgg (vs := [(I6 t.kind), (.slice sa t.set.length sc), (.slice aa t.args.length ac), (I6 t.mn), (I6 t.mx), (.bool t.neg)]) rfl agg25 siz25 rfl (Br.cells rfl)) ?_
  refine s_buildSlice (ps := [(0, (I6 9)), (1, (I6 10))]) (c := #[(I6 9), (I6 10)]) (by decide) rfl Tryz.underlying26 siz3 zer3 (by decide) (by decide) (by kernel_rfl) ?_
  intro bk wk Nk
  have Fk := Nk.ge E
  have Ok_br := Nk.lt Br
  replace Br := Nk.keep Br
  replace E := E.ext Nk.ext
  have Bk := Nk.blk
  refine WpL_enter rfl rfl (by decide) (r_callF (vs := [(.agg (R6 t sa sc aa ac)), (.slice (some ⟨bk, 0, none⟩) 2 2)]) Tryz.func66 nm66 bd66 rfl) (uses_c _ t _ [9, 10] _ (ReAt.ext E t ht0) (ints_of_blk [9, 10] Bk (by simp) (by simp))) ?_
  rintro _ w19 ⟨rfl, X19⟩
  replace Br := X19.keep Br
  replace Bk := X19.keep Bk
  replace E := E.ext X19
  refine WpL_nil ?_
  refine Wp_cond (b := usesB [9, 10] t) rfl (fun hu => ?_) (fun hu => ?_)
  ·have khu := hu
   refine Wp_seq_region ?_
   refine qA (I6 3) rfl ?_
   refine WpL_nil (Wp_ret (thn_ret ?_))
   refine fin_tmp Tryz.results14 (v := (.int .i64 3)) rfl ?_
   exact ⟨by rw [if_neg hf, if_pos hu], E⟩
  ·have khu := hu
   refine Wp_skip (thn_normal (Wp_seq_region ?_))
   refine qA (I6 0) rfl ?_
   refine WpL_nil (Wp_ret ?_)
   refine fin_tmp Tryz.results14 (v := (.int .i64 0)) rfl ?_
   exact ⟨by rw [if_neg hf, if_neg (by rw [hu]; decide)], E⟩
end Go.Proofs
namespace Go.Proofs
open Go Go.Eng Go.Sort
set_option maxRecDepth 100000
theorem re_z {S : Nat → Prop} {w : World} : ReIn S w noneT [.int .i64 0, .slice none 0 0, .slice none 0 0, .int .i64 0, .int .i64 0, .bool false] := re_empty _ _ 0
set_option maxHeartbeats 1000000 in
theorem dby_c (w0 : World) (S : Nat → Prop) (t : Re) (vs : List Value) (c : Int) (ht : ReIn S w0 t vs) (hS : ∀ x, S x → x < w0.heap.size) :
  Ret Tryz.prog 11 #[.agg vs.toArray, .int .i64 c] w0 fun r w => (∃ us, r = .tuple #[.agg us.toArray, .int .i64 (byE t c)] ∧ ReIn (fun b => w0.heap.size ≤ b) w (byD t c) us) ∧ Ext w0 w := by
 have ht0 := ht
 obtain ⟨sa, sc, aa, ac, rfl, hset, hlen, hargs⟩ := ht.form
 have hE : byE t c = if chkD t ≠ 0 then chkD t else if runeB c = false then 1 else if 300 < (stepR c (simR t)).size then 2 else 0 := rfl
 have hB : byD t c = if byE t c = 0 then stepR c (simR t) else noneT := rfl
 refine Ret_of Tryz.func11 rfl Tryz.ntmps11 (Nat.le_of_ble_eq_true rfl) ?_
 have E : Chg none1 w0 w0 := Chg.refl _ _
 refine Wp_seq_region ?_
 refine s_box (v := (.agg (R6 t sa sc aa ac))) (c := (R6 t sa sc aa ac)) (by decide) rfl rfl ?_
 intro br wr Nr
 have Fr := Nr.ge E
 replace E := E.ext Nr.ext
 have Br := Nr.blk
 refine s_alloc (c := #[(I6 0), (.slice none 0 0), (.slice none 0 0), (I6 0), (I6 0), (.bool false)]) (by decide) zer25 rfl ?_
 intro bo wo No
 have Fo := No.ge E
 have Oo_br := No.lt Br
 replace Br := No.keep Br
 replace E := E.ext No.ext
 have Bo := No.blk
 refine qA (I6 0) rfl ?_
 refine WpL_nil (Wp_seq (Wp_seq_region ?_))
 refine qV (r_loadAgg (vs := [(I6 t.kind), (.slice sa t.set.length sc), (.slice aa t.args.length ac), (I6 t.mn), (I6 t.mx), (.bool t.neg)]) rfl agg25 siz25 rfl (Br.cells rfl)) ?_
 refine WpL_enter rfl rfl (by decide) (r_callF (vs := [(.agg (R6 t sa sc aa ac))]) Tryz.func14 nm14 bd14 rfl) (dchk_c _ t _ (ReIn.at t (ReIn.ext E t ht0))) ?_
 rintro _ w9 ⟨rfl, X9⟩
 replace Br := X9.keep Br
 replace Bo := X9.keep Bo
 replace E := E.ext X9
 refine qA (I6 (chkD t)) rfl ?_
 refine WpL_nil (Wp_seq_region ?_)
 refine qM (I6 (chkD t)) rfl ?_
 refine qV (r_neq (k := .i64) (a := chkD t) (b := 0) rfl rfl) ?_
 refine WpL_nil ?_
 refine Wp_cond (b := decide ((chkD t : Int) ≠ 0)) rfl (fun hf => ?_) (fun hf => ?_)
 ·have khf := hf
  replace hf := of_decide_eq_true hf
  refine Wp_seq_region ?_
  refine qV (r_build (ps := []) (v := (.agg #[(I6 0), (.slice none 0 0), (.slice none 0 0), (I6 0), (I6 0), (.bool false)])) rfl (by kernel_rfl)) ?_
  refine qM (I6 (chkD t)) rfl ?_
  refine s_storeAgg (b := bo) (o := 0) (c' := #[(I6 0), (.slice none 0 0), (.slice none 0 0), (I6 0), (I6 0), (.bool false)]) rfl rfl (by simp [Value.oneCell']) siz25 rfl Bo (by first | (simp; done) | exact Nat.le_of_ble_eq_true rfl) rfl ?_
  intro w2 S2
  replace Br := S2.keep (by omega) Br
  replace E := S2.step E (by first | exact Or.inl (by omega) | exact Or.inr rfl | exact Or.inr (by assumption) | exact Or.inr (by simp) | exact Or.inr (by omega) | exact Or.inr (by dsimp only; omega))
  replace Bo := S2.blk
  refine qA (I6 (chkD t)) rfl ?_
  refine WpL_nil (Wp_ret (thn_ret ?_))
  refine fin_agg_tmp Tryz.results11 (vs := [(.int .i64 0), (.slice none 0 0), (.slice none 0 0), (.int .i64 0), (.int .i64 0), (.bool false)]) (b := bo) (v' := (.int .i64 (chkD t))) rfl agg25 siz25 rfl (Bo.cells rfl) rfl ?_
  exact ⟨⟨_, by rw [hE, if_pos hf], by rw [hB, if_neg (by rw [hE, if_pos hf]; exact hf)]; exact re_z⟩, E⟩
 ·have khf := hf
  replace hf := of_decide_eq_false hf
  have hc0 : chkD t = 0 := by omega
  obtain ⟨hok, hsz, hu, hsim, hsimz⟩ := chkD_zero hc0
  refine Wp_skip (thn_normal (Wp_seq (Wp_seq_region ?_)))
  refine qM (I6 c) rfl ?_
  refine WpL_enter rfl rfl (by decide) (r_callF (vs := [(I6 c)]) Tryz.func59 nm59 bd59 rfl) (rune_c _ _) ?_
  rintro _ w19 ⟨rfl, X19⟩
  replace Br := X19.keep Br
  replace Bo := X19.keep Bo
  replace E := E.ext X19
  refine qV (r_not (b := runeB c) rfl) ?_
  refine WpL_nil ?_
  refine Wp_cond (b := !(runeB c)) rfl (fun hr => ?_) (fun hr => ?_)
  ·have khr := hr
   replace hr := by simpa using hr
   have hr0 : runeB c = false := by simpa using hr
   refine Wp_seq_region ?_
   refine qV (r_build (ps := []) (v := (.agg #[(I6 0), (.slice none 0 0), (.slice none 0 0), (I6 0), (I6 0), (.bool false)])) rfl (by kernel_rfl)) ?_
   refine s_storeAgg (b := bo) (o := 0) (c' := #[(I6 0), (.slice none 0 0), (.slice none 0 0), (I6 0), (I6 0), (.bool false)]) rfl rfl (by simp [Value.oneCell']) siz25 rfl Bo (by first | (simp; done) | exact Nat.le_of_ble_eq_true rfl) rfl ?_
   intro w4 S4
   replace Br := S4.keep (by omega) Br
   replace E := S4.step E (by first | exact Or.inl (by omega) | exact Or.inr rfl | exact Or.inr (by assumption) | exact Or.inr (by simp) | exact Or.inr (by omega) | exact Or.inr (by dsimp only; omega))
   replace Bo := S4.blk
   refine qA (I6 1) rfl ?_
   refine WpL_nil (Wp_ret (thn_ret ?_))
   refine fin_agg_tmp Tryz.results11 (vs := [(.int .i64 0), (.slice none 0 0), (.slice none 0 0), (.int .i64 0), (.int .i64 0), (.bool false)]) (b := bo) (v' := (.int .i64 1)) rfl agg25 siz25 rfl (Bo.cells rfl) rfl ?_
   exact ⟨⟨_, by rw [hE, if_neg hf, if_pos hr0], by rw [hB, if_neg (by rw [hE, if_neg hf, if_pos hr0]; decide)]; exact re_z⟩, E⟩
  ·have khr := hr
   replace hr := by simpa using hr
   have hr0 : ¬ runeB c = false := by simpa using hr
   obtain ⟨M, hM⟩ : ∃ M, M = simR t := ⟨_, rfl⟩
   obtain ⟨D, hD⟩ : ∃ D, D = stepR c M := ⟨_, rfl⟩
   have hDz : D.size ≤ 200000 := by rw [hD, hM]; exact step_small hsim (by omega)
   have hDo : SimOk D := by rw [hD, hM]; exact step_ok c hsim
   refine Wp_skip (thn_normal (Wp_seq_region ?_))
   refine qV (r_loadAgg (vs := [(I6 t.kind), (.slice sa t.set.length sc), (.slice aa t.args.length ac), (I6 t.mn), (I6 t.mx), (.bool t.neg)]) rfl agg25 siz25 rfl (Br.cells rfl)) ?_
   obtain ⟨n1, hn1⟩ : ∃ n1, n1 = w19.heap.size := ⟨_, rfl⟩
   have hob : bo < n1 ∧ w0.heap.size ≤ bo := ⟨by rw [hn1]; exact Bo.lt, by omega⟩
   refine WpL_enter rfl rfl (by decide) (r_callF (vs := [(.agg (R6 t sa sc aa ac))]) Tryz.func58 nm58 bd58 rfl) ((dsim_c 300 t _ S _ hsz (by omega) hok hu (ReIn.ext E t ht0) (fun y hy => by have := hS y hy; have := E.size; omega)).mono (R' := fun r w => reG (fun b => S b ∨ n1 ≤ b) M r w ∧ Ext w19 w) (fun r w h => ⟨reG_of (S' := fun b => S b ∨ w19.heap.size ≤ b) (fun b hb => by rcases hb with h1 | h1; exact .inl h1; exact .inr (by omega)) (by rw [hM]; exact h.1), h.2⟩)) ?_
   rintro _ w29 ⟨⟨xa, xc, ya, yc, rfl, hR4⟩, X29⟩
   replace Br := X29.keep Br
   replace Bo := X29.keep Bo
   replace E := E.ext X29
   refine qM (I6 c) rfl ?_
   refine WpL_enter rfl rfl (by decide) (r_callF (vs := [(.agg (R6 M xa xc ya yc)), (I6 c)]) Tryz.func60 nm60 bd60 rfl) ((step_c c 301 (by omega) M _ _ _ (by rw [hM]; omega) (by rw [hM]; exact hsim) (ReIn.lt _ hR4) (fun y hy => hy.2)).mono (R' := fun r w => reG (fun _ => True) D r w ∧ Ext w29 w) (fun r w h => ⟨reG_of (S' := fun b => ((S b ∨ n1 ≤ b) ∧ b < w29.heap.size) ∨ w29.heap.size ≤ b) (fun b hb => trivial) (by rw [hD]; exact h.1), h.2⟩)) ?_
   rintro _ w39 ⟨⟨da, dc, ea, ec, rfl, hR5⟩, X39⟩
   replace Br := X39.keep Br
   replace Bo := X39.keep Bo
   replace E := E.ext X39
   have hR6 := ReIn.lt D hR5
   obtain ⟨h39, hh39⟩ : ∃ h, h = w39.heap.size := ⟨_, rfl⟩
   rw [← hh39] at hR6
   have E3 : Chg none1 w39 w39 := Chg.refl _ _
   refine s_allocStore (v := (.agg (R6 D da dc ea ec))) (c := (R6 D da dc ea ec)) (n := 6) (by decide) zer25 rfl siz25 rfl rfl rfl (by simp [Value.oneCell']) ?_
   intro bq wq Nq
   have Fq := Nq.ge E
   have Fq_E3 := Nq.ge E3
   have Oq_br := Nq.lt Br
   have Oq_bo := Nq.lt Bo
   replace Br := Nq.keep Br
   replace Bo := Nq.keep Bo
   replace hR6 := ReIn.ext Nq.ext _ hR6
   replace E := E.ext Nq.ext
   have Bq := Nq.blk
   replace E3 := E3.ext Nq.ext
   refine WpL_nil (Wp_seq (Wp_seq_region ?_))
   refine qV (r_loadAgg (vs := [(I6 D.kind), (.slice da D.set.length dc), (.slice ea D.args.length ec), (I6 D.mn), (I6 D.mx), (.bool D.neg)]) rfl agg25 siz25 rfl (Bq.cells rfl)) ?_
   refine WpL_enter rfl rfl (by decide) (r_callF (vs := [(.agg (R6 D da dc ea ec))]) Tryz.func61 nm61 bd61 rfl) (size_c _ D _ (ReIn.at D hR6) (by omega)) ?_
   rintro _ w49 ⟨rfl, X49⟩
   replace Br := X49.keep Br
   replace Bo := X49.keep Bo
   replace Bq := X49.keep Bq
   replace hR6 := ReIn.ext X49 _ hR6
   replace E := E.ext X49
   replace E3 := E3.ext X49
   refine qV (r_gtr (k := .i64) (a := (D.size : Int)) (b := 300) rfl rfl) ?_
   refine WpL_nil ?_
   refine Wp_cond (b := decide ((300 : Int) < (D.size : Int))) rfl (fun hz => ?_) (fun hz => ?_)
   ·have khz := hz
    replace hz := of_decide_eq_true hz
    refine Wp_seq_region ?_
    refine qV (r_build (ps := []) (v := (.agg #[(I6 0), (.slice none 0 0), (.slice none 0 0), (I6 0), (I6 0), (.bool false)])) rfl (by kernel_rfl)) ?_
    refine s_storeAgg (b := bo) (o := 0) (c' := #[(I6 0), (.slice none 0 0), (.slice none 0 0), (I6 0), (I6 0), (.bool false)]) rfl rfl (by simp [Value.oneCell']) siz25 rfl Bo (by first | (simp; done) | exact Nat.le_of_ble_eq_true rfl) rfl ?_
    intro w6 S6
    replace Br := S6.keep (by omega) Br
    replace Bq := S6.keep (by omega) Bq
    replace E := S6.step E (by first | exact Or.inl (by omega) | exact Or.inr rfl | exact Or.inr (by assumption) | exact Or.inr (by simp) | exact Or.inr (by omega) | exact Or.inr (by dsimp only; omega))
    replace Bo := S6.blk
    refine qA (I6 2) rfl ?_
    refine WpL_nil (Wp_ret (thn_ret ?_))
    refine fin_agg_tmp Tryz.results11 (vs := [(.int .i64 0), (.slice none 0 0), (.slice none 0 0), (.int .i64 0), (.int .i64 0), (.bool false)]) (b := bo) (v' := (.int .i64 2)) rfl agg25 siz25 rfl (Bo.cells rfl) rfl ?_
    exact ⟨⟨_, by rw [hE, if_neg hf, if_neg hr0, if_pos (by rw [← hM, ← hD]; omega)], by rw [hB, if_neg (by rw [hE, if_neg hf, if_neg hr0, if_pos (by rw [← hM, ← hD]; omega)]; decide)]; exact re_z⟩, E⟩
   ·have khz := hz
    replace hz := of_decide_eq_false hz
    have hbo49 : bo < (w49).heap.size := by have := E3.size; have := X29.size; have := X39.size; omega
    refine Wp_skip (thn_normal (Wp_seq_region ?_))
    refine qV (r_loadAgg (vs := [(I6 D.kind), (.slice da D.set.length dc), (.slice ea D.args.length ec), (I6 D.mn), (I6 D.mx), (.bool D.neg)]) rfl agg25 siz25 rfl (Bq.cells rfl)) ?_
    refine WpL_enter rfl rfl (by decide) (r_callF (vs := [(.agg (R6 D da dc ea ec))]) Tryz.func57 nm57 bd57 rfl) (copy_c D.size D _ _ (Nat.le_refl _) (by omega) (okv_sets D (sim_valid hDo).1) (ReIn.at D hR6)) ?_
    rintro _ w59 ⟨⟨us, Z, L, rfl, hTr, hZL, hnew⟩, X59⟩
    replace Br := X59.keep Br
    replace Bo := X59.keep Bo
    replace Bq := X59.keep Bq
    replace hR6 := ReIn.ext X59 _ hR6
    replace E := E.ext X59
    replace E3 := E3.ext X59
    have hR7 := tree_rein (S := fun b => bo < b) (fun x hx => by have := (hnew x (.inl hx)).1; omega) D hTr (fun x hx => by have := (hnew x (.inr hx)).1; omega)
    obtain ⟨fa, fc, ga, gc, rfl, _, _, _⟩ := hTr.form
    refine s_storeAgg (b := bo) (o := 0) (c' := (R6 D fa fc ga gc)) rfl rfl (by simp [Value.oneCell']) siz25 rfl Bo (by first | (simp; done) | exact Nat.le_of_ble_eq_true rfl) rfl ?_
    intro w7 S7
    replace hR7 := ReIn.chg S7.chg (fun y hy h => by have h2 : y = bo := h; have h3 : bo < y := hy; omega) _ hR7
    replace Br := S7.keep (by omega) Br
    replace Bq := S7.keep (by omega) Bq
    replace E := S7.step E (by first | exact Or.inl (by omega) | exact Or.inr rfl | exact Or.inr (by assumption) | exact Or.inr (by simp) | exact Or.inr (by omega) | exact Or.inr (by dsimp only; omega))
    replace Bo := S7.blk
    refine qA (I6 0) rfl ?_
    refine WpL_nil (Wp_ret ?_)
    refine fin_agg_tmp Tryz.results11 (vs := [(.int .i64 D.kind), (.slice fa D.set.length fc), (.slice ga D.args.length gc), (.int .i64 D.mn), (.int .i64 D.mx), (.bool D.neg)]) (b := bo) (v' := (.int .i64 0)) rfl agg25 siz25 rfl (Bo.cells rfl) rfl ?_
    exact ⟨⟨_, by rw [hE, if_neg hf, if_neg hr0, if_neg (by rw [← hM, ← hD]; omega)], by rw [hB, if_pos (by rw [hE, if_neg hf, if_neg hr0, if_neg (by rw [← hM, ← hD]; omega)]), ← hM, ← hD]; exact ReIn.mono (fun y (hy : bo < y) => by omega) _ hR7⟩, E⟩
end Go.Proofs
namespace Go.Proofs
open Go Go.Eng Go.Sort
set_option maxRecDepth 100000
theorem fin_tmp4 {P : Program} {fn : Func} {R : Value → World → Prop} {t1 t2 t3 t4 : Nat} (hr : fn.results = #[.tmp t1, .tmp t2, .tmp t3, .tmp t4]) {σ : Env} {w : World} {v1 v2 v3 v4 : Value} (h1 : σ t1 = v1) (h2 : σ t2 = v2) (h3 : σ t3 = v3) (h4 : σ t4 = v4) (h : R (.tuple #[v1, v2, v3, v4]) w) : fin P fn R .ret σ w :=
 ⟨.tuple #[v1, v2, v3, v4], fun a ha => by subst ha; rw [← h1, ← h2, ← h3, ← h4]; simp [results, hr, env], h⟩
theorem clsP_err {ll out : List (List Sp)} {e : Int} (h : clsP ll out e) (hv : ∀ l ∈ ll, checkE l = 0) (he : e ≠ 0) : e = 2 := by
 rcases h with ⟨h1, _⟩ | ⟨_, cs, _, ⟨_, h2, _⟩ | ⟨_, h2, _⟩⟩
 ·exact absurd (badE_zeroY hv) h1
 ·exact h2
 ·exact absurd h2 he
theorem clsP_ok {ll out : List (List Sp)} {e : Int} (h : clsP ll out e) (hv : ∀ l ∈ ll, checkE l = 0) (he : e = 0) : clsL ll out ∧ out.length ≤ 16 := by
 rcases h with ⟨h1, _⟩ | ⟨_, cs, h0, ⟨_, h2, _⟩ | ⟨h3, h2, rfl⟩⟩
 ·exact absurd (badE_zeroY hv) h1
 ·omega
 ·refine ⟨h0, ?_⟩
  unfold largeB at h3
  exact Nat.le_of_not_lt fun h => h3 (.inr h)
def GoodC (cl : List Sp) (x : Re) (L : List Re) : Prop := (stepR (headLo cl) x).size ≤ 300 ∧ ((stepR (headLo cl) x).kind = 0 ∨ stepR (headLo cl) x ∈ L)
theorem GoodC.push {cl : List Sp} {x y : Re} {L : List Re} (h : GoodC cl x L) : GoodC cl x (L ++ [y]) := ⟨h.1, h.2.imp id fun h => List.mem_append_left _ h⟩
theorem FamD.next {cs : List (List Sp)} {i : Nat} {L : List Re} {x : Re} (h : FamD cs i L) (hx : L[i]? = some x) (hg : ∀ cl ∈ cs, GoodC cl x L) : FamD cs (i + 1) L := fun j y hj hy cl hc => by
 rcases Nat.lt_or_ge j i with h1 | h1
 ·exact h j y h1 hy cl hc
 ·obtain rfl : j = i := by omega
  rw [hx] at hy; cases hy
  exact hg cl hc
theorem good_take {cs : List (List Sp)} {k : Nat} {cl : List Sp} {x : Re} {L : List Re} (hk : cs[k]? = some cl) (h : ∀ c ∈ cs.take k, GoodC c x L) (hg : GoodC cl x L) : ∀ c ∈ cs.take (k + 1), GoodC c x L := fun c hc => by
 rw [List.take_add_one, hk, Option.toList_some] at hc
 rcases List.mem_append.1 hc with h1 | h1
 ·exact h c h1
 ·rw [List.mem_singleton.1 h1]; exact hg
theorem rest_rsY {S S' : Nat → Prop} {w : World} {n0 m c : Nat} {a : Option Addr} {ts : List Re} {rows : List (List Value)} (hown : w.ownsRow n0 TRe 6 (.slice a m c) m rows.flatten) (hR : RowsIn S w ts rows) (hm : ts.length = m) (hS' : ∀ y, S y → S' y) (hn : ∀ y, n0 ≤ y → S' y) : RsIn S' w (.slice a m c) ts := by
 subst hm
 obtain ⟨h1, h2⟩ := own_res hown hR rfl
 refine ⟨a, c, rfl, h1, ?_⟩
 rcases h2 with h | ⟨b, hb, _, h3, h4⟩
 ·exact .inl h
 ·exact .inr ⟨b, 0, hn b hb, h3, resin_of fun i t ht => by obtain ⟨vs, h6, h7⟩ := h4 i t ht; exact ⟨vs, h6, ReIn.mono hS' t h7⟩⟩
/-- A list of expressions of one's own. -/
structure ListR (S : Nat → Prop) (z0 n1 : Nat) (w : World) (v : Value) (L : List Re) (T : Nat → Prop) : Prop where
 o : ∃ rows, w.ownsRow n1 TRe 6 v L.length rows.flatten ∧ RowsIn T w L rows
 t : ∀ y, T y → (S y ∨ z0 ≤ y) ∧ y < w.heap.size
 n : ∀ b, v.ownBlock = some b → ¬ T b
section
variable {S T M : Nat → Prop} {z0 n1 : Nat} {w w' : World} {v : Value} {L : List Re}
theorem ListR.lt (h : ListR S z0 n1 w v L T) : ∀ b, v.ownBlock = some b → n1 ≤ b ∧ b < w.heap.size := fun b hb => by obtain ⟨rows, ho, _⟩ := h.o; exact ho.lt b hb
theorem ListR.chg (h : ListR S z0 n1 w v L T) (c : Chg M w w') (h1 : ∀ b, v.ownBlock = some b → ¬ M b) (h2 : ∀ b, T b → ¬ M b) : ListR S z0 n1 w' v L T := by
 obtain ⟨rows, ho, hr⟩ := h.o
 exact ⟨⟨rows, own_chg ho c h1, RowsIn.chg c h2 hr⟩, fun y hy => ⟨(h.t y hy).1, Nat.lt_of_lt_of_le (h.t y hy).2 c.size⟩, h.n⟩
theorem ListR.ext (h : ListR S z0 n1 w v L T) (e : Ext w w') : ListR S z0 n1 w' v L T := h.chg e (fun _ _ f => f) fun _ _ f => f
theorem ListR.rs {a : Option Addr} {c : Nat} (h : ListR S z0 n1 w (.slice a L.length c) L T) (hz : z0 ≤ n1) : RsIn (fun b => S b ∨ z0 ≤ b) w (.slice a L.length c) L := by
 obtain ⟨rows, ho, hr⟩ := h.o
 exact rest_rsY ho (RowsIn.mono (fun y hy => (h.t y hy).1) hr) rfl (fun y hy => hy) fun y hy => .inr (by omega)
theorem ListR.get {b : Nat} {o c i : Nat} {x : Re} (h : ListR S z0 n1 w (.slice (some ⟨b, o, none⟩) L.length c) L T) (hx : L[i]? = some x) : ∃ vs, CellsAt w b (o + i * 6) vs ∧ ReIn T w x vs := by
 obtain ⟨rows, ho, hr⟩ := h.o
 obtain ⟨_, h2⟩ := own_res ho hr rfl
 obtain ⟨b', _, _, h3, h4⟩ := h2.resolve_left (fun h => by rw [h] at hx; simp at hx)
 simp only [Option.some.injEq, Addr.mk.injEq] at h3
 obtain ⟨rfl, rfl, _⟩ := h3
 exact h4 i x hx
theorem ListR.at {a : Option Addr} {c i : Nat} {x : Re} (h : ListR S z0 n1 w (.slice a L.length c) L T) (hx : L[i]? = some x) : ∃ b, a = some ⟨b, 0, none⟩ ∧ ∃ vs, CellsAt w b (0 + i * 6) vs ∧ ReIn T w x vs := by
 obtain ⟨rows, ho, hr⟩ := h.o
 obtain ⟨_, h2⟩ := own_res ho hr rfl
 obtain ⟨b', _, _, h3, h4⟩ := h2.resolve_left (fun h => by rw [h] at hx; simp at hx)
 exact ⟨b', h3, h4 i x hx⟩
theorem setV {l : List Value} {k : Nat} (v : Value) : l.toArray.setIfInBounds (0 + k) v = (l.set k v).toArray := by
 apply Array.ext'
 rw [Array.toList_setIfInBounds, Nat.zero_add]
theorem getV {l : List Value} {k : Nat} {v : Value} (h : k < l.length) : (l.set k v).toArray[0 + k]? = some v := by
 rw [Nat.zero_add, List.getElem?_toArray, List.getElem?_set_self h]
/-- One more. -/
theorem ListR.push {w1 : World} {v' : Value} {x : Re} {us : List Value} {n0 : Nat} {rows : List (List Value)} (h : ListR S z0 n1 w v L T) (hr : RowsIn T w L rows) (hx : ReIn (fun b => T b ∨ (n0 ≤ b ∧ b < w.heap.size)) w x us) (hn : ∀ b, v.ownBlock = some b → b < n0) (hz : z0 ≤ n0)
  (hO : w1.ownsRow n1 TRe 6 v' (L.length + 1) (rows.flatten ++ us)) (C : Chg (fun x => v.ownBlock = some x) w w1) (hD : ∀ k, v'.ownBlock = some k → v.ownBlock = some k ∨ w.heap.size ≤ k) :
  ListR S z0 n1 w1 v' (L ++ [x]) (fun b => T b ∨ (n0 ≤ b ∧ b < w.heap.size)) := by
 have hs := C.size
 have hT2 : ∀ b, (T b ∨ (n0 ≤ b ∧ b < w.heap.size)) → ¬ v.ownBlock = some b := fun b hb hv => by
  rcases hb with hb | hb
  ·exact h.n b hv hb
  ·have := hn b hv; omega
 refine ⟨⟨rows ++ [us], ?_, ?_⟩, fun y hy => ?_, fun b hb hy => ?_⟩
 ·rw [List.length_append, List.flatten_append, List.flatten_singleton]
  exact hO
 ·exact RowsIn.append (RowsIn.single (ReIn.chg C (fun b hb hm => hT2 b hb hm) x hx)) (RowsIn.mono (fun b hb => .inl hb) (RowsIn.chg C (fun b hb hm => hT2 b (.inl hb) hm) hr))
 ·rcases hy with hy | hy
  ·exact ⟨(h.t y hy).1, by have := (h.t y hy).2; omega⟩
  ·exact ⟨.inr (by omega), by omega⟩
 ·rcases hD b hb with h1 | h1
  ·exact hT2 b hy h1
  ·rcases hy with hy | hy
   ·have := (h.t b hy).2; omega
   ·omega
end
theorem fam1_c (w0 : World) (bz : Nat) (x D : Re) (xs ds : List Value) (hB : Blk w0 bz ds.toArray 25) (hd : ReAt w0 D ds) (hx : ReAt w0 x xs) :
  Ret Tryz.prog 137 #[.agg xs.toArray, .pointer (some ⟨bz, 0, none⟩)] w0 fun r w => r = .bool (sameT x D) ∧ Ext w0 w := by
 have hx0 := hx
 have hd0 := hd
 obtain ⟨sa, sc, aa, ac, rfl, _, _, _⟩ := hx.form
 obtain ⟨sa2, sc2, aa2, ac2, rfl, _, _, _⟩ := hd.form
 refine Ret_of Tryz.func137 rfl Tryz.ntmps137 (Nat.le_of_ble_eq_true rfl) ?_
 have E : Chg none1 w0 w0 := Chg.refl _ _
 refine Wp_seq_region ?_
 refine s_box (v := (.agg (R6 x sa sc aa ac))) (c := (R6 x sa sc aa ac)) (by decide) rfl rfl ?_
 intro br wr Nr
 have Fr := Nr.ge E
 have Or_bz := Nr.lt hB
 replace hB := Nr.keep hB
 replace E := E.ext Nr.ext
 have Br := Nr.blk
 refine qA (.bool false) rfl ?_
 refine WpL_nil (Wp_seq_region ?_)
 refine qV (r_loadAgg (vs := [(I6 x.kind), (.slice sa x.set.length sc), (.slice aa x.args.length ac), (I6 x.mn), (I6 x.mx), (.bool x.neg)]) rfl agg25 siz25 rfl (Br.cells rfl)) ?_
 refine qV (r_loadAgg (vs := [(I6 D.kind), (.slice sa2 D.set.length sc2), (.slice aa2 D.args.length ac2), (I6 D.mn), (I6 D.mx), (.bool D.neg)]) rfl agg25 siz25 rfl (hB.cells rfl)) ?_
 refine WpL_enter rfl rfl (by decide) (r_callF (vs := [(.agg (R6 x sa sc aa ac)), (.agg (R6 D sa2 sc2 aa2 ac2))]) Tryz.func25 nm25 bd25 rfl) (resame_c x.size x D _ _ _ (Nat.le_refl _) (ReAt.ext E x hx0) (ReAt.ext E D hd0)) ?_
 rintro _ w9 ⟨rfl, X9⟩
 replace hB := X9.keep hB
 replace Br := X9.keep Br
 replace E := E.ext X9
 refine qA (.bool (sameT x D)) rfl ?_
 refine WpL_nil (Wp_ret ?_)
 refine fin_tmp Tryz.results137 (v := (.bool (sameT x D))) rfl ?_
 exact ⟨rfl, E⟩
end Go.Proofs
namespace Go.Proofs
open Go Go.Eng Go.Sort
set_option maxRecDepth 100000
abbrev TIsY : Nat := 26
def FamRes (S : Nat → Prop) (z0 : Nat) (t : Re) (v : Value) (w : World) : Prop :=
 v = .tuple #[.slice none 0 0, .slice none 0 0, .slice none 0 0, .int .i64 2] ∨ ∃ (L : List Re) (cs : List (List Sp)) (la : Option Addr) (lc : Nat) (ca : Option Addr) (cn cc : Nat) (na : Option Addr) (nn nc : Nat), v = .tuple #[.slice la L.length lc, .slice ca cn cc, .slice na nn nc, .int .i64 0] ∧ RsIn (fun b => S b ∨ z0 ≤ b) w (.slice la L.length lc) L ∧ Fam t L ∧ FamD cs L.length L ∧ clsL (setsL t) cs ∧ L.length ≤ 200
set_option maxHeartbeats 8000000 in
theorem family_c (w0 : World) (S : Nat → Prop) (t : Re) (vs : List Value) (ht : ReIn S w0 t vs) (hS : ∀ x, S x → x < w0.heap.size) (hc0 : chkD t = 0) :
    Ret Tryz.prog 79 #[.agg vs.toArray] w0 fun v w => FamRes S w0.heap.size t v w ∧ Ext w0 w := by
  have ht0 := ht
  obtain ⟨sa, sc, aa, ac, rfl, hset, hlen, hargs⟩ := ht.form
  obtain ⟨hok, hsz, hu, hsim, hsimz⟩ := chkD_zero hc0
  have hv := valid_sets hok hu
  have hall := all_sets hv
  have hslen := sets_len t
  have hsfew := flat_few hall
  obtain ⟨z0, hz0⟩ : ∃ z, z = w0.heap.size := ⟨_, rfl⟩
  rw [← hz0]
  refine Ret_of Tryz.func79 rfl Tryz.ntmps79 (Nat.le_of_ble_eq_true rfl) ?_
  have E : Chg none1 w0 w0 := Chg.refl _ _
  refine Wp_seq_region ?_
  refine s_box (v := (.agg (R6 t sa sc aa ac))) (c := (R6 t sa sc aa ac)) (by decide) rfl rfl ?_
  intro br wr Nr
  have Fr := Nr.ge E
  replace E := E.ext Nr.ext
  have Br := Nr.blk
  refine qA (.slice none 0 0) rfl ?_
  refine qA (.slice none 0 0) rfl ?_
  refine qA (.slice none 0 0) rfl ?_
  refine qA (I6 0) rfl ?_
  refine WpL_nil (Wp_seq (Wp_seq_region ?_))
  refine qV (r_loadAgg (vs := [(I6 t.kind), (.slice sa t.set.length sc), (.slice aa t.args.length ac), (I6 t.mn), (I6 t.mx), (.bool t.neg)]) rfl agg25 siz25 rfl (Br.cells rfl)) ?_
  refine WpL_enter rfl rfl (by decide) (r_callF (vs := [(.agg (R6 t sa sc aa ac))]) Tryz.func14 nm14 bd14 rfl) (dchk_c _ t _ (ReIn.at t (ReIn.ext E t ht0))) ?_
  rintro _ w9 ⟨rfl, X9⟩
  replace Br := X9.keep Br
  replace E := E.ext X9
  refine qA (I6 (chkD t)) rfl ?_
  refine WpL_nil (Wp_seq_region ?_)
  refine qM (I6 (chkD t)) rfl ?_
  refine qV (r_neq (k := .i64) (a := chkD t) (b := 0) rfl rfl) ?_
  refine WpL_nil ?_
  have hc1 : (decide ((chkD t : Int) ≠ 0)) = false := by simp [hc0]
  refine Wp_cond_false (congrArg Value.bool hc1) ?_
  refine Wp_skip (thn_normal (Wp_seq_region ?_))
  refine qV (r_loadAgg (vs := [(I6 t.kind), (.slice sa t.set.length sc), (.slice aa t.args.length ac), (I6 t.mn), (I6 t.mx), (.bool t.neg)]) rfl agg25 siz25 rfl (Br.cells rfl)) ?_
  refine WpL_enter rfl rfl (by decide) (r_callF (vs := [(.agg (R6 t sa sc aa ac))]) Tryz.func104 nm104 bd104 rfl) ((all_c _ t _ (ReIn.at t (ReIn.ext E t ht0)) hv (by omega)).mono (R' := fun v w => (∃ a c, v = .slice a (setsL t).length c ∧ SpssAt w (.slice a (setsL t).length c) (setsL t)) ∧ Ext _ w) (fun v w h => ⟨by obtain ⟨a, c, h1, _⟩ := h.1.form; exact ⟨a, c, h1, h1 ▸ h.1⟩, h.2⟩)) ?_
  rintro _ w19 ⟨⟨aa9, ac9, rfl, hsp⟩, X19⟩
  replace Br := X19.keep Br
  replace E := E.ext X19
  refine WpL_enter rfl rfl (by decide) (r_callF (vs := [(.slice aa9 ((setsL t).length) ac9)]) Tryz.func103 nm103 bd103 rfl) (clsOf_c _ _ (setsL t) hsp (by omega) (by omega)) ?_
  rintro _ w29 ⟨⟨cs, e, hcp, ca, cc, rfl, hcs⟩, X29⟩
  replace Br := X29.keep Br
  replace E := E.ext X29
  refine qM (.tuple #[(.slice ca cs.length cc), (I6 e)]) rfl ?_
  refine qV (r_extract (vs := #[(.slice ca cs.length cc), (I6 e)]) (v := (.slice ca cs.length cc)) rfl rfl) ?_
  refine qV (r_extract (vs := #[(.slice ca cs.length cc), (I6 e)]) (v := (I6 e)) rfl rfl) ?_
  refine qA (.slice ca cs.length cc) rfl ?_
  refine qA (I6 e) rfl ?_
  refine WpL_nil (Wp_seq (Wp_seq_region ?_))
  refine qM (I6 e) rfl ?_
  refine qV (r_neq (k := .i64) (a := e) (b := 0) rfl rfl) ?_
  refine WpL_nil ?_
  refine Wp_cond (b := decide ((e : Int) ≠ 0)) rfl (fun he => ?_) (fun he => ?_)
  · have khe := he
    replace he := of_decide_eq_true he
    refine Wp_seq_region ?_
    refine qM (I6 e) rfl ?_
    refine qA (.slice none 0 0) rfl ?_
    refine qA (.slice none 0 0) rfl ?_
    refine qA (.slice none 0 0) rfl ?_
    refine qA (I6 e) rfl ?_
    refine WpL_nil (Wp_ret (thn_ret ?_))
    refine fin_tmp4 Tryz.results79 (v1 := (.slice none 0 0)) (v2 := (.slice none 0 0)) (v3 := (.slice none 0 0)) (v4 := (.int .i64 e)) rfl rfl rfl rfl ?_
    exact ⟨.inl (by rw [clsP_err hcp hall he]), E⟩
  · have khe := he
    replace he := of_decide_eq_false he
    obtain ⟨hcl, hc16⟩ := clsP_ok hcp hall (by omega)
    have hhd := cls_head hcl (flat_v hall)
    obtain ⟨M, hM⟩ : ∃ M, M = simR t := ⟨_, rfl⟩
    refine Wp_skip (thn_normal (Wp_seq_region ?_))
    refine qV (r_loadAgg (vs := [(I6 t.kind), (.slice sa t.set.length sc), (.slice aa t.args.length ac), (I6 t.mn), (I6 t.mx), (.bool t.neg)]) rfl agg25 siz25 rfl (Br.cells rfl)) ?_
    refine WpL_enter rfl rfl (by decide) (r_callF (vs := [(.agg (R6 t sa sc aa ac))]) Tryz.func58 nm58 bd58 rfl) ((dsim_c 300 t _ S _ hsz (by omega) hok hu (ReIn.ext E t ht0) (fun y hy => by have := hS y hy; have := E.size; omega)).mono (R' := fun r w => reG (fun b => S b ∨ z0 ≤ b) M r w ∧ Ext w29 w) (fun r w h => ⟨reG_of (S' := fun b => S b ∨ w29.heap.size ≤ b) (fun b hb => by rcases hb with h1 | h1; exact .inl h1; exact .inr (by have := E.size; omega)) (by rw [hM]; exact h.1), h.2⟩)) ?_
    rintro _ w39 ⟨⟨xa, xc, ya, yc, rfl, hR⟩, X39⟩
    replace Br := X39.keep Br
    replace E := E.ext X39
    have hcs2 := hcs.ext X39
    have E2 : Chg none1 w39 w39 := Chg.refl _ _
    obtain ⟨n1, hn1⟩ : ∃ n, n = (w39).heap.size := ⟨_, rfl⟩
    have hbrn : br < n1 := by rw [hn1]; exact Br.lt
    have hzn : z0 ≤ n1 := by rw [hn1, hz0]; exact E.size
    have hRl := ReIn.lt M hR
    have hFm0 : Fam t [M] := by rw [hM]; exact Fam.first hsim hsimz
    refine s_buildSlice (ps := [(0, (.agg (R6 M xa xc ya yc)))]) (c := (R6 M xa xc ya yc)) (by decide) rfl Tryz.underlying23 siz25 zer25 (by decide) (by decide) (by kernel_rfl) ?_
    intro bq wq Nq
    have Fq := Nq.ge E
    have Fq_E2 := Nq.ge E2
    have Oq_br := Nq.lt Br
    replace Br := Nq.keep Br
    replace E := E.ext Nq.ext
    have Bq := Nq.blk
    replace E2 := E2.ext Nq.ext
    refine qA (.slice (some ⟨bq, 0, none⟩) 1 1) rfl ?_
    refine WpL_nil (Wp_seq_region ?_)
    refine qA (.slice none 0 0) rfl ?_
    refine WpL_nil (Wp_seq (Wp_seq_region ?_))
    refine qA (I6 0) rfl ?_
    refine WpL_nil (Wp_block ?_)
    have hbq : n1 ≤ bq := by have := Nq.eq; omega
    have hbqn : ∀ b, (Value.slice (some ⟨bq, 0, none⟩) 1 1).ownBlock = some b → b = bq := fun b hb => (by simpa [Value.ownBlock] using hb : bq = b).symm
    have hLR0 : ListR S z0 n1 wq (.slice (some ⟨bq, 0, none⟩) 1 1) [M] (fun b => (S b ∨ z0 ≤ b) ∧ b < n1) := ⟨⟨[[.int .i64 M.kind, .slice xa M.set.length xc, .slice ya M.args.length yc, .int .i64 M.mn, .int .i64 M.mx, .bool M.neg]], ⟨rfl, .inr ⟨bq, 1, _, rfl, hbq, Bq, Nat.le_refl _, by decide, rfl, rfl⟩⟩, RowsIn.single (ReIn.mono (fun b hb => ⟨hb.1, by omega⟩) M (ReIn.ext Nq.ext M hRl))⟩, fun y hy => ⟨hy.1, by have := Nq.size; omega⟩, fun b hb hy => by have h2 := hbqn b hb; have h3 := hy.2; omega⟩
    have hbsq : n1 ≤ wq.heap.size := by have := Nq.size; omega
    refine Wp_loop (fun nn_ σ W3 => ∃ (i : Nat) (L : List Re) (la : Option Addr) (lc : Nat) (T : Nat → Prop) (nx : List Value) (na : Option Addr) (nc : Nat), (∃ jj_, σ = upds jj_ [(7, (.slice ca cs.length cc)), (11, (I6 (i : Int))), (9, (.slice la L.length lc)), (10, (.slice na i nc))]) ∧ Chg none1 w0 W3 ∧ Chg none1 w39 W3 ∧ Blk W3 br (R6 t sa sc aa ac) 25 ∧ (i ≤ L.length) ∧ (ListR S z0 n1 W3 (.slice la L.length lc) L T) ∧ (W3.ownsRow n1 TIsY 1 (.slice na i nc) i nx) ∧ (∀ b, (Value.slice na i nc).ownBlock = some b → ¬ T b ∧ (Value.slice la L.length lc).ownBlock ≠ some b) ∧ (Fam t L) ∧ (FamD cs i L) ∧ (L.length ≤ 200) ∧ (n1 ≤ W3.heap.size) ∧ nn_ = 201 - i) (n := 201 - 0) ?_ ?_
    · exact ⟨0, [M], some ⟨bq, 0, none⟩, 1, (fun b => (S b ∨ z0 ≤ b) ∧ b < n1), [], none, 0, Fits.out ⟨rfl, rfl, rfl, rfl, trivial⟩, E, E2, Br, Nat.zero_le _, hLR0, World.ownsRow_nil _ _ _ _, (fun b h => by cases h), hFm0, (fun j x h => absurd h (Nat.not_lt_zero _)), (by simp), hbsq, rfl⟩
    · clear E E2 Br
      rintro _ _ W3 ⟨i, L, la, lc, T, nx, na, nc, ⟨j3, rfl⟩, E, E2, Br, hi, hLR, hX, hA, hFm, hFd, hLl, hbs, rfl⟩
      refine Wp_seq (Wp_seq_region ?_)
      refine qM (I6 (i : Int)) rfl ?_
      refine qM (.slice la L.length lc) rfl ?_
      refine qV (r_lenSlice (ad := la) (n := L.length) (cap := lc) Tryz.underlying23 rfl) ?_
      refine qV (r_lss (k := .i64) (a := (i : Int)) (b := (L.length : Int)) rfl rfl) ?_
      refine WpL_nil ?_
      refine Wp_cond (b := decide (((i : Int) : Int) < (L.length : Int))) rfl (fun hlt => ?_) (fun hlt => ?_)
      · have khlt := hlt
        replace hlt := of_decide_eq_true hlt
        obtain ⟨x, hx⟩ := get_of_lt (l := L) (i := i) (by omega)
        obtain ⟨hxo, hxz⟩ := hFm.ok x (List.mem_of_getElem? hx)
        have hXz := fun b h => (hX.lt b h).2
        have hLz := fun b h => (hLR.lt b h).2
        have hTz := fun b h => (hLR.t b h).2
        refine Wp_skip (thn_normal (Wp_seq (Wp_block (Wp_seq_region ?_))))
        refine qM (.slice ca cs.length cc) rfl ?_
        refine qV (r_lenSlice (ad := ca) (n := cs.length) (cap := cc) Tryz.underlying50 rfl) ?_
        refine s_make (n := cs.length) (z := (I6 0)) (bytes := 8) (by decide) Tryz.underlying26 siz3 byt3 zer3 rfl rfl rfl (by omega) (by omega) ?_
        intro bm wm Nm
        have Fm := Nm.ge E
        have Fm_E2 := Nm.ge E2
        have Om_br := Nm.lt Br
        replace Br := Nm.keep Br
        replace hLR := hLR.ext Nm.ext
        replace hX := own_ext hX Nm.ext
        replace hbs := Nat.le_trans hbs Nm.ext.size
        replace E := E.ext Nm.ext
        have Bm := Nm.blk
        replace E2 := E2.ext Nm.ext
        refine qA (.slice (some ⟨bm, 0, none⟩) cs.length cs.length) rfl ?_
        refine WpL_nil (Wp_seq (Wp_seq_region ?_))
        refine qM (.slice ca cs.length cc) rfl ?_
        refine qV (r_lenSlice (ad := ca) (n := cs.length) (cap := cc) Tryz.underlying50 rfl) ?_
        refine qM (I6 0) rfl ?_
        refine WpL_nil (Wp_block ?_)
        have hXm : ∀ b, (Value.slice na i nc).ownBlock = some b → b ≠ bm := fun b hb e => by have := hXz b hb; have := Nm.eq; omega
        refine Wp_loop (fun nn_ σ W5 => ∃ (k : Nat) (L1 : List Re) (lb : Option Addr) (ld : Nat) (T1 : Nat → Prop) (rv : List Value), (∃ jj_, σ = upds jj_ [(7, (.slice ca cs.length cc)), (10, (.slice na i nc)), (11, (I6 (i : Int))), (12, (.slice (some ⟨bm, 0, none⟩) cs.length cs.length)), (42, (.slice ca cs.length cc)), (43, (I6 (cs.length : Int))), (44, (I6 (k : Int))), (9, (.slice lb L1.length ld))]) ∧ Chg none1 w0 W5 ∧ Chg none1 w39 W5 ∧ Blk W5 br (R6 t sa sc aa ac) 25 ∧ Blk W5 bm rv.toArray 3 ∧ (k ≤ cs.length) ∧ (rv.length = cs.length) ∧ (L1[i]? = some x) ∧ (ListR S z0 n1 W5 (.slice lb L1.length ld) L1 T1) ∧ (W5.ownsRow n1 TIsY 1 (.slice na i nc) i nx) ∧ (∀ b, (b = bm ∨ (Value.slice na i nc).ownBlock = some b) → ¬ T1 b ∧ (Value.slice lb L1.length ld).ownBlock ≠ some b) ∧ (Fam t L1) ∧ (FamD cs i L1) ∧ (∀ cl ∈ cs.take k, GoodC cl x L1) ∧ (L1.length ≤ 200) ∧ (n1 ≤ W5.heap.size ∧ bm < W5.heap.size) ∧ nn_ = cs.length - k) (n := cs.length - 0) ?_ ?_
        · exact ⟨0, L, la, lc, T, List.replicate cs.length (.int .i64 0), Fits.out ⟨rfl, rfl, rfl, rfl, rfl, rfl, rfl, rfl, trivial⟩, E, E2, Br, Bm, Nat.zero_le _, (by simp), hx, hLR, hX, (fun b hb => by rcases hb with rfl | hb; exact ⟨fun h => by have := hTz _ h; have := Nm.eq; omega, fun h => by have := hLz _ h; have := Nm.eq; omega⟩; exact hA b hb), hFm, hFd, (by simp), hLl, ⟨hbs, Bm.lt⟩, rfl⟩
        · clear E E2 Br Bm
          rintro _ _ W5 ⟨k, L1, lb, ld, T1, rv, ⟨j5, rfl⟩, E, E2, Br, Bm, hk, hrv, hx1, hLR1, hX1, hA1, hF1, hD1, hG1, hl1, hbs1, rfl⟩
          refine Wp_seq_region ?_
          refine qV (r_lss (k := .i64) (a := (k : Int)) (b := (cs.length : Int)) rfl rfl) ?_
          refine WpL_nil (Wp_seq ?_)
          refine Wp_cond (b := decide (((k : Int) : Int) < (cs.length : Int))) rfl (fun hlt2 => ?_) (fun hlt2 => ?_)
          · have khlt2 := hlt2
            replace hlt2 := of_decide_eq_true hlt2
            obtain ⟨cl, hcl9⟩ := get_of_lt (l := cs) (i := k) (by omega)
            have hclm := List.mem_of_getElem? hcl9
            obtain ⟨hcne, hlo, hhi⟩ := hhd cl hclm
            obtain ⟨b2, o2, rfl, hcc⟩ := spss_cells hcs2 (by omega)
            obtain ⟨ra, rc, hcell, hspn⟩ := hcc k cl hcl9
            obtain ⟨b3, o3, rfl, hsc⟩ := spans_cells hspn (List.length_pos_iff.2 hcne)
            obtain ⟨s0, hs0, hh0⟩ : ∃ s0, cl[0]? = some s0 ∧ headLo cl = s0.1 := by
              cases cl with
              | nil => exact absurd rfl hcne
              | cons s l => exact ⟨s, rfl, rfl⟩
            have hcpos := List.length_pos_iff.2 hcne
            obtain ⟨D, hD⟩ : ∃ D, D = stepR (headLo cl) x := ⟨_, rfl⟩
            have hDs : D = stepR s0.1 x := by rw [hD, hh0]
            have hDo : SimOk D := by rw [hD]; exact step_ok _ hxo
            have hDz : D.size ≤ 200000 := by rw [hD]; exact step_small hxo hxz
            obtain ⟨lg, rfl, xs, hcx, hrx⟩ := hLR1.at hx1
            have hx1l := lt_of_get hx1
            have hrx0 := hrx
            obtain ⟨xsa, xsc, xaa, xac, rfl, _, _, _⟩ := hrx.form
            obtain ⟨nw, hnw⟩ : ∃ n, n = (W5).heap.size := ⟨_, rfl⟩
            have hT1z := fun b h => (hLR1.t b h).2
            have hL1z := fun b h => (hLR1.lt b h).2
            have hX1z := fun b h => (hX1.lt b h).2
            refine Wp_skip (thn_normal (Wp_seq (Wp_block (Wp_seq_region ?_))))
            refine qM (I6 (k : Int)) rfl ?_
            refine qV (r_indexSlice (b := b2) (o := o2) (len := cs.length) (cap := cc) (i := k) (o' := o2 + k) rfl rfl rfl Tryz.underlying50 siz22 (by omega) (by omega)) ?_
            refine qV (r_load (v := (.slice (some ⟨b3, o3, none⟩) cl.length rc)) rfl flat22 (E2.cell (fun f => f) hcell)) ?_
            have hbmA := hA1 bm (.inl rfl)
            refine qA (I6 (k : Int)) rfl ?_
            refine qA (.slice (some ⟨b3, o3, none⟩) cl.length rc) rfl ?_
            refine WpL_nil ?_
            have hz_7 : w0.heap.size ≤ W5.heap.size := E.size
            have lz_7_br : br < W5.heap.size := Br.lt
            have lz_7_bm : bm < W5.heap.size := Bm.lt
            refine Wp_seq ?_
            obtain ⟨Fs7, hFs7⟩ : ∃ Fs : (Nat → Prop) → List Fact, Fs = fun RR => [.eq (.slice (some ⟨lg, 0, none⟩) L1.length ld), .eq (I6 (i : Int)), .eq (.pointer (some ⟨lg, 0 + i * 6, none⟩)), .eq (.agg (R6 x xsa xsc xaa xac)), .eq (.slice (some ⟨b3, o3, none⟩) cl.length rc), .eq (.pointer (some ⟨b3, o3 + 0 * 2, none⟩)), .eq (.pointer (some ⟨b3, o3 + 0 * 2, none⟩)), .eq (I6 s0.1), .gen (reG RR D) (reG_ext _ _), .gen (alF 25 #[(I6 0), (.slice none 0 0), (.slice none 0 0), (I6 0), (I6 0), (.bool false)] W5.heap.size) (alF_ext _ _ _), .eq undef] := ⟨_, rfl⟩
            refine Wp_dagA [true, true, true, true, true, true, true, true, true, true, false] [10] 11 10 [] [49, 50, 51, 52, 53, 54, 55, 56, 57, 15, 107] [[], [], [0, 1], [2], [], [4], [5], [6], [3, 7], [], []] Fs7 hFs7 (fun b => T1 b ∨ nw ≤ b) (fun y hy => .inr (by omega)) 9 15 (lo := W5.heap.size) (Nat.le_refl _) rfl rfl (AlOp.mk' zer25 rfl) (fun RR => ⟨_, by rw [hFs7]; rfl⟩) (fun n => by rw [hFs7]; repeat (first | exact Cvs.nil | refine Cvs.same ?_ | refine Cvs.cons (fun v w e h => by first | exact reG_ne e h | exact rsG_ne e h | exact tupG_ne e h) ?_)) mixed (by kernel_rfl) (by kernel_rfl) rfl (by kernel_rfl) (by kernel_rfl) (by kernel_rfl) ?_ ?_ (fun h9 => absurd h9 (by decide))
            · intro wd X0 RR hRR1 hRR2
              refine DagStepsP.cons (fun s' w' X U H => Or.inl ⟨?_, ?_⟩) ?_
              · exact Guarded_none rfl
              · exact Does_val (r_move (v := (.slice (some ⟨lg, 0, none⟩) L1.length ld)) (U 9 rfl)) (Ext.refl _) rfl
              refine DagStepsP.cons (fun s' w' X U H => Or.inl ⟨?_, ?_⟩) ?_
              · exact Guarded_none rfl
              · exact Does_val (r_move (v := (I6 (i : Int))) (U 11 rfl)) (Ext.refl _) rfl
              refine DagStepsP.cons (fun s' w' X U H => Or.inl ⟨?_, ?_⟩) ?_
              · exact Guarded_none rfl
              · have e49 : s' 49 = (.slice (some ⟨lg, 0, none⟩) L1.length ld) := H 0 rfl 49 (.eq (.slice (some ⟨lg, 0, none⟩) L1.length ld)) rfl (by rw [hFs7]; rfl)
                have e50 : s' 50 = (.int .i64 ((i : Nat) : Int)) := H 1 rfl 50 (.eq (.int .i64 ((i : Nat) : Int))) rfl (by rw [hFs7]; rfl)
                exact Does_val (r_indexSlice (b := lg) (o := 0) (len := L1.length) (cap := ld) (i := i) (o' := 0 + i * 6) e49 e50 rfl Tryz.underlying23 siz25 (by omega) (by omega)) (Ext.refl _) rfl
              refine DagStepsP.cons (fun s' w' X U H => Or.inl ⟨?_, ?_⟩) ?_
              · exact Guarded_none rfl
              · have e51 : s' 51 = (.pointer (some ⟨lg, 0 + i * 6, none⟩)) := H 2 rfl 51 (.eq (.pointer (some ⟨lg, 0 + i * 6, none⟩))) rfl (by rw [hFs7]; rfl)
                exact Does_val (r_loadAgg (vs := [(I6 x.kind), (.slice xsa x.set.length xsc), (.slice xaa x.args.length xac), (I6 x.mn), (I6 x.mx), (.bool x.neg)]) e51 agg25 siz25 rfl (hcx.ext (X0.trans X))) (Ext.refl _) rfl
              refine DagStepsP.cons (fun s' w' X U H => Or.inl ⟨?_, ?_⟩) ?_
              · exact Guarded_none rfl
              · exact Does_val (r_move (v := (.slice (some ⟨b3, o3, none⟩) cl.length rc)) (U 14 rfl)) (Ext.refl _) rfl
              refine DagStepsP.cons (fun s' w' X U H => Or.inl ⟨?_, ?_⟩) ?_
              · exact Guarded_none rfl
              · have e53 : s' 53 = (.slice (some ⟨b3, o3, none⟩) cl.length rc) := H 4 rfl 53 (.eq (.slice (some ⟨b3, o3, none⟩) cl.length rc)) rfl (by rw [hFs7]; rfl)
                exact Does_val (r_indexSlice (b := b3) (o := o3) (len := cl.length) (cap := rc) (i := 0) (o' := o3 + 0 * 2) e53 rfl rfl Tryz.underlying22 siz103 (by omega) (by omega)) (Ext.refl _) rfl
              refine DagStepsP.cons (fun s' w' X U H => Or.inl ⟨?_, ?_⟩) ?_
              · exact Guarded_none rfl
              · have e54 : s' 54 = (.pointer (some ⟨b3, o3 + 0 * 2, none⟩)) := H 5 rfl 54 (.eq (.pointer (some ⟨b3, o3 + 0 * 2, none⟩))) rfl (by rw [hFs7]; rfl)
                exact Does_val (r_fieldAddr (b := b3) (o := o3 + 0 * 2) (o' := o3 + 0 * 2) e54 Tryz.underlying103 rfl siz3 rfl) (Ext.refl _) rfl
              refine DagStepsP.cons (fun s' w' X U H => Or.inl ⟨?_, ?_⟩) ?_
              · exact Guarded_none rfl
              · have e55 : s' 55 = (.pointer (some ⟨b3, o3 + 0 * 2, none⟩)) := H 6 rfl 55 (.eq (.pointer (some ⟨b3, o3 + 0 * 2, none⟩))) rfl (by rw [hFs7]; rfl)
                exact Does_val (r_load (v := (I6 s0.1)) e55 flat3 (((hsc 0 s0 hs0).ext (Ext.trans E2 (X0.trans X))).at0)) (Ext.refl _) rfl
              refine DagStepsP.cons (fun s' w' X U H => Or.inl ⟨?_, ?_⟩) ?_
              · exact Guarded_none rfl
              · have e52 : s' 52 = (.agg #[(.int .i64 x.kind), (.slice xsa x.set.length xsc), (.slice xaa x.args.length xac), (.int .i64 x.mn), (.int .i64 x.mx), (.bool x.neg)]) := H 3 rfl 52 (.eq (.agg #[(.int .i64 x.kind), (.slice xsa x.set.length xsc), (.slice xaa x.args.length xac), (.int .i64 x.mn), (.int .i64 x.mx), (.bool x.neg)])) rfl (by rw [hFs7]; rfl)
                have e56 : s' 56 = (.int .i64 s0.1) := H 7 rfl 56 (.eq (.int .i64 s0.1)) rfl (by rw [hFs7]; rfl)
                exact Does_enter (r_callF (vs := [(.agg (R6 x xsa xsc xaa xac)), (I6 s0.1)]) Tryz.func60 nm60 bd60 (lst2 e52 e56)) ((step_c s0.1 301 (by omega) x _ T1 _ (by omega) hxo (ReIn.ext (X0.trans X) x hrx0) (fun y hy => by have := hT1z y hy; have := X0.size; have := X.size; omega)).mono (fun r w h => ⟨reG_of (S' := fun b => T1 b ∨ w'.heap.size ≤ b) (fun b hb => by rcases hb with h1 | h1; exact hRR1 b (by have := hT1z b h1; omega) (.inl h1); exact hRR2 b (by have := X.size; omega)) (by rw [hDs]; exact h.1), h.2⟩))
              refine DagStepsP.cons (fun s' w' X U H => Or.inl ⟨?_, ?_⟩) ?_
              · exact Guarded_none rfl
              · exact Does_alloc (c := #[(I6 0), (.slice none 0 0), (.slice none 0 0), (I6 0), (I6 0), (.bool false)]) zer25 rfl (by have := X0.size; have := X.size; omega)
              refine DagStepsP.tail ?_
              exact DagStepsP.nil
            · intro s' w7 RR β X7 U hRA hβ H
              obtain ⟨xa57, xc57, ya57, yc57, e57, r57⟩ := H 8 rfl 57 (.gen (reG RR D) (reG_ext _ _)) rfl (by rw [hFs7]; rfl)
              obtain ⟨b15, e15, B15, g15⟩ := H 9 rfl 15 (.gen (alF 25 #[(.int .i64 0), (.slice none 0 0), (.slice none 0 0), (.int .i64 0), (.int .i64 0), (.bool false)] W5.heap.size) (alF_ext _ _ _)) rfl (by rw [hFs7]; rfl)
              have hβ2 : β = b15 := by have h9 := e15.symm.trans hβ; simpa using h9.symm
              rw [hβ2] at hRA
              clear hβ hβ2 β
              obtain ⟨j7, rfl⟩ := Fits.out (σ := s') (l := [(7, (.slice (some ⟨b2, o2, none⟩) cs.length cc)), (9, (.slice (some ⟨lg, 0, none⟩) L1.length ld)), (10, (.slice na i nc)), (11, (.int .i64 ((i : Nat) : Int))), (12, (.slice (some ⟨bm, 0, none⟩) cs.length cs.length)), (13, (.int .i64 ((k : Nat) : Int))), (42, (.slice (some ⟨b2, o2, none⟩) cs.length cc)), (43, (.int .i64 ((cs.length : Nat) : Int))), (44, (.int .i64 ((k : Nat) : Int))), (57, (.agg #[(.int .i64 D.kind), (.slice xa57 D.set.length xc57), (.slice ya57 D.args.length yc57), (.int .i64 D.mn), (.int .i64 D.mx), (.bool D.neg)])), (15, (.pointer (some ⟨b15, 0, none⟩)))]) ⟨U 7 rfl, U 9 rfl, U 10 rfl, U 11 rfl, U 12 rfl, U 13 rfl, U 42 rfl, U 43 rfl, U 44 rfl, e57, e15, trivial⟩
              clear U H
              replace Br := X7.keep Br
              replace Bm := X7.keep Bm
              replace hLR1 := hLR1.ext X7
              replace hX1 := own_ext hX1 X7
              replace E := E.ext X7
              replace E2 := E2.ext X7
              have hn15 : nw ≤ b15 := by omega
              refine s_storeAgg (b := b15) (o := 0) (c' := (R6 D xa57 xc57 ya57 yc57)) rfl rfl (by simp [Value.oneCell']) siz25 rfl B15 (by first | (simp; done) | exact Nat.le_of_ble_eq_true rfl) rfl ?_
              intro w8 S8
              replace hLR1 := hLR1.chg S8.chg (fun b hb h => by have h2 : b = _ := h; first | (have := hL1z b hb; omega) | (subst h2; exact hbmA.2 hb)) (fun b hb h => by have h2 : b = _ := h; first | (have := hT1z b hb; omega) | (subst h2; exact hbmA.1 hb))
              replace hX1 := own_chg hX1 S8.chg fun b hb h => by have h2 : b = _ := h; first | (have := hX1z b hb; omega) | exact hXm b hb h2
              replace r57 := ReIn.chg S8.chg (fun y hy h => by have h2 : y = b15 := h; exact (hRA y hy).2 h2) _ r57
              replace Br := S8.keep (by omega) Br
              replace Bm := S8.keep (by omega) Bm
              replace E := S8.step E (by first | exact Or.inl (by omega) | exact Or.inr rfl | exact Or.inr (by assumption) | exact Or.inr (by simp) | exact Or.inr (by omega) | exact Or.inr (by dsimp only; omega))
              replace E2 := S8.step E2 (Or.inl (by omega))
              replace B15 := S8.blk
              refine WpL_nil (thn_normal (Wp_seq (Wp_seq_region ?_)))
              refine qV (r_loadAgg (vs := [(I6 D.kind), (.slice xa57 D.set.length xc57), (.slice ya57 D.args.length yc57), (I6 D.mn), (I6 D.mx), (.bool D.neg)]) rfl agg25 siz25 rfl (B15.cells rfl)) ?_
              refine WpL_enter rfl rfl (by decide) (r_callF (vs := [(.agg (R6 D xa57 xc57 ya57 yc57))]) Tryz.func61 nm61 bd61 rfl) (size_c _ D _ (ReIn.at D r57) (by omega)) ?_
              rintro _ w49 ⟨rfl, X49⟩
              replace Br := X49.keep Br
              replace Bm := X49.keep Bm
              replace B15 := X49.keep B15
              replace hLR1 := hLR1.ext X49
              replace hX1 := own_ext hX1 X49
              replace r57 := ReIn.ext X49 D r57
              replace E := E.ext X49
              replace E2 := E2.ext X49
              refine qV (r_gtr (k := .i64) (a := (D.size : Int)) (b := 300) rfl rfl) ?_
              refine WpL_nil ?_
              refine Wp_cond (b := decide ((300 : Int) < (D.size : Int))) rfl (fun hz => ?_) (fun hz => ?_)
              · have khz := hz
                replace hz := of_decide_eq_true hz
                refine Wp_seq_region ?_
                refine qA (.slice none 0 0) rfl ?_
                refine qA (.slice none 0 0) rfl ?_
                refine qA (.slice none 0 0) rfl ?_
                refine qA (I6 2) rfl ?_
                refine WpL_nil (Wp_ret (thn_ret (inB_ret (thn_ret (thn_ret (inB_ret (thn_ret (inB_ret (thn_ret (thn_ret (inB_ret (thn_ret ?_))))))))))))
                refine fin_tmp4 Tryz.results79 (v1 := (.slice none 0 0)) (v2 := (.slice none 0 0)) (v3 := (.slice none 0 0)) (v4 := (.int .i64 2)) rfl rfl rfl rfl ?_
                exact ⟨.inl rfl, E⟩
              · have khz := hz
                replace hz := of_decide_eq_false hz
                have hDz2 : D.size ≤ 300 := by omega
                refine Wp_skip (thn_normal (Wp_seq (Wp_seq_region ?_)))
                refine qM (.slice (some ⟨bm, 0, none⟩) cs.length cs.length) rfl ?_
                refine qM (I6 (k : Int)) rfl ?_
                refine qV (r_indexSlice (b := bm) (o := 0) (len := cs.length) (cap := cs.length) (i := k) (o' := 0 + k) rfl rfl rfl Tryz.underlying26 siz3 (by omega) (by omega)) ?_
                refine s_store (b := bm) (o := 0 + k) (c' := (rv.set k (I6 (-1))).toArray) (v := (I6 (-1))) rfl rfl rfl siz3 Bm (by simp; omega) (setV _) ?_
                intro w10 S10
                replace hLR1 := hLR1.chg S10.chg (fun b hb h => by have h2 : b = _ := h; first | (have := hL1z b hb; omega) | (subst h2; exact hbmA.2 hb)) (fun b hb h => by have h2 : b = _ := h; first | (have := hT1z b hb; omega) | (subst h2; exact hbmA.1 hb))
                replace hX1 := own_chg hX1 S10.chg fun b hb h => by have h2 : b = _ := h; first | (have := hX1z b hb; omega) | exact hXm b hb h2
                replace r57 := ReIn.chg S10.chg (fun y hy h => by have h2 : y = bm := h; subst h2; rcases (hRA _ hy).1 with h3 | h3; exact hbmA.1 h3; omega) D r57
                replace Br := S10.keep (by omega) Br
                replace B15 := S10.keep (by omega) B15
                replace E := S10.step E (by first | exact Or.inl (by omega) | exact Or.inr rfl | exact Or.inr (by assumption) | exact Or.inr (by simp) | exact Or.inr (by omega) | exact Or.inr (by dsimp only; omega))
                replace E2 := S10.step E2 (Or.inl (by omega))
                replace Bm := S10.blk
                refine WpL_nil (Wp_seq_region ?_)
                refine qV (r_loadAgg (vs := [(I6 D.kind), (.slice xa57 D.set.length xc57), (.slice ya57 D.args.length yc57), (I6 D.mn), (I6 D.mx), (.bool D.neg)]) rfl agg25 siz25 rfl (B15.cells rfl)) ?_
                refine WpL_enter rfl rfl (by decide) (r_callF (vs := [(.agg (R6 D xa57 xc57 ya57 yc57))]) Tryz.func136 nm136 bd136 rfl) (disnone_c _ D _ (ReIn.at D r57)) ?_
                rintro _ w59 ⟨rfl, X59⟩
                replace Br := X59.keep Br
                replace Bm := X59.keep Bm
                replace B15 := X59.keep B15
                replace hLR1 := hLR1.ext X59
                replace hX1 := own_ext hX1 X59
                replace r57 := ReIn.ext X59 D r57
                replace E := E.ext X59
                replace E2 := E2.ext X59
                refine WpL_nil ?_
                refine Wp_cond (b := isNoneB D) rfl (fun hno => ?_) (fun hno => ?_)
                · have khno := hno
                  refine Wp_exit (thn_exit (inB_here (thn_normal (Wp_region ?_))))
                  refine qV (r_add (k := .i64) (a := (k : Int)) (b := 1) (c := (k : Int) + 1) rfl rfl (wI64 (by omega))) ?_
                  refine qM (I6 ((k : Int) + 1)) rfl ?_
                  refine WpL_nil (thn_normal ?_)
                  exact ⟨cs.length - (k + 1), by omega, k + 1, L1, some ⟨lg, 0, none⟩, ld, T1, rv.set k (.int .i64 (-1)), Fits.out ⟨rfl, rfl, rfl, rfl, rfl, rfl, rfl, rfl, trivial⟩, E, E2, Br, Bm, (by omega), (by simp [hrv]), hx1, hLR1, hX1, hA1, hF1, hD1, good_take hcl9 hG1 ⟨by rw [← hD]; exact hDz2, .inl (by rw [← hD]; simpa [isNoneB] using hno)⟩, hl1, ⟨by rw [hn1]; exact E2.size, Bm.lt⟩, rfl⟩
                · have khno := hno
                  obtain ⟨rv1, hrv1⟩ : ∃ r, r = rv.set k (.int .i64 (-1)) := ⟨_, rfl⟩
                  rw [← hrv1] at Bm
                  have hrl1 : rv1.length = cs.length := by rw [hrv1]; simp [hrv]
                  obtain ⟨ix, hix⟩ : ∃ ix, ix = idx (fun y => sameT y D) L1 := ⟨_, rfl⟩
                  have hia := idx_any (fun y => sameT y D) L1
                  rw [← hix] at hia
                  refine Wp_skip (thn_normal (Wp_seq_region ?_))
                  refine qM (.slice (some ⟨bm, 0, none⟩) cs.length cs.length) rfl ?_
                  refine qM (I6 (k : Int)) rfl ?_
                  refine qM (.slice (some ⟨lg, 0, none⟩) L1.length ld) rfl ?_
                  refine qV (r_makeFunc (vs := []) (us := [(P6 b15 0)]) rfl rfl) ?_
                  refine WpL_enter rfl rfl (by decide) (r_callF (vs := [(.slice (some ⟨lg, 0, none⟩) L1.length ld), (.func (.func 137) #[] #[(P6 b15 0)])]) Tryz.func82 nm82 bd82 rfl) ((res_idx_c _ _ _ L1 (fun y => sameT y D) (rsin_at (hLR1.rs hzn)) (fun w y ys hE hm hy => CallV.mk (first := #[]) (cap := #[.pointer (some ⟨b15, 0, none⟩)]) Tryz.func137 nm137 bd137 rfl (fam1_c w b15 y D _ _ (hE.keep B15) (ReAt.ext hE D (ReIn.at D r57)) hy))).mono (R' := fun v w => v = .int .i64 ix ∧ Ext _ w) (fun v w h => ⟨by rw [h.1, hix], h.2⟩)) ?_
                  rintro _ w69 ⟨rfl, X69⟩
                  replace Br := X69.keep Br
                  replace Bm := X69.keep Bm
                  replace B15 := X69.keep B15
                  replace hLR1 := hLR1.ext X69
                  replace hX1 := own_ext hX1 X69
                  replace r57 := ReIn.ext X69 D r57
                  replace E := E.ext X69
                  replace E2 := E2.ext X69
                  refine qV (r_indexSlice (b := bm) (o := 0) (len := cs.length) (cap := cs.length) (i := k) (o' := 0 + k) rfl rfl rfl Tryz.underlying26 siz3 (by omega) (by omega)) ?_
                  refine s_store (b := bm) (o := 0 + k) (c' := (rv1.set k (I6 ix)).toArray) (v := (I6 ix)) rfl rfl rfl siz3 Bm (by simp; omega) (setV _) ?_
                  intro w12 S12
                  replace hLR1 := hLR1.chg S12.chg (fun b hb h => by have h2 : b = _ := h; first | (have := hL1z b hb; omega) | (subst h2; exact hbmA.2 hb)) (fun b hb h => by have h2 : b = _ := h; first | (have := hT1z b hb; omega) | (subst h2; exact hbmA.1 hb))
                  replace hX1 := own_chg hX1 S12.chg fun b hb h => by have h2 : b = _ := h; first | (have := hX1z b hb; omega) | exact hXm b hb h2
                  replace r57 := ReIn.chg S12.chg (fun y hy h => by have h2 : y = bm := h; subst h2; rcases (hRA _ hy).1 with h3 | h3; exact hbmA.1 h3; omega) D r57
                  replace Br := S12.keep (by omega) Br
                  replace B15 := S12.keep (by omega) B15
                  replace E := S12.step E (by first | exact Or.inl (by omega) | exact Or.inr rfl | exact Or.inr (by assumption) | exact Or.inr (by simp) | exact Or.inr (by omega) | exact Or.inr (by dsimp only; omega))
                  replace E2 := S12.step E2 (Or.inl (by omega))
                  replace Bm := S12.blk
                  refine WpL_nil (Wp_seq_region ?_)
                  refine qM (.slice (some ⟨bm, 0, none⟩) cs.length cs.length) rfl ?_
                  refine qM (I6 (k : Int)) rfl ?_
                  refine qV (r_indexSlice (b := bm) (o := 0) (len := cs.length) (cap := cs.length) (i := k) (o' := 0 + k) rfl rfl rfl Tryz.underlying26 siz3 (by omega) (by omega)) ?_
                  refine qV (r_load (v := (I6 ix)) rfl flat3 (Bm.cell (getV (by omega)))) ?_
                  refine qV (r_lss (k := .i64) (a := ix) (b := 0) rfl rfl) ?_
                  refine WpL_nil ?_
                  refine Wp_cond (b := decide ((ix : Int) < 0)) rfl (fun hneg => ?_) (fun hneg => ?_)
                  · have khneg := hneg
                    replace hneg := of_decide_eq_true hneg
                    have hnin : D ∉ L1 := fun hm => by
                      have h1 : (L1.any fun y => sameT y D) = true := List.any_eq_true.2 ⟨D, hm, (sameT_iff D D).2 rfl⟩
                      rw [h1] at hia
                      have h2 := of_decide_eq_true hia
                      omega
                    obtain ⟨rv2, hrv2⟩ : ∃ r, r = rv1.set k (.int .i64 ix) := ⟨_, rfl⟩
                    rw [← hrv2] at Bm
                    have hrl2 : rv2.length = cs.length := by rw [hrv2]; simp [hrl1]
                    refine Wp_seq_region ?_
                    refine qM (.slice (some ⟨bm, 0, none⟩) cs.length cs.length) rfl ?_
                    refine qM (I6 (k : Int)) rfl ?_
                    refine qM (.slice (some ⟨lg, 0, none⟩) L1.length ld) rfl ?_
                    refine qV (r_lenSlice (ad := some ⟨lg, 0, none⟩) (n := L1.length) (cap := ld) Tryz.underlying23 rfl) ?_
                    refine qV (r_indexSlice (b := bm) (o := 0) (len := cs.length) (cap := cs.length) (i := k) (o' := 0 + k) rfl rfl rfl Tryz.underlying26 siz3 (by omega) (by omega)) ?_
                    refine s_store (b := bm) (o := 0 + k) (c' := (rv2.set k (I6 ((L1.length : Int)))).toArray) (v := (I6 (L1.length : Int))) rfl rfl rfl siz3 Bm (by simp; omega) (setV _) ?_
                    intro w14 S14
                    replace hLR1 := hLR1.chg S14.chg (fun b hb h => by have h2 : b = _ := h; first | (have := hL1z b hb; omega) | (subst h2; exact hbmA.2 hb)) (fun b hb h => by have h2 : b = _ := h; first | (have := hT1z b hb; omega) | (subst h2; exact hbmA.1 hb))
                    replace hX1 := own_chg hX1 S14.chg fun b hb h => by have h2 : b = _ := h; first | (have := hX1z b hb; omega) | exact hXm b hb h2
                    replace r57 := ReIn.chg S14.chg (fun y hy h => by have h2 : y = bm := h; subst h2; rcases (hRA _ hy).1 with h3 | h3; exact hbmA.1 h3; omega) D r57
                    replace Br := S14.keep (by omega) Br
                    replace B15 := S14.keep (by omega) B15
                    replace E := S14.step E (by first | exact Or.inl (by omega) | exact Or.inr rfl | exact Or.inr (by assumption) | exact Or.inr (by simp) | exact Or.inr (by omega) | exact Or.inr (by dsimp only; omega))
                    replace E2 := S14.step E2 (Or.inl (by omega))
                    replace Bm := S14.blk
                    refine WpL_nil (Wp_seq_region ?_)
                    refine qM (.slice (some ⟨lg, 0, none⟩) L1.length ld) rfl ?_
                    refine qV (r_loadAgg (vs := [(I6 D.kind), (.slice xa57 D.set.length xc57), (.slice ya57 D.args.length yc57), (I6 D.mn), (I6 D.mx), (.bool D.neg)]) rfl agg25 siz25 rfl (B15.cells rfl)) ?_
                    refine s_buildSlice (ps := [(0, (.agg (R6 D xa57 xc57 ya57 yc57)))]) (c := (R6 D xa57 xc57 ya57 yc57)) (by decide) rfl Tryz.underlying23 siz25 zer25 (by decide) (by decide) (by kernel_rfl) ?_
                    intro bu wu Nu
                    have Fu := Nu.ge E
                    have Fu_E2 := Nu.ge E2
                    have Ou_br := Nu.lt Br
                    have Ou_bm := Nu.lt Bm
                    have Ou_b15 := Nu.lt B15
                    replace Br := Nu.keep Br
                    replace Bm := Nu.keep Bm
                    replace B15 := Nu.keep B15
                    replace hLR1 := hLR1.ext Nu.ext
                    replace hX1 := own_ext hX1 Nu.ext
                    replace r57 := ReIn.ext Nu.ext D r57
                    replace E := E.ext Nu.ext
                    have Bu := Nu.blk
                    replace E2 := E2.ext Nu.ext
                    have h15u := B15.lt
                    obtain ⟨rows1, ho1, hr1⟩ := hLR1.o
                    refine s_append (base := n1) (n := L1.length) (m := 1) (xs := rows1.flatten) (news := [(I6 D.kind), (.slice xa57 D.set.length xc57), (.slice ya57 D.args.length yc57), (I6 D.mn), (I6 D.mx), (.bool D.neg)]) (size := 6) (bytes := 80) (v := (.slice (some ⟨lg, 0, none⟩) L1.length ld)) (by decide) Tryz.underlying23 siz25 byt25 zer25 rfl (by decide) rfl ho1 rfl (rfl) (Bu.cells rfl) (by simp [Value.oneCell']) (by unfold maxLen; omega) (by omega) (by rw [hn1]; exact E2.size) ?_
                    intro v9 w79 Ov9 Cv9 Dv9
                    replace Br := Cv9.keep (fun h => by have := (ho1.lt _ h).1; omega) Br
                    replace Bm := Cv9.keep (fun h => hbmA.2 h) Bm
                    replace E := E.step Cv9 (fun x hx h => absurd (ho1.lt x h).1 (by omega))
                    replace E2 := E2.step Cv9 (fun x hx h => absurd (ho1.lt x h).1 (by omega))
                    obtain ⟨la2, lc2, rfl⟩ := own_form Ov9
                    have hnwu : nw ≤ wu.heap.size := by omega
                    have hLRn := hLR1.push (n0 := nw) (x := D) hr1 (ReIn.mono (fun b hb => (hRA b hb.1).1.imp id (fun h => ⟨h, hb.2⟩)) D (ReIn.lt D r57)) (fun b h => by have := hL1z b h; omega) (by omega) Ov9 Cv9 Dv9
                    have hXn := own_chg hX1 Cv9 (fun b hb h => (hA1 b (.inr hb)).2 h)
                    have hAn : ∀ b, (b = bm ∨ (Value.slice na i nc).ownBlock = some b) → ¬ (T1 b ∨ (nw ≤ b ∧ b < wu.heap.size)) ∧ (Value.slice la2 (L1.length + 1) lc2).ownBlock ≠ some b := fun b hb => by
                      have hbw : b < nw := by
                        rcases hb with rfl | hb
                        · have := hbs1.2; omega
                        · have := hX1z b hb; omega
                      refine ⟨fun h => ?_, fun h => ?_⟩
                      · rcases h with h | h
                        · exact (hA1 b hb).1 h
                        · omega
                      · rcases Dv9 b h with h | h
                        · exact (hA1 b hb).2 h
                        · omega
                    refine qA (.slice la2 (L1.length + 1) lc2) rfl ?_
                    refine WpL_nil (Wp_seq_region ?_)
                    refine qM (.slice la2 (L1.length + 1) lc2) rfl ?_
                    refine qV (r_lenSlice (ad := la2) (n := (L1.length + 1)) (cap := lc2) Tryz.underlying23 rfl) ?_
                    refine qV (r_gtr (k := .i64) (a := (((L1.length + 1) : Nat) : Int)) (b := 200) rfl rfl) ?_
                    refine WpL_nil ?_
                    refine Wp_cond (b := decide ((200 : Int) < (((L1.length + 1) : Nat) : Int))) rfl (fun hbig => ?_) (fun hbig => ?_)
                    · have khbig := hbig
                      replace hbig := of_decide_eq_true hbig
                      refine Wp_seq_region ?_
                      refine qA (.slice none 0 0) rfl ?_
                      refine qA (.slice none 0 0) rfl ?_
                      refine qA (.slice none 0 0) rfl ?_
                      refine qA (I6 2) rfl ?_
                      refine WpL_nil (Wp_ret (inB_ret (thn_ret (thn_ret (inB_ret (thn_ret (inB_ret (thn_ret (thn_ret (inB_ret (thn_ret ?_)))))))))))
                      refine fin_tmp4 Tryz.results79 (v1 := (.slice none 0 0)) (v2 := (.slice none 0 0)) (v3 := (.slice none 0 0)) (v4 := (.int .i64 2)) rfl rfl rfl rfl ?_
                      exact ⟨.inl rfl, E⟩
                    · have khbig := hbig
                      replace hbig := of_decide_eq_false hbig
                      have hll : (L1 ++ [D]).length = L1.length + 1 := by simp
                      rw [← hll] at hAn ⊢
                      refine Wp_skip (inB_normal (thn_normal (Wp_region ?_)))
                      refine qV (r_add (k := .i64) (a := (k : Int)) (b := 1) (c := (k : Int) + 1) rfl rfl (wI64 (by omega))) ?_
                      refine qM (I6 ((k : Int) + 1)) rfl ?_
                      refine WpL_nil (thn_normal ?_)
                      exact ⟨cs.length - (k + 1), by omega, k + 1, L1 ++ [D], la2, lc2, (fun b => T1 b ∨ (nw ≤ b ∧ b < wu.heap.size)), rv2.set k (.int .i64 (((L1.length : Nat) : Int))), Fits.out ⟨rfl, rfl, rfl, rfl, rfl, rfl, rfl, rfl, trivial⟩, E, E2, Br, Bm, (by omega), (by simp [hrl2]), (by rw [List.getElem?_append_left hx1l]; exact hx1), (by rw [hll]; exact hLRn), hXn, hAn, hF1.push ⟨hDo, hDz2⟩ hnin (fun P hP => by rw [hD]; exact allS_step _ (hF1.cl P hP x (List.mem_of_getElem? hx1))), hD1.push (by omega), good_take hcl9 (fun c hc => (hG1 c hc).push) ⟨by rw [← hD]; exact hDz2, .inr (by rw [← hD]; simp)⟩, (by omega), ⟨by rw [hn1]; exact E2.size, Bm.lt⟩, rfl⟩
                  · have khneg := hneg
                    replace hneg := of_decide_eq_false hneg
                    have hin : D ∈ L1 := by
                      have h1 : (L1.any fun y => sameT y D) = true := by rw [← hia]; exact decide_eq_true (by omega)
                      obtain ⟨y, hy, h2⟩ := List.any_eq_true.1 h1
                      rw [← (sameT_iff y D).1 h2]
                      exact hy
                    refine Wp_skip (inB_normal (thn_normal (Wp_region ?_)))
                    refine qV (r_add (k := .i64) (a := (k : Int)) (b := 1) (c := (k : Int) + 1) rfl rfl (wI64 (by omega))) ?_
                    refine qM (I6 ((k : Int) + 1)) rfl ?_
                    refine WpL_nil (thn_normal ?_)
                    exact ⟨cs.length - (k + 1), by omega, k + 1, L1, some ⟨lg, 0, none⟩, ld, T1, rv1.set k (.int .i64 ix), Fits.out ⟨rfl, rfl, rfl, rfl, rfl, rfl, rfl, rfl, trivial⟩, E, E2, Br, Bm, (by omega), (by simp [hrl1]), hx1, hLR1, hX1, hA1, hF1, hD1, good_take hcl9 hG1 ⟨by rw [← hD]; exact hDz2, .inr (by rw [← hD]; exact hin)⟩, hl1, ⟨by rw [hn1]; exact E2.size, Bm.lt⟩, rfl⟩
          · have khlt2 := hlt2
            replace hlt2 := of_decide_eq_false hlt2
            have hkk : k = cs.length := by omega
            rw [hkk, List.take_length] at hG1
            have hDn := hD1.next hx1 hG1
            have hi1 := lt_of_get hx1
            refine Wp_exit (thn_exit (thn_exit (inB_here (thn_normal (Wp_region ?_)))))
            refine qM (.slice na i nc) rfl ?_
            refine qM (.slice (some ⟨bm, 0, none⟩) cs.length cs.length) rfl ?_
            refine s_buildSlice (ps := [(0, (.slice (some ⟨bm, 0, none⟩) cs.length cs.length))]) (c := #[(.slice (some ⟨bm, 0, none⟩) cs.length cs.length)]) (by decide) rfl Tryz.underlying47 siz26 zer26 (by decide) (by decide) (by kernel_rfl) ?_
            intro bu wu Nu
            have Fu := Nu.ge E
            have Fu_E2 := Nu.ge E2
            have Ou_br := Nu.lt Br
            have Ou_bm := Nu.lt Bm
            replace Br := Nu.keep Br
            replace Bm := Nu.keep Bm
            replace hLR1 := hLR1.ext Nu.ext
            replace hX1 := own_ext hX1 Nu.ext
            replace E := E.ext Nu.ext
            have Bu := Nu.blk
            replace E2 := E2.ext Nu.ext
            refine s_append (base := n1) (n := i) (m := 1) (xs := nx) (news := [(.slice (some ⟨bm, 0, none⟩) cs.length cs.length)]) (size := 1) (bytes := 24) (v := (.slice na i nc)) (by decide) Tryz.underlying47 siz26 byt26 zer26 rfl (by decide) rfl hX1 rfl (rfl) (Bu.cells rfl) (by simp [Value.oneCell']) (by unfold maxLen; omega) (by omega) (by rw [hn1]; exact E2.size) ?_
            intro v8 w89 Ov8 Cv8 Dv8
            replace Br := Cv8.keep (fun h => by have := (hX1.lt _ h).1; omega) Br
            replace E := E.step Cv8 (fun x hx h => absurd (hX1.lt x h).1 (by omega))
            replace E2 := E2.step Cv8 (fun x hx h => absurd (hX1.lt x h).1 (by omega))
            obtain ⟨na2, nc2, rfl⟩ := own_form Ov8
            have hLRn := hLR1.chg Cv8 (fun b hb h => (hA1 b (.inr h)).2 hb) (fun b hb h => (hA1 b (.inr h)).1 hb)
            have hAn : ∀ b, (Value.slice na2 (i + 1) nc2).ownBlock = some b → ¬ T1 b ∧ (Value.slice lb L1.length ld).ownBlock ≠ some b := fun b hb => by
              rcases Dv8 b hb with h | h
              · exact hA1 b (.inr h)
              · exact ⟨fun h2 => by have := (hLR1.t b h2).2; omega, fun h2 => by have := (hLR1.lt b h2).2; omega⟩
            refine qA (.slice na2 (i + 1) nc2) rfl ?_
            refine WpL_nil (inB_normal (thn_normal (Wp_region ?_)))
            refine qM (I6 (i : Int)) rfl ?_
            refine qV (r_add (k := .i64) (a := (i : Int)) (b := 1) (c := (i : Int) + 1) rfl rfl (wI64 (by omega))) ?_
            refine qA (I6 ((i : Int) + 1)) rfl ?_
            refine WpL_nil (thn_normal ?_)
            exact ⟨201 - (i + 1), by omega, i + 1, L1, lb, ld, T1, nx ++ [.slice (some ⟨bm, 0, none⟩) cs.length cs.length], na2, nc2, Fits.out ⟨rfl, rfl, rfl, rfl, trivial⟩, E, E2, Br, (by omega), hLRn, Ov8, hAn, hF1, hDn, hl1, (by rw [hn1]; exact E2.size), rfl⟩
      · have khlt := hlt
        replace hlt := of_decide_eq_false hlt
        have hii : i = L.length := by omega
        rw [hii] at hFd
        refine Wp_exit (thn_exit (thn_exit (inB_here (thn_normal (Wp_seq_region ?_)))))
        refine qM (.slice la L.length lc) rfl ?_
        refine qM (.slice ca cs.length cc) rfl ?_
        refine qM (.slice na i nc) rfl ?_
        refine qA (.slice la L.length lc) rfl ?_
        refine qA (.slice ca cs.length cc) rfl ?_
        refine qA (.slice na i nc) rfl ?_
        refine qA (I6 0) rfl ?_
        refine WpL_nil (Wp_ret ?_)
        refine fin_tmp4 Tryz.results79 (v1 := (.slice la L.length lc)) (v2 := (.slice ca cs.length cc)) (v3 := (.slice na i nc)) (v4 := (.int .i64 0)) rfl rfl rfl rfl ?_
        exact ⟨.inr ⟨L, cs, la, lc, _, _, _, _, _, _, rfl, hLR.rs hzn, hFm, hFd, hcl, hLl⟩, E⟩
end Go.Proofs
namespace Go.Proofs
open Go Go.Eng Go.Sort
set_option maxRecDepth 100000
def FamCase (t : Re) (e : Int) (L : List Re) : Prop := (e = 2 ∧ L = []) ∨ (e = 0 ∧ ∃ cs, Fam t L ∧ FamD cs L.length L ∧ clsL (setsL t) cs)
def FamRes2 (S : Nat → Prop) (z0 : Nat) (t : Re) (v : Value) (w : World) : Prop :=
 ∃ (e : Int) (L : List Re) (la : Option Addr) (lc : Nat) (ca : Option Addr) (cn cc : Nat) (na : Option Addr) (nn nc : Nat), v = .tuple #[.slice la L.length lc, .slice ca cn cc, .slice na nn nc, .int .i64 e] ∧ RsIn (fun b => S b ∨ z0 ≤ b) w (.slice la L.length lc) L ∧ L.length ≤ 200 ∧ (∀ x ∈ L, SimOk x ∧ x.size ≤ 300) ∧ FamCase t e L
theorem fam_res2 {S : Nat → Prop} {z0 : Nat} {t : Re} {v : Value} {w : World} (h : FamRes S z0 t v w) : FamRes2 S z0 t v w := by
 rcases h with rfl | ⟨L, cs, la, lc, ca, cn, cc, na, nn, nc, rfl, h1, h2, h3, h4, h5⟩
 ·exact ⟨2, [], none, 0, none, 0, 0, none, 0, 0, rfl, ⟨none, 0, rfl, by simp, .inl rfl⟩, by simp, by simp, .inl ⟨rfl, rfl⟩⟩
 ·exact ⟨0, L, la, lc, ca, cn, cc, na, nn, nc, rfl, h1, h5, h2.ok, .inr ⟨rfl, cs, h2, h3, h4⟩⟩
def AllRes (t : Re) (v : Value) (w : World) : Prop := ∃ (e : Int) (L : List Re) (la : Option Addr) (lc : Nat), v = .tuple #[.slice la L.length lc, .int .i64 e] ∧ RsAt w (.slice la L.length lc) L ∧ L.length ≤ 200 ∧ FamCase t e L
set_option maxHeartbeats 4000000 in
theorem dAll_c (w0 : World) (S : Nat → Prop) (t : Re) (vs : List Value) (ht : ReIn S w0 t vs) (hS : ∀ x, S x → x < w0.heap.size) (hc0 : chkD t = 0) :
  Ret Tryz.prog 23 #[.agg vs.toArray] w0 fun v w => AllRes t v w ∧ Ext w0 w := by
 have ht0 := ht
 obtain ⟨sa, sc, aa, ac, rfl, hset, hlen, hargs⟩ := ht.form
 refine Ret_of Tryz.func23 rfl Tryz.ntmps23 (Nat.le_of_ble_eq_true rfl) ?_
 have E : Chg none1 w0 w0 := Chg.refl _ _
 refine Wp_seq_region ?_
 refine s_box (v := (.agg (R6 t sa sc aa ac))) (c := (R6 t sa sc aa ac)) (by decide) rfl rfl ?_
 intro br wr Nr
 have Fr := Nr.ge E
 replace E := E.ext Nr.ext
 have Br := Nr.blk
 refine qA (.slice none 0 0) rfl ?_
 refine qA (I6 0) rfl ?_
 refine WpL_nil (Wp_seq_region ?_)
 refine qV (r_loadAgg (vs := [(I6 t.kind), (.slice sa t.set.length sc), (.slice aa t.args.length ac), (I6 t.mn), (I6 t.mx), (.bool t.neg)]) rfl agg25 siz25 rfl (Br.cells rfl)) ?_
 refine WpL_enter rfl rfl (by decide) (r_callF (vs := [(.agg (R6 t sa sc aa ac))]) Tryz.func79 nm79 bd79 rfl) ((family_c _ S t _ (ReIn.ext E t ht0) (fun y hy => by have := hS y hy; have := E.size; omega) hc0).mono (R' := fun v w => FamRes2 S wr.heap.size t v w ∧ Ext wr w) (fun v w h => ⟨fam_res2 h.1, h.2⟩)) ?_
 rintro _ w9 ⟨⟨e, L, la, lc, ca, cn, cc, na, nn, nc, rfl, hRs, hL2, hok, hcase⟩, X9⟩
 replace Br := X9.keep Br
 replace E := E.ext X9
 have E2 : Chg none1 w9 w9 := Chg.refl _ _
 obtain ⟨n1, hn1⟩ : ∃ n, n = (w9).heap.size := ⟨_, rfl⟩
 have hbrn : br < n1 := by rw [hn1]; exact Br.lt
 have hn0 : w0.heap.size ≤ n1 := by rw [hn1]; exact E.size
 refine qM (.tuple #[(.slice la L.length lc), (.slice ca cn cc), (.slice na nn nc), (I6 e)]) rfl ?_
 refine qV (r_extract (vs := #[(.slice la L.length lc), (.slice ca cn cc), (.slice na nn nc), (I6 e)]) (v := (.slice la L.length lc)) rfl rfl) ?_
 refine qV (r_extract (vs := #[(.slice la L.length lc), (.slice ca cn cc), (.slice na nn nc), (I6 e)]) (v := (.slice ca cn cc)) rfl rfl) ?_
 refine qV (r_extract (vs := #[(.slice la L.length lc), (.slice ca cn cc), (.slice na nn nc), (I6 e)]) (v := (.slice na nn nc)) rfl rfl) ?_
 refine qV (r_extract (vs := #[(.slice la L.length lc), (.slice ca cn cc), (.slice na nn nc), (I6 e)]) (v := (I6 e)) rfl rfl) ?_
 refine qA (.slice la L.length lc) rfl ?_
 refine qA (.slice ca cn cc) rfl ?_
 refine qA (.slice na nn nc) rfl ?_
 refine qA (I6 e) rfl ?_
 refine WpL_nil (Wp_seq_region ?_)
 refine qA (.slice none 0 0) rfl ?_
 refine WpL_nil (Wp_seq (Wp_seq_region ?_))
 refine qM (.slice la L.length lc) rfl ?_
 refine qV (r_lenSlice (ad := la) (n := L.length) (cap := lc) Tryz.underlying23 rfl) ?_
 refine qM (I6 0) rfl ?_
 refine WpL_nil (Wp_block ?_)
 refine Wp_loop (fun nn_ σ W1 => ∃ (k : Nat) (oa : Option Addr) (oc : Nat) (T : Nat → Prop), (∃ jj_, σ = upds jj_ [(7, (I6 e)), (18, (.slice la L.length lc)), (19, (I6 (L.length : Int))), (20, (I6 (k : Int))), (8, (.slice oa ((L.take k).length) oc))]) ∧ Chg none1 w0 W1 ∧ Chg none1 w9 W1 ∧ Blk W1 br (R6 t sa sc aa ac) 25 ∧ (k ≤ L.length) ∧ (ListR (fun _ => False) n1 n1 W1 (.slice oa (L.take k).length oc) (L.take k) T) ∧ nn_ = L.length - k) (n := L.length - 0) ?_ ?_
 ·exact ⟨0, none, 0, (fun _ => False), Fits.out ⟨rfl, rfl, rfl, rfl, rfl, trivial⟩, E, E2, Br, Nat.zero_le _, ⟨⟨[], World.ownsRow_nil _ _ _ _, rfl⟩, fun y f => f.elim, fun b h => by cases h⟩, rfl⟩
 ·clear E E2 Br
  rintro _ _ W1 ⟨k, oa, oc, T, ⟨j1, rfl⟩, E, E2, Br, hk, hLR, rfl⟩
  refine Wp_seq_region ?_
  refine qV (r_lss (k := .i64) (a := (k : Int)) (b := (L.length : Int)) rfl rfl) ?_
  refine WpL_nil (Wp_seq ?_)
  refine Wp_cond (b := decide (((k : Int) : Int) < (L.length : Int))) rfl (fun hlt => ?_) (fun hlt => ?_)
  ·have khlt := hlt
   replace hlt := of_decide_eq_true hlt
   obtain ⟨x, hx⟩ := get_of_lt (l := L) (i := k) (by omega)
   obtain ⟨b, o, rfl, hcl⟩ := RsIn.cells hRs (by omega)
   obtain ⟨xs, hcx, hrx⟩ := hcl k x hx
   have hrx0 := hrx
   obtain ⟨xsa, xsc, xaa, xac, rfl, _, _, _⟩ := hrx.form
   obtain ⟨hxo, hxz⟩ := hok x (List.mem_of_getElem? hx)
   have htl : (L.take k).length = k := by rw [List.length_take]; omega
   have hLz := fun b h => (hLR.lt b h).2
   refine Wp_skip (thn_normal (Wp_seq (Wp_block (Wp_seq_region ?_))))
   refine qV (r_indexSlice (b := b) (o := o) (len := L.length) (cap := lc) (i := k) (o' := o + k * 6) rfl rfl rfl Tryz.underlying23 siz25 (by omega) (by omega)) ?_
   refine qV (r_loadAgg (vs := [(I6 x.kind), (.slice xsa x.set.length xsc), (.slice xaa x.args.length xac), (I6 x.mn), (I6 x.mx), (.bool x.neg)]) rfl agg25 siz25 rfl (hcx.ext E2)) ?_
   refine s_allocStore (v := (.agg (R6 x xsa xsc xaa xac))) (c := (R6 x xsa xsc xaa xac)) (n := 6) (by decide) zer25 rfl siz25 rfl rfl rfl (by simp [Value.oneCell']) ?_
   intro bz wz Nz
   have Fz := Nz.ge E
   have Fz_E2 := Nz.ge E2
   have Oz_br := Nz.lt Br
   replace Br := Nz.keep Br
   replace hLR := hLR.ext Nz.ext
   replace E := E.ext Nz.ext
   have Bz := Nz.blk
   replace E2 := E2.ext Nz.ext
   refine WpL_nil (Wp_region ?_)
   refine qM (.slice oa ((L.take k).length) oc) rfl ?_
   refine qV (r_loadAgg (vs := [(I6 x.kind), (.slice xsa x.set.length xsc), (.slice xaa x.args.length xac), (I6 x.mn), (I6 x.mx), (.bool x.neg)]) rfl agg25 siz25 rfl (Bz.cells rfl)) ?_
   obtain ⟨nw, hnw⟩ : ∃ n, n = wz.heap.size := ⟨_, rfl⟩
   have hzn : bz < nw ∧ n1 ≤ nw := ⟨by rw [hnw]; exact Bz.lt, by rw [hnw, hn1]; exact E2.size⟩
   refine WpL_enter rfl rfl (by decide) (r_callF (vs := [(.agg (R6 x xsa xsc xaa xac))]) Tryz.func57 nm57 bd57 rfl) ((copy_c x.size x _ _ (Nat.le_refl _) (by omega) (okv_sets x (sim_valid hxo).1) (ReIn.at x (ReIn.ext E2 x hrx0))).mono (R' := fun v w => reG (fun b => nw ≤ b) x v w ∧ Ext wz w) (fun v w h => by obtain ⟨⟨us, Z, L9, h1, hTr, hZL, hnew⟩, h3⟩ := h; exact ⟨reG_of (S' := fun b => nw ≤ b) (fun b hb => hb) ⟨us, h1, tree_rein (fun y hy => by have := (hnew y (.inl hy)).1; omega) x hTr (fun y hy => by have := (hnew y (.inr hy)).1; omega)⟩, h3⟩)) ?_
   rintro _ w59 ⟨⟨fa, fc, ga, gc, rfl, hR7⟩, X59⟩
   replace Br := X59.keep Br
   replace Bz := X59.keep Bz
   replace hLR := hLR.ext X59
   replace E := E.ext X59
   replace E2 := E2.ext X59
   refine s_buildSlice (ps := [(0, (.agg (R6 x fa fc ga gc)))]) (c := (R6 x fa fc ga gc)) (by decide) rfl Tryz.underlying23 siz25 zer25 (by decide) (by decide) (by kernel_rfl) ?_
   intro bu wu Nu
   have Fu := Nu.ge E
   have Fu_E2 := Nu.ge E2
   have Ou_br := Nu.lt Br
   have Ou_bz := Nu.lt Bz
   replace Br := Nu.keep Br
   replace Bz := Nu.keep Bz
   replace hLR := hLR.ext Nu.ext
   replace hR7 := ReIn.ext Nu.ext x hR7
   replace E := E.ext Nu.ext
   have Bu := Nu.blk
   replace E2 := E2.ext Nu.ext
   obtain ⟨rows1, ho1, hr1⟩ := hLR.o
   refine s_append (base := n1) (n := (L.take k).length) (m := 1) (xs := rows1.flatten) (news := [(I6 x.kind), (.slice fa x.set.length fc), (.slice ga x.args.length gc), (I6 x.mn), (I6 x.mx), (.bool x.neg)]) (size := 6) (bytes := 80) (v := (.slice oa ((L.take k).length) oc)) (by decide) Tryz.underlying23 siz25 byt25 zer25 rfl (by decide) rfl ho1 rfl (rfl) (Bu.cells rfl) (by simp [Value.oneCell']) (by unfold maxLen; omega) (by omega) (by rw [hn1]; exact E2.size) ?_
   intro v9 w79 Ov9 Cv9 Dv9
   replace Br := Cv9.keep (fun h => by have := (ho1.lt _ h).1; omega) Br
   replace E := E.step Cv9 (fun x hx h => absurd (ho1.lt x h).1 (by omega))
   replace E2 := E2.step Cv9 (fun x hx h => absurd (ho1.lt x h).1 (by omega))
   obtain ⟨la2, lc2, rfl⟩ := own_form Ov9
   have hLRn := hLR.push (n0 := nw) (x := x) hr1 (ReIn.mono (fun b hb => .inr hb) x (ReIn.lt x hR7)) (fun b h => by have := hLz b h; have := Nz.ext.size; omega) (by omega) Ov9 Cv9 Dv9
   have hts : L.take (k + 1) = L.take k ++ [x] := by rw [List.take_add_one, hx]; rfl
   have hll : (L.take (k + 1)).length = (L.take k).length + 1 := by rw [hts, List.length_append]; rfl
   rw [← hts, ← hll] at hLRn
   rw [← hll]
   refine qA (.slice la2 ((L.take (k + 1)).length) lc2) rfl ?_
   refine WpL_nil (inB_normal (thn_normal (Wp_region ?_)))
   refine qV (r_add (k := .i64) (a := (k : Int)) (b := 1) (c := (k : Int) + 1) rfl rfl (wI64 (by omega))) ?_
   refine qM (I6 ((k : Int) + 1)) rfl ?_
   refine WpL_nil (thn_normal ?_)
   exact ⟨L.length - (k + 1), by omega, k + 1, la2, lc2, (fun b => T b ∨ (nw ≤ b ∧ b < wu.heap.size)), Fits.out ⟨rfl, rfl, rfl, rfl, rfl, trivial⟩, E, E2, Br, (by omega), hLRn, rfl⟩
  ·have khlt := hlt
   replace hlt := of_decide_eq_false hlt
   have hkk : k = L.length := by omega
   rw [hkk, List.take_length] at hLR
   refine Wp_exit (thn_exit (thn_exit (inB_here (thn_normal (Wp_seq_region ?_)))))
   refine qM (.slice oa ((L.take k).length) oc) rfl ?_
   refine qM (I6 e) rfl ?_
   refine qA (.slice oa ((L.take k).length) oc) rfl ?_
   refine qA (I6 e) rfl ?_
   refine WpL_nil (Wp_ret ?_)
   refine fin_tmp2 Tryz.results23 (v := (.slice oa ((L.take k).length) oc)) (v' := (.int .i64 e)) rfl rfl ?_
   rw [hkk, List.take_length]
   exact ⟨⟨e, L, oa, oc, rfl, rsin_at (hLR.rs (Nat.le_refl _)), hL2, hcase⟩, E⟩
end Go.Proofs
namespace Go.Proofs
open Go Go.Eng Go.Sort
set_option maxRecDepth 100000
mutual
def PreT : Re → Prop
  | .mk k s a m x g => PreN k s a m x g ∧ PreTs a
def PreTs : List Re → Prop
  | [] => True
  | t :: ts => PreT t ∧ PreTs ts
end
theorem preTs_iff {ts : List Re} : PreTs ts ↔ ∀ t ∈ ts, PreT t := by
  induction ts with
  | nil => simp [PreTs]
  | cons t ts ih => simp only [PreTs, ih, List.mem_cons, forall_eq_or_imp]
theorem PreT.n {t : Re} (h : PreT t) : PreN t.kind t.set t.args t.mn t.mx t.neg := by cases t; exact h.1
theorem PreT.a {t : Re} (h : PreT t) : ∀ x ∈ t.args, PreT x := by cases t; exact preTs_iff.1 h.2
theorem PreN.len {k : Int} {s : List (Int × Int)} {a b : List Re} {m x : Int} {g : Bool} (h : PreN k s a m x g) (e : b.length = a.length) : PreN k s b m x g :=
 ⟨h.ks, h.ng, h.st, h.mm, h.k2, fun h0 => List.eq_nil_of_length_eq_zero (by rw [e, h.none h0]; rfl), fun h0 => by rw [e]; exact h.one h0, h.rep⟩
end Go.Proofs
namespace Go.Proofs
open Go Go.Eng
instance (k : Int) : Decidable (isL k) := by unfold isL; infer_instance
end Go.Proofs
namespace Go.Proofs
open Go Go.Eng
set_option maxRecDepth 100000
theorem RowsIn.drop {S : Nat → Prop} {w : World} : ∀ {ts : List Re} {rows : List (List Value)} (i : Nat), RowsIn S w ts rows → RowsIn S w (ts.drop i) (rows.drop i)
  | [], _, i, h => by simp only [RowsIn] at h; subst h; cases i <;> rfl
  | t :: ts, rows, 0, h => h
  | t :: ts, rows, i + 1, h => by
    obtain ⟨r, rs, rfl, h2, h3⟩ := h
    exact RowsIn.drop i h3
end Go.Proofs
namespace Go.Proofs
open Go Go.Eng Go.Sort
set_option maxRecDepth 100000
def formD (t : Re) : Re := if chkD t = 0 then simR t else noneT
set_option maxHeartbeats 1000000 in
theorem dform_c (w0 : World) (S : Nat → Prop) (t : Re) (vs : List Value) (ht : ReIn S w0 t vs) (hS : ∀ x, S x → x < w0.heap.size) :
  Ret Tryz.prog 10 #[.agg vs.toArray] w0 fun r w => (∃ us, r = .tuple #[.agg us.toArray, .int .i64 (chkD t)] ∧ ReIn (fun b => w0.heap.size ≤ b) w (formD t) us) ∧ Ext w0 w := by
 have ht0 := ht
 obtain ⟨sa, sc, aa, ac, rfl, hset, hlen, hargs⟩ := ht.form
 refine Ret_of Tryz.func10 rfl Tryz.ntmps10 (Nat.le_of_ble_eq_true rfl) ?_
 have E : Chg none1 w0 w0 := Chg.refl _ _
 refine Wp_seq_region ?_
 refine s_box (v := (.agg (R6 t sa sc aa ac))) (c := (R6 t sa sc aa ac)) (by decide) rfl rfl ?_
 intro br wr Nr
 have Fr := Nr.ge E
 replace E := E.ext Nr.ext
 have Br := Nr.blk
 refine s_alloc (c := #[(I6 0), (.slice none 0 0), (.slice none 0 0), (I6 0), (I6 0), (.bool false)]) (by decide) zer25 rfl ?_
 intro bo wo No
 have Fo := No.ge E
 have Oo_br := No.lt Br
 replace Br := No.keep Br
 replace E := E.ext No.ext
 have Bo := No.blk
 refine qA (I6 0) rfl ?_
 refine WpL_nil (Wp_seq (Wp_seq_region ?_))
 refine qV (r_loadAgg (vs := [(I6 t.kind), (.slice sa t.set.length sc), (.slice aa t.args.length ac), (I6 t.mn), (I6 t.mx), (.bool t.neg)]) rfl agg25 siz25 rfl (Br.cells rfl)) ?_
 refine WpL_enter rfl rfl (by decide) (r_callF (vs := [(.agg (R6 t sa sc aa ac))]) Tryz.func14 nm14 bd14 rfl) (dchk_c _ t _ (ReIn.at t (ReIn.ext E t ht0))) ?_
 rintro _ w9 ⟨rfl, X9⟩
 replace Br := X9.keep Br
 replace Bo := X9.keep Bo
 replace E := E.ext X9
 refine qA (I6 (chkD t)) rfl ?_
 refine WpL_nil (Wp_seq_region ?_)
 refine qM (I6 (chkD t)) rfl ?_
 refine qV (r_neq (k := .i64) (a := chkD t) (b := 0) rfl rfl) ?_
 refine WpL_nil ?_
 refine Wp_cond (b := decide ((chkD t : Int) ≠ 0)) rfl (fun hf => ?_) (fun hf => ?_)
 ·have khf := hf
  replace hf := of_decide_eq_true hf
  refine Wp_seq_region ?_
  refine qV (r_build (ps := []) (v := (.agg #[(I6 0), (.slice none 0 0), (.slice none 0 0), (I6 0), (I6 0), (.bool false)])) rfl (by kernel_rfl)) ?_
  refine qM (I6 (chkD t)) rfl ?_
  refine s_storeAgg (b := bo) (o := 0) (c' := #[(I6 0), (.slice none 0 0), (.slice none 0 0), (I6 0), (I6 0), (.bool false)]) rfl rfl (by simp [Value.oneCell']) siz25 rfl Bo (by first | (simp; done) | exact Nat.le_of_ble_eq_true rfl) rfl ?_
  intro w2 S2
  replace Br := S2.keep (by omega) Br
  replace E := S2.step E (by first | exact Or.inl (by omega) | exact Or.inr rfl | exact Or.inr (by assumption) | exact Or.inr (by simp) | exact Or.inr (by omega) | exact Or.inr (by dsimp only; omega))
  replace Bo := S2.blk
  refine qA (I6 (chkD t)) rfl ?_
  refine WpL_nil (Wp_ret (thn_ret ?_))
  refine fin_agg_tmp Tryz.results10 (vs := [(.int .i64 0), (.slice none 0 0), (.slice none 0 0), (.int .i64 0), (.int .i64 0), (.bool false)]) (b := bo) (v' := (.int .i64 (chkD t))) rfl agg25 siz25 rfl (Bo.cells rfl) rfl ?_
  exact ⟨⟨_, rfl, by unfold formD; rw [if_neg hf]; exact re_z⟩, E⟩
 ·have khf := hf
  replace hf := of_decide_eq_false hf
  have hc0 : chkD t = 0 := by omega
  obtain ⟨hok, hsz, hu, hsim, hsimz⟩ := chkD_zero hc0
  obtain ⟨M, hM⟩ : ∃ M, M = simR t := ⟨_, rfl⟩
  refine Wp_skip (thn_normal (Wp_seq_region ?_))
  refine qV (r_loadAgg (vs := [(I6 t.kind), (.slice sa t.set.length sc), (.slice aa t.args.length ac), (I6 t.mn), (I6 t.mx), (.bool t.neg)]) rfl agg25 siz25 rfl (Br.cells rfl)) ?_
  obtain ⟨n1, hn1⟩ : ∃ n1, n1 = w9.heap.size := ⟨_, rfl⟩
  have hob : bo < n1 ∧ w0.heap.size ≤ bo := ⟨by rw [hn1]; exact Bo.lt, by omega⟩
  refine WpL_enter rfl rfl (by decide) (r_callF (vs := [(.agg (R6 t sa sc aa ac))]) Tryz.func58 nm58 bd58 rfl) ((dsim_c 300 t _ S _ hsz (by omega) hok hu (ReIn.ext E t ht0) (fun y hy => by have := hS y hy; have := E.size; omega)).mono (R' := fun r w => reG (fun b => S b ∨ n1 ≤ b) M r w ∧ Ext w9 w) (fun r w h => ⟨reG_of (S' := fun b => S b ∨ w9.heap.size ≤ b) (fun b hb => by rcases hb with h1 | h1; exact .inl h1; exact .inr (by omega)) (by rw [hM]; exact h.1), h.2⟩)) ?_
  rintro _ w29 ⟨⟨xa, xc, ya, yc, rfl, hR⟩, X29⟩
  replace Br := X29.keep Br
  replace Bo := X29.keep Bo
  replace E := E.ext X29
  have hbo29 : bo < (w29).heap.size := by have := X29.size; omega
  refine WpL_enter rfl rfl (by decide) (r_callF (vs := [(.agg (R6 M xa xc ya yc))]) Tryz.func57 nm57 bd57 rfl) (copy_c M.size M _ _ (Nat.le_refl _) (by rw [hM]; omega) (okv_sets M (by rw [hM]; exact (sim_valid hsim).1)) (ReIn.at M hR)) ?_
  rintro _ w59 ⟨⟨us, Z, L, rfl, hTr, hZL, hnew⟩, X59⟩
  replace Br := X59.keep Br
  replace Bo := X59.keep Bo
  replace E := E.ext X59
  have hR7 := tree_rein (S := fun b => bo < b) (fun x hx => by have := (hnew x (.inl hx)).1; omega) M hTr (fun x hx => by have := (hnew x (.inr hx)).1; omega)
  obtain ⟨fa, fc, ga, gc, rfl, _, _, _⟩ := hTr.form
  refine s_storeAgg (b := bo) (o := 0) (c' := (R6 M fa fc ga gc)) rfl rfl (by simp [Value.oneCell']) siz25 rfl Bo (by first | (simp; done) | exact Nat.le_of_ble_eq_true rfl) rfl ?_
  intro w3 S3
  replace hR7 := ReIn.chg S3.chg (fun y hy h => by have h2 : y = bo := h; have h3 : bo < y := hy; omega) _ hR7
  replace Br := S3.keep (by omega) Br
  replace E := S3.step E (by first | exact Or.inl (by omega) | exact Or.inr rfl | exact Or.inr (by assumption) | exact Or.inr (by simp) | exact Or.inr (by omega) | exact Or.inr (by dsimp only; omega))
  replace Bo := S3.blk
  refine qA (I6 0) rfl ?_
  refine WpL_nil (Wp_ret ?_)
  refine fin_agg_tmp Tryz.results10 (vs := [(.int .i64 M.kind), (.slice fa M.set.length fc), (.slice ga M.args.length gc), (.int .i64 M.mn), (.int .i64 M.mx), (.bool M.neg)]) (b := bo) (v' := (.int .i64 0)) rfl agg25 siz25 rfl (Bo.cells rfl) rfl ?_
  exact ⟨⟨_, by rw [hc0], by unfold formD; rw [if_pos hc0, ← hM]; exact ReIn.mono (fun y (hy : bo < y) => by omega) _ hR7⟩, E⟩
end Go.Proofs
namespace Go.Proofs
open Go Go.Eng Go.Sort
set_option maxRecDepth 100000
def begD : Re := .mk 3 [] [oneT 97, oneT 98] 0 0 false
theorem begD_by : byE begD 97 = 0 ∧ byD begD 97 = oneT 98 := ⟨by decide +kernel, (sameT_iff _ _).1 (by decide +kernel)⟩
set_option maxHeartbeats 1000000 in
theorem dbegun_c (w0 : World) : Ret Tryz.prog 21 #[] w0 fun v w => v = .bool true ∧ Ext w0 w := by
 obtain ⟨hb1, hb2⟩ := begD_by
 refine Ret_of Tryz.func21 rfl Tryz.ntmps21 (Nat.le_of_ble_eq_true rfl) ?_
 have E : Chg none1 w0 w0 := Chg.refl _ _
 refine Wp_seq_region ?_
 refine qA (.bool false) rfl ?_
 refine WpL_nil (Wp_seq_region ?_)
 refine WpL_enter rfl rfl (by decide) (r_callF (vs := [(I6 97)]) Tryz.func77 nm77 bd77 rfl) (one_c _ 97) ?_
 rintro _ w9 ⟨b, rfl, hsp, X9⟩
 replace E := E.ext X9
 refine WpL_enter rfl rfl (by decide) (r_callF (vs := [(I6 98)]) Tryz.func77 nm77 bd77 rfl) (one_c _ 98) ?_
 rintro _ w19 ⟨b2, rfl, hsp2, X19⟩
 replace E := E.ext X19
 refine s_buildSlice (ps := [(0, (.agg #[(I6 2), (.slice (some ⟨b, 0, none⟩) 1 1), (.slice none 0 0), (I6 0), (I6 0), (.bool false)])), (1, (.agg #[(I6 2), (.slice (some ⟨b2, 0, none⟩) 1 1), (.slice none 0 0), (I6 0), (I6 0), (.bool false)]))]) (c := #[(I6 2), (.slice (some ⟨b, 0, none⟩) 1 1), (.slice none 0 0), (I6 0), (I6 0), (.bool false), (I6 2), (.slice (some ⟨b2, 0, none⟩) 1 1), (.slice none 0 0), (I6 0), (I6 0), (.bool false)]) (by decide) rfl Tryz.underlying23 siz25 zer25 (by decide) (by decide) (by kernel_rfl) ?_
 intro bp wp Np
 have Fp := Np.ge E
 replace E := E.ext Np.ext
 have Bp := Np.blk
 refine WpL_enter rfl rfl (by decide) (r_callF (vs := [(I6 3), (.slice (some ⟨bp, 0, none⟩) 2 2)]) Tryz.func76 nm76 bd76 rfl) (re_c _ 3 (some ⟨bp, 0, none⟩) 2 2) ?_
 rintro _ w29 ⟨rfl, X29⟩
 replace Bp := X29.keep Bp
 replace E := E.ext X29
 have hat : ReAt w29 begD [.int .i64 3, .slice none 0 0, .slice (some ⟨bp, 0, none⟩) 2 2, .int .i64 0, .int .i64 0, .bool false] := ReAt.of (set := []) (args := [oneT 97, oneT 98]) (SlAt.nil _ _ _ _) (by simp) (.inr ⟨bp, 0, rfl, by simp only [ResAt]; exact ⟨⟨_, Bp.cells rfl, one_at (((hsp.ext X19).ext Np.ext).ext X29)⟩, ⟨_, Bp.cells rfl, one_at ((hsp2.ext Np.ext).ext X29)⟩, trivial⟩⟩)
 refine WpL_enter rfl rfl (by decide) (r_callF (vs := [(.agg #[(I6 3), (.slice none 0 0), (.slice (some ⟨bp, 0, none⟩) 2 2), (I6 0), (I6 0), (.bool false)]), (I6 97)]) Tryz.func11 nm11 bd11 rfl) ((dby_c _ (fun x => x < w29.heap.size) begD _ 97 (ReIn.of_at begD hat) (fun y hy => hy)).mono (R' := fun r w => (∃ sa sc aa ac, r = .tuple #[.agg #[.int .i64 2, .slice sa 1 sc, .slice aa 0 ac, .int .i64 0, .int .i64 0, .bool false], .int .i64 0] ∧ ReAt w (oneT 98) [.int .i64 2, .slice sa 1 sc, .slice aa 0 ac, .int .i64 0, .int .i64 0, .bool false]) ∧ Ext w29 w) (fun r w h => ⟨by obtain ⟨⟨us, h1, h2⟩, _⟩ := h; rw [hb2] at h2; rw [hb1] at h1; obtain ⟨sa, sc, aa, ac, rfl, _⟩ := h2.form; exact ⟨sa, sc, aa, ac, h1, ReIn.at _ h2⟩, h.2⟩)) ?_
 rintro _ w39 ⟨⟨sa, sc, aa, ac, rfl, hR⟩, X39⟩
 replace Bp := X39.keep Bp
 replace E := E.ext X39
 refine qM (.tuple #[(.agg #[(I6 2), (.slice sa 1 sc), (.slice aa 0 ac), (I6 0), (I6 0), (.bool false)]), (I6 0)]) rfl ?_
 refine qV (r_extract (vs := #[(.agg #[(I6 2), (.slice sa 1 sc), (.slice aa 0 ac), (I6 0), (I6 0), (.bool false)]), (I6 0)]) (v := (.agg #[(I6 2), (.slice sa 1 sc), (.slice aa 0 ac), (I6 0), (I6 0), (.bool false)])) rfl rfl) ?_
 refine qV (r_extract (vs := #[(.agg #[(I6 2), (.slice sa 1 sc), (.slice aa 0 ac), (I6 0), (I6 0), (.bool false)]), (I6 0)]) (v := (I6 0)) rfl rfl) ?_
 refine s_allocStore (v := (.agg #[(I6 2), (.slice sa 1 sc), (.slice aa 0 ac), (I6 0), (I6 0), (.bool false)])) (c := #[(I6 2), (.slice sa 1 sc), (.slice aa 0 ac), (I6 0), (I6 0), (.bool false)]) (n := 6) (by decide) zer25 rfl siz25 rfl rfl rfl (by simp [Value.oneCell']) ?_
 intro bq wq Nq
 have Fq := Nq.ge E
 have Oq_bp := Nq.lt Bp
 replace Bp := Nq.keep Bp
 replace hR := ReAt.ext Nq.ext _ hR
 replace E := E.ext Nq.ext
 have Bq := Nq.blk
 refine qA (I6 0) rfl ?_
 refine WpL_nil (Wp_seq ?_)
 obtain ⟨Fs1, hFs1⟩ : ∃ Fs : List Fact, Fs = [.eq (I6 0), .eq (.bool true), .eq (.bool true), .re (oneT 98), .re (oneT 98), .eq (.bool true), .eq (.bool true), .eq (.bool true)] := ⟨_, rfl⟩
 refine Wp_dag [11, 12, 13, 14, 15, 16, 17, 0] [[], [0], [1], [2], [2], [2, 3, 4], [2, 5], [0, 1, 2, 3, 4, 5, 6]] Fs1 hFs1 mixed (by kernel_rfl) (by kernel_rfl) ?_ ?_
 ·intro wd X0
  refine DagSteps.cons (fun s' w' X U H => Or.inl ⟨?_, ?_⟩) ?_
  ·exact Guarded_none rfl
  ·exact Does_val (r_move (v := (I6 0)) (U 2 rfl)) (Ext.refl _) rfl
  refine DagSteps.cons (fun s' w' X U H => Or.inl ⟨?_, ?_⟩) ?_
  ·exact Guarded_none rfl
  ·have e11 : s' 11 = (.int .i64 0) := H 0 rfl 11 (.eq (.int .i64 0)) rfl (by rw [hFs1]; rfl)
   exact Does_val (r_eql (k := .i64) (a := 0) (b := 0) e11 rfl) (Ext.refl _) rfl
  refine DagSteps.cons (fun s' w' X U H => Or.inl ⟨?_, ?_⟩) ?_
  ·exact Guarded_none rfl
  ·have e12 : s' 12 = (.bool true) := H 1 rfl 12 (.eq (.bool true)) rfl (by rw [hFs1]; rfl)
   exact Does_val (r_move (v := (.bool true)) e12) (Ext.refl _) rfl
  refine DagSteps.cons (fun s' w' X U H => Or.inl ⟨?_, ?_⟩) ?_
  ·exact Guarded_some rfl rfl (d := 13) (H 2 rfl 13 (.eq (.bool true)) rfl (by rw [hFs1]; rfl))
  ·exact Does_val (r_loadAgg (vs := [(I6 2), (.slice sa 1 sc), (.slice aa 0 ac), (I6 0), (I6 0), (.bool false)]) (U 1 rfl) agg25 siz25 rfl ((X0.trans X).keep Bq |>.cells rfl)) (Ext.refl _) ⟨_, rfl, ReAt.ext (X0.trans X) _ hR⟩
  refine DagSteps.cons (fun s' w' X U H => Or.inl ⟨?_, ?_⟩) ?_
  ·exact Guarded_some rfl rfl (d := 13) (H 2 rfl 13 (.eq (.bool true)) rfl (by rw [hFs1]; rfl))
  ·exact Does_enter (r_callF (vs := [(I6 98)]) Tryz.func77 nm77 bd77 (lst1 rfl)) ((one_c _ 98).mono (fun v w h => by obtain ⟨b, h1, h2, h3⟩ := h; exact ⟨⟨_, h1, one_at h2⟩, h3⟩))
  refine DagSteps.cons (fun s' w' X U H => Or.inl ⟨?_, ?_⟩) ?_
  ·exact Guarded_some rfl rfl (d := 13) (H 2 rfl 13 (.eq (.bool true)) rfl (by rw [hFs1]; rfl))
  ·obtain ⟨v14, e14, r14⟩ : (Fact.re (oneT 98)).In (s' 14) w' := H 3 rfl 14 (.re (oneT 98)) rfl (by rw [hFs1]; rfl)
   obtain ⟨v15, e15, r15⟩ : (Fact.re (oneT 98)).In (s' 15) w' := H 4 rfl 15 (.re (oneT 98)) rfl (by rw [hFs1]; rfl)
   exact Does_enter (r_callF (vs := [(.agg v14.toArray), (.agg v15.toArray)]) Tryz.func25 nm25 bd25 (lst2 e14 e15)) ((resame_c (oneT 98).size (oneT 98) (oneT 98) _ _ _ (Nat.le_refl _) r14 r15).mono (fun v w h => ⟨by rw [h.1]; rfl, h.2⟩))
  refine DagSteps.cons (fun s' w' X U H => Or.inl ⟨?_, ?_⟩) ?_
  ·exact Guarded_none rfl
  ·have e13 : s' 13 = (.bool true) := H 2 rfl 13 (.eq (.bool true)) rfl (by rw [hFs1]; rfl)
   have e16 : s' 16 = (.bool true) := H 5 rfl 16 (.eq (.bool true)) rfl (by rw [hFs1]; rfl)
   exact Does_val (r_pick (b := true) (v := (.bool true)) e13 e16) (Ext.refl _) rfl
  refine DagSteps.cons (fun s' w' X U H => Or.inl ⟨?_, ?_⟩) ?_
  ·exact Guarded_none rfl
  ·have e17 : s' 17 = (.bool true) := H 6 rfl 17 (.eq (.bool true)) rfl (by rw [hFs1]; rfl)
   exact Does_val (r_assign (v := (.bool true)) e17) (Ext.refl _) rfl
  exact DagSteps.nil
 ·intro s' w1 X1 U H
  obtain ⟨j1, rfl⟩ := Fits.out (σ := s') (l := [(0, (.bool true))]) ⟨(show s' 0 = (.bool true) from H 7 0 (.eq (.bool true)) rfl (by rw [hFs1]; rfl)), trivial⟩
  clear U H
  replace Bp := X1.keep Bp
  replace Bq := X1.keep Bq
  replace hR := ReAt.ext X1 _ hR
  replace E := E.ext X1
  refine thn_normal (Wp_ret ?_)
  refine fin_tmp Tryz.results21 (v := (.bool true)) rfl ?_
  exact ⟨rfl, E⟩
end Go.Proofs
namespace Go.Proofs
open Go Go.Eng Go.Sort
set_option maxRecDepth 100000
def tupG (S : Nat → Prop) (x : Re) (e : Int) : Fct := fun v w => ∃ sa sc aa ac, v = .tuple #[.agg #[.int .i64 x.kind, .slice sa x.set.length sc, .slice aa x.args.length ac, .int .i64 x.mn, .int .i64 x.mx, .bool x.neg], .int .i64 e] ∧ ReIn S w x [.int .i64 x.kind, .slice sa x.set.length sc, .slice aa x.args.length ac, .int .i64 x.mn, .int .i64 x.mx, .bool x.neg]
theorem tupG_ne {S : Nat → Prop} {x : Re} {c : Int} {v : Value} {w : World} {n : Nat} (e : w.heap.size = n) (h : tupG S x c v w) : tupG (fun y => S y ∧ y ≠ n) x c v w := by
 obtain ⟨sa, sc, aa, ac, h1, h2⟩ := h
 exact ⟨sa, sc, aa, ac, h1, ReIn.mono (fun y hy => ⟨hy.1, by omega⟩) x (ReIn.lt x h2)⟩
theorem tupG_of {S S' : Nat → Prop} {x : Re} {e : Int} {v : Value} {w : World} (hS : ∀ b, S' b → S b) (h : ∃ us : List Value, v = .tuple #[.agg us.toArray, .int .i64 e] ∧ ReIn S' w x us) : tupG S x e v w := by
 obtain ⟨us, rfl, h⟩ := h
 have h2 := ReIn.mono hS x h
 obtain ⟨sa, sc, aa, ac, rfl, _⟩ := h2.form
 exact ⟨sa, sc, aa, ac, rfl, h2⟩
end Go.Proofs
namespace Go.Proofs
open Go Go.Eng
set_option maxRecDepth 100000
mutual
theorem uses_none {ks : List Int} {p : Re → Prop} (hp : ∀ t, p t → ks.contains t.kind = false) : ∀ (t : Re), allRe p t → usesB ks t = false
  | .mk k set args mn mx ng, h => by
    simp only [allRe] at h
    have h1 := hp _ h.1
    simp only [Re.kind] at h1
    simp only [usesB, h1, Bool.false_or]
    exact uses_nones hp args h.2
theorem uses_nones {ks : List Int} {p : Re → Prop} (hp : ∀ t, p t → ks.contains t.kind = false) : ∀ (ts : List Re), allRes p ts → usesBs ks ts = false
  | [], _ => rfl
  | t :: ts, h => by
    simp only [allRes] at h
    simp only [usesBs, uses_none hp t h.1, uses_nones hp ts h.2, Bool.or_self]
end
end Go.Proofs
namespace Go.Proofs
open Go Go.Eng Go.Sort
set_option maxRecDepth 100000
theorem ResAt.take {w : World} {b : Nat} : ∀ {ts : List Re} {o i : Nat}, ResAt w b o ts → ResAt w b o (ts.take i)
  | [], o, i, h => by simpa using h
  | t :: ts, o, 0, h => by simp only [List.take_zero, ResAt]
  | t :: ts, o, i + 1, h => by
    simp only [List.take_succ_cons, ResAt] at h ⊢
    exact ⟨h.1, Go.Proofs.ResAt.take h.2⟩
theorem RsAt.take {w : World} {a a' : Option Addr} {c i n : Nat} {ts : List Re} (h : RsAt w (.slice a n c) ts) (hi : i ≤ ts.length) (ha : (if c = 0 then a else Option.map (fun q : Addr => q.add (0 * 6)) a) = a') : RsAt w (.slice a' i c) (ts.take i) := by
 obtain ⟨aa, ac, hv, hc, h1⟩ := h
 simp only [Value.slice.injEq] at hv
 obtain ⟨rfl, rfl, rfl⟩ := hv
 have hl : (ts.take i).length = i := by rw [List.length_take]; omega
 refine ⟨a', c, by rw [hl], by omega, ?_⟩
 rcases h1 with h1 | ⟨b, o, rfl, h1⟩
 ·left; rw [h1]; simp
 ·right
  refine ⟨b, o, ?_, ResAt.take h1⟩
  rw [← ha]
  split <;> simp [Addr.add]
theorem nd_take {α : Type} {L : List α} {k : Nat} {x : α} (h : L.Nodup) (hx : L[k]? = some x) : x ∉ L.take k := fun hm => by
 rw [← List.take_append_drop k L, List.nodup_append] at h
 exact h.2.2 x hm x (by rw [drop_cons hx]; simp) rfl
theorem closes1_c (w0 : World) (bz : Nat) (z Y : Re) (zs ys : List Value) (hB : Blk w0 bz ys.toArray 25) (hy : ReAt w0 Y ys) (hz : ReAt w0 z zs) :
  Ret Tryz.prog 27 #[.agg zs.toArray, .pointer (some ⟨bz, 0, none⟩)] w0 fun r w => r = .bool (sameT Y z) ∧ Ext w0 w := by
 have hy0 := hy
 have hz0 := hz
 obtain ⟨sa, sc, aa, ac, rfl, _, _, _⟩ := hz.form
 obtain ⟨sa2, sc2, aa2, ac2, rfl, _, _, _⟩ := hy.form
 refine Ret_of Tryz.func27 rfl Tryz.ntmps27 (Nat.le_of_ble_eq_true rfl) ?_
 have E : Chg none1 w0 w0 := Chg.refl _ _
 refine Wp_seq_region ?_
 refine s_box (v := (.agg (R6 z sa sc aa ac))) (c := (R6 z sa sc aa ac)) (by decide) rfl rfl ?_
 intro br wr Nr
 have Fr := Nr.ge E
 have Or_bz := Nr.lt hB
 replace hB := Nr.keep hB
 replace E := E.ext Nr.ext
 have Br := Nr.blk
 refine qA (.bool false) rfl ?_
 refine WpL_nil (Wp_seq_region ?_)
 refine qV (r_loadAgg (vs := [(I6 Y.kind), (.slice sa2 Y.set.length sc2), (.slice aa2 Y.args.length ac2), (I6 Y.mn), (I6 Y.mx), (.bool Y.neg)]) rfl agg25 siz25 rfl (hB.cells rfl)) ?_
 refine qV (r_loadAgg (vs := [(I6 z.kind), (.slice sa z.set.length sc), (.slice aa z.args.length ac), (I6 z.mn), (I6 z.mx), (.bool z.neg)]) rfl agg25 siz25 rfl (Br.cells rfl)) ?_
 refine WpL_enter rfl rfl (by decide) (r_callF (vs := [(.agg (R6 Y sa2 sc2 aa2 ac2)), (.agg (R6 z sa sc aa ac))]) Tryz.func25 nm25 bd25 rfl) (resame_c Y.size Y z _ _ _ (Nat.le_refl _) (ReAt.ext E Y hy0) (ReAt.ext E z hz0)) ?_
 rintro _ w9 ⟨rfl, X9⟩
 replace hB := X9.keep hB
 replace Br := X9.keep Br
 replace E := E.ext X9
 refine qA (.bool (sameT Y z)) rfl ?_
 refine WpL_nil (Wp_ret ?_)
 refine fin_tmp Tryz.results27 (v := (.bool (sameT Y z))) rfl ?_
 exact ⟨rfl, E⟩
theorem closes2_c (w0 : World) (bz : Nat) (z Y : Re) (zs ys : List Value) (hB : Blk w0 bz ys.toArray 25) (hy : ReAt w0 Y ys) (hz : ReAt w0 z zs) :
  Ret Tryz.prog 28 #[.agg zs.toArray, .pointer (some ⟨bz, 0, none⟩)] w0 fun r w => r = .bool (sameT Y z) ∧ Ext w0 w := by
 have hy0 := hy
 have hz0 := hz
 obtain ⟨sa, sc, aa, ac, rfl, _, _, _⟩ := hz.form
 obtain ⟨sa2, sc2, aa2, ac2, rfl, _, _, _⟩ := hy.form
 refine Ret_of Tryz.func28 rfl Tryz.ntmps28 (Nat.le_of_ble_eq_true rfl) ?_
 have E : Chg none1 w0 w0 := Chg.refl _ _
 refine Wp_seq_region ?_
 refine s_box (v := (.agg (R6 z sa sc aa ac))) (c := (R6 z sa sc aa ac)) (by decide) rfl rfl ?_
 intro br wr Nr
 have Fr := Nr.ge E
 have Or_bz := Nr.lt hB
 replace hB := Nr.keep hB
 replace E := E.ext Nr.ext
 have Br := Nr.blk
 refine qA (.bool false) rfl ?_
 refine WpL_nil (Wp_seq_region ?_)
 refine qV (r_loadAgg (vs := [(I6 Y.kind), (.slice sa2 Y.set.length sc2), (.slice aa2 Y.args.length ac2), (I6 Y.mn), (I6 Y.mx), (.bool Y.neg)]) rfl agg25 siz25 rfl (hB.cells rfl)) ?_
 refine qV (r_loadAgg (vs := [(I6 z.kind), (.slice sa z.set.length sc), (.slice aa z.args.length ac), (I6 z.mn), (I6 z.mx), (.bool z.neg)]) rfl agg25 siz25 rfl (Br.cells rfl)) ?_
 refine WpL_enter rfl rfl (by decide) (r_callF (vs := [(.agg (R6 Y sa2 sc2 aa2 ac2)), (.agg (R6 z sa sc aa ac))]) Tryz.func25 nm25 bd25 rfl) (resame_c Y.size Y z _ _ _ (Nat.le_refl _) (ReAt.ext E Y hy0) (ReAt.ext E z hz0)) ?_
 rintro _ w9 ⟨rfl, X9⟩
 replace hB := X9.keep hB
 replace Br := X9.keep Br
 replace E := E.ext X9
 refine qA (.bool (sameT Y z)) rfl ?_
 refine WpL_nil (Wp_ret ?_)
 refine fin_tmp Tryz.results28 (v := (.bool (sameT Y z))) rfl ?_
 exact ⟨rfl, E⟩
theorem gen_chkD {t : Re} (h : allRe (genP 8) t) (hs : t.size ≤ 31) : chkD t = 0 := by
 have h1 : fitsE t 300 = 0 := (fitsE_zero (by decide) (by decide)).2 ⟨gen_ok t h, by omega⟩
 have h2 : usesB [9, 10] t = false := uses_none (p := genP 8) (fun u hu => by have := hu.2.1; simp; omega) t h
 unfold chkD
 rw [if_neg (by omega), if_neg (by rw [h2]; decide)]
def cArr : Array Value := #[.int .i64 97, .int .i64 98, .int .i64 99, .int .i64 100, .int .i64 0]
theorem c_tab : ∀ i, i < 5 → ∃ r, cArr[i]? = some (.int .i64 r) ∧ 0 ≤ r ∧ r ≤ 1114111 := by
  intro i h
  match i, h with
  | 0, _ => exact ⟨97, rfl, by omega, by omega⟩
  | 1, _ => exact ⟨98, rfl, by omega, by omega⟩
  | 2, _ => exact ⟨99, rfl, by omega, by omega⟩
  | 3, _ => exact ⟨100, rfl, by omega, by omega⟩
  | 4, _ => exact ⟨0, rfl, by omega, by omega⟩
set_option maxHeartbeats 4000000 in
theorem dcloses_c (w0 : World) (v1 : Value) (l : List Int) (c : Int) (h1 : IntsAt w0 v1 l) :
  Ret Tryz.prog 4 #[v1, .int .i64 c] w0 fun v w => v = .bool true ∧ Ext w0 w := by
 obtain ⟨a1, c1, rfl⟩ := SlAt.form h1
 simp only [List.length_map] at h1 ⊢
 refine Ret_of Tryz.func4 rfl Tryz.ntmps4 (Nat.le_of_ble_eq_true rfl) ?_
 have E : Chg none1 w0 w0 := Chg.refl _ _
 refine Wp_seq_region ?_
 refine qA (.bool false) rfl ?_
 refine WpL_nil (Wp_seq (Wp_seq_region ?_))
 refine WpL_enter rfl rfl (by decide) (r_callF (vs := []) Tryz.func21 nm21 bd21 rfl) (dbegun_c _) ?_
 rintro _ w9 ⟨rfl, X9⟩
 replace E := E.ext X9
 refine qV (r_not (b := true) rfl) ?_
 refine WpL_nil ?_
 refine Wp_cond_false rfl ?_
 refine Wp_skip (thn_normal (Wp_seq_region ?_))
 refine qM (.slice a1 l.length c1) rfl ?_
 refine WpL_enter rfl rfl (by decide) (r_callF (vs := [(.slice a1 l.length c1)]) Tryz.func22 nm22 bd22 rfl) (mkRe_c _ _ l (h1.ext E)) ?_
 rintro _ wa ⟨a, us, rfl, ga, za, ha, Xa⟩
 replace E := E.ext Xa
 have hat := ReIn.of_at a (ReIn.at a ha)
 obtain ⟨sa, sc, aa, ac, rfl, _, _, _⟩ := ha.form
 have hc0 := gen_chkD ga za
 obtain ⟨hok, hsz, hu, hsim, hsimz⟩ := chkD_zero hc0
 have hv := valid_sets hok hu
 refine s_allocStore (v := (.agg (R6 a sa sc aa ac))) (c := (R6 a sa sc aa ac)) (n := 6) (by decide) zer25 rfl siz25 rfl rfl rfl (by simp [Value.oneCell']) ?_
 intro bp wp Np
 have Fp := Np.ge E
 replace E := E.ext Np.ext
 have Bp := Np.blk
 refine WpL_nil (Wp_seq_region ?_)
 refine qV (r_loadAgg (vs := [(I6 a.kind), (.slice sa a.set.length sc), (.slice aa a.args.length ac), (I6 a.mn), (I6 a.mx), (.bool a.neg)]) rfl agg25 siz25 rfl (Bp.cells rfl)) ?_
 refine WpL_enter rfl rfl (by decide) (r_callF (vs := [(.agg (R6 a sa sc aa ac))]) Tryz.func23 nm23 bd23 rfl) (dAll_c _ (fun b => b < wa.heap.size) a _ (ReIn.ext Np.ext a hat) (fun y hy => by have h2 : y < wa.heap.size := hy; have := Np.ext.size; omega) hc0) ?_
 rintro _ w19 ⟨⟨e, L, la, lc, rfl, hRs, hL2, hcase⟩, X19⟩
 replace Bp := X19.keep Bp
 replace E := E.ext X19
 refine qM (.tuple #[(.slice la L.length lc), (I6 e)]) rfl ?_
 refine qV (r_extract (vs := #[(.slice la L.length lc), (I6 e)]) (v := (.slice la L.length lc)) rfl rfl) ?_
 refine qV (r_extract (vs := #[(.slice la L.length lc), (I6 e)]) (v := (I6 e)) rfl rfl) ?_
 refine qA (.slice la L.length lc) rfl ?_
 refine qA (I6 e) rfl ?_
 refine WpL_nil (Wp_seq (Wp_seq_region ?_))
 refine qM (I6 e) rfl ?_
 refine qV (r_neq (k := .i64) (a := e) (b := 0) rfl rfl) ?_
 refine WpL_nil ?_
 refine Wp_cond (b := decide ((e : Int) ≠ 0)) rfl (fun he => ?_) (fun he => ?_)
 ·have khe := he
  replace he := of_decide_eq_true he
  refine Wp_seq_region ?_
  refine qM (I6 e) rfl ?_
  refine qV (r_eql (k := .i64) (a := e) (b := 2) rfl rfl) ?_
  refine qA (.bool (decide ((e : Int) = 2))) rfl ?_
  refine WpL_nil (Wp_ret (thn_ret ?_))
  refine fin_tmp Tryz.results4 (v := (.bool (decide ((e : Int) = 2)))) rfl ?_
  exact ⟨bool_eq (by rcases hcase with ⟨h, _⟩ | ⟨h, _⟩; simp [h]; omega), E⟩
 ·have khe := he
  replace he := of_decide_eq_false he
  have he0 : e = 0 := by omega
  obtain ⟨cs, hF, hD, hcl⟩ := (hcase.resolve_left (by rintro ⟨h, _⟩; omega)).2
  have hcap : L.length ≤ lc := by obtain ⟨_, _, hv9, h9, _⟩ := hRs; simp only [Value.slice.injEq] at hv9; omega
  have hm0 := Int.emod_nonneg c (show (5 : Int) ≠ 0 by decide)
  have hm1 := Int.emod_lt_of_pos c (show (0 : Int) < 5 by decide)
  obtain ⟨cv, hcv, hcv0, hcv1⟩ := c_tab (c % 5).toNat (by omega)
  refine Wp_skip (thn_normal (Wp_seq_region ?_))
  refine s_buildSlice (ps := [(0, (I6 97)), (1, (I6 98)), (2, (I6 99)), (3, (I6 100)), (4, (I6 0))]) (c := #[(I6 97), (I6 98), (I6 99), (I6 100), (I6 0)]) (by decide) rfl Tryz.underlying26 siz3 zer3 (by decide) (by decide) (by kernel_rfl) ?_
  intro bt wt Nt
  have Ft := Nt.ge E
  have Ot_bp := Nt.lt Bp
  replace Bp := Nt.keep Bp
  replace E := E.ext Nt.ext
  have Bt := Nt.blk
  refine qM (I6 c) rfl ?_
  refine WpL_enter rfl rfl (by decide) (r_callF (vs := [(I6 c), (I6 5)]) Tryz.func24 nm24 bd24 rfl) ((below_c c 5 (by omega) (by omega) _).mono (R' := fun v w => v = .int .i64 (c % 5) ∧ wt = w) (fun v w h => ⟨h.1, h.2.symm⟩)) ?_
  rintro _ w29 ⟨rfl, rfl⟩
  refine qV (r_indexSlice (b := bt) (o := 0) (len := 5) (cap := 5) (i := (c % 5).toNat) (o' := 0 + ((c % 5).toNat)) rfl rfl (by omega) Tryz.underlying26 siz3 (by omega) (by omega)) ?_
  refine qV (r_load (v := (I6 cv)) rfl flat3 (Bt.cell (by rw [Nat.zero_add]; exact hcv))) ?_
  obtain ⟨m, hm⟩ : ∃ m, m = min L.length 20 := ⟨_, rfl⟩
  refine qA (I6 cv) rfl ?_
  refine WpL_nil (Wp_seq (Wp_seq_region ?_))
  refine qM (.slice la L.length lc) rfl ?_
  refine qM (.slice la L.length lc) rfl ?_
  refine qV (r_lenSlice (ad := la) (n := L.length) (cap := lc) Tryz.underlying23 rfl) ?_
  refine qV (r_min2 (a := (L.length : Int)) (b := 20) (c := (m : Int)) rfl rfl (by omega)) ?_
  obtain ⟨sl, hsl⟩ : ∃ a' : Option Addr, (if lc = 0 then la else Option.map (fun q : Addr => q.add (0 * 6)) la) = a' := ⟨_, rfl⟩
  refine qV (r_sliceHi (a := la) (len := L.length) (cap := lc) (hi := m) (l := (m : Int)) Tryz.underlying23 siz25 rfl rfl (by omega) (by omega) hsl) ?_
  have hRs1 := hRs.ext Nt.ext
  have hRm := hRs1.take (i := m) (by omega) hsl
  have E2 : Chg none1 wt wt := Chg.refl _ _
  refine qV (r_lenSlice (ad := sl) (n := m) (cap := lc) Tryz.underlying23 rfl) ?_
  refine qM (I6 0) rfl ?_
  refine WpL_nil (Wp_block ?_)
  refine Wp_loop (fun nn_ σ W2 => ∃ (k : Nat), (∃ jj_, σ = upds jj_ [(1, (I6 cv)), (6, (.slice la L.length lc)), (36, (.slice sl m lc)), (37, (I6 (m : Int))), (38, (I6 (k : Int)))]) ∧ Chg none1 w0 W2 ∧ Chg none1 wt W2 ∧ (k ≤ m) ∧ nn_ = m - k) (n := m - 0) ?_ ?_
  ·exact ⟨0, Fits.out ⟨rfl, rfl, rfl, rfl, rfl, trivial⟩, E, E2, Nat.zero_le _, rfl⟩
  ·clear E E2
   rintro _ _ W2 ⟨k, ⟨j2, rfl⟩, E, E2, hk, rfl⟩
   refine Wp_seq_region ?_
   refine qV (r_lss (k := .i64) (a := (k : Int)) (b := (m : Int)) rfl rfl) ?_
   refine WpL_nil (Wp_seq ?_)
   refine Wp_cond (b := decide (((k : Int) : Int) < (m : Int))) rfl (fun hlt => ?_) (fun hlt => ?_)
   ·have khlt := hlt
    replace hlt := of_decide_eq_true hlt
    obtain ⟨x, hx⟩ := get_of_lt (l := L) (i := k) (by omega)
    have hxm : (L.take m)[k]? = some x := by rw [List.getElem?_take, if_pos (by omega)]; exact hx
    obtain ⟨b, o, rfl, hcells⟩ := RsAt.cells hRm (by omega)
    obtain ⟨xs, hcx, hrx⟩ := hcells k x hxm
    obtain ⟨xsa, xsc, xaa, xac, rfl, _, _, _⟩ := hrx.form
    have hxL := List.mem_of_getElem? hx
    obtain ⟨hx1, hx2, hx3, hx4, hx5⟩ := fam_by (c := cv) hF hD hcl hv hxL hcv0 hcv1
    have hfx : formD x = x := by unfold formD; rw [if_pos hx1, hx2]
    obtain ⟨Y, hY⟩ : ∃ Y, Y = stepR cv x := ⟨_, rfl⟩
    have hrs := ReIn.of_at x (ReAt.ext E2 x hrx)
    obtain ⟨n1, hn1⟩ : ∃ n, n = (W2).heap.size := ⟨_, rfl⟩
    rw [← hn1] at hrs
    have E3 : Chg none1 W2 W2 := Chg.refl _ _
    refine Wp_skip (thn_normal (Wp_seq (Wp_block (Wp_seq_region ?_))))
    refine qM (I6 (k : Int)) rfl ?_
    refine qV (r_indexSlice (b := b) (o := o) (len := m) (cap := lc) (i := k) (o' := o + k * 6) rfl rfl rfl Tryz.underlying23 siz25 (by omega) (by omega)) ?_
    refine qV (r_loadAgg (vs := [(I6 x.kind), (.slice xsa x.set.length xsc), (.slice xaa x.args.length xac), (I6 x.mn), (I6 x.mx), (.bool x.neg)]) rfl agg25 siz25 rfl (hcx.ext E2)) ?_
    refine s_alloc (c := #[(I6 0), (.slice none 0 0), (.slice none 0 0), (I6 0), (I6 0), (.bool false)]) (by decide) zer25 rfl ?_
    intro bx wx Nx
    have Fx := Nx.ge E
    have Fx_E2 := Nx.ge E2
    have Fx_E3 := Nx.ge E3
    replace hrs := ReIn.ext Nx.ext x hrs
    replace E := E.ext Nx.ext
    have Bx := Nx.blk
    replace E2 := E2.ext Nx.ext
    replace E3 := E3.ext Nx.ext
    refine qA (I6 (k : Int)) rfl ?_
    refine s_storeAgg (b := bx) (o := 0) (c' := (R6 x xsa xsc xaa xac)) rfl rfl (by simp [Value.oneCell']) siz25 rfl Bx (by first | (simp; done) | exact Nat.le_of_ble_eq_true rfl) rfl ?_
    intro w4 S4
    replace hrs := ReIn.chg S4.chg (fun y hy h => by have h2 : y = bx := h; have h3 : y < n1 := hy; have := Nx.eq; omega) x hrs
    replace E := S4.step E (by first | exact Or.inl (by omega) | exact Or.inr rfl | exact Or.inr (by assumption) | exact Or.inr (by simp) | exact Or.inr (by omega) | exact Or.inr (by dsimp only; omega))
    replace E2 := S4.step E2 (Or.inl (by omega))
    replace E3 := S4.step E3 (Or.inl (by omega))
    replace Bx := S4.blk
    refine WpL_nil (Wp_seq_region ?_)
    refine qV (r_loadAgg (vs := [(I6 x.kind), (.slice xsa x.set.length xsc), (.slice xaa x.args.length xac), (I6 x.mn), (I6 x.mx), (.bool x.neg)]) rfl agg25 siz25 rfl (Bx.cells rfl)) ?_
    refine WpL_enter rfl rfl (by decide) (r_callF (vs := [(.agg (R6 x xsa xsc xaa xac))]) Tryz.func10 nm10 bd10 rfl) ((dform_c _ (fun b => b < n1) x _ hrs (fun y hy => by have h2 : y < n1 := hy; have := E3.size; omega)).mono (R' := fun r w => tupG (fun _ => True) x 0 r w ∧ Ext _ w) (fun r w h => ⟨tupG_of (S' := fun b => _ ≤ b) (fun b hb => trivial) (by obtain ⟨us, h2, h3⟩ := h.1; rw [hfx] at h3; exact ⟨us, by rw [h2, hx1], h3⟩), h.2⟩)) ?_
    rintro _ w39 ⟨⟨fa, fc, ga2, gc, rfl, hFm⟩, X39⟩
    replace Bx := X39.keep Bx
    replace hrs := ReIn.ext X39 x hrs
    replace E := E.ext X39
    replace E2 := E2.ext X39
    replace E3 := E3.ext X39
    refine qM (.tuple #[(.agg (R6 x fa fc ga2 gc)), (I6 0)]) rfl ?_
    refine qV (r_extract (vs := #[(.agg (R6 x fa fc ga2 gc)), (I6 0)]) (v := (.agg (R6 x fa fc ga2 gc))) rfl rfl) ?_
    refine qV (r_extract (vs := #[(.agg (R6 x fa fc ga2 gc)), (I6 0)]) (v := (I6 0)) rfl rfl) ?_
    refine s_allocStore (v := (.agg (R6 x fa fc ga2 gc))) (c := (R6 x fa fc ga2 gc)) (n := 6) (by decide) zer25 rfl siz25 rfl rfl rfl (by simp [Value.oneCell']) ?_
    intro bq wq Nq
    have Fq := Nq.ge E
    have Fq_E2 := Nq.ge E2
    have Fq_E3 := Nq.ge E3
    have Oq_bx := Nq.lt Bx
    replace Bx := Nq.keep Bx
    replace hrs := ReIn.ext Nq.ext x hrs
    replace hFm := ReIn.ext Nq.ext x hFm
    replace E := E.ext Nq.ext
    have Bq := Nq.blk
    replace E2 := E2.ext Nq.ext
    replace E3 := E3.ext Nq.ext
    refine qA (I6 0) rfl ?_
    refine WpL_nil (Wp_seq_region ?_)
    refine qV (r_loadAgg (vs := [(I6 x.kind), (.slice xsa x.set.length xsc), (.slice xaa x.args.length xac), (I6 x.mn), (I6 x.mx), (.bool x.neg)]) rfl agg25 siz25 rfl (Bx.cells rfl)) ?_
    refine qM (I6 cv) rfl ?_
    refine WpL_enter rfl rfl (by decide) (r_callF (vs := [(.agg (R6 x xsa xsc xaa xac)), (I6 cv)]) Tryz.func11 nm11 bd11 rfl) ((dby_c _ (fun b => b < n1) x _ cv hrs (fun y hy => by have h2 : y < n1 := hy; have := E3.size; omega)).mono (R' := fun r w => tupG (fun _ => True) Y 0 r w ∧ Ext wq w) (fun r w h => ⟨tupG_of (S' := fun b => wq.heap.size ≤ b) (fun b hb => trivial) (by obtain ⟨us, h2, h3⟩ := h.1; rw [hx4, ← hY] at h3; exact ⟨us, by rw [h2, hx3], h3⟩), h.2⟩)) ?_
    rintro _ w49 ⟨⟨ya, yc, za2, zc, rfl, hYm⟩, X49⟩
    replace Bx := X49.keep Bx
    replace Bq := X49.keep Bq
    replace hrs := ReIn.ext X49 x hrs
    replace hFm := ReIn.ext X49 x hFm
    replace E := E.ext X49
    replace E2 := E2.ext X49
    replace E3 := E3.ext X49
    refine qM (.tuple #[(.agg (R6 Y ya yc za2 zc)), (I6 0)]) rfl ?_
    refine qV (r_extract (vs := #[(.agg (R6 Y ya yc za2 zc)), (I6 0)]) (v := (.agg (R6 Y ya yc za2 zc))) rfl rfl) ?_
    refine qV (r_extract (vs := #[(.agg (R6 Y ya yc za2 zc)), (I6 0)]) (v := (I6 0)) rfl rfl) ?_
    refine s_allocStore (v := (.agg (R6 Y ya yc za2 zc))) (c := (R6 Y ya yc za2 zc)) (n := 6) (by decide) zer25 rfl siz25 rfl rfl rfl (by simp [Value.oneCell']) ?_
    intro bm wm Nm
    have Fm := Nm.ge E
    have Fm_E2 := Nm.ge E2
    have Fm_E3 := Nm.ge E3
    have Om_bx := Nm.lt Bx
    have Om_bq := Nm.lt Bq
    replace Bx := Nm.keep Bx
    replace Bq := Nm.keep Bq
    replace hrs := ReIn.ext Nm.ext x hrs
    replace hFm := ReIn.ext Nm.ext x hFm
    replace hYm := ReIn.ext Nm.ext Y hYm
    replace E := E.ext Nm.ext
    have Bm := Nm.blk
    replace E2 := E2.ext Nm.ext
    replace E3 := E3.ext Nm.ext
    refine qA (I6 0) rfl ?_
    refine WpL_nil (Wp_seq (Wp_seq_region ?_))
    refine qM (I6 0) rfl ?_
    refine qV (r_neq (k := .i64) (a := 0) (b := 0) rfl rfl) ?_
    refine qM (.bool false) rfl ?_
    refine WpL_guard_yes (oj := _) rfl rfl (by decide) rfl ?_
    refine qM (I6 0) rfl ?_
    refine WpL_guard_yes (oj := _) rfl rfl (by decide) rfl ?_
    refine qV (r_neq (k := .i64) (a := 0) (b := 0) rfl rfl) ?_
    refine qV (r_pick (b := false) (v := (.bool false)) rfl rfl) ?_
    refine qM (.bool false) rfl ?_
    refine WpL_guard_yes (oj := _) rfl rfl (by decide) rfl ?_
    refine qV (r_loadAgg (vs := [(I6 x.kind), (.slice fa x.set.length fc), (.slice ga2 x.args.length gc), (I6 x.mn), (I6 x.mx), (.bool x.neg)]) rfl agg25 siz25 rfl (Bq.cells rfl)) ?_
    refine WpL_guard_yes (oj := _) rfl rfl (by decide) rfl ?_
    refine qV (r_loadAgg (vs := [(I6 x.kind), (.slice xsa x.set.length xsc), (.slice xaa x.args.length xac), (I6 x.mn), (I6 x.mx), (.bool x.neg)]) rfl agg25 siz25 rfl (Bx.cells rfl)) ?_
    refine WpL_guard_yes (oj := _) rfl rfl (by decide) rfl ?_
    refine WpL_enter rfl rfl (by decide) (r_callF (vs := [(.agg (R6 x fa fc ga2 gc)), (.agg (R6 x xsa xsc xaa xac))]) Tryz.func25 nm25 bd25 rfl) ((resame_c x.size x x _ _ _ (Nat.le_refl _) (ReIn.at x hFm) (ReIn.at x hrs)).mono (R' := fun v w => v = .bool true ∧ Ext wm w) (fun v w h => ⟨by rw [h.1, (sameT_iff x x).2 rfl], h.2⟩)) ?_
    rintro _ w59 ⟨rfl, X59⟩
    replace Bx := X59.keep Bx
    replace Bq := X59.keep Bq
    replace Bm := X59.keep Bm
    replace hrs := ReIn.ext X59 x hrs
    replace hFm := ReIn.ext X59 x hFm
    replace hYm := ReIn.ext X59 Y hYm
    replace E := E.ext X59
    replace E2 := E2.ext X59
    replace E3 := E3.ext X59
    refine WpL_guard_yes (oj := _) rfl rfl (by decide) rfl ?_
    refine qV (r_not (b := true) rfl) ?_
    refine qV (r_pick (b := false) (v := (.bool false)) rfl rfl) ?_
    refine WpL_nil ?_
    refine Wp_cond_false rfl ?_
    refine Wp_skip (thn_normal (Wp_seq (Wp_seq_region ?_)))
    refine qF bm 0 0 rfl Tryz.underlying25 rfl siz3 rfl ?_
    refine qV (r_load (v := (I6 Y.kind)) rfl flat3 (Bm.cell rfl)) ?_
    refine qV (r_neq (k := .i64) (a := Y.kind) (b := 0) rfl rfl) ?_
    refine qM (.bool (decide ((Y.kind : Int) ≠ 0))) rfl ?_
    rcases Bool.eq_false_or_eq_true (decide ((Y.kind : Int) ≠ 0)) with hk0 | hk0
    ·have khk0 := hk0
     replace khk0 := of_decide_eq_true khk0
     have hYL : Y ∈ L := by rw [hY]; exact hx5.resolve_left (by rw [← hY]; exact khk0)
     refine WpL_guard_yes (oj := _) rfl rfl (by decide) (congrArg Value.bool hk0) ?_
     refine qM (.slice la L.length lc) rfl ?_
     refine WpL_guard_yes (oj := _) rfl rfl (by decide) (congrArg Value.bool hk0) ?_
     refine qV (r_makeFunc (vs := []) (us := [(P6 bm 0)]) rfl rfl) ?_
     refine WpL_guard_yes (oj := _) rfl rfl (by decide) (congrArg Value.bool hk0) ?_
     refine WpL_enter rfl rfl (by decide) (r_callF (vs := [(.slice la L.length lc), (.func (.func 27) #[] #[(P6 bm 0)])]) Tryz.func26 nm26 bd26 rfl) ((res_has_c _ _ _ L (fun z => sameT Y z) (hRs1.ext E2) (fun w z zs hE hm hz => CallV.mk (first := #[]) (cap := #[.pointer (some ⟨bm, 0, none⟩)]) Tryz.func27 nm27 bd27 rfl (closes1_c w bm z Y zs _ (hE.keep Bm) (ReAt.ext hE Y (ReIn.at Y hYm)) hz))).mono (R' := fun v w => v = .bool true ∧ Ext _ w) (fun v w h => ⟨by rw [h.1, List.any_eq_true.2 ⟨Y, hYL, (sameT_iff Y Y).2 rfl⟩], h.2⟩)) ?_
     rintro _ w69 ⟨rfl, X69⟩
     replace Bx := X69.keep Bx
     replace Bq := X69.keep Bq
     replace Bm := X69.keep Bm
     replace hrs := ReIn.ext X69 x hrs
     replace hFm := ReIn.ext X69 x hFm
     replace hYm := ReIn.ext X69 Y hYm
     replace E := E.ext X69
     replace E2 := E2.ext X69
     replace E3 := E3.ext X69
     refine WpL_guard_yes (oj := _) rfl rfl (by decide) (congrArg Value.bool hk0) ?_
     refine qV (r_not (b := true) rfl) ?_
     refine qV (r_pick (b := decide ((Y.kind : Int) ≠ 0)) (v := (.bool false)) rfl (by rw [hk0]; rfl)) ?_
     refine WpL_nil ?_
     refine Wp_cond_false rfl ?_
     refine Wp_skip (thn_normal (Wp_seq_region ?_))
     refine qM (.slice la L.length lc) rfl ?_
     refine qM (I6 (k : Int)) rfl ?_
     obtain ⟨s2, hs2⟩ : ∃ a' : Option Addr, (if lc = 0 then la else Option.map (fun q : Addr => q.add (0 * 6)) la) = a' := ⟨_, rfl⟩
     refine qV (r_sliceHi (a := la) (len := L.length) (cap := lc) (hi := k) (l := (k : Int)) Tryz.underlying23 siz25 rfl rfl (by omega) (by omega) hs2) ?_
     have hnx := nd_take hF.nd hx
     refine qV (r_makeFunc (vs := []) (us := [(P6 bx 0)]) rfl rfl) ?_
     refine WpL_enter rfl rfl (by decide) (r_callF (vs := [(.slice s2 k lc), (.func (.func 28) #[] #[(P6 bx 0)])]) Tryz.func26 nm26 bd26 rfl) ((res_has_c _ _ _ (L.take k) (fun z => sameT x z) ((hRs1.ext E2).take (by omega) hs2) (fun w z zs hE hm hz => CallV.mk (first := #[]) (cap := #[.pointer (some ⟨bx, 0, none⟩)]) Tryz.func28 nm28 bd28 rfl (closes2_c w bx z x zs _ (hE.keep Bx) (ReAt.ext hE x (ReIn.at x hrs)) hz))).mono (R' := fun v w => v = .bool false ∧ Ext _ w) (fun v w h => ⟨by rw [h.1, List.any_eq_false.2 (fun z hz h2 => hnx (by rw [(sameT_iff x z).1 h2]; exact hz))], h.2⟩)) ?_
     rintro _ w79 ⟨rfl, X79⟩
     replace Bx := X79.keep Bx
     replace Bq := X79.keep Bq
     replace Bm := X79.keep Bm
     replace hrs := ReIn.ext X79 x hrs
     replace hFm := ReIn.ext X79 x hFm
     replace hYm := ReIn.ext X79 Y hYm
     replace E := E.ext X79
     replace E2 := E2.ext X79
     replace E3 := E3.ext X79
     refine WpL_nil ?_
     refine Wp_cond_false rfl ?_
     refine Wp_skip (inB_normal (thn_normal (Wp_region ?_)))
     refine qV (r_add (k := .i64) (a := (k : Int)) (b := 1) (c := (k : Int) + 1) rfl rfl (wI64 (by omega))) ?_
     refine qM (I6 ((k : Int) + 1)) rfl ?_
     refine WpL_nil (thn_normal ?_)
     exact ⟨m - (k + 1), by omega, k + 1, Fits.out ⟨rfl, rfl, rfl, rfl, rfl, trivial⟩, E, E2, (by omega), rfl⟩
    ·have khk0 := hk0
     replace khk0 := of_decide_eq_false khk0
     refine WpL_guard_no (oj := _) rfl rfl (by decide) (v := .bool false) (congrArg Value.bool hk0) (Or.inl rfl) ?_
     refine WpL_guard_no (oj := _) rfl rfl (by decide) (v := .bool false) (congrArg Value.bool hk0) (Or.inl rfl) ?_
     refine WpL_guard_no (oj := _) rfl rfl (by decide) (v := .bool false) (congrArg Value.bool hk0) (Or.inl rfl) ?_
     refine WpL_guard_no (oj := _) rfl rfl (by decide) (v := .bool false) (congrArg Value.bool hk0) (Or.inl rfl) ?_
     refine qV (r_pick (b := decide ((Y.kind : Int) ≠ 0)) (v := (.bool false)) rfl (by rw [hk0]; rfl)) ?_
     refine WpL_nil ?_
     refine Wp_cond_false rfl ?_
     refine Wp_skip (thn_normal (Wp_seq_region ?_))
     refine qM (.slice la L.length lc) rfl ?_
     refine qM (I6 (k : Int)) rfl ?_
     obtain ⟨s2, hs2⟩ : ∃ a' : Option Addr, (if lc = 0 then la else Option.map (fun q : Addr => q.add (0 * 6)) la) = a' := ⟨_, rfl⟩
     refine qV (r_sliceHi (a := la) (len := L.length) (cap := lc) (hi := k) (l := (k : Int)) Tryz.underlying23 siz25 rfl rfl (by omega) (by omega) hs2) ?_
     have hnx := nd_take hF.nd hx
     refine qV (r_makeFunc (vs := []) (us := [(P6 bx 0)]) rfl rfl) ?_
     refine WpL_enter rfl rfl (by decide) (r_callF (vs := [(.slice s2 k lc), (.func (.func 28) #[] #[(P6 bx 0)])]) Tryz.func26 nm26 bd26 rfl) ((res_has_c _ _ _ (L.take k) (fun z => sameT x z) ((hRs1.ext E2).take (by omega) hs2) (fun w z zs hE hm hz => CallV.mk (first := #[]) (cap := #[.pointer (some ⟨bx, 0, none⟩)]) Tryz.func28 nm28 bd28 rfl (closes2_c w bx z x zs _ (hE.keep Bx) (ReAt.ext hE x (ReIn.at x hrs)) hz))).mono (R' := fun v w => v = .bool false ∧ Ext _ w) (fun v w h => ⟨by rw [h.1, List.any_eq_false.2 (fun z hz h2 => hnx (by rw [(sameT_iff x z).1 h2]; exact hz))], h.2⟩)) ?_
     rintro _ w79 ⟨rfl, X79⟩
     replace Bx := X79.keep Bx
     replace Bq := X79.keep Bq
     replace Bm := X79.keep Bm
     replace hrs := ReIn.ext X79 x hrs
     replace hFm := ReIn.ext X79 x hFm
     replace hYm := ReIn.ext X79 Y hYm
     replace E := E.ext X79
     replace E2 := E2.ext X79
     replace E3 := E3.ext X79
     refine WpL_nil ?_
     refine Wp_cond_false rfl ?_
     refine Wp_skip (inB_normal (thn_normal (Wp_region ?_)))
     refine qV (r_add (k := .i64) (a := (k : Int)) (b := 1) (c := (k : Int) + 1) rfl rfl (wI64 (by omega))) ?_
     refine qM (I6 ((k : Int) + 1)) rfl ?_
     refine WpL_nil (thn_normal ?_)
     exact ⟨m - (k + 1), by omega, k + 1, Fits.out ⟨rfl, rfl, rfl, rfl, rfl, trivial⟩, E, E2, (by omega), rfl⟩
   ·have khlt := hlt
    replace hlt := of_decide_eq_false hlt
    have hLp := List.length_pos_iff.2 hF.ne
    refine Wp_exit (thn_exit (thn_exit (inB_here (thn_normal (Wp_seq_region ?_)))))
    refine qM (.slice la L.length lc) rfl ?_
    refine qV (r_lenSlice (ad := la) (n := L.length) (cap := lc) Tryz.underlying23 rfl) ?_
    refine qV (r_gtr (k := .i64) (a := (L.length : Int)) (b := 0) rfl rfl) ?_
    refine qA (.bool (decide ((0 : Int) < (L.length : Int)))) rfl ?_
    refine WpL_nil (Wp_ret ?_)
    refine fin_tmp Tryz.results4 (v := (.bool (decide ((0 : Int) < ((L.length : Nat) : Int))))) rfl ?_
    exact ⟨bool_eq (by simp; omega), E⟩
end Go.Proofs
