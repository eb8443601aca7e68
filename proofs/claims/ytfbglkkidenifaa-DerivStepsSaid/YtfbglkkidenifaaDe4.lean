/- Contracts and plain lemmas, part 4. -/
import Derived.Tactics
import Derived.Deep.Quiet
import Derived.Laws.AppendOwn
import Derived.KernelRfl
import Derived.Laws.Entries
import Derived.Laws.Build
import Derived.Below
import Derived.RowKit3
import Derived.StillTail
import Derived.Sort.Grow
import Derived.Deep.Draws
import Derived.Test.YtfbglkkidenifaaChecked
import Derived.Laws.StructEq
import Derived.Shelf.SlSortCmp.WholeK
import Derived.Test.YtfbglkkidenifaaProg
import Derived.MapKept
import Derived.Laws.BytesArg
import Derived.Test.YtfbglkkidenifaaDe3
namespace Go.Eng
open Go
def edgeB (l : List Oper) (t u : Nat) : Bool := match l[t]? with
  | some o => o.after.any fun e => Region.binds .any e && Nat.beq e.on u
  | none => false
def guardB (hd : List Bool) (o : Oper) : Bool := match o.guard with | some p => hd.getD p.1 false | none => true
def dagPB (N : Nat) (hd : List Bool) : Nat → List Oper → List Nat → List (List Nat) → List Bool → Bool
  | _, [], [], [], [] => true
  | i, o :: l, d :: ds, ws :: wss, h :: hs => (bif h then dagOne N i o d ws && ((o.after.all fun e => !Region.binds .any e || hd.getD e.on false) && guardB hd o) else Nat.ble N d) && dagPB N hd (i + 1) l ds wss hs
  | _, _, _, _, _ => false
/-- Each operation is of the head or of the tail, and one of the tail waits for the whole head or for another of the tail. -/
def tailPB (l : List Oper) (hd : List Bool) (ts : List Nat) : Bool :=
 (List.range l.length).all fun i => hd.getD i false || (ts.contains i && ((List.range l.length).all (fun u => !hd.getD u false || edgeB l i u) || ts.any fun p => !hd.getD p true && edgeB l i p))
def permB (ops : Array Oper) : List Nat → Array Bool → Bool
  | [], listed => (Region.ready .any ops listed).isEmpty
  | k :: ks, listed => decide (Region.ready .any ops listed = [k]) && permB ops ks (listed.setIfInBounds k true)
theorem wpAny_of_perm {P : Program} {ops : Array Oper} {Q' : Exit → Act → World → Prop} : ∀ (ks : List Nat) (listed : Array Bool) (a : Act) (w : World), permB ops ks listed = true → wpList P ops Q' (ks.filterMap fun k => ops[k]?) a w → wpAny P .any ops Q' ks.length listed a w
  | [], _, _, _, hB, h => ⟨by simpa [permB] using hB, h⟩
  | k :: ks, listed, a, w, hB, h => by
    simp only [permB, Bool.and_eq_true, decide_eq_true_eq] at hB
    refine ⟨fun h1 => (by rw [hB.1] at h1; cases h1), fun i hi => ?_⟩
    have hi0 := hi
    rw [hB.1] at hi
    have hik : i = k := by simpa using hi
    subst hik
    obtain ⟨_, o, h0, _⟩ := mem_ready.1 hi0
    have hw : wpOp P ops Q' i (wpList P ops Q' (ks.filterMap fun k => ops[k]?)) a w := by
      rw [List.filterMap_cons, h0] at h
      unfold wpOp; simp only [h0]; exact h
    exact wpOp_mono (fun a' w' h' => wpAny_of_perm ks _ a' w' hB.2 h') hw
theorem dagPB_get {N : Nat} {hd : List Bool} : ∀ {i : Nat} {l : List Oper} {ds : List Nat} {wss : List (List Nat)} {hs : List Bool}, dagPB N hd i l ds wss hs = true → ∀ {j : Nat} {o : Oper}, l[j]? = some o → ∃ d ws h, ds[j]? = some d ∧ wss[j]? = some ws ∧ hs[j]? = some h ∧ (bif h then dagOne N (i + j) o d ws && ((o.after.all fun e => !Region.binds .any e || hd.getD e.on false) && guardB hd o) else Nat.ble N d) = true
  | _, [], _, _, _, _, j, o, h => by simp at h
  | i, x :: l, [], _, _, hB, _, _, _ => by simp [dagPB] at hB
  | i, x :: l, d :: ds, [], _, hB, _, _, _ => by simp [dagPB] at hB
  | i, x :: l, d :: ds, ws :: wss, [], hB, _, _, _ => by simp [dagPB] at hB
  | i, x :: l, d :: ds, ws :: wss, h0 :: hs, hB, j, o, h => by
    simp only [dagPB, Bool.and_eq_true] at hB
    cases j with
    | zero => simp at h; subst h; exact ⟨d, ws, h0, rfl, rfl, rfl, hB.1⟩
    | succ j =>
      simp at h
      obtain ⟨d', ws', h', h1, h2, h3, h4⟩ := dagPB_get hB.2 h
      exact ⟨d', ws', h', by simpa using h1, by simpa using h2, by simpa using h3, by rw [show i + (j + 1) = i + 1 + j from by omega]; exact h4⟩
theorem dagPB_len {N : Nat} {hd : List Bool} : ∀ {i : Nat} {l : List Oper} {ds : List Nat} {wss : List (List Nat)} {hs : List Bool}, dagPB N hd i l ds wss hs = true → ds.length = l.length ∧ hs.length = l.length
  | _, [], [], [], [], _ => ⟨rfl, rfl⟩
  | _, [], [], [], _ :: _, hB => by simp [dagPB] at hB
  | _, [], [], _ :: _, _, hB => by simp [dagPB] at hB
  | _, [], _ :: _, _, _, hB => by simp [dagPB] at hB
  | i, x :: l, [], _, _, hB => by simp [dagPB] at hB
  | i, x :: l, d :: ds, [], _, hB => by simp [dagPB] at hB
  | i, x :: l, d :: ds, ws :: wss, [], hB => by simp [dagPB] at hB
  | i, x :: l, d :: ds, ws :: wss, h0 :: hs, hB => by
    simp only [dagPB, Bool.and_eq_true] at hB
    have := dagPB_len hB.2
    simp [this.1, this.2]
inductive DagStepsP (P : Program) (N : Nat) (ds : List Nat) (Fs : List Fact) (σ : Env) (w : World) : List Oper → List (List Nat) → List Bool → List Fact → Prop where
  | nil : DagStepsP P N ds Fs σ w [] [] [] []
  | cons {o : Oper} {ws : List Nat} {F : Fact} {l : List Oper} {wss : List (List Nat)} {hs : List Bool} {Gs : List Fact} : DagStep P N ds Fs σ w o ws F → DagStepsP P N ds Fs σ w l wss hs Gs → DagStepsP P N ds Fs σ w (o :: l) (ws :: wss) (true :: hs) (F :: Gs)
  | tail {o : Oper} {ws : List Nat} {F : Fact} {l : List Oper} {wss : List (List Nat)} {hs : List Bool} {Gs : List Fact} : DagStepsP P N ds Fs σ w l wss hs Gs → DagStepsP P N ds Fs σ w (o :: l) (ws :: wss) (false :: hs) (F :: Gs)
theorem DagStepsP.get {P : Program} {N : Nat} {ds : List Nat} {Fs : List Fact} {σ : Env} {w : World} : ∀ {l : List Oper} {wss : List (List Nat)} {hs : List Bool} {Gs : List Fact}, DagStepsP P N ds Fs σ w l wss hs Gs → ∀ {j : Nat} {o : Oper}, l[j]? = some o → hs[j]? = some true → ∃ ws F, wss[j]? = some ws ∧ Gs[j]? = some F ∧ DagStep P N ds Fs σ w o ws F
  | _, _, _, _, .nil, j, o, h, _ => by simp at h
  | _, _, _, _, .cons h1 h2, 0, o, h, _ => by simp at h; subst h; exact ⟨_, _, rfl, rfl, h1⟩
  | _, _, _, _, .tail h2, 0, o, h, ht => by simp at ht
  | _, _, _, _, .cons h1 h2, j + 1, o, h, ht => by
    obtain ⟨ws, F, a, b, c⟩ := h2.get (j := j) (by simpa using h) (by simpa using ht)
    exact ⟨ws, F, by simpa using a, by simpa using b, c⟩
  | _, _, _, _, .tail h2, j + 1, o, h, ht => by
    obtain ⟨ws, F, a, b, c⟩ := h2.get (j := j) (by simpa using h) (by simpa using ht)
    exact ⟨ws, F, by simpa using a, by simpa using b, c⟩
/-- How many of the head are yet to come. -/
def leftH (hd : List Bool) (listed : List Bool) : Nat := ((hd.zip listed).filter fun p => p.1 && !p.2).length
theorem leftH_set : ∀ {hd listed : List Bool} {i : Nat}, hd[i]? = some true → listed[i]? = some false → leftH hd (listed.set i true) + 1 = leftH hd listed
  | [], _, _, h, _ => by simp at h
  | _ :: _, [], _, _, h => by simp at h
  | h :: hd, x :: listed, 0, h1, h2 => by
    simp at h1 h2
    subst h1; subst h2
    simp [leftH]
  | h :: hd, x :: listed, i + 1, h1, h2 => by
    have := leftH_set (hd := hd) (listed := listed) (i := i) (by simpa using h1) (by simpa using h2)
    simp only [leftH, List.set_cons_succ, List.zip_cons_cons, List.filter_cons] at this ⊢
    split
    · simp only [List.length_cons]; omega
    · exact this
theorem leftH_zero : ∀ {hd listed : List Bool}, hd.length = listed.length → leftH hd listed = 0 → (∀ (i : Nat), hd[i]? = some false → listed[i]? = some false) → listed = hd
  | [], [], _, _, _ => rfl
  | [], _ :: _, h, _, _ => by simp at h
  | _ :: _, [], h, _, _ => by simp at h
  | h :: hd, x :: listed, hl, h0, ht => by
    have e1 : leftH hd listed = 0 := by
      simp only [leftH, List.zip_cons_cons, List.filter_cons] at h0 ⊢
      split at h0
      · simp at h0
      · exact h0
    have e2 := leftH_zero (by simpa using hl) e1 fun i hi => by have := ht (i + 1) (by simpa using hi); simpa using this
    have e3 : x = h := by
      cases h with
      | false => have := ht 0 rfl; simpa using this
      | true =>
        cases x with
        | true => rfl
        | false => simp [leftH] at h0
    rw [e2, e3]
theorem leftH_pos : ∀ {hd listed : List Bool}, 0 < leftH hd listed → ∃ i : Nat, hd[i]? = some true ∧ listed[i]? = some false
  | [], _, h => by simp [leftH] at h
  | _ :: _, [], h => by simp [leftH] at h
  | h :: hd, x :: listed, hp => by
    simp only [leftH, List.zip_cons_cons, List.filter_cons] at hp
    split at hp
    · rename_i hc
      simp at hc
      exact ⟨0, by simp [hc.1], by simp [hc.2]⟩
    · obtain ⟨i, h1, h2⟩ := leftH_pos (hd := hd) (listed := listed) hp
      exact ⟨i + 1, by simpa using h1, by simpa using h2⟩
theorem getD_arr {listed : Array Bool} {i : Nat} {b d : Bool} (h : listed.toList[i]? = some b) : listed.getD i d = b := by
 have : listed[i]? = some b := by simpa using h
 simp [Array.getD_eq_getD_getElem?, this]
theorem Wp_dagP {P : Program} {N : Nat} {Q : Post} {σ : Env} {w : World} {id : Nat} {l : List Oper} (hd : List Bool) (ts : List Nat) (ds : List Nat) (wss : List (List Nat)) (Fs : List Fact) {Gs : List Fact} (hG : Fs = Gs) (hm : P.follows .mixedOrders = true) (hB : dagPB N hd 0 l ds wss hd = true) (hn : nodupB ds = true)
    (hT : (tailPB l hd ts && permB l.toArray ts hd.toArray) = true) (hN : Nat.beq (leftH hd (List.replicate l.length false) + ts.length) l.length = true)
    (steps : ∀ w1, Ext w w1 → DagStepsP P N ds Fs σ w1 l wss hd Gs)
    (k : ∀ σ' w', Ext w w' → (∀ t, ds.contains t = false → σ' t = σ t) → (∀ j, hd[j]? = some true → Holds ds Fs j σ' w') → WpL P N l.toArray (Q .normal) Q (ts.filterMap fun k => l[k]?) σ' w') : Wp P N (.region id l.toArray true) Q σ w := by
  intro a ha he
  have eQ : lift N (thn (Q .normal) Q) = lift N Q := by funext e a w; cases e <;> rfl
  refine wp_region_any hm ?_
  obtain ⟨w1, hw1⟩ : ∃ w1 : World, w1 = { w with drawn := w.drawn + 1 } := ⟨_, rfl⟩
  have hE1 : Ext w w1 := by rw [hw1]; exact drew_ext w
  rw [← hw1]
  have hst := steps w1 hE1
  rw [← hG] at hst
  rw [Bool.and_eq_true] at hT
  obtain ⟨hT1, hT2⟩ := hT
  obtain ⟨hlen, hlen2⟩ := dagPB_len hB
  have key : ∀ (m : Nat) (listed : Array Bool) (a : Act) (w' : World), leftH hd listed.toList = m → listed.size = l.length → (∀ (t : Nat), hd[t]? = some false → listed.toList[t]? = some false) → Ok N a → Ext w1 w' → (∀ t, ds.contains t = false → env a t = σ t) → (∀ j, hd[j]? = some true → listed.getD j false = true → Holds ds Fs j (env a) w') →
      wpAny P .any l.toArray (lift N Q) (m + ts.length) listed a w' := by
    intro m
    induction m with
    | zero =>
      intro listed a w' hc0 hsz htl ha hx hu hh
      have hl : listed = hd.toArray := by
        apply Array.ext'
        exact leftH_zero (by simp; omega) hc0 htl
      rw [Nat.zero_add]
      have h1 := k (env a) w' (hE1.trans hx) hu (fun j hj => hh j hj (getD_arr (by rw [hl]; exact hj))) a ha rfl
      rw [eQ] at h1
      exact wpAny_of_perm ts listed a w' (by rw [hl]; exact hT2) (by simpa using h1)
    | succ m ih =>
      intro listed a w' hcm hsz htl ha hx hu hh
      obtain ⟨i0, hi0, hi1⟩ := leftH_pos (hd := hd) (listed := listed.toList) (by omega)
      rw [show m + 1 + ts.length = (m + ts.length) + 1 by omega]
      refine ⟨fun hr => ?_, fun i hi => ?_⟩
      · exfalso
        have hall : ∀ i : Nat, hd[i]? = some true → listed.getD i true = true := by
          intro i
          induction i using Nat.strongRecOn with
          | _ i ihi =>
            intro hi
            cases hv : listed.getD i true with
            | true => rfl
            | false =>
              exfalso
              obtain ⟨o, ho⟩ := get_of_lt (l := l) (i := i) (by have := lt_of_get hi; omega)
              obtain ⟨d, ws, h, _, _, h2, h3⟩ := dagPB_get hB ho
              rw [hi] at h2
              cases h2
              simp only [cond_true, Bool.and_eq_true, Nat.zero_add] at h3
              have : i ∈ Region.ready .any l.toArray listed := by
                refine mem_ready.2 ⟨hv, o, by simpa using ho, fun e he hb => ?_⟩
                have h4 := h3.1
                simp only [dagOne, Bool.and_eq_true, Array.all_eq_true_iff_forall_mem, Bool.or_eq_true, Bool.not_eq_true'] at h4
                have h5 := h3.2.1
                simp only [Array.all_eq_true_iff_forall_mem, Bool.or_eq_true, Bool.not_eq_true'] at h5
                have h6 := (h4.1.2 e he).resolve_left (by simp [hb])
                have hlt : e.on < i := by simpa [Nat.blt_eq] using h6
                have h7 := (h5 e he).resolve_left (by simp [hb])
                have hj0 : e.on < hd.length := by have := lt_of_get hi; omega
                have h8 : hd[e.on]? = some true := by
                  rw [List.getD_eq_getElem?_getD, List.getElem?_eq_getElem hj0, Option.getD_some] at h7
                  rw [List.getElem?_eq_getElem hj0, h7]
                have h9 := ihi e.on hlt h8
                have hj : e.on < listed.size := by omega
                simpa only [Array.getD_eq_getD_getElem?, Array.getElem?_eq_getElem hj, Option.getD_some] using h9
              rw [hr] at this
              cases this
        have := hall i0 hi0
        rw [getD_arr hi1] at this
        cases this
      · obtain ⟨h1, o, h2, h3⟩ := mem_ready.1 hi
        have ho : l[i]? = some o := by simpa using h2
        have hil : i < l.length := lt_of_get ho
        have hih : hd[i]? = some true := by
          obtain ⟨b, hb⟩ := get_of_lt (l := hd) (i := i) (by omega)
          cases b with
          | true => exact hb
          | false =>
            exfalso
            have h4 := List.all_eq_true.1 hT1 i (List.mem_range.2 hil)
            rw [List.getD_eq_getElem?_getD, hb, Option.getD_some, Bool.false_or, Bool.and_eq_true, Bool.or_eq_true] at h4
            have edge : ∀ u, edgeB l i u = true → listed.getD u false = true := fun u hu' => by
              unfold edgeB at hu'
              rw [ho] at hu'
              simp only [Array.any_eq_true', Bool.and_eq_true] at hu'
              obtain ⟨e, he, hb1, hb2⟩ := hu'
              have := Nat.eq_of_beq_eq_true hb2
              rw [← this]
              exact h3 e he hb1
            rcases h4.2 with h5 | h5
            · have h6 := List.all_eq_true.1 h5 i0 (List.mem_range.2 (by have := lt_of_get hi0; omega))
              rw [List.getD_eq_getElem?_getD, hi0, Option.getD_some, Bool.not_true, Bool.false_or] at h6
              have := edge i0 h6
              rw [getD_arr hi1] at this
              cases this
            · obtain ⟨p, _, h6⟩ := List.any_eq_true.1 h5
              rw [Bool.and_eq_true, Bool.not_eq_true'] at h6
              have h7 := edge p h6.2
              have hp : hd[p]? = some false := by
                have h8 := h6.1
                rw [List.getD_eq_getElem?_getD] at h8
                cases h9 : hd[p]? with
                | none => rw [h9] at h8; cases h8
                | some b => rw [h9, Option.getD_some] at h8; rw [h8]
              rw [getD_arr (htl p hp)] at h7
              cases h7
        obtain ⟨d, ws, h, hd', hws, hhs, h4⟩ := dagPB_get hB ho
        rw [hih] at hhs
        cases hhs
        obtain ⟨ws', F, hws', hF, hstep⟩ := hst.get ho hih
        rw [hws] at hws'
        cases hws'
        simp only [cond_true, Bool.and_eq_true, Nat.zero_add] at h4
        have hgB := h4.2.2
        have h4 := h4.1
        simp only [dagOne, Bool.and_eq_true, List.all_eq_true, Array.any_eq_true', Array.all_eq_true_iff_forall_mem, Bool.or_eq_true, Bool.not_eq_true'] at h4
        obtain ⟨⟨⟨hdst, hdN⟩, _⟩, hwait⟩ := h4
        have hdst : o.dst = some d := by
          split at hdst
          · rename_i d' h; rw [h, Nat.eq_of_beq_eq_true hdst]
          · cases hdst
        have hdN : d < N := by simpa [Nat.blt_eq] using hdN
        have hH : ∀ j, ws.contains j = true → Holds ds Fs j (env a) w' := by
          intro j hj
          have hj' : j ∈ ws := by simpa using hj
          obtain ⟨e, he, hb⟩ := hwait j hj'
          obtain ⟨hb1, hb2⟩ := hb
          have hej : e.on = j := Nat.eq_of_beq_eq_true hb2
          have hl1 := h3 e he hb1
          rw [hej] at hl1
          refine hh j ?_ hl1
          obtain ⟨b, hb⟩ := get_of_lt (l := hd) (i := j) (by
            rcases Nat.lt_or_ge j listed.size with h9 | h9
            · omega
            · simp [Array.getD_eq_getD_getElem?, Array.getElem?_eq_none h9] at hl1)
          cases b with
          | true => exact hb
          | false => rw [getD_arr (htl j hb)] at hl1; cases hl1
        have gd : ∀ j b, o.guard = some (j, b) → ∀ dj, ds[j]? = some dj → (∃ oj, l[j]? = some oj ∧ oj.dst = some dj) ∧ dj < N := fun j b hgd dj hdj => by
          obtain ⟨oj, hoj⟩ := get_of_lt (l := l) (i := j) (by have := lt_of_get hdj; omega)
          obtain ⟨dj', _, hj, hdj', _, h5, h6⟩ := dagPB_get hB hoj
          rw [hdj] at hdj'
          cases hdj'
          unfold guardB at hgB
          rw [hgd] at hgB
          simp only at hgB
          have h7 : hj = true := by rw [List.getD_eq_getElem?_getD, h5, Option.getD_some] at hgB; exact hgB
          rw [h7] at h6
          simp only [cond_true, Bool.and_eq_true, dagOne] at h6
          obtain ⟨⟨⟨hdst2, hdN2⟩, _⟩, _⟩ := h6.1
          refine ⟨⟨oj, hoj, ?_⟩, by simpa [Nat.blt_eq] using hdN2⟩
          split at hdst2
          · rename_i d' h; rw [h, Nat.eq_of_beq_eq_true hdst2]
          · cases hdst2
        have cont : ∀ v w2, Ext w' w2 → F.In v w2 → wpAny P .any l.toArray (lift N Q) (m + ts.length) (listed.setIfInBounds i true) (a.put o.dst v) w2 := by
          intro v w2 hx2 hv
          have henv : env (a.put o.dst v) = upd (env a) d v := by rw [hdst]; exact env_put ha hdN v
          have hlf : listed.toList[i]? = some false := by
            have hj : i < listed.size := by omega
            simp only [Array.getD_eq_getD_getElem?, Array.getElem?_eq_getElem hj, Option.getD_some] at h1
            rw [Array.getElem?_toList, Array.getElem?_eq_getElem hj, h1]
          refine ih _ _ _ ?_ (by simpa using hsz) (fun t ht => ?_) (ha.put _ _) (hx.trans hx2) ?_ ?_
          · rw [Array.toList_setIfInBounds]
            have := leftH_set hih hlf
            omega
          · rw [Array.toList_setIfInBounds, List.getElem?_set]
            have hne : i ≠ t := fun e => by rw [← e, hih] at ht; cases ht
            rw [if_neg hne]
            exact htl t ht
          · intro t ht
            rw [henv, ← hu t ht]
            simp only [upd]
            cases hb : Nat.beq t d
            · rfl
            · exfalso
              have : t = d := Nat.eq_of_beq_eq_true hb
              subst this
              have := List.mem_of_getElem? hd'
              simp [this] at ht
          · intro j hjh hj d' F' hd'' hF'
            rw [henv]
            by_cases hij : j = i
            · subst hij
              rw [hd'] at hd''; cases hd''
              rw [hF] at hF'; cases hF'
              simp only [upd, Nat.beq_refl, cond_true]
              exact hv
            · have hne : Nat.beq d' d = false := by
                cases hb : Nat.beq d' d
                · rfl
                · exfalso
                  have : d' = d := Nat.eq_of_beq_eq_true hb
                  subst this
                  exact hij (nodupB_get hn hd'' hd')
              simp only [upd, hne, cond_false]
              rw [getD_set_ne _ (Ne.symm hij)] at hj
              exact Fact.ext (hh j hjh hj d' F' hd'' hF') hx2
        rcases hstep (env a) w' hx hu hH with ⟨hg, hdo⟩ | ⟨⟨j, b, dj, hgd, hdj, hvj⟩, hund⟩
        · have hw : Region.wanted o (yielded l.toArray a.tmps) = true := by
            cases hgd : o.guard with
            | none => simp [Region.wanted, hgd]
            | some p =>
              obtain ⟨j, b⟩ := p
              obtain ⟨dj, hdj, hvj⟩ := hg j b hgd
              obtain ⟨hdst2, hdN2⟩ := gd j b hgd dj hdj
              have h6 : a.tmps[dj]? = some (Value.bool b) := by
                have h2 : a.tmps.getD dj undef = .bool b := hvj
                have hlt : dj < a.tmps.size := by rw [ha.size]; exact hdN2
                rw [Array.getElem?_eq_getElem hlt]
                simpa [hlt] using h2
              obtain ⟨oj, hoj, hdst2⟩ := hdst2
              simp [Region.wanted, hgd, yielded, hoj, hdst2, h6]
          unfold wpOp
          simp only [h2, hw, if_true]
          exact Or.inl (hdo a ha rfl _ _ cont)
        · have hw : Region.wanted o (yielded l.toArray a.tmps) = false := by
            obtain ⟨hdst2, hdN2⟩ := gd j b hgd dj hdj
            have hlt : dj < a.tmps.size := by rw [ha.size]; exact hdN2
            have h6 : a.tmps[dj]? = some (env a dj) := by
              rw [Array.getElem?_eq_getElem hlt]
              simp [env, hlt]
            obtain ⟨oj, hoj, hdst2⟩ := hdst2
            rcases hvj with hvj | hvj
            · rw [hvj] at h6
              cases b <;> simp [Region.wanted, hgd, yielded, hoj, hdst2, h6]
            · rw [hvj] at h6
              simp [Region.wanted, hgd, yielded, hoj, hdst2, h6, undef]
          unfold wpOp
          simp only [h2, hw, Bool.false_eq_true, if_false]
          exact cont undef w' (Ext.refl _) hund
  have h1 := key (leftH hd (Array.replicate l.toArray.size false).toList) (Array.replicate l.toArray.size false) a w1 rfl (by simp) (fun t ht => by have h9 := lt_of_get ht; rw [Array.toList_replicate, List.getElem?_replicate, if_pos (by rw [List.size_toArray]; omega)]) ha (Ext.refl _) (fun t _ => by rw [he]) (fun j _ hj => by rw [getD_replicate_false] at hj; cases hj)
  have e3 : leftH hd (Array.replicate l.toArray.size false).toList + ts.length = l.toArray.size := by have h9 := Nat.eq_of_beq_eq_true hN; simpa using h9
  rw [e3] at h1
  exact h1
theorem lst5 {x y z u p a b c d e : Value} (h : x = a) (h' : y = b) (h'' : z = c) (h3 : u = d) (h4 : p = e) : [x, y, z, u, p] = [a, b, c, d, e] := by rw [h, h', h'', h3, h4]
section
variable {P : Program} {N : Nat} {σ : Env} {w : World} {dst : Option Tmp} {ty : TypeId} {pos : String} {af : Array Edge} {g : Option (Nat × Bool)} {t : TypeId} {x y z u : Operand} {a b c d : Value} {i j k m : Nat}
/-- A new variable, with its cells. -/
def alF (e : Nat) (c : Array Value) (hs : Nat) : Fct := fun v w => ∃ b, v = .pointer (some ⟨b, 0, none⟩) ∧ Blk w b c e ∧ hs ≤ b
theorem alF_ext (e : Nat) (c : Array Value) (hs : Nat) : Stable (alF e c hs) := by
 rintro v w w' x ⟨b, h1, h2, h3⟩
 exact ⟨b, h1, Ext.keep x h2, h3⟩
theorem Does_alloc {d hs : Nat} {z : Value} {c : Array Value} (hz : Zer P t z) (hc : z.cells = c) (hh : hs ≤ w.heap.size) : Does P N ⟨some d, .alloc t, ty, pos, af, g⟩ (alF t c hs) σ w := by
 subst hc
 have hn := New.mk' w z.cells t
 exact Does_val (v := .pointer (some ⟨w.heap.size, 0, none⟩)) (by simp [execOp, Instr.alloc, hz.run, newVar, newRow]) hn.ext ⟨_, rfl, hn.blk, hh⟩
end
end Go.Eng
namespace Go.Proofs
open Go Go.Eng Go.Sort
set_option maxRecDepth 100000
/-- A value that is an expression within some blocks. -/
def reG (S : Nat → Prop) (x : Re) : Fct := fun v w => ∃ sa sc aa ac, v = .agg #[.int .i64 x.kind, .slice sa x.set.length sc, .slice aa x.args.length ac, .int .i64 x.mn, .int .i64 x.mx, .bool x.neg] ∧ ReIn S w x [.int .i64 x.kind, .slice sa x.set.length sc, .slice aa x.args.length ac, .int .i64 x.mn, .int .i64 x.mx, .bool x.neg]
theorem reG_ext (S : Nat → Prop) (x : Re) : Stable (reG S x) := by
 rintro v w w' e ⟨sa, sc, aa, ac, h1, h2⟩
 exact ⟨sa, sc, aa, ac, h1, ReIn.ext e x h2⟩
theorem reG_of {S S' : Nat → Prop} {x : Re} {v : Value} {w : World} (hS : ∀ b, S' b → S b) (h : ∃ us : List Value, v = .agg us.toArray ∧ ReIn S' w x us) : reG S x v w := by
 obtain ⟨us, rfl, h⟩ := h
 have h2 := ReIn.mono hS x h
 obtain ⟨sa, sc, aa, ac, rfl, _⟩ := h2.form
 exact ⟨sa, sc, aa, ac, rfl, h2⟩
theorem rs_in {S : Nat → Prop} {w : World} {t : Re} {sa aa : Option Addr} {k m x : Int} {n sc n' ac : Nat} {ng : Bool} (h : ReIn S w t [.int .i64 k, .slice sa n sc, .slice aa n' ac, .int .i64 m, .int .i64 x, .bool ng]) : RsIn S w (.slice aa n' ac) t.args := by
 obtain ⟨sa', sc', aa', ac', h1, _, h2, h3⟩ := h.form
 simp only [List.cons.injEq, Value.slice.injEq, and_true] at h1
 obtain ⟨_, _, ⟨rfl, rfl, rfl⟩, _⟩ := h1
 exact ⟨_, _, rfl, h2, h3⟩
theorem rs_mono {S S' : Nat → Prop} {w : World} {v : Value} {ts : List Re} (hs : ∀ b, S b → S' b) (h : RsIn S w v ts) : RsIn S' w v ts := by
 obtain ⟨aa, ac, h1, h2, h3⟩ := h
 refine ⟨aa, ac, h1, h2, ?_⟩
 rcases h3 with h | ⟨b, o, h4, h5, h6⟩
 ·exact .inl h
 ·exact .inr ⟨b, o, hs b h4, h5, ResIn.mono hs ts h6⟩
theorem dall_in (w0 : World) : Ret Try.prog 47 #[] w0 fun v w => reG (fun b => w0.heap.size ≤ b) allT v w ∧ Ext w0 w := by
 refine Ret_of Try.func47 rfl Try.ntmps47 (Nat.le_of_ble_eq_true rfl) ?_
 have E : Chg none1 w0 w0 := Chg.refl _ _
 refine Wp_seq_region ?_
 refine s_alloc (c := #[(I6 0), (.slice none 0 0), (.slice none 0 0), (I6 0), (I6 0), (.bool false)]) (by decide) zer27 rfl ?_
 intro bo wo No
 have Fo := No.ge E
 replace E := E.ext No.ext
 have Bo := No.blk
 refine WpL_nil (Wp_seq_region ?_)
 refine WpL_enter rfl rfl (by decide) (r_callF (vs := []) Try.func35 nm35 bd35 rfl) (dnone_c _) ?_
 rintro _ w9 ⟨rfl, X9⟩
 replace Bo := X9.keep Bo
 replace E := E.ext X9
 refine s_buildSlice (ps := [(0, (.agg #[(I6 0), (.slice none 0 0), (.slice none 0 0), (I6 0), (I6 0), (.bool false)]))]) (c := #[(I6 0), (.slice none 0 0), (.slice none 0 0), (I6 0), (I6 0), (.bool false)]) (by decide) rfl Try.underlying25 siz27 zer27 (by decide) (by decide) (by kernel_rfl) ?_
 intro bp wp Np
 have Fp := Np.ge E
 have Op_bo := Np.lt Bo
 replace Bo := Np.keep Bo
 replace E := E.ext Np.ext
 have Bp := Np.blk
 refine qV (r_build (ps := [(0, (I6 8)), (2, (.slice (some ⟨bp, 0, none⟩) 1 1))]) (v := (.agg #[(I6 8), (.slice none 0 0), (.slice (some ⟨bp, 0, none⟩) 1 1), (I6 0), (I6 0), (.bool false)])) rfl (by kernel_rfl)) ?_
 refine s_storeAgg (b := bo) (o := 0) (c' := #[(I6 8), (.slice none 0 0), (.slice (some ⟨bp, 0, none⟩) 1 1), (I6 0), (I6 0), (.bool false)]) rfl rfl (by simp [Value.oneCell']) siz27 rfl Bo (by first | (simp; done) | exact Nat.le_of_ble_eq_true rfl) rfl ?_
 intro w1 S1
 replace Bp := S1.keep (by omega) Bp
 replace E := S1.step E (by first | exact Or.inl (by omega) | exact Or.inr rfl | exact Or.inr (by assumption) | exact Or.inr (by simp) | exact Or.inr (by omega) | exact Or.inr (by dsimp only; omega))
 replace Bo := S1.blk
 refine WpL_nil (Wp_ret ?_)
 refine fin_agg Try.results47 (vs := [(.int .i64 8), (.slice none 0 0), (.slice (some ⟨bp, 0, none⟩) 1 1), (.int .i64 0), (.int .i64 0), (.bool false)]) (b := bo) rfl agg27 siz27 rfl (Bo.cells rfl) ?_
 exact ⟨⟨_, _, _, _, rfl, ReIn.of (set := []) (args := [noneT]) (SlIn.nil _ _ _ _ _) (by simp) (.inr ⟨bp, 0, by show w0.heap.size ≤ bp; omega, rfl, ResIn.one (Bp.cells rfl) (re_empty _ _ 0)⟩)⟩, E⟩
theorem flat_noNeg {k : Int} {l : List Re} (h : ∀ x ∈ l, SimOk x) : ∀ x ∈ flatT k l, noNeg x = true := fun x hx => by
 obtain ⟨y, hy, ⟨_, h4⟩ | ⟨_, rfl⟩⟩ := flat_mem.1 hx
 ·exact sim_noNeg ((h y hy).a x h4)
 ·exact sim_noNeg (h x hy)
theorem sim_three {x : Re} (h : SimOk x) : (x.kind = 3 ∨ x.kind = 4 ∨ x.kind = 7 → x.args ≠ []) ∧ (x.kind = 8 → x.args ≠ []) := by
 refine ⟨fun hk e => ?_, fun hk e => ?_⟩
 ·have hn := h.n
  rcases hk with hk | hk | hk
  ·have := (hn.k3 hk).1; rw [e] at this; simp at this
  ·have := (hn.k4 hk).1; rw [e] at this; simp at this
  ·have := (hn.k7 hk).1; rw [e] at this; simp at this
 ·obtain ⟨y, hy, _⟩ := h.n.k8 hk
  rw [e] at hy; cases hy
theorem flat_sim {k : Int} {l : List Re} (h : ∀ x ∈ l, SimOk x) : ∀ x ∈ flatT k l, SimOk x := fun x hx => by
 obtain ⟨y, hy, ⟨_, h4⟩ | ⟨_, rfl⟩⟩ := flat_mem.1 hx
 ·exact (h y hy).a x h4
 ·exact h x hy
theorem nodeS_eq (t : Re) : nodeS t = nodeK t.kind t.set t.args t.mn t.mx t.neg := by cases t; rfl
section
variable {t : Re}
theorem ns3 (h : t.kind = 3) : nodeS t = catD t.args := by rw [nodeS_eq]; unfold nodeK; simp [h]
theorem ns4 (h : t.kind = 4) : nodeS t = choR t.kind t.args isAllB isNoneB noneT := by rw [nodeS_eq]; unfold nodeK; simp [h]
theorem ns7 (h : t.kind = 7) : nodeS t = choR t.kind t.args isNoneB isAllB allT := by rw [nodeS_eq]; unfold nodeK; simp [h]
theorem ns5 {x : Re} (h : t.kind = 5) (hx : t.args.headD noneT = x) : nodeS t = if x.kind = 0 ∨ x.kind = 1 then emptyT else if x.kind = 5 then x else t := by rw [nodeS_eq]; unfold nodeK; rw [hx]; simp [h]; cases t; simp [Re.kind] at h; subst h; rfl
theorem ns6 {x : Re} (h : t.kind = 6) (hx : t.args.headD noneT = x) : nodeS t = if t.mx = 0 ∨ x.kind = 1 ∨ (x.kind = 0 ∧ t.mn = 0) then emptyT else if x.kind = 0 ∨ (t.mn = 1 ∧ t.mx = 1) then x else t := by rw [nodeS_eq]; unfold nodeK; rw [hx]; simp [h]; cases t; simp [Re.kind] at h; subst h; rfl
theorem ns8 {x : Re} (h : t.kind = 8) (hx : t.args.headD noneT = x) : nodeS t = if x.kind = 8 then x.args.headD noneT else t := by rw [nodeS_eq]; unfold nodeK; rw [hx]; simp [h]; cases t; simp [Re.kind] at h; subst h; rfl
theorem nsn (h : t.kind ≠ 3 ∧ t.kind ≠ 4 ∧ t.kind ≠ 5 ∧ t.kind ≠ 6 ∧ t.kind ≠ 7 ∧ t.kind ≠ 8) : nodeS t = t := by rw [nodeS_eq]; unfold nodeK; simp [h]; cases t; rfl
end
set_option maxHeartbeats 4000000 in
theorem dnode_c (w0 : World) (S : Nat → Prop) (t : Re) (vs : List Value) (ht : ReIn S w0 t vs) (hS : ∀ x, S x → x < w0.heap.size) (hp : PreN t.kind t.set t.args t.mn t.mx t.neg) (ha : ∀ y ∈ t.args, SimOk y) (hsz : Re.sizes t.args ≤ 1000000) :
  Ret Try.prog 30 #[.agg vs.toArray] w0 fun r w => (∃ us, r = .agg us.toArray ∧ ReIn (fun b => S b ∨ w0.heap.size ≤ b) w (nodeS t) us) ∧ Ext w0 w := by
 have ht0 := ht
 obtain ⟨sa, sc, aa, ac, rfl, hset, hlen, hargs⟩ := ht.form
 have hRs : RsIn S w0 (.slice aa t.args.length ac) t.args := rs_in ht0
 obtain ⟨N, hN⟩ : ∃ N, N = nodeS t := ⟨_, rfl⟩
 rw [← hN]
 refine Ret_of Try.func30 rfl Try.ntmps30 (Nat.le_of_ble_eq_true rfl) ?_
 have E : Chg none1 w0 w0 := Chg.refl _ _
 refine Wp_seq_region ?_
 refine s_box (v := (.agg (R6 t sa sc aa ac))) (c := (R6 t sa sc aa ac)) (by decide) rfl rfl ?_
 intro br wr Nr
 have Fr := Nr.ge E
 replace E := E.ext Nr.ext
 have Br := Nr.blk
 refine s_alloc (c := #[(I6 0), (.slice none 0 0), (.slice none 0 0), (I6 0), (I6 0), (.bool false)]) (by decide) zer27 rfl ?_
 intro bo wo No
 have Fo := No.ge E
 have Oo_br := No.lt Br
 replace Br := No.keep Br
 replace E := E.ext No.ext
 have Bo := No.blk
 refine WpL_nil (Wp_seq (Wp_seq_region ?_))
 refine qF br 0 0 rfl Try.underlying27 rfl siz3 rfl ?_
 refine qV (r_load (v := (I6 t.kind)) rfl flat3 (Br.cell rfl)) ?_
 refine WpL_nil (Wp_block (Wp_seq_region ?_))
 refine qV (r_eql (k := .i64) (a := t.kind) (b := 3) rfl rfl) ?_
 refine qA (.bool (decide ((t.kind : Int) = 3))) rfl ?_
 refine WpL_nil ?_
 obtain ⟨n1, hn1⟩ : ∃ n1, n1 = wo.heap.size := ⟨_, rfl⟩
 have hob : br < n1 ∧ bo < n1 ∧ w0.heap.size ≤ bo ∧ w0.heap.size ≤ n1 := ⟨by rw [hn1]; exact Br.lt, by rw [hn1]; exact Bo.lt, by omega, by rw [hn1]; exact E.size⟩
 refine Wp_cond (b := decide ((t.kind : Int) = 3)) rfl (fun h3 => ?_) (fun h3 => ?_)
 ·have kh3 := h3
  replace h3 := of_decide_eq_true h3
  have hN3 : N = catD t.args := hN.trans (ns3 h3)
  refine Wp_seq_region ?_
  refine qF br 0 2 rfl Try.underlying27 rfl siz25 rfl ?_
  refine qV (r_load (v := (.slice aa t.args.length ac)) rfl flat25 (Br.cell rfl)) ?_
  refine WpL_enter rfl rfl (by decide) (r_callF (vs := [(.slice aa t.args.length ac)]) Try.func33 nm33 bd33 rfl) ((dcat_c _ S _ t.args (hRs.ext E) (fun x hx => by have := hS x hx; have := E.size; omega) (fun x hm hk => (sim_three (ha x hm)).1 (.inl hk)) hsz).mono (R' := fun r w => reG (fun b => S b ∨ n1 ≤ b) N r w ∧ Ext wo w) (fun r w h => ⟨reG_of (S' := fun b => S b ∨ wo.heap.size ≤ b) (fun b hb => by rcases hb with h1 | h1; exact .inl h1; exact .inr (by omega)) (by rw [hN3]; exact h.1), h.2⟩)) ?_
  rintro _ w9 ⟨⟨xa, xc, ya, yc, rfl, hR⟩, X9⟩
  replace Br := X9.keep Br
  replace Bo := X9.keep Bo
  replace E := E.ext X9
  refine s_storeAgg (b := bo) (o := 0) (c' := (R6 N xa xc ya yc)) rfl rfl (by simp [Value.oneCell']) siz27 rfl Bo (by first | (simp; done) | exact Nat.le_of_ble_eq_true rfl) rfl ?_
  intro w2 S2
  replace hR := ReIn.chg S2.chg (fun y hy h => by have h2 : y = bo := h; rcases hy with h1 | h1; have := hS y h1; omega; omega) _ hR
  replace Br := S2.keep (by omega) Br
  replace E := S2.step E (by first | exact Or.inl (by omega) | exact Or.inr rfl | exact Or.inr (by assumption) | exact Or.inr (by simp) | exact Or.inr (by omega) | exact Or.inr (by dsimp only; omega))
  replace Bo := S2.blk
  refine WpL_nil (Wp_ret (inB_ret (thn_ret ?_)))
  refine fin_agg Try.results30 (vs := [(.int .i64 N.kind), (.slice xa N.set.length xc), (.slice ya N.args.length yc), (.int .i64 N.mn), (.int .i64 N.mx), (.bool N.neg)]) (b := bo) rfl agg27 siz27 rfl (Bo.cells rfl) ?_
  exact ⟨⟨_, rfl, ReIn.mono (fun y hy => by rcases hy with h1 | h1; exact .inl h1; exact .inr (by omega)) _ hR⟩, E⟩
 ·have kh3 := h3
  replace h3 := of_decide_eq_false h3
  refine Wp_seq_region ?_
  refine qV (r_eql (k := .i64) (a := t.kind) (b := 4) rfl rfl) ?_
  refine qA (.bool (decide ((t.kind : Int) = 4))) rfl ?_
  refine WpL_nil ?_
  refine Wp_cond (b := decide ((t.kind : Int) = 4)) rfl (fun h4 => ?_) (fun h4 => ?_)
  ·have kh4 := h4
   replace h4 := of_decide_eq_true h4
   have hN4 : N = choR t.kind t.args isAllB isNoneB noneT := hN.trans (ns4 h4)
   have hz_4 : w0.heap.size ≤ wo.heap.size := E.size
   have lz_4_br : br < wo.heap.size := Br.lt
   have lz_4_bo : bo < wo.heap.size := Bo.lt
   refine Wp_seq ?_
   obtain ⟨Fs4, hFs4⟩ : ∃ Fs : List Fact, Fs = [.eq (P6 br 0), .eq (I6 t.kind), .eq (P6 br 2), .eq (.slice aa t.args.length ac), .eq (.agg #[(I6 0), (.slice none 0 0), (.slice none 0 0), (I6 0), (I6 0), (.bool false)]), .gen (reG (fun b => S b ∨ n1 ≤ b) N) (reG_ext _ _), .eq undef] := ⟨_, rfl⟩
   refine Wp_dagP [true, true, true, true, true, true, false] [6] [15, 16, 17, 18, 19, 20, 105] [[], [0], [], [2], [], [1, 3, 4], []] Fs4 hFs4 mixed (by kernel_rfl) (by kernel_rfl) (by kernel_rfl) (by kernel_rfl) ?_ ?_
   ·intro wd X0
    refine DagStepsP.cons (fun s' w' X U H => Or.inl ⟨?_, ?_⟩) ?_
    ·exact Guarded_none rfl
    ·exact Does_val (r_fieldAddr (b := br) (o := 0) (o' := 0) (U 1 rfl) Try.underlying27 rfl siz3 rfl) (Ext.refl _) rfl
    refine DagStepsP.cons (fun s' w' X U H => Or.inl ⟨?_, ?_⟩) ?_
    ·exact Guarded_none rfl
    ·have e15 : s' 15 = (.pointer (some ⟨br, 0, none⟩)) := H 0 rfl 15 (.eq (.pointer (some ⟨br, 0, none⟩))) rfl (by rw [hFs4]; rfl)
     exact Does_val (r_load (v := (I6 t.kind)) e15 flat3 (((X0.trans X).keep Br).cell rfl)) (Ext.refl _) rfl
    refine DagStepsP.cons (fun s' w' X U H => Or.inl ⟨?_, ?_⟩) ?_
    ·exact Guarded_none rfl
    ·exact Does_val (r_fieldAddr (b := br) (o := 0) (o' := 2) (U 1 rfl) Try.underlying27 rfl siz25 rfl) (Ext.refl _) rfl
    refine DagStepsP.cons (fun s' w' X U H => Or.inl ⟨?_, ?_⟩) ?_
    ·exact Guarded_none rfl
    ·have e17 : s' 17 = (.pointer (some ⟨br, 2, none⟩)) := H 2 rfl 17 (.eq (.pointer (some ⟨br, 2, none⟩))) rfl (by rw [hFs4]; rfl)
     exact Does_val (r_load (v := (.slice aa t.args.length ac)) e17 flat25 (((X0.trans X).keep Br).cell rfl)) (Ext.refl _) rfl
    refine DagStepsP.cons (fun s' w' X U H => Or.inl ⟨?_, ?_⟩) ?_
    ·exact Guarded_none rfl
    ·exact Does_enter (r_callF (vs := []) Try.func35 nm35 bd35 rfl) (dnone_c _)
    refine DagStepsP.cons (fun s' w' X U H => Or.inl ⟨?_, ?_⟩) ?_
    ·exact Guarded_none rfl
    ·have e16 : s' 16 = (.int .i64 t.kind) := H 1 rfl 16 (.eq (.int .i64 t.kind)) rfl (by rw [hFs4]; rfl)
     have e18 : s' 18 = (.slice aa t.args.length ac) := H 3 rfl 18 (.eq (.slice aa t.args.length ac)) rfl (by rw [hFs4]; rfl)
     have e19 : s' 19 = (.agg #[(.int .i64 0), (.slice none 0 0), (.slice none 0 0), (.int .i64 0), (.int .i64 0), (.bool false)]) := H 4 rfl 19 (.eq (.agg #[(.int .i64 0), (.slice none 0 0), (.slice none 0 0), (.int .i64 0), (.int .i64 0), (.bool false)])) rfl (by rw [hFs4]; rfl)
     exact Does_enter (r_callF (vs := [(I6 t.kind), (.slice aa t.args.length ac), (.func (.func 45) #[] #[]), (.func (.func 46) #[] #[]), (.agg #[(I6 0), (.slice none 0 0), (.slice none 0 0), (I6 0), (I6 0), (.bool false)])]) Try.func44 nm44 bd44 (lst5 e16 e18 rfl rfl e19)) ((choice_c _ S t.kind _ _ _ t.args isAllB isNoneB noneT _ (hRs.ext (Ext.trans E (X0.trans X))) (re_empty _ _ _) (fun x hx => by have := hS x hx; have := E.size; have := X0.size; have := X.size; omega) (fun x hm hk => (sim_three (ha x hm)).1 (by omega)) hsz (flat_noNeg ha) (fun w x vs hm hx => CallV.mk (first := #[]) (cap := #[]) Try.func45 nm45 bd45 rfl (disall_c w x vs hx (sim_three (ha x hm)).2)) (fun w x vs hm hx => CallV.mk (first := #[]) (cap := #[]) Try.func46 nm46 bd46 rfl (disnone_c w x vs hx))).mono (fun r w h => ⟨reG_of (S' := fun b => S b ∨ w'.heap.size ≤ b) (fun b hb => by rcases hb with h1 | h1; exact .inl h1; exact .inr (by have := X0.size; have := X.size; omega)) (by rw [hN4]; exact h.1), h.2⟩))
    refine DagStepsP.tail ?_
    exact DagStepsP.nil
   ·intro s' w4 X4 U H
    obtain ⟨xa20, xc20, ya20, yc20, e20, r20⟩ := H 5 rfl 20 (.gen (reG (fun b => S b ∨ n1 ≤ b) N) (reG_ext _ _)) rfl (by rw [hFs4]; rfl)
    obtain ⟨j4, rfl⟩ := Fits.out (σ := s') (l := [(2, (.pointer (some ⟨bo, 0, none⟩))), (20, (.agg #[(.int .i64 N.kind), (.slice xa20 N.set.length xc20), (.slice ya20 N.args.length yc20), (.int .i64 N.mn), (.int .i64 N.mx), (.bool N.neg)]))]) ⟨U 2 rfl, e20, trivial⟩
    clear U H
    replace Br := X4.keep Br
    replace Bo := X4.keep Bo
    replace E := E.ext X4
    refine s_storeAgg (b := bo) (o := 0) (c' := (R6 N xa20 xc20 ya20 yc20)) rfl rfl (by simp [Value.oneCell']) siz27 rfl Bo (by first | (simp; done) | exact Nat.le_of_ble_eq_true rfl) rfl ?_
    intro w5 S5
    replace r20 := ReIn.chg S5.chg (fun y hy h => by have h2 : y = bo := h; rcases hy with h1 | h1; have := hS y h1; omega; omega) _ r20
    replace Br := S5.keep (by omega) Br
    replace E := S5.step E (by first | exact Or.inl (by omega) | exact Or.inr rfl | exact Or.inr (by assumption) | exact Or.inr (by simp) | exact Or.inr (by omega) | exact Or.inr (by dsimp only; omega))
    replace Bo := S5.blk
    refine WpL_nil (thn_normal (Wp_ret (inB_ret (thn_ret ?_))))
    refine fin_agg Try.results30 (vs := [(.int .i64 N.kind), (.slice xa20 N.set.length xc20), (.slice ya20 N.args.length yc20), (.int .i64 N.mn), (.int .i64 N.mx), (.bool N.neg)]) (b := bo) rfl agg27 siz27 rfl (Bo.cells rfl) ?_
    exact ⟨⟨_, rfl, ReIn.mono (fun y hy => by rcases hy with h1 | h1; exact .inl h1; exact .inr (by omega)) _ r20⟩, E⟩
  ·have kh4 := h4
   replace h4 := of_decide_eq_false h4
   refine Wp_seq_region ?_
   refine qV (r_eql (k := .i64) (a := t.kind) (b := 7) rfl rfl) ?_
   refine qA (.bool (decide ((t.kind : Int) = 7))) rfl ?_
   refine WpL_nil ?_
   refine Wp_cond (b := decide ((t.kind : Int) = 7)) rfl (fun h7 => ?_) (fun h7 => ?_)
   ·have kh7 := h7
    replace h7 := of_decide_eq_true h7
    have hN7 : N = choR t.kind t.args isNoneB isAllB allT := hN.trans (ns7 h7)
    have hz_7 : w0.heap.size ≤ wo.heap.size := E.size
    have lz_7_br : br < wo.heap.size := Br.lt
    have lz_7_bo : bo < wo.heap.size := Bo.lt
    refine Wp_seq ?_
    obtain ⟨Fs7, hFs7⟩ : ∃ Fs : List Fact, Fs = [.eq (P6 br 0), .eq (I6 t.kind), .eq (P6 br 2), .eq (.slice aa t.args.length ac), .gen (reG (fun b => S b ∨ n1 ≤ b) allT) (reG_ext _ _), .gen (reG (fun b => S b ∨ n1 ≤ b) N) (reG_ext _ _), .eq undef] := ⟨_, rfl⟩
    refine Wp_dagP [true, true, true, true, true, true, false] [6] [23, 24, 25, 26, 27, 28, 105] [[], [0], [], [2], [], [1, 3, 4], []] Fs7 hFs7 mixed (by kernel_rfl) (by kernel_rfl) (by kernel_rfl) (by kernel_rfl) ?_ ?_
    ·intro wd X0
     refine DagStepsP.cons (fun s' w' X U H => Or.inl ⟨?_, ?_⟩) ?_
     ·exact Guarded_none rfl
     ·exact Does_val (r_fieldAddr (b := br) (o := 0) (o' := 0) (U 1 rfl) Try.underlying27 rfl siz3 rfl) (Ext.refl _) rfl
     refine DagStepsP.cons (fun s' w' X U H => Or.inl ⟨?_, ?_⟩) ?_
     ·exact Guarded_none rfl
     ·have e23 : s' 23 = (.pointer (some ⟨br, 0, none⟩)) := H 0 rfl 23 (.eq (.pointer (some ⟨br, 0, none⟩))) rfl (by rw [hFs7]; rfl)
      exact Does_val (r_load (v := (I6 t.kind)) e23 flat3 (((X0.trans X).keep Br).cell rfl)) (Ext.refl _) rfl
     refine DagStepsP.cons (fun s' w' X U H => Or.inl ⟨?_, ?_⟩) ?_
     ·exact Guarded_none rfl
     ·exact Does_val (r_fieldAddr (b := br) (o := 0) (o' := 2) (U 1 rfl) Try.underlying27 rfl siz25 rfl) (Ext.refl _) rfl
     refine DagStepsP.cons (fun s' w' X U H => Or.inl ⟨?_, ?_⟩) ?_
     ·exact Guarded_none rfl
     ·have e25 : s' 25 = (.pointer (some ⟨br, 2, none⟩)) := H 2 rfl 25 (.eq (.pointer (some ⟨br, 2, none⟩))) rfl (by rw [hFs7]; rfl)
      exact Does_val (r_load (v := (.slice aa t.args.length ac)) e25 flat25 (((X0.trans X).keep Br).cell rfl)) (Ext.refl _) rfl
     refine DagStepsP.cons (fun s' w' X U H => Or.inl ⟨?_, ?_⟩) ?_
     ·exact Guarded_none rfl
     ·exact Does_enter (r_callF (vs := []) Try.func47 nm47 bd47 rfl) ((dall_in _).mono (fun r w h => ⟨(by obtain ⟨⟨a1, a2, a3, a4, h1, h2⟩, _⟩ := h; exact ⟨a1, a2, a3, a4, h1, ReIn.mono (fun b hb => .inr (by have := X0.size; have := X.size; have hb' : _ ≤ b := hb; omega)) _ h2⟩ : reG (fun b => S b ∨ n1 ≤ b) allT r w), h.2⟩))
     refine DagStepsP.cons (fun s' w' X U H => Or.inl ⟨?_, ?_⟩) ?_
     ·exact Guarded_none rfl
     ·have e24 : s' 24 = (.int .i64 t.kind) := H 1 rfl 24 (.eq (.int .i64 t.kind)) rfl (by rw [hFs7]; rfl)
      have e26 : s' 26 = (.slice aa t.args.length ac) := H 3 rfl 26 (.eq (.slice aa t.args.length ac)) rfl (by rw [hFs7]; rfl)
      obtain ⟨za27, zc27, ua27, uc27, e27, r27⟩ := H 4 rfl 27 (.gen (reG (fun b => S b ∨ n1 ≤ b) allT) (reG_ext _ _)) rfl (by rw [hFs7]; rfl)
      exact Does_enter (r_callF (vs := [(I6 t.kind), (.slice aa t.args.length ac), (.func (.func 46) #[] #[]), (.func (.func 45) #[] #[]), (.agg (R6 allT za27 zc27 ua27 uc27))]) Try.func44 nm44 bd44 (lst5 e24 e26 rfl rfl e27)) ((choice_c _ (fun b => (S b ∨ n1 ≤ b) ∧ b < w'.heap.size) t.kind _ _ _ t.args isNoneB isAllB allT _ (RsIn.lt (rs_mono (fun b hb => .inl hb) (hRs.ext (Ext.trans E (X0.trans X))))) (ReIn.lt _ r27) (fun x hx => hx.2) (fun x hm hk => (sim_three (ha x hm)).1 (by omega)) hsz (flat_noNeg ha) (fun w x vs hm hx => CallV.mk (first := #[]) (cap := #[]) Try.func46 nm46 bd46 rfl (disnone_c w x vs hx)) (fun w x vs hm hx => CallV.mk (first := #[]) (cap := #[]) Try.func45 nm45 bd45 rfl (disall_c w x vs hx (sim_three (flat_sim ha x hm)).2))).mono (fun r w h => ⟨reG_of (S' := fun b => ((S b ∨ n1 ≤ b) ∧ b < w'.heap.size) ∨ w'.heap.size ≤ b) (fun b hb => by rcases hb with h1 | h1; exact h1.1; exact .inr (by have := X0.size; have := X.size; omega)) (by rw [hN7]; exact h.1), h.2⟩))
     refine DagStepsP.tail ?_
     exact DagStepsP.nil
    ·intro s' w7 X7 U H
     obtain ⟨xa28, xc28, ya28, yc28, e28, r28⟩ := H 5 rfl 28 (.gen (reG (fun b => S b ∨ n1 ≤ b) N) (reG_ext _ _)) rfl (by rw [hFs7]; rfl)
     obtain ⟨j7, rfl⟩ := Fits.out (σ := s') (l := [(2, (.pointer (some ⟨bo, 0, none⟩))), (28, (.agg #[(.int .i64 N.kind), (.slice xa28 N.set.length xc28), (.slice ya28 N.args.length yc28), (.int .i64 N.mn), (.int .i64 N.mx), (.bool N.neg)]))]) ⟨U 2 rfl, e28, trivial⟩
     clear U H
     replace Br := X7.keep Br
     replace Bo := X7.keep Bo
     replace E := E.ext X7
     refine s_storeAgg (b := bo) (o := 0) (c' := (R6 N xa28 xc28 ya28 yc28)) rfl rfl (by simp [Value.oneCell']) siz27 rfl Bo (by first | (simp; done) | exact Nat.le_of_ble_eq_true rfl) rfl ?_
     intro w8 S8
     replace r28 := ReIn.chg S8.chg (fun y hy h => by have h2 : y = bo := h; rcases hy with h1 | h1; have := hS y h1; omega; omega) _ r28
     replace Br := S8.keep (by omega) Br
     replace E := S8.step E (by first | exact Or.inl (by omega) | exact Or.inr rfl | exact Or.inr (by assumption) | exact Or.inr (by simp) | exact Or.inr (by omega) | exact Or.inr (by dsimp only; omega))
     replace Bo := S8.blk
     refine WpL_nil (thn_normal (Wp_ret (inB_ret (thn_ret ?_))))
     refine fin_agg Try.results30 (vs := [(.int .i64 N.kind), (.slice xa28 N.set.length xc28), (.slice ya28 N.args.length yc28), (.int .i64 N.mn), (.int .i64 N.mx), (.bool N.neg)]) (b := bo) rfl agg27 siz27 rfl (Bo.cells rfl) ?_
     exact ⟨⟨_, rfl, ReIn.mono (fun y hy => by rcases hy with h1 | h1; exact .inl h1; exact .inr (by omega)) _ r28⟩, E⟩
   ·have kh7 := h7
    replace h7 := of_decide_eq_false h7
    refine Wp_seq_region ?_
    refine qV (r_eql (k := .i64) (a := t.kind) (b := 5) rfl rfl) ?_
    refine qA (.bool (decide ((t.kind : Int) = 5))) rfl ?_
    refine WpL_nil ?_
    refine Wp_cond (b := decide ((t.kind : Int) = 5)) rfl (fun h5 => ?_) (fun h5 => ?_)
    ·have kh5 := h5
     replace h5 := of_decide_eq_true h5
     have hone := hp.one (by omega)
     obtain ⟨x, hx⟩ := get_of_lt (l := t.args) (i := 0) (by omega)
     have hxm := List.mem_of_getElem? hx
     have hxo := ha x hxm
     have hhd : t.args.headD noneT = x := headD_get hx
     obtain ⟨ab, ao, hab, rfl, hres⟩ := hargs.resolve_left (fun h => by rw [h] at hx; cases hx)
     obtain ⟨us, hus, hxt⟩ := hres.get hx
     have hxt0 := hxt
     obtain ⟨xsa, xsc, xaa, xac, rfl, _, hxlen, hxargs⟩ := hxt.form
     refine Wp_seq_region ?_
     refine qF br 0 2 rfl Try.underlying27 rfl siz25 rfl ?_
     refine qV (r_load (v := (.slice (some ⟨ab, ao, none⟩) t.args.length ac)) rfl flat25 (Br.cell rfl)) ?_
     refine qV (r_indexSlice (b := ab) (o := ao) (len := t.args.length) (cap := ac) (i := 0) (o' := ao + 0 * 6) rfl rfl rfl Try.underlying25 siz27 (by omega) (by omega)) ?_
     refine qV (r_loadAgg (vs := [(I6 x.kind), (.slice xsa x.set.length xsc), (.slice xaa x.args.length xac), (I6 x.mn), (I6 x.mx), (.bool x.neg)]) rfl agg27 siz27 rfl (hus.ext E)) ?_
     have hN5 := hN.trans (ns5 h5 hhd)
     refine s_allocStore (v := (.agg (R6 x xsa xsc xaa xac))) (c := (R6 x xsa xsc xaa xac)) (n := 6) (by decide) zer27 rfl siz27 rfl rfl rfl (by simp [Value.oneCell']) ?_
     intro bx wx Nx
     have Fx := Nx.ge E
     have Ox_br := Nx.lt Br
     have Ox_bo := Nx.lt Bo
     replace Br := Nx.keep Br
     replace Bo := Nx.keep Bo
     replace E := E.ext Nx.ext
     have Bx := Nx.blk
     refine WpL_nil (Wp_seq_region ?_)
     refine qF bx 0 0 rfl Try.underlying27 rfl siz3 rfl ?_
     refine qV (r_load (v := (I6 x.kind)) rfl flat3 (Bx.cell rfl)) ?_
     refine WpL_nil (Wp_block (Wp_seq (Wp_seq_region ?_)))
     refine qV (r_eql (k := .i64) (a := x.kind) (b := 0) rfl rfl) ?_
     refine qA (.bool (decide ((x.kind : Int) = 0))) rfl ?_
     refine WpL_nil ?_
     refine Wp_cond (b := decide ((x.kind : Int) = 0)) rfl (fun k0 => ?_) (fun k0 => ?_)
     ·have kk0 := k0
      replace k0 := of_decide_eq_true k0
      have hN1 : N = emptyT := by rw [hN5, if_pos (.inl k0)]
      refine Wp_skip (thn_normal ?_)
      refine Wp_cond_true (congrArg Value.bool kk0) ?_
      refine Wp_seq_region ?_
      refine WpL_enter rfl rfl (by decide) (r_callF (vs := []) Try.func32 nm32 bd32 rfl) (dempty_c _) ?_
      rintro _ w29 ⟨rfl, X29⟩
      replace Br := X29.keep Br
      replace Bo := X29.keep Bo
      replace Bx := X29.keep Bx
      replace E := E.ext X29
      refine s_storeAgg (b := bo) (o := 0) (c' := #[(I6 1), (.slice none 0 0), (.slice none 0 0), (I6 0), (I6 0), (.bool false)]) rfl rfl (by simp [Value.oneCell']) siz27 rfl Bo (by first | (simp; done) | exact Nat.le_of_ble_eq_true rfl) rfl ?_
      intro w11 S11
      replace Br := S11.keep (by omega) Br
      replace Bx := S11.keep (by omega) Bx
      replace E := S11.step E (by first | exact Or.inl (by omega) | exact Or.inr rfl | exact Or.inr (by assumption) | exact Or.inr (by simp) | exact Or.inr (by omega) | exact Or.inr (by dsimp only; omega))
      replace Bo := S11.blk
      refine WpL_nil (Wp_ret (inB_ret (inB_ret (thn_ret ?_))))
      refine fin_agg Try.results30 (vs := [(.int .i64 1), (.slice none 0 0), (.slice none 0 0), (.int .i64 0), (.int .i64 0), (.bool false)]) (b := bo) rfl agg27 siz27 rfl (Bo.cells rfl) ?_
      exact ⟨⟨_, rfl, by rw [hN1]; exact re_empty _ _ _⟩, E⟩
     ·have kk0 := k0
      replace k0 := of_decide_eq_false k0
      refine Wp_region ?_
      refine qV (r_eql (k := .i64) (a := x.kind) (b := 1) rfl rfl) ?_
      refine qA (.bool (decide ((x.kind : Int) = 1))) rfl ?_
      refine WpL_nil (thn_normal ?_)
      refine Wp_cond (b := decide ((x.kind : Int) = 1)) rfl (fun k1 => ?_) (fun k1 => ?_)
      ·have kk1 := k1
       replace k1 := of_decide_eq_true k1
       have hN1 : N = emptyT := by rw [hN5, if_pos (.inr k1)]
       refine Wp_seq_region ?_
       refine WpL_enter rfl rfl (by decide) (r_callF (vs := []) Try.func32 nm32 bd32 rfl) (dempty_c _) ?_
       rintro _ w29 ⟨rfl, X29⟩
       replace Br := X29.keep Br
       replace Bo := X29.keep Bo
       replace Bx := X29.keep Bx
       replace E := E.ext X29
       refine s_storeAgg (b := bo) (o := 0) (c' := #[(I6 1), (.slice none 0 0), (.slice none 0 0), (I6 0), (I6 0), (.bool false)]) rfl rfl (by simp [Value.oneCell']) siz27 rfl Bo (by first | (simp; done) | exact Nat.le_of_ble_eq_true rfl) rfl ?_
       intro w13 S13
       replace Br := S13.keep (by omega) Br
       replace Bx := S13.keep (by omega) Bx
       replace E := S13.step E (by first | exact Or.inl (by omega) | exact Or.inr rfl | exact Or.inr (by assumption) | exact Or.inr (by simp) | exact Or.inr (by omega) | exact Or.inr (by dsimp only; omega))
       replace Bo := S13.blk
       refine WpL_nil (Wp_ret (inB_ret (inB_ret (thn_ret ?_))))
       refine fin_agg Try.results30 (vs := [(.int .i64 1), (.slice none 0 0), (.slice none 0 0), (.int .i64 0), (.int .i64 0), (.bool false)]) (b := bo) rfl agg27 siz27 rfl (Bo.cells rfl) ?_
       exact ⟨⟨_, rfl, by rw [hN1]; exact re_empty _ _ _⟩, E⟩
      ·have kk1 := k1
       replace k1 := of_decide_eq_false k1
       refine Wp_seq_region ?_
       refine qV (r_eql (k := .i64) (a := x.kind) (b := 5) rfl rfl) ?_
       refine qA (.bool (decide ((x.kind : Int) = 5))) rfl ?_
       refine WpL_nil ?_
       refine Wp_cond (b := decide ((x.kind : Int) = 5)) rfl (fun k5 => ?_) (fun k5 => ?_)
       ·have kk5 := k5
        replace k5 := of_decide_eq_true k5
        have hN1 : N = x := by rw [hN5, if_neg (by omega), if_pos k5]
        have hR : ReIn S (wx) x _ := ReIn.ext E x hxt0
        refine Wp_seq_region ?_
        refine qV (r_loadAgg (vs := [(I6 x.kind), (.slice xsa x.set.length xsc), (.slice xaa x.args.length xac), (I6 x.mn), (I6 x.mx), (.bool x.neg)]) rfl agg27 siz27 rfl (Bx.cells rfl)) ?_
        refine s_storeAgg (b := bo) (o := 0) (c' := (R6 x xsa xsc xaa xac)) rfl rfl (by simp [Value.oneCell']) siz27 rfl Bo (by first | (simp; done) | exact Nat.le_of_ble_eq_true rfl) rfl ?_
        intro w15 S15
        replace hR := ReIn.chg S15.chg (fun y hy h => by have h2 : y = bo := h; have := hS y hy; omega) x hR
        replace Br := S15.keep (by omega) Br
        replace Bx := S15.keep (by omega) Bx
        replace E := S15.step E (by first | exact Or.inl (by omega) | exact Or.inr rfl | exact Or.inr (by assumption) | exact Or.inr (by simp) | exact Or.inr (by omega) | exact Or.inr (by dsimp only; omega))
        replace Bo := S15.blk
        refine WpL_nil (Wp_ret (inB_ret (inB_ret (thn_ret ?_))))
        refine fin_agg Try.results30 (vs := [(.int .i64 x.kind), (.slice xsa x.set.length xsc), (.slice xaa x.args.length xac), (.int .i64 x.mn), (.int .i64 x.mx), (.bool x.neg)]) (b := bo) rfl agg27 siz27 rfl (Bo.cells rfl) ?_
        exact ⟨⟨_, rfl, by rw [hN1]; exact ReIn.mono (fun y hy => .inl hy) x hR⟩, E⟩
       ·have kk5 := k5
        replace k5 := of_decide_eq_false k5
        have hN1 : N = t := by rw [hN5, if_neg (by omega), if_neg k5]
        have hR : ReIn S (wx) t _ := ReIn.ext E t ht0
        refine Wp_skip (inB_normal (inB_normal (thn_normal (Wp_seq_region ?_))))
        refine qV (r_loadAgg (vs := [(I6 t.kind), (.slice sa t.set.length sc), (.slice (some ⟨ab, ao, none⟩) t.args.length ac), (I6 t.mn), (I6 t.mx), (.bool t.neg)]) rfl agg27 siz27 rfl (Br.cells rfl)) ?_
        refine s_storeAgg (b := bo) (o := 0) (c' := (R6 t sa sc (some ⟨ab, ao, none⟩) ac)) rfl rfl (by simp [Value.oneCell']) siz27 rfl Bo (by first | (simp; done) | exact Nat.le_of_ble_eq_true rfl) rfl ?_
        intro w16 S16
        replace hR := ReIn.chg S16.chg (fun y hy h => by have h2 : y = bo := h; have := hS y hy; omega) t hR
        replace Br := S16.keep (by omega) Br
        replace Bx := S16.keep (by omega) Bx
        replace E := S16.step E (by first | exact Or.inl (by omega) | exact Or.inr rfl | exact Or.inr (by assumption) | exact Or.inr (by simp) | exact Or.inr (by omega) | exact Or.inr (by dsimp only; omega))
        replace Bo := S16.blk
        refine WpL_nil (Wp_ret ?_)
        refine fin_agg Try.results30 (vs := [(.int .i64 t.kind), (.slice sa t.set.length sc), (.slice (some ⟨ab, ao, none⟩) t.args.length ac), (.int .i64 t.mn), (.int .i64 t.mx), (.bool t.neg)]) (b := bo) rfl agg27 siz27 rfl (Bo.cells rfl) ?_
        exact ⟨⟨_, rfl, by rw [hN1]; exact ReIn.mono (fun y hy => .inl hy) t hR⟩, E⟩
    ·have kh5 := h5
     replace h5 := of_decide_eq_false h5
     refine Wp_seq_region ?_
     refine qV (r_eql (k := .i64) (a := t.kind) (b := 6) rfl rfl) ?_
     refine qA (.bool (decide ((t.kind : Int) = 6))) rfl ?_
     refine WpL_nil ?_
     refine Wp_cond (b := decide ((t.kind : Int) = 6)) rfl (fun h6 => ?_) (fun h6 => ?_)
     ·have kh6 := h6
      replace h6 := of_decide_eq_true h6
      have hone := hp.one (by omega)
      obtain ⟨x, hx⟩ := get_of_lt (l := t.args) (i := 0) (by omega)
      have hxm := List.mem_of_getElem? hx
      have hxo := ha x hxm
      have hhd : t.args.headD noneT = x := headD_get hx
      obtain ⟨ab, ao, hab, rfl, hres⟩ := hargs.resolve_left (fun h => by rw [h] at hx; cases hx)
      obtain ⟨us, hus, hxt⟩ := hres.get hx
      have hxt0 := hxt
      obtain ⟨xsa, xsc, xaa, xac, rfl, _, hxlen, hxargs⟩ := hxt.form
      refine Wp_seq_region ?_
      refine qF br 0 2 rfl Try.underlying27 rfl siz25 rfl ?_
      refine qV (r_load (v := (.slice (some ⟨ab, ao, none⟩) t.args.length ac)) rfl flat25 (Br.cell rfl)) ?_
      refine qV (r_indexSlice (b := ab) (o := ao) (len := t.args.length) (cap := ac) (i := 0) (o' := ao + 0 * 6) rfl rfl rfl Try.underlying25 siz27 (by omega) (by omega)) ?_
      refine qV (r_loadAgg (vs := [(I6 x.kind), (.slice xsa x.set.length xsc), (.slice xaa x.args.length xac), (I6 x.mn), (I6 x.mx), (.bool x.neg)]) rfl agg27 siz27 rfl (hus.ext E)) ?_
      have hN6 := hN.trans (ns6 h6 hhd)
      refine s_allocStore (v := (.agg (R6 x xsa xsc xaa xac))) (c := (R6 x xsa xsc xaa xac)) (n := 6) (by decide) zer27 rfl siz27 rfl rfl rfl (by simp [Value.oneCell']) ?_
      intro bx wx Nx
      have Fx := Nx.ge E
      have Ox_br := Nx.lt Br
      have Ox_bo := Nx.lt Bo
      replace Br := Nx.keep Br
      replace Bo := Nx.keep Bo
      replace E := E.ext Nx.ext
      have Bx := Nx.blk
      refine WpL_nil (Wp_block (Wp_seq_region ?_))
      refine qF br 0 4 rfl Try.underlying27 rfl siz3 rfl ?_
      refine qV (r_load (v := (I6 t.mx)) rfl flat3 (Br.cell rfl)) ?_
      refine qV (r_eql (k := .i64) (a := t.mx) (b := 0) rfl rfl) ?_
      refine qM (.bool (decide ((t.mx : Int) = 0))) rfl ?_
      rcases Bool.eq_false_or_eq_true (decide ((t.mx : Int) = 0)) with gm | gm
      ·have kgm := gm
       replace kgm := of_decide_eq_true kgm
       have hN1 : N = emptyT := by rw [hN6, if_pos (.inl kgm)]
       refine WpL_guard_no (oj := _) rfl rfl (by decide) (v := .bool true) (congrArg Value.bool gm) (Or.inl rfl) ?_
       refine WpL_guard_no (oj := _) rfl rfl (by decide) (v := .bool true) (congrArg Value.bool gm) (Or.inl rfl) ?_
       refine WpL_guard_no (oj := _) rfl rfl (by decide) (v := .bool true) (congrArg Value.bool gm) (Or.inl rfl) ?_
       refine qV (r_pick (b := decide ((t.mx : Int) = 0)) (v := (.bool true)) rfl (by rw [gm]; rfl)) ?_
       refine qM (.bool true) rfl ?_
       refine WpL_guard_no (oj := _) rfl rfl (by decide) (v := .bool true) rfl (Or.inl rfl) ?_
       refine WpL_guard_no (oj := _) rfl rfl (by decide) (v := .bool true) rfl (Or.inl rfl) ?_
       refine WpL_guard_no (oj := _) rfl rfl (by decide) (v := .bool true) rfl (Or.inl rfl) ?_
       refine WpL_guard_no (oj := _) rfl rfl (by decide) (v := .bool true) rfl (Or.inl rfl) ?_
       refine WpL_guard_no (oj := _) rfl rfl (by decide) (v := undef) rfl (Or.inr rfl) ?_
       refine WpL_guard_no (oj := _) rfl rfl (by decide) (v := undef) rfl (Or.inr rfl) ?_
       refine WpL_guard_no (oj := _) rfl rfl (by decide) (v := undef) rfl (Or.inr rfl) ?_
       refine WpL_guard_no (oj := _) rfl rfl (by decide) (v := .bool true) rfl (Or.inl rfl) ?_
       refine qV (r_pick (b := true) (v := (.bool true)) rfl rfl) ?_
       refine qA (.bool true) rfl ?_
       refine WpL_nil ?_
       refine Wp_cond_true rfl ?_
       refine Wp_seq_region ?_
       refine WpL_enter rfl rfl (by decide) (r_callF (vs := []) Try.func32 nm32 bd32 rfl) (dempty_c _) ?_
       rintro _ w29 ⟨rfl, X29⟩
       replace Br := X29.keep Br
       replace Bo := X29.keep Bo
       replace Bx := X29.keep Bx
       replace E := E.ext X29
       refine s_storeAgg (b := bo) (o := 0) (c' := #[(I6 1), (.slice none 0 0), (.slice none 0 0), (I6 0), (I6 0), (.bool false)]) rfl rfl (by simp [Value.oneCell']) siz27 rfl Bo (by first | (simp; done) | exact Nat.le_of_ble_eq_true rfl) rfl ?_
       intro w19 S19
       replace Br := S19.keep (by omega) Br
       replace Bx := S19.keep (by omega) Bx
       replace E := S19.step E (by first | exact Or.inl (by omega) | exact Or.inr rfl | exact Or.inr (by assumption) | exact Or.inr (by simp) | exact Or.inr (by omega) | exact Or.inr (by dsimp only; omega))
       replace Bo := S19.blk
       refine WpL_nil (Wp_ret (inB_ret (inB_ret (thn_ret ?_))))
       refine fin_agg Try.results30 (vs := [(.int .i64 1), (.slice none 0 0), (.slice none 0 0), (.int .i64 0), (.int .i64 0), (.bool false)]) (b := bo) rfl agg27 siz27 rfl (Bo.cells rfl) ?_
       exact ⟨⟨_, rfl, by rw [hN1]; exact re_empty _ _ _⟩, E⟩
      ·have kgm := gm
       replace kgm := of_decide_eq_false kgm
       refine WpL_guard_yes (oj := _) rfl rfl (by decide) (congrArg Value.bool gm) ?_
       refine qF bx 0 0 rfl Try.underlying27 rfl siz3 rfl ?_
       refine WpL_guard_yes (oj := _) rfl rfl (by decide) (congrArg Value.bool gm) ?_
       refine qV (r_load (v := (I6 x.kind)) rfl flat3 (Bx.cell rfl)) ?_
       refine WpL_guard_yes (oj := _) rfl rfl (by decide) (congrArg Value.bool gm) ?_
       refine qV (r_eql (k := .i64) (a := x.kind) (b := 1) rfl rfl) ?_
       refine qV (r_pick (b := decide ((t.mx : Int) = 0)) (v := (.bool (decide ((x.kind : Int) = 1)))) rfl (by rw [gm]; rfl)) ?_
       refine qM (.bool (decide ((x.kind : Int) = 1))) rfl ?_
       rcases Bool.eq_false_or_eq_true (decide ((x.kind : Int) = 1)) with g1 | g1
       ·have kg1 := g1
        replace kg1 := of_decide_eq_true kg1
        have hN1 : N = emptyT := by rw [hN6, if_pos (.inr (.inl kg1))]
        refine WpL_guard_no (oj := _) rfl rfl (by decide) (v := .bool true) (congrArg Value.bool g1) (Or.inl rfl) ?_
        refine WpL_guard_no (oj := _) rfl rfl (by decide) (v := .bool true) (congrArg Value.bool g1) (Or.inl rfl) ?_
        refine WpL_guard_no (oj := _) rfl rfl (by decide) (v := .bool true) (congrArg Value.bool g1) (Or.inl rfl) ?_
        refine WpL_guard_no (oj := _) rfl rfl (by decide) (v := .bool true) (congrArg Value.bool g1) (Or.inl rfl) ?_
        refine WpL_guard_no (oj := _) rfl rfl (by decide) (v := undef) rfl (Or.inr rfl) ?_
        refine WpL_guard_no (oj := _) rfl rfl (by decide) (v := undef) rfl (Or.inr rfl) ?_
        refine WpL_guard_no (oj := _) rfl rfl (by decide) (v := undef) rfl (Or.inr rfl) ?_
        refine WpL_guard_no (oj := _) rfl rfl (by decide) (v := .bool true) (congrArg Value.bool g1) (Or.inl rfl) ?_
        refine qV (r_pick (b := decide ((x.kind : Int) = 1)) (v := (.bool true)) rfl (by rw [g1]; rfl)) ?_
        refine qA (.bool true) rfl ?_
        refine WpL_nil ?_
        refine Wp_cond_true rfl ?_
        refine Wp_seq_region ?_
        refine WpL_enter rfl rfl (by decide) (r_callF (vs := []) Try.func32 nm32 bd32 rfl) (dempty_c _) ?_
        rintro _ w29 ⟨rfl, X29⟩
        replace Br := X29.keep Br
        replace Bo := X29.keep Bo
        replace Bx := X29.keep Bx
        replace E := E.ext X29
        refine s_storeAgg (b := bo) (o := 0) (c' := #[(I6 1), (.slice none 0 0), (.slice none 0 0), (I6 0), (I6 0), (.bool false)]) rfl rfl (by simp [Value.oneCell']) siz27 rfl Bo (by first | (simp; done) | exact Nat.le_of_ble_eq_true rfl) rfl ?_
        intro w21 S21
        replace Br := S21.keep (by omega) Br
        replace Bx := S21.keep (by omega) Bx
        replace E := S21.step E (by first | exact Or.inl (by omega) | exact Or.inr rfl | exact Or.inr (by assumption) | exact Or.inr (by simp) | exact Or.inr (by omega) | exact Or.inr (by dsimp only; omega))
        replace Bo := S21.blk
        refine WpL_nil (Wp_ret (inB_ret (inB_ret (thn_ret ?_))))
        refine fin_agg Try.results30 (vs := [(.int .i64 1), (.slice none 0 0), (.slice none 0 0), (.int .i64 0), (.int .i64 0), (.bool false)]) (b := bo) rfl agg27 siz27 rfl (Bo.cells rfl) ?_
        exact ⟨⟨_, rfl, by rw [hN1]; exact re_empty _ _ _⟩, E⟩
       ·have kg1 := g1
        replace kg1 := of_decide_eq_false kg1
        refine WpL_guard_yes (oj := _) rfl rfl (by decide) (congrArg Value.bool g1) ?_
        refine qF bx 0 0 rfl Try.underlying27 rfl siz3 rfl ?_
        refine WpL_guard_yes (oj := _) rfl rfl (by decide) (congrArg Value.bool g1) ?_
        refine qV (r_load (v := (I6 x.kind)) rfl flat3 (Bx.cell rfl)) ?_
        refine WpL_guard_yes (oj := _) rfl rfl (by decide) (congrArg Value.bool g1) ?_
        refine qV (r_eql (k := .i64) (a := x.kind) (b := 0) rfl rfl) ?_
        refine WpL_guard_yes (oj := _) rfl rfl (by decide) (congrArg Value.bool g1) ?_
        refine qM (.bool (decide ((x.kind : Int) = 0))) rfl ?_
        rcases Bool.eq_false_or_eq_true (decide ((x.kind : Int) = 0)) with g0 | g0
        ·have kg0 := g0
         replace kg0 := of_decide_eq_true kg0
         refine WpL_guard_yes (oj := _) rfl rfl (by decide) (congrArg Value.bool g0) ?_
         refine qF br 0 3 rfl Try.underlying27 rfl siz3 rfl ?_
         refine WpL_guard_yes (oj := _) rfl rfl (by decide) (congrArg Value.bool g0) ?_
         refine qV (r_load (v := (I6 t.mn)) rfl flat3 (Br.cell rfl)) ?_
         refine WpL_guard_yes (oj := _) rfl rfl (by decide) (congrArg Value.bool g0) ?_
         refine qV (r_eql (k := .i64) (a := t.mn) (b := 0) rfl rfl) ?_
         refine WpL_guard_yes (oj := _) rfl rfl (by decide) (congrArg Value.bool g1) ?_
         refine qV (r_pick (b := decide ((x.kind : Int) = 0)) (v := (.bool (decide ((t.mn : Int) = 0)))) rfl (by rw [g0]; rfl)) ?_
         refine qV (r_pick (b := decide ((x.kind : Int) = 1)) (v := (.bool (decide ((t.mn : Int) = 0)))) rfl (by rw [g1]; rfl)) ?_
         refine qA (.bool (decide ((t.mn : Int) = 0))) rfl ?_
         refine WpL_nil ?_
         refine Wp_cond (b := decide ((t.mn : Int) = 0)) rfl (fun gz => ?_) (fun gz => ?_)
         ·have kgz := gz
          replace gz := of_decide_eq_true gz
          have hN1 : N = emptyT := by rw [hN6, if_pos (.inr (.inr ⟨kg0, gz⟩))]
          refine Wp_seq_region ?_
          refine WpL_enter rfl rfl (by decide) (r_callF (vs := []) Try.func32 nm32 bd32 rfl) (dempty_c _) ?_
          rintro _ w29 ⟨rfl, X29⟩
          replace Br := X29.keep Br
          replace Bo := X29.keep Bo
          replace Bx := X29.keep Bx
          replace E := E.ext X29
          refine s_storeAgg (b := bo) (o := 0) (c' := #[(I6 1), (.slice none 0 0), (.slice none 0 0), (I6 0), (I6 0), (.bool false)]) rfl rfl (by simp [Value.oneCell']) siz27 rfl Bo (by first | (simp; done) | exact Nat.le_of_ble_eq_true rfl) rfl ?_
          intro w24 S24
          replace Br := S24.keep (by omega) Br
          replace Bx := S24.keep (by omega) Bx
          replace E := S24.step E (by first | exact Or.inl (by omega) | exact Or.inr rfl | exact Or.inr (by assumption) | exact Or.inr (by simp) | exact Or.inr (by omega) | exact Or.inr (by dsimp only; omega))
          replace Bo := S24.blk
          refine WpL_nil (Wp_ret (inB_ret (inB_ret (thn_ret ?_))))
          refine fin_agg Try.results30 (vs := [(.int .i64 1), (.slice none 0 0), (.slice none 0 0), (.int .i64 0), (.int .i64 0), (.bool false)]) (b := bo) rfl agg27 siz27 rfl (Bo.cells rfl) ?_
          exact ⟨⟨_, rfl, by rw [hN1]; exact re_empty _ _ _⟩, E⟩
         ·have kgz := gz
          replace gz := of_decide_eq_false gz
          refine Wp_seq_region ?_
          refine qF bx 0 0 rfl Try.underlying27 rfl siz3 rfl ?_
          refine qV (r_load (v := (I6 x.kind)) rfl flat3 (Bx.cell rfl)) ?_
          refine qV (r_eql (k := .i64) (a := x.kind) (b := 0) rfl rfl) ?_
          refine qM (.bool (decide ((x.kind : Int) = 0))) rfl ?_
          refine WpL_guard_no (oj := _) rfl rfl (by decide) (v := .bool true) (congrArg Value.bool g0) (Or.inl rfl) ?_
          refine WpL_guard_no (oj := _) rfl rfl (by decide) (v := .bool true) (congrArg Value.bool g0) (Or.inl rfl) ?_
          refine WpL_guard_no (oj := _) rfl rfl (by decide) (v := .bool true) (congrArg Value.bool g0) (Or.inl rfl) ?_
          refine WpL_guard_no (oj := _) rfl rfl (by decide) (v := .bool true) (congrArg Value.bool g0) (Or.inl rfl) ?_
          refine WpL_guard_no (oj := _) rfl rfl (by decide) (v := undef) rfl (Or.inr rfl) ?_
          refine WpL_guard_no (oj := _) rfl rfl (by decide) (v := undef) rfl (Or.inr rfl) ?_
          refine WpL_guard_no (oj := _) rfl rfl (by decide) (v := undef) rfl (Or.inr rfl) ?_
          refine WpL_guard_no (oj := _) rfl rfl (by decide) (v := .bool true) (congrArg Value.bool g0) (Or.inl rfl) ?_
          refine qV (r_pick (b := decide ((x.kind : Int) = 0)) (v := (.bool true)) rfl (by rw [g0]; rfl)) ?_
          refine qA (.bool true) rfl ?_
          refine WpL_nil ?_
          refine Wp_cond_true rfl ?_
          refine Wp_seq_region ?_
          refine qV (r_loadAgg (vs := [(I6 x.kind), (.slice xsa x.set.length xsc), (.slice xaa x.args.length xac), (I6 x.mn), (I6 x.mx), (.bool x.neg)]) rfl agg27 siz27 rfl (Bx.cells rfl)) ?_
          refine s_storeAgg (b := bo) (o := 0) (c' := (R6 x xsa xsc xaa xac)) rfl rfl (by simp [Value.oneCell']) siz27 rfl Bo (by first | (simp; done) | exact Nat.le_of_ble_eq_true rfl) rfl ?_
          intro w25 S25
          replace Br := S25.keep (by omega) Br
          replace Bx := S25.keep (by omega) Bx
          replace E := S25.step E (by first | exact Or.inl (by omega) | exact Or.inr rfl | exact Or.inr (by assumption) | exact Or.inr (by simp) | exact Or.inr (by omega) | exact Or.inr (by dsimp only; omega))
          replace Bo := S25.blk
          refine WpL_nil (Wp_ret (inB_ret (inB_ret (thn_ret ?_))))
          refine fin_agg Try.results30 (vs := [(.int .i64 x.kind), (.slice xsa x.set.length xsc), (.slice xaa x.args.length xac), (.int .i64 x.mn), (.int .i64 x.mx), (.bool x.neg)]) (b := bo) rfl agg27 siz27 rfl (Bo.cells rfl) ?_
          have hN1 : N = x := by rw [hN6, if_neg (by omega), if_pos (.inl kg0)]
          have hR : ReIn S (w25) x _ := ReIn.ext E x hxt0
          exact ⟨⟨_, rfl, by rw [hN1]; exact ReIn.mono (fun y hy => .inl hy) x hR⟩, E⟩
        ·have kg0 := g0
         replace kg0 := of_decide_eq_false kg0
         refine WpL_guard_no (oj := _) rfl rfl (by decide) (v := .bool false) (congrArg Value.bool g0) (Or.inl rfl) ?_
         refine WpL_guard_no (oj := _) rfl rfl (by decide) (v := .bool false) (congrArg Value.bool g0) (Or.inl rfl) ?_
         refine WpL_guard_no (oj := _) rfl rfl (by decide) (v := .bool false) (congrArg Value.bool g0) (Or.inl rfl) ?_
         refine WpL_guard_yes (oj := _) rfl rfl (by decide) (congrArg Value.bool g1) ?_
         refine qV (r_pick (b := decide ((x.kind : Int) = 0)) (v := (.bool false)) rfl (by rw [g0]; rfl)) ?_
         refine qV (r_pick (b := decide ((x.kind : Int) = 1)) (v := (.bool false)) rfl (by rw [g1]; rfl)) ?_
         refine qA (.bool false) rfl ?_
         refine WpL_nil ?_
         refine Wp_cond_false rfl ?_
         refine Wp_seq_region ?_
         refine qF bx 0 0 rfl Try.underlying27 rfl siz3 rfl ?_
         refine qV (r_load (v := (I6 x.kind)) rfl flat3 (Bx.cell rfl)) ?_
         refine qV (r_eql (k := .i64) (a := x.kind) (b := 0) rfl rfl) ?_
         refine qM (.bool (decide ((x.kind : Int) = 0))) rfl ?_
         refine WpL_guard_yes (oj := _) rfl rfl (by decide) (congrArg Value.bool g0) ?_
         refine qF br 0 3 rfl Try.underlying27 rfl siz3 rfl ?_
         refine WpL_guard_yes (oj := _) rfl rfl (by decide) (congrArg Value.bool g0) ?_
         refine qV (r_load (v := (I6 t.mn)) rfl flat3 (Br.cell rfl)) ?_
         refine WpL_guard_yes (oj := _) rfl rfl (by decide) (congrArg Value.bool g0) ?_
         refine qV (r_eql (k := .i64) (a := t.mn) (b := 1) rfl rfl) ?_
         refine WpL_guard_yes (oj := _) rfl rfl (by decide) (congrArg Value.bool g0) ?_
         refine qM (.bool (decide ((t.mn : Int) = 1))) rfl ?_
         rcases Bool.eq_false_or_eq_true (decide ((t.mn : Int) = 1)) with g2 | g2
         ·have kg2 := g2
          replace kg2 := of_decide_eq_true kg2
          refine WpL_guard_yes (oj := _) rfl rfl (by decide) (congrArg Value.bool g2) ?_
          refine qF br 0 4 rfl Try.underlying27 rfl siz3 rfl ?_
          refine WpL_guard_yes (oj := _) rfl rfl (by decide) (congrArg Value.bool g2) ?_
          refine qV (r_load (v := (I6 t.mx)) rfl flat3 (Br.cell rfl)) ?_
          refine WpL_guard_yes (oj := _) rfl rfl (by decide) (congrArg Value.bool g2) ?_
          refine qV (r_eql (k := .i64) (a := t.mx) (b := 1) rfl rfl) ?_
          refine WpL_guard_yes (oj := _) rfl rfl (by decide) (congrArg Value.bool g0) ?_
          refine qV (r_pick (b := decide ((t.mn : Int) = 1)) (v := (.bool (decide ((t.mx : Int) = 1)))) rfl (by rw [g2]; rfl)) ?_
          refine qV (r_pick (b := decide ((x.kind : Int) = 0)) (v := (.bool (decide ((t.mx : Int) = 1)))) rfl (by rw [g0]; rfl)) ?_
          refine qA (.bool (decide ((t.mx : Int) = 1))) rfl ?_
          refine WpL_nil ?_
          refine Wp_cond (b := decide ((t.mx : Int) = 1)) rfl (fun g3 => ?_) (fun g3 => ?_)
          ·have kg3 := g3
           replace g3 := of_decide_eq_true g3
           have hN1 : N = x := by rw [hN6, if_neg (by omega), if_pos (.inr ⟨kg2, g3⟩)]
           have hR : ReIn S (wx) x _ := ReIn.ext E x hxt0
           refine Wp_seq_region ?_
           refine qV (r_loadAgg (vs := [(I6 x.kind), (.slice xsa x.set.length xsc), (.slice xaa x.args.length xac), (I6 x.mn), (I6 x.mx), (.bool x.neg)]) rfl agg27 siz27 rfl (Bx.cells rfl)) ?_
           refine s_storeAgg (b := bo) (o := 0) (c' := (R6 x xsa xsc xaa xac)) rfl rfl (by simp [Value.oneCell']) siz27 rfl Bo (by first | (simp; done) | exact Nat.le_of_ble_eq_true rfl) rfl ?_
           intro w28 S28
           replace hR := ReIn.chg S28.chg (fun y hy h => by have h2 : y = bo := h; have := hS y hy; omega) x hR
           replace Br := S28.keep (by omega) Br
           replace Bx := S28.keep (by omega) Bx
           replace E := S28.step E (by first | exact Or.inl (by omega) | exact Or.inr rfl | exact Or.inr (by assumption) | exact Or.inr (by simp) | exact Or.inr (by omega) | exact Or.inr (by dsimp only; omega))
           replace Bo := S28.blk
           refine WpL_nil (Wp_ret (inB_ret (inB_ret (thn_ret ?_))))
           refine fin_agg Try.results30 (vs := [(.int .i64 x.kind), (.slice xsa x.set.length xsc), (.slice xaa x.args.length xac), (.int .i64 x.mn), (.int .i64 x.mx), (.bool x.neg)]) (b := bo) rfl agg27 siz27 rfl (Bo.cells rfl) ?_
           exact ⟨⟨_, rfl, by rw [hN1]; exact ReIn.mono (fun y hy => .inl hy) x hR⟩, E⟩
          ·have kg3 := g3
           replace g3 := of_decide_eq_false g3
           have hN1 : N = t := by rw [hN6, if_neg (by omega), if_neg (by omega)]
           have hR : ReIn S (wx) t _ := ReIn.ext E t ht0
           refine Wp_skip (inB_normal (inB_normal (thn_normal (Wp_seq_region ?_))))
           refine qV (r_loadAgg (vs := [(I6 t.kind), (.slice sa t.set.length sc), (.slice (some ⟨ab, ao, none⟩) t.args.length ac), (I6 t.mn), (I6 t.mx), (.bool t.neg)]) rfl agg27 siz27 rfl (Br.cells rfl)) ?_
           refine s_storeAgg (b := bo) (o := 0) (c' := (R6 t sa sc (some ⟨ab, ao, none⟩) ac)) rfl rfl (by simp [Value.oneCell']) siz27 rfl Bo (by first | (simp; done) | exact Nat.le_of_ble_eq_true rfl) rfl ?_
           intro w29 S29
           replace hR := ReIn.chg S29.chg (fun y hy h => by have h2 : y = bo := h; have := hS y hy; omega) t hR
           replace Br := S29.keep (by omega) Br
           replace Bx := S29.keep (by omega) Bx
           replace E := S29.step E (by first | exact Or.inl (by omega) | exact Or.inr rfl | exact Or.inr (by assumption) | exact Or.inr (by simp) | exact Or.inr (by omega) | exact Or.inr (by dsimp only; omega))
           replace Bo := S29.blk
           refine WpL_nil (Wp_ret ?_)
           refine fin_agg Try.results30 (vs := [(.int .i64 t.kind), (.slice sa t.set.length sc), (.slice (some ⟨ab, ao, none⟩) t.args.length ac), (.int .i64 t.mn), (.int .i64 t.mx), (.bool t.neg)]) (b := bo) rfl agg27 siz27 rfl (Bo.cells rfl) ?_
           exact ⟨⟨_, rfl, by rw [hN1]; exact ReIn.mono (fun y hy => .inl hy) t hR⟩, E⟩
         ·have kg2 := g2
          replace kg2 := of_decide_eq_false kg2
          have hN1 : N = t := by rw [hN6, if_neg (by omega), if_neg (by omega)]
          have hR : ReIn S (wx) t _ := ReIn.ext E t ht0
          refine WpL_guard_no (oj := _) rfl rfl (by decide) (v := .bool false) (congrArg Value.bool g2) (Or.inl rfl) ?_
          refine WpL_guard_no (oj := _) rfl rfl (by decide) (v := .bool false) (congrArg Value.bool g2) (Or.inl rfl) ?_
          refine WpL_guard_no (oj := _) rfl rfl (by decide) (v := .bool false) (congrArg Value.bool g2) (Or.inl rfl) ?_
          refine WpL_guard_yes (oj := _) rfl rfl (by decide) (congrArg Value.bool g0) ?_
          refine qV (r_pick (b := decide ((t.mn : Int) = 1)) (v := (.bool false)) rfl (by rw [g2]; rfl)) ?_
          refine qV (r_pick (b := decide ((x.kind : Int) = 0)) (v := (.bool false)) rfl (by rw [g0]; rfl)) ?_
          refine qA (.bool false) rfl ?_
          refine WpL_nil ?_
          refine Wp_cond_false rfl ?_
          refine Wp_skip (inB_normal (inB_normal (thn_normal (Wp_seq_region ?_))))
          refine qV (r_loadAgg (vs := [(I6 t.kind), (.slice sa t.set.length sc), (.slice (some ⟨ab, ao, none⟩) t.args.length ac), (I6 t.mn), (I6 t.mx), (.bool t.neg)]) rfl agg27 siz27 rfl (Br.cells rfl)) ?_
          refine s_storeAgg (b := bo) (o := 0) (c' := (R6 t sa sc (some ⟨ab, ao, none⟩) ac)) rfl rfl (by simp [Value.oneCell']) siz27 rfl Bo (by first | (simp; done) | exact Nat.le_of_ble_eq_true rfl) rfl ?_
          intro w30 S30
          replace hR := ReIn.chg S30.chg (fun y hy h => by have h2 : y = bo := h; have := hS y hy; omega) t hR
          replace Br := S30.keep (by omega) Br
          replace Bx := S30.keep (by omega) Bx
          replace E := S30.step E (by first | exact Or.inl (by omega) | exact Or.inr rfl | exact Or.inr (by assumption) | exact Or.inr (by simp) | exact Or.inr (by omega) | exact Or.inr (by dsimp only; omega))
          replace Bo := S30.blk
          refine WpL_nil (Wp_ret ?_)
          refine fin_agg Try.results30 (vs := [(.int .i64 t.kind), (.slice sa t.set.length sc), (.slice (some ⟨ab, ao, none⟩) t.args.length ac), (.int .i64 t.mn), (.int .i64 t.mx), (.bool t.neg)]) (b := bo) rfl agg27 siz27 rfl (Bo.cells rfl) ?_
          exact ⟨⟨_, rfl, by rw [hN1]; exact ReIn.mono (fun y hy => .inl hy) t hR⟩, E⟩
     ·have kh6 := h6
      replace h6 := of_decide_eq_false h6
      refine Wp_seq_region ?_
      refine qV (r_eql (k := .i64) (a := t.kind) (b := 8) rfl rfl) ?_
      refine qA (.bool (decide ((t.kind : Int) = 8))) rfl ?_
      refine WpL_nil ?_
      refine Wp_cond (b := decide ((t.kind : Int) = 8)) rfl (fun h8 => ?_) (fun h8 => ?_)
      ·have kh8 := h8
       replace h8 := of_decide_eq_true h8
       have hone := hp.one (by omega)
       obtain ⟨x, hx⟩ := get_of_lt (l := t.args) (i := 0) (by omega)
       have hxm := List.mem_of_getElem? hx
       have hxo := ha x hxm
       have hhd : t.args.headD noneT = x := headD_get hx
       obtain ⟨ab, ao, hab, rfl, hres⟩ := hargs.resolve_left (fun h => by rw [h] at hx; cases hx)
       obtain ⟨us, hus, hxt⟩ := hres.get hx
       have hxt0 := hxt
       obtain ⟨xsa, xsc, xaa, xac, rfl, _, hxlen, hxargs⟩ := hxt.form
       refine Wp_seq_region ?_
       refine qF br 0 2 rfl Try.underlying27 rfl siz25 rfl ?_
       refine qV (r_load (v := (.slice (some ⟨ab, ao, none⟩) t.args.length ac)) rfl flat25 (Br.cell rfl)) ?_
       refine qV (r_indexSlice (b := ab) (o := ao) (len := t.args.length) (cap := ac) (i := 0) (o' := ao + 0 * 6) rfl rfl rfl Try.underlying25 siz27 (by omega) (by omega)) ?_
       refine qV (r_loadAgg (vs := [(I6 x.kind), (.slice xsa x.set.length xsc), (.slice xaa x.args.length xac), (I6 x.mn), (I6 x.mx), (.bool x.neg)]) rfl agg27 siz27 rfl (hus.ext E)) ?_
       have hN8 := hN.trans (ns8 h8 hhd)
       refine s_allocStore (v := (.agg (R6 x xsa xsc xaa xac))) (c := (R6 x xsa xsc xaa xac)) (n := 6) (by decide) zer27 rfl siz27 rfl rfl rfl (by simp [Value.oneCell']) ?_
       intro bx wx Nx
       have Fx := Nx.ge E
       have Ox_br := Nx.lt Br
       have Ox_bo := Nx.lt Bo
       replace Br := Nx.keep Br
       replace Bo := Nx.keep Bo
       replace E := E.ext Nx.ext
       have Bx := Nx.blk
       refine WpL_nil (Wp_seq_region ?_)
       refine qF bx 0 0 rfl Try.underlying27 rfl siz3 rfl ?_
       refine qV (r_load (v := (I6 x.kind)) rfl flat3 (Bx.cell rfl)) ?_
       refine qV (r_eql (k := .i64) (a := x.kind) (b := 8) rfl rfl) ?_
       refine WpL_nil ?_
       refine Wp_cond (b := decide ((x.kind : Int) = 8)) rfl (fun k8 => ?_) (fun k8 => ?_)
       ·have kk8 := k8
        replace k8 := of_decide_eq_true k8
        obtain ⟨y, hy⟩ := get_of_lt (l := x.args) (i := 0) (List.length_pos_iff.2 ((sim_three hxo).2 k8))
        obtain ⟨yb, yo, hyb, rfl, hyres⟩ := hxargs.resolve_left ((sim_three hxo).2 k8)
        have hypl := lt_of_get hy
        obtain ⟨ys, hyc, hyt⟩ := hyres.get hy
        have hyt0 := hyt
        obtain ⟨ysa, ysc, yaa, yac, rfl, _, _, _⟩ := hyt.form
        refine Wp_seq_region ?_
        refine qF bx 0 2 rfl Try.underlying27 rfl siz25 rfl ?_
        refine qV (r_load (v := (.slice (some ⟨yb, yo, none⟩) x.args.length xac)) rfl flat25 (Bx.cell rfl)) ?_
        refine qV (r_indexSlice (b := yb) (o := yo) (len := x.args.length) (cap := xac) (i := 0) (o' := yo + 0 * 6) rfl rfl rfl Try.underlying25 siz27 (by omega) (by omega)) ?_
        refine qV (r_loadAgg (vs := [(I6 y.kind), (.slice ysa y.set.length ysc), (.slice yaa y.args.length yac), (I6 y.mn), (I6 y.mx), (.bool y.neg)]) rfl agg27 siz27 rfl (hyc.ext E)) ?_
        have hN1 : N = y := by rw [hN8, if_pos k8, headD_get hy]
        have hR : ReIn S (wx) y _ := ReIn.ext E y hyt0
        refine s_storeAgg (b := bo) (o := 0) (c' := (R6 y ysa ysc yaa yac)) rfl rfl (by simp [Value.oneCell']) siz27 rfl Bo (by first | (simp; done) | exact Nat.le_of_ble_eq_true rfl) rfl ?_
        intro w33 S33
        replace hR := ReIn.chg S33.chg (fun y hy h => by have h2 : y = bo := h; have := hS y hy; omega) y hR
        replace Br := S33.keep (by omega) Br
        replace Bx := S33.keep (by omega) Bx
        replace E := S33.step E (by first | exact Or.inl (by omega) | exact Or.inr rfl | exact Or.inr (by assumption) | exact Or.inr (by simp) | exact Or.inr (by omega) | exact Or.inr (by dsimp only; omega))
        replace Bo := S33.blk
        refine WpL_nil (Wp_ret (inB_ret (thn_ret ?_)))
        refine fin_agg Try.results30 (vs := [(.int .i64 y.kind), (.slice ysa y.set.length ysc), (.slice yaa y.args.length yac), (.int .i64 y.mn), (.int .i64 y.mx), (.bool y.neg)]) (b := bo) rfl agg27 siz27 rfl (Bo.cells rfl) ?_
        exact ⟨⟨_, rfl, by rw [hN1]; exact ReIn.mono (fun y hy => .inl hy) y hR⟩, E⟩
       ·have kk8 := k8
        replace k8 := of_decide_eq_false k8
        have hN1 : N = t := by rw [hN8, if_neg k8]
        have hR : ReIn S (wx) t _ := ReIn.ext E t ht0
        refine Wp_skip (inB_normal (thn_normal (Wp_seq_region ?_)))
        refine qV (r_loadAgg (vs := [(I6 t.kind), (.slice sa t.set.length sc), (.slice (some ⟨ab, ao, none⟩) t.args.length ac), (I6 t.mn), (I6 t.mx), (.bool t.neg)]) rfl agg27 siz27 rfl (Br.cells rfl)) ?_
        refine s_storeAgg (b := bo) (o := 0) (c' := (R6 t sa sc (some ⟨ab, ao, none⟩) ac)) rfl rfl (by simp [Value.oneCell']) siz27 rfl Bo (by first | (simp; done) | exact Nat.le_of_ble_eq_true rfl) rfl ?_
        intro w34 S34
        replace hR := ReIn.chg S34.chg (fun y hy h => by have h2 : y = bo := h; have := hS y hy; omega) t hR
        replace Br := S34.keep (by omega) Br
        replace Bx := S34.keep (by omega) Bx
        replace E := S34.step E (by first | exact Or.inl (by omega) | exact Or.inr rfl | exact Or.inr (by assumption) | exact Or.inr (by simp) | exact Or.inr (by omega) | exact Or.inr (by dsimp only; omega))
        replace Bo := S34.blk
        refine WpL_nil (Wp_ret ?_)
        refine fin_agg Try.results30 (vs := [(.int .i64 t.kind), (.slice sa t.set.length sc), (.slice (some ⟨ab, ao, none⟩) t.args.length ac), (.int .i64 t.mn), (.int .i64 t.mx), (.bool t.neg)]) (b := bo) rfl agg27 siz27 rfl (Bo.cells rfl) ?_
        exact ⟨⟨_, rfl, by rw [hN1]; exact ReIn.mono (fun y hy => .inl hy) t hR⟩, E⟩
      ·have kh8 := h8
       replace h8 := of_decide_eq_false h8
       have hN1 : N = t := hN.trans (nsn ⟨h3, h4, h5, h6, h7, h8⟩)
       have hR : ReIn S (wo) t _ := ReIn.ext E t ht0
       refine Wp_skip (inB_normal (thn_normal (Wp_seq_region ?_)))
       refine qV (r_loadAgg (vs := [(I6 t.kind), (.slice sa t.set.length sc), (.slice aa t.args.length ac), (I6 t.mn), (I6 t.mx), (.bool t.neg)]) rfl agg27 siz27 rfl (Br.cells rfl)) ?_
       refine s_storeAgg (b := bo) (o := 0) (c' := (R6 t sa sc aa ac)) rfl rfl (by simp [Value.oneCell']) siz27 rfl Bo (by first | (simp; done) | exact Nat.le_of_ble_eq_true rfl) rfl ?_
       intro w35 S35
       replace hR := ReIn.chg S35.chg (fun y hy h => by have h2 : y = bo := h; have := hS y hy; omega) t hR
       replace Br := S35.keep (by omega) Br
       replace E := S35.step E (by first | exact Or.inl (by omega) | exact Or.inr rfl | exact Or.inr (by assumption) | exact Or.inr (by simp) | exact Or.inr (by omega) | exact Or.inr (by dsimp only; omega))
       replace Bo := S35.blk
       refine WpL_nil (Wp_ret ?_)
       refine fin_agg Try.results30 (vs := [(.int .i64 t.kind), (.slice sa t.set.length sc), (.slice aa t.args.length ac), (.int .i64 t.mn), (.int .i64 t.mx), (.bool t.neg)]) (b := bo) rfl agg27 siz27 rfl (Bo.cells rfl) ?_
       exact ⟨⟨_, rfl, by rw [hN1]; exact ReIn.mono (fun y hy => .inl hy) t hR⟩, E⟩
end Go.Proofs
namespace Go.Eng
open Go
section
variable {κ ν : Type} [DecidableEq κ]
def getM : List (κ × ν) → κ → Option ν
  | [], _ => none
  | p :: r, k => if p.1 = k then some p.2 else getM r k
def putM : List (κ × ν) → κ → ν → List (κ × ν)
  | [], k, v => [(k, v)]
  | p :: r, k, v => if p.1 = k then (k, v) :: r else p :: putM r k v
def findM (eV : ν → Value) : List (κ × ν) → κ → Nat → Option (Nat × Value)
  | [], _, _ => none
  | p :: r, k, i => if p.1 = k then some (i, eV p.2) else findM eV r k (i + 1)
theorem findM_some {eV : ν → Value} : ∀ {es : List (κ × ν)} {k : κ} {i : Nat} {v : ν}, getM es k = some v → ∃ j, findM eV es k i = some (i + j, eV v) ∧ es[j]? = some (k, v) ∧ ∀ u, putM es k u = es.set j (k, u)
  | [], _, _, _, h => by cases h
  | p :: r, k, i, v, h => by
    unfold getM at h
    unfold findM
    split at h
    · rename_i he
      cases h
      rw [if_pos he]
      exact ⟨0, rfl, by obtain ⟨a, b⟩ := p; simp at he; subst he; rfl, fun u => by unfold putM; rw [if_pos he]; rfl⟩
    · rename_i hne
      rw [if_neg hne]
      obtain ⟨j, h1, h2, h3⟩ := findM_some (eV := eV) (i := i + 1) h
      exact ⟨j + 1, by rw [h1]; congr 2; omega, by simpa using h2, fun u => by unfold putM; rw [if_neg hne, h3 u]; rfl⟩
theorem putM_none : ∀ {es : List (κ × ν)} {k : κ} (v : ν), getM es k = none → putM es k v = es ++ [(k, v)]
  | [], _, _, _ => rfl
  | p :: r, k, v, h => by
    unfold getM at h
    unfold putM
    split at h
    · cases h
    · rename_i hne; rw [if_neg hne, putM_none v h]; rfl
theorem getM_isSome {es : List (κ × ν)} {k : κ} : (getM es k).isSome = true ↔ k ∈ es.map (·.1) := by
  induction es with
  | nil => simp [getM]
  | cons p r ih =>
    unfold getM
    by_cases h : p.1 = k
    · simp [h]
    · rw [if_neg h, ih]
      simp [Ne.symm h]
def KeysOk (es : List (κ × ν)) : Prop := (es.map (·.1)).Nodup
omit [DecidableEq κ] in
theorem KeysOk.nil : KeysOk ([] : List (κ × ν)) := List.nodup_nil
theorem KeysOk.put {es : List (κ × ν)} (h : KeysOk es) (k : κ) (v : ν) : KeysOk (putM es k v) := by
  cases hg : getM es k with
  | none =>
    rw [putM_none v hg]
    unfold KeysOk
    rw [List.map_append, List.nodup_append]
    refine ⟨h, by simp, fun a ha b hb => ?_⟩
    simp at hb
    subst hb
    intro he
    subst he
    have := getM_isSome.2 ha
    rw [hg] at this; cases this
  | some u =>
    obtain ⟨j, _, h2, h3⟩ := findM_some (eV := fun _ => undef) (i := 0) hg
    rw [h3 v]
    unfold KeysOk
    have : (es.set j (k, v)).map (·.1) = es.map (·.1) := by
      apply List.ext_getElem?
      intro i
      rw [List.getElem?_map, List.getElem?_map, List.getElem?_set]
      by_cases hi : j = i
      · subst hi
        have hlt := lt_of_get h2
        rw [if_pos rfl, if_pos hlt, h2]; rfl
      · simp [hi]
    rw [this]; exact h
end
/-- A map in memory: its entries in the order in which the keys came. -/
def ents {κ ν : Type} (ek : κ → Value) (eV : ν → Value) (es : List (κ × ν)) : List MapEntry := es.zipIdx.map fun p => { key := ek p.1.1, val := eV p.1.2, born := p.2 }
def MapAt {κ ν : Type} (w : World) (b : Nat) (ek : κ → Value) (eV : ν → Value) (es : List (κ × ν)) : Prop := w.heap[b]? = some (.map (ents ek eV es).toArray es.length)
section
variable {κ ν : Type} {ek : κ → Value} {eV : ν → Value} {es : List (κ × ν)} {w w' : World} {b : Nat}
theorem MapAt.lt (h : MapAt w b ek eV es) : b < w.heap.size := (Array.getElem?_eq_some_iff.1 h).1
end
/-- A new object that is no row of cells. -/
structure NewO (w w' : World) (b : Nat) (o : Obj) : Prop where
 at' : w'.heap[b]? = some o
 ext : Ext w w'
 eq : b = w.heap.size
 size : w'.heap.size = w.heap.size + 1
theorem NewO.mk' (w : World) (o : Obj) : NewO w { w with heap := w.heap.push o } w.heap.size o :=
 ⟨by simp, ⟨rfl, rfl, rfl, Nat.le_refl _, by simp, fun x hx _ => by simp [Array.getElem?_push, Nat.ne_of_lt hx]⟩, rfl, by simp⟩
section
variable {w w' : World} {b : Nat} {o : Obj}
theorem NewO.keep (h : NewO w w' b o) {b' : Nat} {c' : Array Value} {t' : TypeId} (hb : Blk w b' c' t') : Blk w' b' c' t' := h.ext.keep hb
theorem NewO.lt (h : NewO w w' b o) {b' : Nat} {c' : Array Value} {t' : TypeId} (hb : Blk w b' c' t') : b' < b := by rw [h.eq]; exact hb.lt
theorem NewO.ge (h : NewO w w' b o) {w0 : World} {M : Nat → Prop} (e : Chg M w0 w) : w0.heap.size ≤ b := by rw [h.eq]; exact e.size
variable {κ ν : Type} {ek : κ → Value} {eV : ν → Value} {es : List (κ × ν)} {b' : Nat}
end
/-- An object that is no row of cells is replaced. -/
structure PutO (w w' : World) (b : Nat) (o : Obj) : Prop where
 at' : w'.heap[b]? = some o
 chg : Chg (fun x => x = b) w w'
 size : w'.heap.size = w.heap.size
theorem PutO.mk' {w : World} {b : Nat} (o : Obj) (hb : b < w.heap.size) : PutO w { w with heap := w.heap.setIfInBounds b o } b o :=
 ⟨by simp [hb], ⟨rfl, rfl, rfl, Nat.le_refl _, by simp, fun x hx hne => by simp [Array.getElem?_setIfInBounds, Ne.symm hne]⟩, by simp⟩
section
variable {w w' : World} {b : Nat} {o : Obj}
theorem PutO.keep (h : PutO w w' b o) {b' : Nat} {c' : Array Value} {t' : TypeId} (hne : b' ≠ b) (hb : Blk w b' c' t') : Blk w' b' c' t' := h.chg.keep hne hb
theorem PutO.step (h : PutO w w' b o) {w0 : World} {M : Nat → Prop} (e : Chg M w0 w) (hb : w0.heap.size ≤ b ∨ M b) : Chg M w0 w' :=
 e.step h.chg fun x hx hm => by subst hm; rcases hb with hb | hb; omega; exact hb
variable {κ ν : Type} {ek : κ → Value} {eV : ν → Value} {es : List (κ × ν)} {b' : Nat}
end
def IterAt (w : World) (it b n : Nat) (seen : List Nat) : Prop := w.heap[it]? = some (.mapIter (some b) n seen.toArray n)
theorem IterAt.lt {w : World} {it b n : Nat} {seen : List Nat} (h : IterAt w it b n seen) : it < w.heap.size := (Array.getElem?_eq_some_iff.1 h).1
theorem IterAt.chg {M : Nat → Prop} {w w' : World} {it b n : Nat} {seen : List Nat} (h : IterAt w it b n seen) (c : Chg M w w') (hm : ¬ M it) : IterAt w' it b n seen := (c.blk it h.lt hm).trans h
theorem IterAt.ext {w w' : World} {it b n : Nat} {seen : List Nat} (h : IterAt w it b n seen) (c : Ext w w') : IterAt w' it b n seen := h.chg c fun f => f
end Go.Eng
namespace Go.Proofs
open Go Go.Eng Go.Sort
section
variable {P : Program} {N : Nat} {Q : Post} {σ : Env} {w : World} {K : Env → World → Prop} {ops : Array Oper} {rest : List Oper} {d : Nat} {ty : TypeId} {pos : String} {af : Array Edge} {t : TypeId} {x y : Operand}
/-- A slice without elements and with room for n is made. -/
theorem s_makeOwn {e bytes n size base : Nat} {z : Value} (hN : d < N) (hu : P.underlying t = some (.slice e)) (hsz : Siz P e size) (hby : Byt P e bytes) (hz : Zer P e z) (hx : ev σ x = .int .i64 0) (hy : ev σ y = .int .i64 ((n : Nat) : Int)) (hb : n * bytes ≤ 140737488355328) (hn : n ≤ 140737488355328) (hbase : base ≤ w.heap.size)
    (k : ∀ w', Ext w w' → w'.ownsRow base e size (.slice (some ⟨w.heap.size, 0, none⟩) 0 n) 0 [] → WpL P N ops K Q rest (upd σ d (.slice (some ⟨w.heap.size, 0, none⟩) 0 n)) w') : WpL P N ops K Q (⟨some d, .makeSlice t x y, ty, pos, af, none⟩ :: rest) σ w := by
  unfold Siz at hsz; unfold Byt at hby; unfold Zer at hz
  cases hi : P.info? e with
  | none => rw [hi] at hsz; simp at hsz
  | some i =>
  rw [hi] at hsz hby hz
  simp at hsz hby hz
  have h := run_make (P := P) w t e i _ hu hi hz .i64 .i64 0 ((n : Nat) : Int) (by omega) (by omega) (by rw [hby]; have : ((bytes : Nat) : Int) * ((n : Nat) : Int) = (((n * bytes : Nat) : Nat) : Int) := (by rw [Int.natCast_mul, Int.mul_comm]); rw [this]; omega) (by omega)
  have hnew := New.mk' w (madeCells z.cells (n * size)) e
  refine WpL_val (v := .slice (some ⟨w.heap.size, 0, none⟩) 0 n) (w' := { w with heap := w.heap.push (.cells (madeCells z.cells (n * size)) e (0, 0)) }) rfl rfl hN ?_ (k _ hnew.ext ⟨by simp, .inr ⟨w.heap.size, n, madeCells z.cells (n * size), rfl, hbase, hnew.blk, Nat.zero_le _, by simp only [maxLen]; omega, by simp [madeCells], by simp⟩⟩)
  simp only [Int.toNat_natCast, hsz] at h
  simp only [execOp, hx, hy, Sem.run_bind, h, Result.andThen_ok]
  rfl
end
structure LSt (To e sz : Nat) (w : World) (base : Nat) (vo : Value) (vs : List Value) (ns : List (Nat × List Value)) : Prop where
 o : w.ownsRow base To 1 vo ns.length vs
 len : vs.length = ns.length
 inn : ∀ (i : Nat) v p, vs[i]? = some v → ns[i]? = some p → w.ownsRow base e sz v p.1 p.2
 apo : ∀ (i : Nat) v b, vs[i]? = some v → v.ownBlock = some b → vo.ownBlock ≠ some b
theorem LSt.chg {M : Nat → Prop} {To e sz base : Nat} {w w' : World} {vo : Value} {vs : List Value} {ns : List (Nat × List Value)} (h : LSt To e sz w base vo vs ns) (c : Chg M w w') (hM : ∀ b, base ≤ b → b < w.heap.size → ¬ M b) : LSt To e sz w' base vo vs ns :=
 ⟨own_chg h.o c fun k hk => hM k (h.o.lt k hk).1 (h.o.lt k hk).2, h.len, fun i v l hv hl => own_chg (h.inn i v l hv hl) c fun k hk => hM k ((h.inn i v l hv hl).lt k hk).1 ((h.inn i v l hv hl).lt k hk).2, h.apo⟩
theorem LSt.ext {To e sz base : Nat} {w w' : World} {vo : Value} {vs : List Value} {ns : List (Nat × List Value)} (h : LSt To e sz w base vo vs ns) (c : Ext w w') : LSt To e sz w' base vo vs ns := h.chg c fun _ _ _ f => f
theorem LSt.on {To e sz base n : Nat} {w : World} {vo : Value} {vs : List Value} {ns : List (Nat × List Value)} (h : LSt To e sz w base vo vs ns) (hn : n = ns.length) : w.ownsRow base To 1 vo n vs := by subst hn; exact h.o
/-- A slice that was made later is appended. -/
theorem LSt.push {To e sz base bu n m : Nat} {w w' : World} {vo v' u : Value} {vs us : List Value} {ns : List (Nat × List Value)} (h : LSt To e sz w base vo vs ns) (hn : n = ns.length) (hu : w.ownsRow bu e sz u m us) (hb : base ≤ bu) (hbu : ∀ k, vo.ownBlock = some k → k < bu)
  (Ov : w'.ownsRow base To 1 v' (n + 1) (vs ++ [u])) (Cv : Chg (fun x => vo.ownBlock = some x) w w') (Wv : ∀ k, v'.ownBlock = some k → vo.ownBlock = some k ∨ w.heap.size ≤ k) : LSt To e sz w' base v' (vs ++ [u]) (ns ++ [(m, us)]) := by
 have hold : ∀ (i : Nat) v, (vs ++ [u])[i]? = some v → vs[i]? = some v ∨ (i = vs.length ∧ v = u) := by
  intro i v hv
  rcases Nat.lt_or_ge i vs.length with h1 | h1
  ·left; rwa [List.getElem?_append_left h1] at hv
  ·right
   rw [List.getElem?_append_right h1] at hv
   have h2 := lt_of_get hv
   simp at h2
   obtain rfl : i = vs.length := by omega
   simp at hv
   exact ⟨rfl, hv.symm⟩
 have hun : ∀ b, u.ownBlock = some b → vo.ownBlock ≠ some b := fun b hb' e' => by
  have h1 := hbu b e'
  have h2 := (hu.lt b hb').1
  omega
 refine ⟨by rw [List.length_append, ← hn]; exact Ov, by simp [h.len], ?_, ?_⟩
 ·intro i v p hv hp
  rcases hold i v hv with h1 | ⟨h1, rfl⟩
  ·rw [List.getElem?_append_left (by have := lt_of_get h1; have := h.len; omega)] at hp
   exact own_chg (h.inn i v p h1 hp) Cv fun k hk => h.apo i v k h1 hk
  ·rw [h1, h.len] at hp
   simp at hp
   subst hp
   exact own_low (own_chg hu Cv fun k hk => hun k hk) hb
 ·intro i v b hv hb1 hb2
  rcases hold i v hv with h1 | ⟨_, rfl⟩
  ·rcases Wv b hb2 with h2 | h2
   ·exact h.apo i v b h1 hb1 h2
   ·obtain ⟨p, hp⟩ := get_of_lt (l := ns) (i := i) (by have := lt_of_get h1; have := h.len; omega)
    have := ((h.inn i v p h1 hp).lt b hb1).2
    omega
  ·rcases Wv b hb2 with h2 | h2
   ·exact hun b hb1 h2
   ·have := (hu.lt b hb1).2; omega
theorem own_writeG {w w' : World} {base e size n cap g i : Nat} {xs : List Value} {cur : Array Value} {v : Value} (h : w.ownsRow base e size (.slice (some ⟨g, 0, none⟩) n cap) n xs) (hB : Blk w g cur e) (hi : i < n * size) (hB' : Blk w' g (cur.setIfInBounds i v) e) : w'.ownsRow base e size (.slice (some ⟨g, 0, none⟩) n cap) n (xs.set i v) := by
 rcases h.2 with ⟨h1, _⟩ | ⟨g', cap', cur', hv, hbg, hg, hnc, hcm, hcs, htake⟩
 ·simp at h1
 ·simp only [Value.slice.injEq, Option.some.injEq, Addr.mk.injEq, and_true] at hv
  obtain ⟨rfl, _, rfl⟩ := hv
  unfold Blk at hB hB'
  rw [hB] at hg
  simp only [Option.some.injEq, Obj.cells.injEq, and_true] at hg
  obtain ⟨rfl, _⟩ := hg
  refine ⟨by simpa using h.1, .inr ⟨g, cap, _, rfl, hbg, hB', hnc, hcm, by simpa using hcs, ?_⟩⟩
  rw [← htake, Array.toList_setIfInBounds, List.take_set]
/-- The same, and no two members share a block: a member may grow. -/
structure GSt (To e sz : Nat) (w : World) (base : Nat) (vo : Value) (vs : List Value) (ns : List (Nat × List Value)) : Prop where
 l : LSt To e sz w base vo vs ns
 ap : ∀ (i j : Nat) v u b, vs[i]? = some v → vs[j]? = some u → v.ownBlock = some b → u.ownBlock = some b → i = j
theorem GSt.chg {M : Nat → Prop} {To e sz base : Nat} {w w' : World} {vo : Value} {vs : List Value} {ns : List (Nat × List Value)} (h : GSt To e sz w base vo vs ns) (c : Chg M w w') (hM : ∀ b, base ≤ b → b < w.heap.size → ¬ M b) : GSt To e sz w' base vo vs ns := ⟨h.l.chg c hM, h.ap⟩
theorem GSt.ext {To e sz base : Nat} {w w' : World} {vo : Value} {vs : List Value} {ns : List (Nat × List Value)} (h : GSt To e sz w base vo vs ns) (c : Ext w w') : GSt To e sz w' base vo vs ns := ⟨h.l.ext c, h.ap⟩
/-- One member grows, and its new slice is stored in the outer one. -/
theorem GSt.grow {To e sz : Nat} {w w' w2 : World} {base g cap k n m m' : Nat} {v v' : Value} {vs : List Value} {ns : List (Nat × List Value)} {xs xs' : List Value} {cur : Array Value} (h : GSt To e sz w base (.slice (some ⟨g, 0, none⟩) n cap) vs ns) (hn : n = ns.length) (hv : vs[k]? = some v) (hp : ns[k]? = some (m, xs))
  (Ov : w'.ownsRow base e sz v' m' xs') (Cv : Chg (fun x => v.ownBlock = some x) w w') (Wv : ∀ k, v'.ownBlock = some k → v.ownBlock = some k ∨ w.heap.size ≤ k)
  (hB : Blk w' g cur To) (P2 : Put w' w2 g (cur.setIfInBounds k v') To) : GSt To e sz w2 base (.slice (some ⟨g, 0, none⟩) n cap) (vs.set k v') (ns.set k (m', xs')) := by
 have hkl := lt_of_get hv
 have hgv : v.ownBlock ≠ some g := fun e => h.l.apo k v g hv e rfl
 have hgl := (h.l.o.lt g rfl).2
 have hv'g : v'.ownBlock ≠ some g := fun e => by rcases Wv g e with h1 | h1; exact hgv h1; omega
 have ho1 : w'.ownsRow base To 1 (.slice (some ⟨g, 0, none⟩) n cap) ns.length vs := own_chg h.l.o Cv fun q hq => by cases hq; exact hgv
 rw [← hn] at ho1
 have ho2 := own_writeG ho1 hB (i := k) (by have := h.l.len; omega) P2.blk
 have hset : ∀ (i : Nat) u, (vs.set k v')[i]? = some u → (i = k ∧ u = v') ∨ (i ≠ k ∧ vs[i]? = some u) := by
  intro i u hu
  rw [List.getElem?_set] at hu
  split at hu
  ·rename_i he
   exact .inl ⟨he.symm, (Option.some.inj hu).symm⟩
  ·rename_i he
   exact .inr ⟨fun e => he e.symm, hu⟩
 have hsome : ∀ (i : Nat) u, vs[i]? = some u → ∃ q, ns[i]? = some q := fun i u hu => get_of_lt (by have := lt_of_get hu; have := h.l.len; omega)
 have hne : ∀ (i : Nat) u b, i ≠ k → vs[i]? = some u → u.ownBlock = some b → v.ownBlock ≠ some b ∧ v'.ownBlock ≠ some b ∧ b ≠ g := by
  intro i u b hi hu hb
  have h1 : v.ownBlock ≠ some b := fun e => hi (h.ap i k u v b hu hv hb e)
  refine ⟨h1, fun e => ?_, fun e => h.l.apo i u b hu hb (by rw [e]; rfl)⟩
  rcases Wv b e with h2 | h2
  ·exact h1 h2
  ·obtain ⟨q, hq⟩ := hsome i u hu
   have := ((h.l.inn i u q hu hq).lt b hb).2
   omega
 refine ⟨⟨by rw [List.length_set, ← hn]; exact ho2, by simp [h.l.len], ?_, ?_⟩, ?_⟩
 ·intro i u q hu hq
  rcases hset i u hu with ⟨rfl, rfl⟩ | ⟨h1, h2⟩
  ·rw [List.getElem?_set, if_pos rfl, if_pos (by have := h.l.len; omega)] at hq
   have hq' := Option.some.inj hq
   subst hq'
   exact own_chg Ov P2.chg fun b hb e => hv'g (e ▸ hb)
  ·rw [List.getElem?_set, if_neg (fun e => h1 e.symm)] at hq
   exact own_chg (own_chg (h.l.inn i u q h2 hq) Cv fun b hb => (hne i u b h1 h2 hb).1) P2.chg fun b hb e => (hne i u b h1 h2 hb).2.2 e
 ·intro i u b hu hb
  rcases hset i u hu with ⟨rfl, rfl⟩ | ⟨h1, h2⟩
  ·intro e; cases e; exact hv'g hb
  ·exact h.l.apo i u b h2 hb
 ·intro i j u z b hu hz hb hb'
  rcases hset i u hu with ⟨rfl, rfl⟩ | ⟨h1, h2⟩ <;> rcases hset j z hz with ⟨rfl, rfl⟩ | ⟨h3, h4⟩
  ·rfl
  ·exact absurd hb (hne j z b h3 h4 hb').2.1
  ·exact absurd hb' (hne i u b h1 h2 hb).2.1
  ·exact h.ap i j u z b h2 h4 hb hb'
end Go.Proofs
namespace Go.Proofs
open Go Go.Eng Go.Sort
set_option maxRecDepth 100000
theorem simR_node (t : Re) : simR t = nodeS (.mk t.kind t.set (t.args.map simR) t.mn t.mx t.neg) := simR_eq t
/-- Rows that grow: expressions within some blocks. -/
theorem rowsin_snoc {S : Nat → Prop} {w : World} {ts : List Re} {rows : List (List Value)} {x : Re} {r : List Value} (h : RowsIn S w ts rows) (hx : ReIn S w x r) : RowsIn S w (ts ++ [x]) (rows ++ [r]) := RowsIn.append (RowsIn.single hx) h
theorem tl_put {T A : Nat → Prop} {w w' : World} {b : Nat} {c : Array Value} {e : TypeId} (h : ∀ y, T y → A y ∧ y < w.heap.size) (x : Put w w' b c e) : ∀ y, T y → A y ∧ y < w'.heap.size := fun y hy => ⟨(h y hy).1, Nat.lt_of_lt_of_le (h y hy).2 x.chg.size⟩
theorem tl_ext {T A : Nat → Prop} {w w' : World} (h : ∀ y, T y → A y ∧ y < w.heap.size) (x : Ext w w') : ∀ y, T y → A y ∧ y < w'.heap.size := fun y hy => ⟨(h y hy).1, Nat.lt_of_lt_of_le (h y hy).2 x.size⟩
theorem usesBs_get {ks : List Int} : ∀ {ts : List Re} {i : Nat} {x : Re}, usesBs ks ts = false → ts[i]? = some x → usesB ks x = false
  | [], i, x, _, h => by simp at h
  | t :: ts, 0, x, h, hx => by simp at hx; subst hx; simp only [usesBs, Bool.or_eq_false_iff] at h; exact h.1
  | t :: ts, i + 1, x, h, hx => by simp only [usesBs, Bool.or_eq_false_iff] at h; exact usesBs_get h.2 (by simpa using hx)
set_option maxHeartbeats 4000000 in
theorem dsim_c : ∀ (n : Nat) (t : Re) (w0 : World) (S : Nat → Prop) (vs : List Value), t.size ≤ n → n ≤ 1000000 → okRe t → usesB [9, 10] t = false → ReIn S w0 t vs → (∀ x, S x → x < w0.heap.size) →
    Ret Try.prog 16 #[.agg vs.toArray] w0 fun r w => (∃ us, r = .agg us.toArray ∧ ReIn (fun b => S b ∨ w0.heap.size ≤ b) w (simR t) us) ∧ Ext w0 w := by
  intro n
  induction n with
  | zero => intro t w0 S vs h; have := t.size_pos; omega
  | succ n ih =>
  intro t w0 S vs hn hnb hok hu ht hS
  have ht0 := ht
  obtain ⟨sa, sc, aa, ac, rfl, hset, hlen, hargs⟩ := ht.form
  have hal := len_lt_size t
  have hu2 : usesBs [9, 10] t.args = false := by cases t; exact (uses_cons hu).2
  have hk9 : t.kind ≠ 9 ∧ t.kind ≠ 10 := by cases t with | mk k s a m x g => have h1 := (uses_cons hu).1; constructor <;> intro e <;> simp only [Re.kind] at e <;> subst e <;> simp at h1
  have hssz := simRs_size (okRe_args hok)
  rw [simRs_map] at hssz
  have hsz := t.size_eq
  rw [simR_node]
  refine Ret_of Try.func16 rfl Try.ntmps16 (Nat.le_of_ble_eq_true rfl) ?_
  have E : Chg none1 w0 w0 := Chg.refl _ _
  refine Wp_seq_region ?_
  refine s_box (v := (.agg (R6 t sa sc aa ac))) (c := (R6 t sa sc aa ac)) (by decide) rfl rfl ?_
  intro br wr Nr
  have Fr := Nr.ge E
  replace E := E.ext Nr.ext
  have Br := Nr.blk
  refine s_alloc (c := #[(I6 0), (.slice none 0 0), (.slice none 0 0), (I6 0), (I6 0), (.bool false)]) (by decide) zer27 rfl ?_
  intro bo wo No
  have Fo := No.ge E
  have Oo_br := No.lt Br
  replace Br := No.keep Br
  replace E := E.ext No.ext
  have Bo := No.blk
  refine WpL_nil (Wp_seq_region ?_)
  refine qF br 0 2 rfl Try.underlying27 rfl siz25 rfl ?_
  refine qV (r_load (v := (.slice aa t.args.length ac)) rfl flat25 (Br.cell rfl)) ?_
  refine qV (r_lenSlice (ad := aa) (n := t.args.length) (cap := ac) Try.underlying25 rfl) ?_
  obtain ⟨n1, hn1⟩ : ∃ n1, n1 = wo.heap.size := ⟨_, rfl⟩
  have hob : br < n1 ∧ bo < n1 ∧ w0.heap.size ≤ bo ∧ w0.heap.size ≤ br ∧ w0.heap.size ≤ n1 := ⟨by rw [hn1]; exact Br.lt, by rw [hn1]; exact Bo.lt, by omega, by omega, by rw [hn1]; exact E.size⟩
  have hn1w : n1 ≤ wo.heap.size := by omega
  refine s_makeOwn (n := t.args.length) (base := n1) (size := 6) (bytes := 80) (by decide) Try.underlying25 siz27 byt27 zer27 rfl rfl (by omega) (by omega) (hn1w) ?_
  intro w1 X1 hO0
  replace Br := X1.keep Br
  replace Bo := X1.keep Bo
  replace hn1w := Nat.le_trans hn1w X1.size
  replace E := E.ext X1
  refine qA (.slice (some ⟨wo.heap.size, 0, none⟩) 0 t.args.length) rfl ?_
  refine WpL_nil (Wp_seq (Wp_seq_region ?_))
  refine qF br 0 2 rfl Try.underlying27 rfl siz25 rfl ?_
  refine qV (r_load (v := (.slice aa t.args.length ac)) rfl flat25 (Br.cell rfl)) ?_
  refine qV (r_lenSlice (ad := aa) (n := t.args.length) (cap := ac) Try.underlying25 rfl) ?_
  refine qM (I6 0) rfl ?_
  refine WpL_nil (Wp_block ?_)
  refine Wp_loop (fun nn_ σ W2 => ∃ (i : Nat) (la : Option Addr) (lc : Nat) (rows : List (List Value)) (T : Nat → Prop), (∃ jj_, σ = upds jj_ [(1, (P6 br 0)), (2, (P6 bo 0)), (11, (.slice aa t.args.length ac)), (12, (I6 (t.args.length : Int))), (13, (I6 (i : Int))), (3, (.slice la i lc))]) ∧ Chg none1 w0 W2 ∧ Blk W2 br (R6 t sa sc aa ac) 27 ∧ Blk W2 bo #[(I6 0), (.slice none 0 0), (.slice none 0 0), (I6 0), (I6 0), (.bool false)] 27 ∧ (i ≤ t.args.length) ∧ (W2.ownsRow n1 TRe 6 (.slice la i lc) i rows.flatten) ∧ (RowsIn T W2 ((t.args.take i).map simR) rows) ∧ (n1 ≤ W2.heap.size) ∧ (∀ y, T y → (S y ∨ n1 ≤ y) ∧ y < W2.heap.size) ∧ (∀ b, (Value.slice la i lc).ownBlock = some b → ¬ T b) ∧ nn_ = t.args.length - i) (n := t.args.length - 0) ?_ ?_
  · exact ⟨0, some ⟨wo.heap.size, 0, none⟩, t.args.length, [], (fun _ => False), Fits.out ⟨rfl, rfl, rfl, rfl, rfl, rfl, trivial⟩, E, Br, Bo, Nat.zero_le _, hO0, rfl, hn1w, (fun y h => h.elim), (fun b _ h => h), rfl⟩
  · clear E Br Bo
    rintro _ _ W2 ⟨i, la, lc, rows, T, ⟨j2, rfl⟩, E, Br, Bo, hi, hO, hR, hbs, hT, hTn, rfl⟩
    refine Wp_seq_region ?_
    refine qV (r_lss (k := .i64) (a := (i : Int)) (b := (t.args.length : Int)) rfl rfl) ?_
    refine WpL_nil (Wp_seq ?_)
    refine Wp_cond (b := decide (((i : Int) : Int) < (t.args.length : Int))) rfl (fun hlt => ?_) (fun hlt => ?_)
    · have khlt := hlt
      replace hlt := of_decide_eq_true hlt
      obtain ⟨x, hx⟩ := get_of_lt (l := t.args) (i := i) (by omega)
      have hxo := okRes_get (okRe_args hok) hx
      have hxu : usesB [9, 10] x = false := usesBs_get hu2 hx
      have hxz := Re.size_arg hx
      obtain ⟨ab, ao, hab, rfl, hres⟩ := hargs.resolve_left (fun h => by rw [h] at hx; cases hx)
      obtain ⟨us, hus, hxt⟩ := hres.get hx
      have hxt0 := hxt
      obtain ⟨xsa, xsc, xaa, xac, rfl, _, _, _⟩ := hxt.form
      obtain ⟨M, hM⟩ : ∃ M, M = simR x := ⟨_, rfl⟩
      refine Wp_skip (thn_normal (Wp_seq (Wp_block (Wp_seq_region ?_))))
      refine qV (r_indexSlice (b := ab) (o := ao) (len := t.args.length) (cap := ac) (i := i) (o' := ao + i * 6) rfl rfl rfl Try.underlying25 siz27 (by omega) (by omega)) ?_
      refine qV (r_loadAgg (vs := [(I6 x.kind), (.slice xsa x.set.length xsc), (.slice xaa x.args.length xac), (I6 x.mn), (I6 x.mx), (.bool x.neg)]) rfl agg27 siz27 rfl (hus.ext E)) ?_
      refine s_allocStore (v := (.agg (R6 x xsa xsc xaa xac))) (c := (R6 x xsa xsc xaa xac)) (n := 6) (by decide) zer27 rfl siz27 rfl rfl rfl (by simp [Value.oneCell']) ?_
      intro bu wu Nu
      have Fu := Nu.ge E
      have Ou_br := Nu.lt Br
      have Ou_bo := Nu.lt Bo
      replace Br := Nu.keep Br
      replace Bo := Nu.keep Bo
      replace hO := own_ext hO Nu.ext
      replace hR := RowsIn.ext Nu.ext hR
      replace hbs := Nat.le_trans hbs Nu.ext.size
      replace hT := tl_ext hT Nu.ext
      replace E := E.ext Nu.ext
      have Bu := Nu.blk
      refine WpL_nil (Wp_region ?_)
      refine qM (.slice la i lc) rfl ?_
      refine qV (r_loadAgg (vs := [(I6 x.kind), (.slice xsa x.set.length xsc), (.slice xaa x.args.length xac), (I6 x.mn), (I6 x.mx), (.bool x.neg)]) rfl agg27 siz27 rfl (Bu.cells rfl)) ?_
      obtain ⟨n2, hn2⟩ : ∃ n2, n2 = (wu).heap.size := ⟨_, rfl⟩
      have hn12 : n1 ≤ n2 := by rw [hn2]; exact hbs
      have hOb : ∀ b, (Value.slice la i lc).ownBlock = some b → n1 ≤ b ∧ b < n2 := fun b hb => ⟨(hO.lt b hb).1, by rw [hn2]; exact (hO.lt b hb).2⟩
      refine WpL_enter rfl rfl (by decide) (r_callF (vs := [(.agg (R6 x xsa xsc xaa xac))]) Try.func16 nm16 bd16 rfl) ((ih x _ S _ (by omega) (by omega) hxo hxu (ReIn.ext E x hxt0) (fun y hy => by have := hS y hy; have := E.size; omega)).mono (R' := fun r w => reG (fun b => S b ∨ n2 ≤ b) M r w ∧ Ext wu w) (fun r w h => ⟨reG_of (S' := fun b => S b ∨ _ ≤ b) (fun b hb => by rcases hb with h1 | h1; exact .inl h1; exact .inr (by rw [hn2]; exact h1)) (by rw [hM]; exact h.1), h.2⟩)) ?_
      rintro _ w9 ⟨⟨ma, mc, pa, pc, rfl, hX⟩, X9⟩
      replace Br := X9.keep Br
      replace Bo := X9.keep Bo
      replace Bu := X9.keep Bu
      replace hO := own_ext hO X9
      replace hR := RowsIn.ext X9 hR
      replace hbs := Nat.le_trans hbs X9.size
      replace hT := tl_ext hT X9
      replace E := E.ext X9
      have hXl := ReIn.lt M hX
      refine s_buildSlice (ps := [(0, (.agg (R6 M ma mc pa pc)))]) (c := (R6 M ma mc pa pc)) (by decide) rfl Try.underlying25 siz27 zer27 (by decide) (by decide) (by kernel_rfl) ?_
      intro bz wz Nz
      have Fz := Nz.ge E
      have Oz_br := Nz.lt Br
      have Oz_bo := Nz.lt Bo
      have Oz_bu := Nz.lt Bu
      replace Br := Nz.keep Br
      replace Bo := Nz.keep Bo
      replace Bu := Nz.keep Bu
      replace hO := own_ext hO Nz.ext
      replace hR := RowsIn.ext Nz.ext hR
      replace hbs := Nat.le_trans hbs Nz.ext.size
      replace hT := tl_ext hT Nz.ext
      replace hXl := ReIn.ext Nz.ext M hXl
      replace E := E.ext Nz.ext
      have Bz := Nz.blk
      have hQ9 : True := trivial
      refine s_append (base := n1) (n := i) (m := 1) (xs := rows.flatten) (news := [(I6 M.kind), (.slice ma M.set.length mc), (.slice pa M.args.length pc), (I6 M.mn), (I6 M.mx), (.bool M.neg)]) (size := 6) (bytes := 80) (v := (.slice la i lc)) (by decide) Try.underlying25 siz27 byt27 zer27 rfl (by decide) rfl hO rfl (rfl) (Bz.cells rfl) (by simp [Value.oneCell']) (by unfold maxLen; omega) (by omega) (hbs) ?_
      intro v9 w39 Ov9 Cv9 Dv9
      replace Br := Cv9.keep (fun h => by have := (hO.lt _ h).1; omega) Br
      replace Bo := Cv9.keep (fun h => by have := (hO.lt _ h).1; omega) Bo
      replace E := E.step Cv9 (fun x hx h => absurd (hO.lt x h).1 (by omega))
      obtain ⟨la2, lc2, rfl⟩ := own_form Ov9
      have hT2 : ∀ y, (T y ∨ ((S y ∨ n2 ≤ y) ∧ y < w9.heap.size)) → (S y ∨ n1 ≤ y) ∧ y < (w39).heap.size ∧ (Value.slice la i lc).ownBlock ≠ some y := by
        intro y hy
        have hz1 := Nz.ext.size
        have hz2 := Cv9.size
        rcases hy with hy | ⟨hy, hy2⟩
        · exact ⟨(hT y hy).1, by have := (hT y hy).2; omega, fun hb => hTn y hb hy⟩
        · refine ⟨hy.imp id (fun h => by have := X9.size; omega), by omega, fun hb => ?_⟩
          have h9 := hOb y hb
          rcases hy with h1 | h1
          · have := hS y h1; omega
          · omega
      have hR9 : RowsIn (fun y => T y ∨ ((S y ∨ n2 ≤ y) ∧ y < w9.heap.size)) (w39) ((t.args.take (i + 1)).map simR) (rows ++ [[.int .i64 M.kind, .slice ma M.set.length mc, .slice pa M.args.length pc, .int .i64 M.mn, .int .i64 M.mx, .bool M.neg]]) := by
        rw [List.take_add_one, hx, Option.toList_some, List.map_append, List.map_cons, List.map_nil, ← hM]
        exact rowsin_snoc (RowsIn.mono (fun y hy => .inl hy) (RowsIn.chg Cv9 (fun y hy hm => hTn y hm hy) hR)) (ReIn.mono (fun y hy => .inr hy) M (ReIn.chg Cv9 (fun y hy hm => (hT2 y (.inr hy)).2.2 hm) M hXl))
      refine qA (.slice la2 (i + 1) lc2) rfl ?_
      refine WpL_nil (inB_normal (thn_normal (Wp_region ?_)))
      refine qV (r_add (k := .i64) (a := (i : Int)) (b := 1) (c := (i : Int) + 1) rfl rfl (wI64 (by omega))) ?_
      refine qM (I6 ((i : Int) + 1)) rfl ?_
      refine WpL_nil (thn_normal ?_)
      exact ⟨t.args.length - (i + 1), by omega, i + 1, la2, lc2, rows ++ [[.int .i64 M.kind, .slice ma M.set.length mc, .slice pa M.args.length pc, .int .i64 M.mn, .int .i64 M.mx, .bool M.neg]], (fun y => T y ∨ ((S y ∨ n2 ≤ y) ∧ y < w9.heap.size)), Fits.out ⟨rfl, rfl, rfl, rfl, rfl, rfl, trivial⟩, E, Br, Bo, (by omega), (by simpa using Ov9), hR9, Nat.le_trans hbs Cv9.size, (fun y hy => ⟨(hT2 y hy).1, (hT2 y hy).2.1⟩), (fun b hb hy => by rcases Dv9 b hb with h | h; exact (hT2 b hy).2.2 h; have hz1 := Nz.ext.size; rcases hy with hy | hy; have := (hT b hy).2; omega; have := hy.2; omega), rfl⟩
    · have khlt := hlt
      replace hlt := of_decide_eq_false hlt
      have hii : i = t.args.length := by omega
      rw [hii] at hO hR hTn
      rw [hii]
      rw [List.take_length] at hR
      refine Wp_exit (thn_exit (thn_exit (inB_here (thn_normal (Wp_seq_region ?_)))))
      refine qM (.slice la t.args.length lc) rfl ?_
      refine qF br 0 2 rfl Try.underlying27 rfl siz25 rfl ?_
      refine s_store (b := br) (o := 2) (c' := (R6 t sa sc la lc)) (v := (.slice la t.args.length lc)) rfl rfl rfl siz25 Br (by simp) rfl ?_
      intro w4 S4
      replace hO := own_chg hO S4.chg (fun y hy h => by have h2 : y = br := h; have := (hO.lt y hy).1; omega)
      replace hR := RowsIn.chg S4.chg (fun y hy h => by have h2 : y = br := h; rcases (hT y hy).1 with h1 | h1; have := hS y h1; omega; omega) hR
      replace hT := tl_put hT S4
      replace hbs := Nat.le_trans hbs S4.chg.size
      replace Bo := S4.keep (by omega) Bo
      replace E := S4.step E (by first | exact Or.inl (by omega) | exact Or.inr rfl | exact Or.inr (by assumption) | exact Or.inr (by simp) | exact Or.inr (by omega) | exact Or.inr (by dsimp only; omega))
      replace Br := S4.blk
      refine WpL_nil (Wp_seq_region ?_)
      refine qV (r_loadAgg (vs := [(I6 t.kind), (.slice sa t.set.length sc), (.slice la t.args.length lc), (I6 t.mn), (I6 t.mx), (.bool t.neg)]) rfl agg27 siz27 rfl (Br.cells rfl)) ?_
      have hml : (t.args.map simR).length = t.args.length := List.length_map _
      obtain ⟨hoc, hocl⟩ := own_res hO hR hml
      have hTS : ReIn (fun y => (S y ∨ n1 ≤ y) ∧ y < (w4).heap.size) (w4) (.mk t.kind t.set (t.args.map simR) t.mn t.mx t.neg) [.int .i64 t.kind, .slice sa t.set.length sc, .slice la t.args.length lc, .int .i64 t.mn, .int .i64 t.mx, .bool t.neg] := by
        have h9 := ReIn.of (S := fun y => (S y ∨ n1 ≤ y) ∧ y < (w4).heap.size) (w := w4) (k := t.kind) (set := t.set) (args := t.args.map simR) (mn := t.mn) (mx := t.mx) (ng := t.neg) (sa := sa) (sc := sc) (aa := la) (ac := lc) (SlIn.mono (SlIn.chg hset E (fun _ _ f => f)) fun y hy => ⟨.inl hy, by have := hS y hy; have := E.size; omega⟩) (by rw [hml]; exact hoc) (by
          rcases hocl with h | ⟨ob, hob1, hob2, hob3, hclo⟩
          · exact .inl h
          · exact .inr ⟨ob, 0, ⟨.inr hob1, hob2⟩, hob3, resin_of fun i t ht => by obtain ⟨vs, h6, h7⟩ := hclo i t ht; exact ⟨vs, h6, ReIn.mono (fun y hy => hT y hy) t h7⟩⟩)
        rw [hml] at h9
        exact h9
      obtain ⟨N, hN⟩ : ∃ N, N = nodeS (.mk t.kind t.set (t.args.map simR) t.mn t.mx t.neg) := ⟨_, rfl⟩
      have hnb1 : n1 ≤ (w4).heap.size := hbs
      refine WpL_enter rfl rfl (by decide) (r_callF (vs := [(.agg (R6 t sa sc la lc))]) Try.func30 nm30 bd30 rfl) ((dnode_c _ _ _ _ hTS (fun y hy => hy.2) (pre_of hok hk9.1 hk9.2 hml) (fun y hy => simRs_ok (okRe_args hok) hu2 y (by rw [simRs_map]; exact hy)) (by show Re.sizes (t.args.map simR) ≤ 1000000; omega)).mono (R' := fun r w => reG (fun b => S b ∨ n1 ≤ b) N r w ∧ Ext _ w) (fun r w h => ⟨reG_of (S' := fun b => ((S b ∨ n1 ≤ b) ∧ b < _) ∨ _ ≤ b) (fun b hb => by rcases hb with h1 | h1; exact h1.1; exact .inr (Nat.le_trans hnb1 h1)) (by rw [hN]; exact h.1), h.2⟩)) ?_
      rintro _ w49 ⟨⟨xa, xc, ya, yc, rfl, hR4⟩, X49⟩
      replace Br := X49.keep Br
      replace Bo := X49.keep Bo
      replace E := E.ext X49
      refine s_storeAgg (b := bo) (o := 0) (c' := (R6 N xa xc ya yc)) rfl rfl (by simp [Value.oneCell']) siz27 rfl Bo (by first | (simp; done) | exact Nat.le_of_ble_eq_true rfl) rfl ?_
      intro w5 S5
      replace hR4 := ReIn.chg S5.chg (fun y hy h => by have h2 : y = bo := h; rcases hy with h1 | h1; have := hS y h1; omega; omega) _ hR4
      replace Br := S5.keep (by omega) Br
      replace E := S5.step E (by first | exact Or.inl (by omega) | exact Or.inr rfl | exact Or.inr (by assumption) | exact Or.inr (by simp) | exact Or.inr (by omega) | exact Or.inr (by dsimp only; omega))
      replace Bo := S5.blk
      refine WpL_nil (Wp_ret ?_)
      refine fin_agg Try.results16 (vs := [(.int .i64 N.kind), (.slice xa N.set.length xc), (.slice ya N.args.length yc), (.int .i64 N.mn), (.int .i64 N.mx), (.bool N.neg)]) (b := bo) rfl agg27 siz27 rfl (Bo.cells rfl) ?_
      exact ⟨⟨_, rfl, by rw [← hN]; exact ReIn.mono (fun y hy => by rcases hy with h1 | h1; exact .inl h1; exact .inr (by omega)) _ hR4⟩, E⟩
end Go.Proofs
namespace Go.Proofs
open Go Go.Eng Go.Sort
set_option maxRecDepth 100000
def rsG (S : Nat → Prop) (l : List Re) : Fct := fun v w => ∃ b, v = .slice (some ⟨b, 0, none⟩) l.length l.length ∧ RsIn S w (.slice (some ⟨b, 0, none⟩) l.length l.length) l
theorem rsG_ext (S : Nat → Prop) (l : List Re) : Stable (rsG S l) := by
 rintro v w w' e ⟨b, h1, h2⟩
 exact ⟨b, h1, RsIn.ext h2 e⟩
section
variable {N : Nat} {σ : Env} {w : World} {dst : Option Tmp} {ty : TypeId} {pos : String} {af : Array Edge} {g : Option (Nat × Bool)} {S : Nat → Prop} {X Y : Re} {x y z : Operand} {sa aa sa' aa' : Option Addr} {sc ac sc' ac' : Nat}
theorem Does_two (hx : ev σ x = .agg #[.int .i64 X.kind, .slice sa X.set.length sc, .slice aa X.args.length ac, .int .i64 X.mn, .int .i64 X.mx, .bool X.neg]) (hy : ev σ y = .agg #[.int .i64 Y.kind, .slice sa' Y.set.length sc', .slice aa' Y.args.length ac', .int .i64 Y.mn, .int .i64 Y.mx, .bool Y.neg]) (h1 : ReIn S w X [.int .i64 X.kind, .slice sa X.set.length sc, .slice aa X.args.length ac, .int .i64 X.mn, .int .i64 X.mx, .bool X.neg]) (h2 : ReIn S w Y [.int .i64 Y.kind, .slice sa' Y.set.length sc', .slice aa' Y.args.length ac', .int .i64 Y.mn, .int .i64 Y.mx, .bool Y.neg]) (hS : ∀ b, w.heap.size ≤ b → S b) :
  Does Try.prog N ⟨dst, .buildSlice 25 2 #[(0, x), (1, y)], ty, pos, af, g⟩ (rsG S [X, Y]) σ w := by
 have hn := New.mk' w (#[.int .i64 X.kind, .slice sa X.set.length sc, .slice aa X.args.length ac, .int .i64 X.mn, .int .i64 X.mx, .bool X.neg, .int .i64 Y.kind, .slice sa' Y.set.length sc', .slice aa' Y.args.length ac', .int .i64 Y.mn, .int .i64 Y.mx, .bool Y.neg]) TRe
 refine Does_val (run_buildSlice (parts := [(0, x), (1, y)]) (ps := [(0, .agg #[.int .i64 X.kind, .slice sa X.set.length sc, .slice aa X.args.length ac, .int .i64 X.mn, .int .i64 X.mx, .bool X.neg]), (1, .agg #[.int .i64 Y.kind, .slice sa' Y.set.length sc', .slice aa' Y.args.length ac', .int .i64 Y.mn, .int .i64 Y.mx, .bool Y.neg])]) (by simp only [List.map, hx, hy]) Try.underlying25 siz27 zer27 (by decide) (by decide) (by kernel_rfl)) hn.ext ⟨_, rfl, ?_⟩
 exact ⟨_, _, rfl, by simp, .inr ⟨_, 0, hS _ (Nat.le_refl _), rfl, ResIn.two (hn.blk.cells (by rfl)) (ReIn.ext hn.ext _ h1) (hn.blk.cells (by rfl)) (ReIn.ext hn.ext _ h2)⟩⟩
theorem Does_oneR (hx : ev σ x = .agg #[.int .i64 X.kind, .slice sa X.set.length sc, .slice aa X.args.length ac, .int .i64 X.mn, .int .i64 X.mx, .bool X.neg]) (h1 : ReIn S w X [.int .i64 X.kind, .slice sa X.set.length sc, .slice aa X.args.length ac, .int .i64 X.mn, .int .i64 X.mx, .bool X.neg]) (hS : ∀ b, w.heap.size ≤ b → S b) :
  Does Try.prog N ⟨dst, .buildSlice 25 1 #[(0, x)], ty, pos, af, g⟩ (rsG S [X]) σ w := by
 have hn := New.mk' w #[.int .i64 X.kind, .slice sa X.set.length sc, .slice aa X.args.length ac, .int .i64 X.mn, .int .i64 X.mx, .bool X.neg] TRe
 refine Does_val (run_buildSlice (parts := [(0, x)]) (ps := [(0, .agg #[.int .i64 X.kind, .slice sa X.set.length sc, .slice aa X.args.length ac, .int .i64 X.mn, .int .i64 X.mx, .bool X.neg])]) (by simp only [List.map, hx]) Try.underlying25 siz27 zer27 (by decide) (by decide) (by kernel_rfl)) hn.ext ⟨_, rfl, ?_⟩
 exact ⟨_, _, rfl, by simp, .inr ⟨_, 0, hS _ (Nat.le_refl _), rfl, ResIn.one (hn.blk.cells (by rfl)) (ReIn.ext hn.ext _ h1)⟩⟩
theorem rs_mk {b n : Nat} {l : List Re} {k m x : Int} (h : RsIn S w (.slice (some ⟨b, 0, none⟩) n n) l) (hn : l.length = n) : ReIn S w (.mk k [] l m x false) [.int .i64 k, .slice none 0 0, .slice (some ⟨b, 0, none⟩) l.length l.length, .int .i64 m, .int .i64 x, .bool false] := by
 subst hn
 obtain ⟨aa, ac, h1, h2, h3⟩ := h
 simp only [Value.slice.injEq, true_and] at h1
 obtain ⟨rfl, rfl⟩ := h1
 exact ReIn.of (set := []) (SlIn.nil _ _ _ _ _) h2 h3
theorem Does_node4 {b n : Nat} {l : List Re} (hx : ev σ x = .slice (some ⟨b, 0, none⟩) n n) (h : RsIn S w (.slice (some ⟨b, 0, none⟩) n n) l) (hn : l.length = n) :
  Does Try.prog N ⟨dst, .build 27 #[(0, .const (.int .i64 4)), (2, x)], ty, pos, af, g⟩ (reG S (.mk 4 [] l 0 0 false)) σ w := by
 subst hn
 exact Does_val (r_build (parts := [(0, .const (I6 4)), (2, x)]) (ps := [(0, .int .i64 4), (2, .slice (some ⟨b, 0, none⟩) l.length l.length)]) (v := .agg #[.int .i64 4, .slice none 0 0, .slice (some ⟨b, 0, none⟩) l.length l.length, .int .i64 0, .int .i64 0, .bool false]) (by simp only [List.map, hx]; rfl) (by kernel_rfl)) (Ext.refl _) ⟨none, 0, some ⟨b, 0, none⟩, l.length, rfl, rs_mk h rfl⟩
theorem Does_node6 {b n : Nat} {l : List Re} {m u : Int} (hx : ev σ x = .slice (some ⟨b, 0, none⟩) n n) (hy : ev σ y = .int .i64 m) (hz : ev σ z = .int .i64 u) (h : RsIn S w (.slice (some ⟨b, 0, none⟩) n n) l) (hn : l.length = n) :
  Does Try.prog N ⟨dst, .build 27 #[(0, .const (.int .i64 6)), (2, x), (3, y), (4, z)], ty, pos, af, g⟩ (reG S (.mk 6 [] l m u false)) σ w := by
 subst hn
 exact Does_val (r_build (parts := [(0, .const (I6 6)), (2, x), (3, y), (4, z)]) (ps := [(0, .int .i64 6), (2, .slice (some ⟨b, 0, none⟩) l.length l.length), (3, .int .i64 m), (4, .int .i64 u)]) (v := .agg #[.int .i64 6, .slice none 0 0, .slice (some ⟨b, 0, none⟩) l.length l.length, .int .i64 m, .int .i64 u, .bool false]) (by simp only [List.map, hx, hy, hz]; rfl) (by kernel_rfl)) (Ext.refl _) ⟨none, 0, some ⟨b, 0, none⟩, l.length, rfl, rs_mk h rfl⟩
end
set_option maxHeartbeats 1000000 in
theorem clonere_c (w0 : World) (S : Nat → Prop) (v : Value) (ts : List Re) (h : RsIn S w0 v ts) (hne : ts ≠ []) (hl : ts.length ≤ 1000000) :
  Ret Try.prog 34 #[v] w0 fun r w => (∃ a c, r = .slice a ts.length c ∧ RsIn (fun b => S b ∨ w0.heap.size ≤ b) w r ts) ∧ Ext w0 w := by
 obtain ⟨aa, c, rfl, hlen, h3⟩ := h
 obtain ⟨b, o, hSb, rfl, hres⟩ := h3.resolve_left hne
 have hpos := List.length_pos_iff.2 hne
 obtain ⟨rows, hrows, hcells⟩ := ResIn.rows hres
 obtain ⟨base, hbase⟩ : ∃ base, base = w0.heap.size := ⟨_, rfl⟩
 refine Ret_of Try.func34 rfl Try.ntmps34 (Nat.le_of_ble_eq_true rfl) ?_
 have E : Chg none1 w0 w0 := Chg.refl _ _
 refine Wp_seq_region ?_
 refine qA (.slice none 0 0) rfl ?_
 refine WpL_nil (Wp_seq (Wp_seq_region ?_))
 refine qM (.slice (some ⟨b, o, none⟩) ts.length c) rfl ?_
 refine WpL_val (v := (.bool false)) rfl rfl (by decide) (r_eqlNil (a := some ⟨b, o, none⟩) Try.underlying25 rfl rfl) ?_
 refine WpL_nil ?_
 refine Wp_cond_false rfl ?_
 refine Wp_skip (thn_normal (Wp_seq_region ?_))
 refine s_build0 (by decide) Try.underlying25 siz27 ?_
 intro bq wq Nq
 have Fq := Nq.ge E
 replace E := E.ext Nq.ext
 have Bq := Nq.blk
 refine qM (.slice (some ⟨b, o, none⟩) ts.length c) rfl ?_
 have hown := own_empty (base := base) (size := 6) Bq (by omega)
 have hbs : base ≤ wq.heap.size := by have := Nq.ext.size; omega
 refine s_append (base := base) (n := 0) (m := ts.length) (xs := []) (news := rows.flatten) (size := 6) (bytes := 80) (v := (.slice (some ⟨bq, 0, none⟩) 0 0)) (by decide) Try.underlying25 siz27 byt27 zer27 rfl (by decide) rfl hown rfl (by rw [rows_len hrows.six, hrows.len]) (hcells.ext Nq.ext) (hrows.one) (by unfold maxLen; omega) (by omega) (hbs) ?_
 intro v9 w29 Ov9 Cv9 Dv9
 replace E := E.step Cv9 (fun x hx h => absurd (hown.lt x h).1 (by omega))
 obtain ⟨la, lc, rfl⟩ := own_form Ov9
 refine qA (.slice la (0 + ts.length) lc) rfl ?_
 refine WpL_nil (Wp_ret ?_)
 refine fin_tmp Try.results34 (v := (.slice la (0 + ts.length) lc)) rfl ?_
 simp only [Nat.zero_add, List.nil_append] at Ov9
 obtain ⟨hoc, hocl⟩ := own_res Ov9 (hrows.ext E) rfl
 simp only [Nat.zero_add]
 refine ⟨⟨la, lc, rfl, la, lc, rfl, hoc, ?_⟩, E⟩
 rcases hocl with h | ⟨ob, hob1, hob2, hob3, hclo⟩
 ·exact .inl h
 ·exact .inr ⟨ob, 0, .inr (by omega), hob3, resin_of fun i t ht => by obtain ⟨vs, h6, h7⟩ := hclo i t ht; exact ⟨vs, h6, ReIn.mono (fun y hy => .inl hy) t h7⟩⟩
/-- The derivative of smaller expressions, as a contract. -/
def StepOk (c : Int) (n : Nat) : Prop := ∀ (t : Re) (w0 : World) (S : Nat → Prop) (vs : List Value), t.size < n → SimOk t → ReIn S w0 t vs → (∀ x, S x → x < w0.heap.size) →
  Ret Try.prog 17 #[.agg vs.toArray, .int .i64 c] w0 fun r w => (∃ us, r = .agg us.toArray ∧ ReIn (fun b => S b ∨ w0.heap.size ≤ b) w (stepR c t) us) ∧ Ext w0 w
section
variable {c : Int} {t x : Re}
theorem stepR_eq (c : Int) (t : Re) : stepR c t = if t.kind = 2 then (if inS t.set c = true then emptyT else noneT) else if t.kind = 3 then stepC c t.args else if t.kind = 4 ∨ t.kind = 7 ∨ t.kind = 8 then nodeK t.kind [] (stepRs c t.args) 0 0 false else if t.kind = 5 then catD [(stepRs c t.args).headD noneT, t] else if t.kind = 6 then catD [(stepRs c t.args).headD noneT, nodeK 6 [] [t.args.headD noneT] (max 0 (t.mn - 1)) (t.mx - 1) false] else noneT := by
 cases t; simp only [stepR]; rfl
theorem st2 (h : t.kind = 2) : stepR c t = if inS t.set c = true then emptyT else noneT := by rw [stepR_eq]; simp [h]
theorem st3 (h : t.kind = 3) : stepR c t = stepC c t.args := by rw [stepR_eq]; simp [h]
theorem st478 (h : t.kind = 4 ∨ t.kind = 7 ∨ t.kind = 8) : stepR c t = nodeS (.mk t.kind [] (t.args.map (stepR c)) 0 0 false) := by rw [stepR_eq, if_neg (by omega), if_neg (by omega), if_pos h, stepRs_map]; rfl
theorem st5 (h : t.kind = 5) (ha : t.args = [x]) : stepR c t = catD [stepR c x, t] := by rw [stepR_eq, if_neg (by omega), if_neg (by omega), if_neg (by omega), if_pos h, ha]; rfl
theorem st6 (h : t.kind = 6) (ha : t.args = [x]) : stepR c t = catD [stepR c x, nodeS (.mk 6 [] [x] (max 0 (t.mn - 1)) (t.mx - 1) false)] := by rw [stepR_eq, if_neg (by omega), if_neg (by omega), if_neg (by omega), if_neg (by omega), if_pos h, ha]; rfl
theorem stn (h : t.kind = 0 ∨ t.kind = 1) : stepR c t = noneT := by rw [stepR_eq, if_neg (by omega), if_neg (by omega), if_neg (by omega), if_neg (by omega), if_neg (by omega)]
end
end Go.Proofs
namespace Go.Proofs
open Go Go.Eng Go.Sort
set_option maxRecDepth 100000
set_option maxHeartbeats 1000000 in
theorem step_k2 (c : Int) (n : Nat) (ih : StepOk c n) (t : Re) (hn : t.size ≤ n) (h300 : t.size ≤ 300) (hok : SimOk t) (hk : t.kind = 2) (w0 : World) (S : Nat → Prop) (vs : List Value) (ht : ReIn S w0 t vs) (hS : ∀ x, S x → x < w0.heap.size) :
  Ret Try.prog 17 #[.agg vs.toArray, .int .i64 c] w0 fun r w => (∃ us, r = .agg us.toArray ∧ ReIn (fun b => S b ∨ w0.heap.size ≤ b) w (stepR c t) us) ∧ Ext w0 w := by
 have ht0 := ht
 obtain ⟨sa, sc, aa, ac, rfl, hset, hlen, hargs⟩ := ht.form
 have hRs : RsIn S w0 (.slice aa t.args.length ac) t.args := rs_in ht0
 have hal := len_lt_size t
 have hszt := t.size_eq
 refine Ret_of Try.func17 rfl Try.ntmps17 (Nat.le_of_ble_eq_true rfl) ?_
 have E : Chg none1 w0 w0 := Chg.refl _ _
 refine Wp_seq_region ?_
 refine s_box (v := (.agg (R6 t sa sc aa ac))) (c := (R6 t sa sc aa ac)) (by decide) rfl rfl ?_
 intro br wr Nr
 have Fr := Nr.ge E
 replace E := E.ext Nr.ext
 have Br := Nr.blk
 refine s_alloc (c := #[(I6 0), (.slice none 0 0), (.slice none 0 0), (I6 0), (I6 0), (.bool false)]) (by decide) zer27 rfl ?_
 intro bo wo No
 have Fo := No.ge E
 have Oo_br := No.lt Br
 replace Br := No.keep Br
 replace E := E.ext No.ext
 have Bo := No.blk
 refine WpL_nil (Wp_seq (Wp_seq_region ?_))
 refine qF br 0 0 rfl Try.underlying27 rfl siz3 rfl ?_
 refine qV (r_load (v := (I6 t.kind)) rfl flat3 (Br.cell rfl)) ?_
 refine WpL_nil (Wp_block (Wp_seq_region ?_))
 refine qV (r_eql (k := .i64) (a := t.kind) (b := 2) rfl rfl) ?_
 refine qA (.bool (decide ((t.kind : Int) = 2))) rfl ?_
 refine WpL_nil ?_
 have hc1 : (decide ((t.kind : Int) = 2)) = true := decide_eq_true hk
 refine Wp_cond_true (congrArg Value.bool hc1) ?_
 refine Wp_seq_region ?_
 refine qF br 0 1 rfl Try.underlying27 rfl siz24 rfl ?_
 refine qV (r_load (v := (.slice sa t.set.length sc)) rfl flat24 (Br.cell rfl)) ?_
 refine qM (I6 c) rfl ?_
 refine WpL_enter rfl rfl (by decide) (r_callF (vs := [(.slice sa t.set.length sc), (I6 c)]) Try.func31 nm31 bd31 rfl) (in_c _ _ t.set c (hset.at.ext E)) ?_
 rintro _ w9 ⟨rfl, X9⟩
 replace Br := X9.keep Br
 replace Bo := X9.keep Bo
 replace E := E.ext X9
 refine WpL_nil ?_
 refine Wp_cond (b := inS t.set c) rfl (fun hin => ?_) (fun hin => ?_)
 ·have khin := hin
  refine Wp_seq_region ?_
  refine WpL_enter rfl rfl (by decide) (r_callF (vs := []) Try.func32 nm32 bd32 rfl) (dempty_c _) ?_
  rintro _ w29 ⟨rfl, X29⟩
  replace Br := X29.keep Br
  replace Bo := X29.keep Bo
  replace E := E.ext X29
  refine s_storeAgg (b := bo) (o := 0) (c' := #[(I6 1), (.slice none 0 0), (.slice none 0 0), (I6 0), (I6 0), (.bool false)]) rfl rfl (by simp [Value.oneCell']) siz27 rfl Bo (by first | (simp; done) | exact Nat.le_of_ble_eq_true rfl) rfl ?_
  intro w3 S3
  replace Br := S3.keep (by omega) Br
  replace E := S3.step E (by first | exact Or.inl (by omega) | exact Or.inr rfl | exact Or.inr (by assumption) | exact Or.inr (by simp) | exact Or.inr (by omega) | exact Or.inr (by dsimp only; omega))
  replace Bo := S3.blk
  refine WpL_nil (Wp_ret (inB_ret (thn_ret ?_)))
  refine fin_agg Try.results17 (vs := [(.int .i64 1), (.slice none 0 0), (.slice none 0 0), (.int .i64 0), (.int .i64 0), (.bool false)]) (b := bo) rfl agg27 siz27 rfl (Bo.cells rfl) ?_
  exact ⟨⟨_, rfl, by rw [st2 hk, if_pos hin]; exact re_empty _ _ _⟩, E⟩
 ·have khin := hin
  refine Wp_skip (inB_normal (thn_normal (Wp_seq_region ?_)))
  refine WpL_enter rfl rfl (by decide) (r_callF (vs := []) Try.func35 nm35 bd35 rfl) (dnone_c _) ?_
  rintro _ w29 ⟨rfl, X29⟩
  replace Br := X29.keep Br
  replace Bo := X29.keep Bo
  replace E := E.ext X29
  refine s_storeAgg (b := bo) (o := 0) (c' := #[(I6 0), (.slice none 0 0), (.slice none 0 0), (I6 0), (I6 0), (.bool false)]) rfl rfl (by simp [Value.oneCell']) siz27 rfl Bo (by first | (simp; done) | exact Nat.le_of_ble_eq_true rfl) rfl ?_
  intro w4 S4
  replace Br := S4.keep (by omega) Br
  replace E := S4.step E (by first | exact Or.inl (by omega) | exact Or.inr rfl | exact Or.inr (by assumption) | exact Or.inr (by simp) | exact Or.inr (by omega) | exact Or.inr (by dsimp only; omega))
  replace Bo := S4.blk
  refine WpL_nil (Wp_ret ?_)
  refine fin_agg Try.results17 (vs := [(.int .i64 0), (.slice none 0 0), (.slice none 0 0), (.int .i64 0), (.int .i64 0), (.bool false)]) (b := bo) rfl agg27 siz27 rfl (Bo.cells rfl) ?_
  exact ⟨⟨_, rfl, by rw [st2 hk, if_neg (by rw [hin]; decide)]; exact re_empty _ _ _⟩, E⟩
set_option maxHeartbeats 1000000 in
theorem step_k0 (c : Int) (n : Nat) (ih : StepOk c n) (t : Re) (hn : t.size ≤ n) (h300 : t.size ≤ 300) (hok : SimOk t) (hk : t.kind = 0 ∨ t.kind = 1) (w0 : World) (S : Nat → Prop) (vs : List Value) (ht : ReIn S w0 t vs) (hS : ∀ x, S x → x < w0.heap.size) :
  Ret Try.prog 17 #[.agg vs.toArray, .int .i64 c] w0 fun r w => (∃ us, r = .agg us.toArray ∧ ReIn (fun b => S b ∨ w0.heap.size ≤ b) w (stepR c t) us) ∧ Ext w0 w := by
 have ht0 := ht
 obtain ⟨sa, sc, aa, ac, rfl, hset, hlen, hargs⟩ := ht.form
 have hRs : RsIn S w0 (.slice aa t.args.length ac) t.args := rs_in ht0
 have hal := len_lt_size t
 have hszt := t.size_eq
 refine Ret_of Try.func17 rfl Try.ntmps17 (Nat.le_of_ble_eq_true rfl) ?_
 have E : Chg none1 w0 w0 := Chg.refl _ _
 refine Wp_seq_region ?_
 refine s_box (v := (.agg (R6 t sa sc aa ac))) (c := (R6 t sa sc aa ac)) (by decide) rfl rfl ?_
 intro br wr Nr
 have Fr := Nr.ge E
 replace E := E.ext Nr.ext
 have Br := Nr.blk
 refine s_alloc (c := #[(I6 0), (.slice none 0 0), (.slice none 0 0), (I6 0), (I6 0), (.bool false)]) (by decide) zer27 rfl ?_
 intro bo wo No
 have Fo := No.ge E
 have Oo_br := No.lt Br
 replace Br := No.keep Br
 replace E := E.ext No.ext
 have Bo := No.blk
 refine WpL_nil (Wp_seq (Wp_seq_region ?_))
 refine qF br 0 0 rfl Try.underlying27 rfl siz3 rfl ?_
 refine qV (r_load (v := (I6 t.kind)) rfl flat3 (Br.cell rfl)) ?_
 refine WpL_nil (Wp_block (Wp_seq_region ?_))
 refine qV (r_eql (k := .i64) (a := t.kind) (b := 2) rfl rfl) ?_
 refine qA (.bool (decide ((t.kind : Int) = 2))) rfl ?_
 refine WpL_nil ?_
 have hc1 : (decide ((t.kind : Int) = 2)) = false := decide_eq_false (by omega)
 refine Wp_cond_false (congrArg Value.bool hc1) ?_
 refine Wp_seq_region ?_
 refine qV (r_eql (k := .i64) (a := t.kind) (b := 3) rfl rfl) ?_
 refine qA (.bool (decide ((t.kind : Int) = 3))) rfl ?_
 refine WpL_nil ?_
 have hc2 : (decide ((t.kind : Int) = 3)) = false := decide_eq_false (by omega)
 refine Wp_cond_false (congrArg Value.bool hc2) ?_
 refine Wp_seq (Wp_seq_region ?_)
 refine qV (r_eql (k := .i64) (a := t.kind) (b := 4) rfl rfl) ?_
 refine qA (.bool (decide ((t.kind : Int) = 4))) rfl ?_
 refine WpL_nil ?_
 have hc3 : (decide ((t.kind : Int) = 4)) = false := decide_eq_false (by omega)
 refine Wp_cond_false (congrArg Value.bool hc3) ?_
 refine Wp_seq_region ?_
 refine qV (r_eql (k := .i64) (a := t.kind) (b := 7) rfl rfl) ?_
 refine qA (.bool (decide ((t.kind : Int) = 7))) rfl ?_
 refine WpL_nil ?_
 have hc4 : (decide ((t.kind : Int) = 7)) = false := decide_eq_false (by omega)
 refine Wp_cond_false (congrArg Value.bool hc4) ?_
 refine Wp_region ?_
 refine qV (r_eql (k := .i64) (a := t.kind) (b := 8) rfl rfl) ?_
 refine qA (.bool (decide ((t.kind : Int) = 8))) rfl ?_
 refine WpL_nil (thn_normal ?_)
 have hc5 : (decide ((t.kind : Int) = 8)) = false := decide_eq_false (by omega)
 refine Wp_cond_false (congrArg Value.bool hc5) ?_
 refine Wp_seq_region ?_
 refine qV (r_eql (k := .i64) (a := t.kind) (b := 5) rfl rfl) ?_
 refine qA (.bool (decide ((t.kind : Int) = 5))) rfl ?_
 refine WpL_nil ?_
 have hc6 : (decide ((t.kind : Int) = 5)) = false := decide_eq_false (by omega)
 refine Wp_cond_false (congrArg Value.bool hc6) ?_
 refine Wp_seq_region ?_
 refine qV (r_eql (k := .i64) (a := t.kind) (b := 6) rfl rfl) ?_
 refine qA (.bool (decide ((t.kind : Int) = 6))) rfl ?_
 refine WpL_nil ?_
 have hc7 : (decide ((t.kind : Int) = 6)) = false := decide_eq_false (by omega)
 refine Wp_cond_false (congrArg Value.bool hc7) ?_
 refine Wp_skip (inB_normal (thn_normal (Wp_seq_region ?_)))
 refine WpL_enter rfl rfl (by decide) (r_callF (vs := []) Try.func35 nm35 bd35 rfl) (dnone_c _) ?_
 rintro _ w29 ⟨rfl, X29⟩
 replace Br := X29.keep Br
 replace Bo := X29.keep Bo
 replace E := E.ext X29
 refine s_storeAgg (b := bo) (o := 0) (c' := #[(I6 0), (.slice none 0 0), (.slice none 0 0), (I6 0), (I6 0), (.bool false)]) rfl rfl (by simp [Value.oneCell']) siz27 rfl Bo (by first | (simp; done) | exact Nat.le_of_ble_eq_true rfl) rfl ?_
 intro w8 S8
 replace Br := S8.keep (by omega) Br
 replace E := S8.step E (by first | exact Or.inl (by omega) | exact Or.inr rfl | exact Or.inr (by assumption) | exact Or.inr (by simp) | exact Or.inr (by omega) | exact Or.inr (by dsimp only; omega))
 replace Bo := S8.blk
 refine WpL_nil (Wp_ret ?_)
 refine fin_agg Try.results17 (vs := [(.int .i64 0), (.slice none 0 0), (.slice none 0 0), (.int .i64 0), (.int .i64 0), (.bool false)]) (b := bo) rfl agg27 siz27 rfl (Bo.cells rfl) ?_
 exact ⟨⟨_, rfl, by rw [stn hk]; exact re_empty _ _ _⟩, E⟩
set_option maxHeartbeats 1000000 in
theorem step_k5 (c : Int) (n : Nat) (ih : StepOk c n) (t : Re) (hn : t.size ≤ n) (h300 : t.size ≤ 300) (hok : SimOk t) (hk : t.kind = 5) (w0 : World) (S : Nat → Prop) (vs : List Value) (ht : ReIn S w0 t vs) (hS : ∀ x, S x → x < w0.heap.size) :
  Ret Try.prog 17 #[.agg vs.toArray, .int .i64 c] w0 fun r w => (∃ us, r = .agg us.toArray ∧ ReIn (fun b => S b ∨ w0.heap.size ≤ b) w (stepR c t) us) ∧ Ext w0 w := by
 have ht0 := ht
 obtain ⟨sa, sc, aa, ac, rfl, hset, hlen, hargs⟩ := ht.form
 have hRs : RsIn S w0 (.slice aa t.args.length ac) t.args := rs_in ht0
 have hal := len_lt_size t
 have hszt := t.size_eq
 refine Ret_of Try.func17 rfl Try.ntmps17 (Nat.le_of_ble_eq_true rfl) ?_
 have E : Chg none1 w0 w0 := Chg.refl _ _
 refine Wp_seq_region ?_
 refine s_box (v := (.agg (R6 t sa sc aa ac))) (c := (R6 t sa sc aa ac)) (by decide) rfl rfl ?_
 intro br wr Nr
 have Fr := Nr.ge E
 replace E := E.ext Nr.ext
 have Br := Nr.blk
 refine s_alloc (c := #[(I6 0), (.slice none 0 0), (.slice none 0 0), (I6 0), (I6 0), (.bool false)]) (by decide) zer27 rfl ?_
 intro bo wo No
 have Fo := No.ge E
 have Oo_br := No.lt Br
 replace Br := No.keep Br
 replace E := E.ext No.ext
 have Bo := No.blk
 refine WpL_nil (Wp_seq (Wp_seq_region ?_))
 refine qF br 0 0 rfl Try.underlying27 rfl siz3 rfl ?_
 refine qV (r_load (v := (I6 t.kind)) rfl flat3 (Br.cell rfl)) ?_
 refine WpL_nil (Wp_block (Wp_seq_region ?_))
 refine qV (r_eql (k := .i64) (a := t.kind) (b := 2) rfl rfl) ?_
 refine qA (.bool (decide ((t.kind : Int) = 2))) rfl ?_
 refine WpL_nil ?_
 obtain ⟨n1, hn1⟩ : ∃ n1, n1 = wo.heap.size := ⟨_, rfl⟩
 have hob : br < n1 ∧ bo < n1 ∧ w0.heap.size ≤ bo ∧ w0.heap.size ≤ n1 := ⟨by rw [hn1]; exact Br.lt, by rw [hn1]; exact Bo.lt, by omega, by rw [hn1]; exact E.size⟩
 have hn1w : n1 ≤ wo.heap.size := by omega
 have E1 : Ext wo wo := Ext.refl _
 have hc1 : (decide ((t.kind : Int) = 2)) = false := decide_eq_false (by omega)
 refine Wp_cond_false (congrArg Value.bool hc1) ?_
 refine Wp_seq_region ?_
 refine qV (r_eql (k := .i64) (a := t.kind) (b := 3) rfl rfl) ?_
 refine qA (.bool (decide ((t.kind : Int) = 3))) rfl ?_
 refine WpL_nil ?_
 have hc2 : (decide ((t.kind : Int) = 3)) = false := decide_eq_false (by omega)
 refine Wp_cond_false (congrArg Value.bool hc2) ?_
 refine Wp_seq (Wp_seq_region ?_)
 refine qV (r_eql (k := .i64) (a := t.kind) (b := 4) rfl rfl) ?_
 refine qA (.bool (decide ((t.kind : Int) = 4))) rfl ?_
 refine WpL_nil ?_
 have hc3 : (decide ((t.kind : Int) = 4)) = false := decide_eq_false (by omega)
 refine Wp_cond_false (congrArg Value.bool hc3) ?_
 refine Wp_seq_region ?_
 refine qV (r_eql (k := .i64) (a := t.kind) (b := 7) rfl rfl) ?_
 refine qA (.bool (decide ((t.kind : Int) = 7))) rfl ?_
 refine WpL_nil ?_
 have hc4 : (decide ((t.kind : Int) = 7)) = false := decide_eq_false (by omega)
 refine Wp_cond_false (congrArg Value.bool hc4) ?_
 refine Wp_region ?_
 refine qV (r_eql (k := .i64) (a := t.kind) (b := 8) rfl rfl) ?_
 refine qA (.bool (decide ((t.kind : Int) = 8))) rfl ?_
 refine WpL_nil (thn_normal ?_)
 have hc5 : (decide ((t.kind : Int) = 8)) = false := decide_eq_false (by omega)
 refine Wp_cond_false (congrArg Value.bool hc5) ?_
 refine Wp_seq_region ?_
 refine qV (r_eql (k := .i64) (a := t.kind) (b := 5) rfl rfl) ?_
 refine qA (.bool (decide ((t.kind : Int) = 5))) rfl ?_
 refine WpL_nil ?_
 have hc6 : (decide ((t.kind : Int) = 5)) = true := decide_eq_true hk
 refine Wp_cond_true (congrArg Value.bool hc6) ?_
 obtain ⟨x, hax, hx0⟩ : ∃ x, t.args = [x] ∧ SimOk x := by obtain ⟨y, hy, _⟩ := hok.n.k5 hk; exact ⟨y, hy, hok.a y (by rw [hy]; simp)⟩
 have hx : t.args[0]? = some x := by rw [hax]; rfl
 have hal1 : t.args.length = 1 := by rw [hax]; rfl
 have hxz := Re.size_arg hx
 obtain ⟨ab, ao, hab, rfl, hres⟩ := hargs.resolve_left (fun h => by rw [h] at hx; cases hx)
 obtain ⟨us, hus, hxt⟩ := hres.get hx
 have hxt0 := hxt
 obtain ⟨xsa, xsc, xaa, xac, rfl, _, _, _⟩ := hxt.form
 have hsm := step_small (c := c) hx0 (by omega)
 obtain ⟨N, hN⟩ : ∃ N, N = stepR c t := ⟨_, rfl⟩
 obtain ⟨D, hD⟩ : ∃ D, D = stepR c x := ⟨_, rfl⟩
 have hN5 : N = catD [D, t] := by rw [hN, hD]; exact st5 hk hax
 have hz_7 : w0.heap.size ≤ wo.heap.size := E.size
 have lz_7_br : br < wo.heap.size := Br.lt
 have lz_7_bo : bo < wo.heap.size := Bo.lt
 refine Wp_seq ?_
 obtain ⟨Fs7, hFs7⟩ : ∃ Fs : List Fact, Fs = [.eq (P6 br 2), .eq (.slice (some ⟨ab, ao, none⟩) t.args.length ac), .eq (.pointer (some ⟨ab, ao + 0 * 6, none⟩)), .eq (.agg (R6 x xsa xsc xaa xac)), .eq (I6 c), .gen (reG (fun b => S b ∨ n1 ≤ b) D) (reG_ext _ _), .eq (.agg (R6 t sa sc (some ⟨ab, ao, none⟩) ac)), .gen (rsG (fun b => S b ∨ n1 ≤ b) [D, t]) (rsG_ext _ _), .gen (reG (fun b => S b ∨ n1 ≤ b) N) (reG_ext _ _), .eq undef] := ⟨_, rfl⟩
 refine Wp_dagP [true, true, true, true, true, true, true, true, true, false] [9] [75, 76, 77, 78, 79, 80, 81, 82, 83, 119] [[], [0], [1], [2], [], [3, 4], [], [5, 6], [5, 7], []] Fs7 hFs7 mixed (by kernel_rfl) (by kernel_rfl) (by kernel_rfl) (by kernel_rfl) ?_ ?_
 ·intro wd X0
  refine DagStepsP.cons (fun s' w' X U H => Or.inl ⟨?_, ?_⟩) ?_
  ·exact Guarded_none rfl
  ·exact Does_val (r_fieldAddr (b := br) (o := 0) (o' := 2) (U 2 rfl) Try.underlying27 rfl siz25 rfl) (Ext.refl _) rfl
  refine DagStepsP.cons (fun s' w' X U H => Or.inl ⟨?_, ?_⟩) ?_
  ·exact Guarded_none rfl
  ·have e75 : s' 75 = (.pointer (some ⟨br, 2, none⟩)) := H 0 rfl 75 (.eq (.pointer (some ⟨br, 2, none⟩))) rfl (by rw [hFs7]; rfl)
   exact Does_val (r_load (v := (.slice (some ⟨ab, ao, none⟩) t.args.length ac)) e75 flat25 (((X0.trans X).keep Br).cell rfl)) (Ext.refl _) rfl
  refine DagStepsP.cons (fun s' w' X U H => Or.inl ⟨?_, ?_⟩) ?_
  ·exact Guarded_none rfl
  ·have e76 : s' 76 = (.slice (some ⟨ab, ao, none⟩) t.args.length ac) := H 1 rfl 76 (.eq (.slice (some ⟨ab, ao, none⟩) t.args.length ac)) rfl (by rw [hFs7]; rfl)
   exact Does_val (r_indexSlice (b := ab) (o := ao) (len := t.args.length) (cap := ac) (i := 0) (o' := ao + 0 * 6) e76 rfl rfl Try.underlying25 siz27 (by omega) (by omega)) (Ext.refl _) rfl
  refine DagStepsP.cons (fun s' w' X U H => Or.inl ⟨?_, ?_⟩) ?_
  ·exact Guarded_none rfl
  ·have e77 : s' 77 = (.pointer (some ⟨ab, ao + 0 * 6, none⟩)) := H 2 rfl 77 (.eq (.pointer (some ⟨ab, ao + 0 * 6, none⟩))) rfl (by rw [hFs7]; rfl)
   exact Does_val (r_loadAgg (vs := [(I6 x.kind), (.slice xsa x.set.length xsc), (.slice xaa x.args.length xac), (I6 x.mn), (I6 x.mx), (.bool x.neg)]) e77 agg27 siz27 rfl (hus.ext (Ext.trans E (X0.trans X)))) (Ext.refl _) rfl
  refine DagStepsP.cons (fun s' w' X U H => Or.inl ⟨?_, ?_⟩) ?_
  ·exact Guarded_none rfl
  ·exact Does_val (r_move (v := (I6 c)) (U 1 rfl)) (Ext.refl _) rfl
  refine DagStepsP.cons (fun s' w' X U H => Or.inl ⟨?_, ?_⟩) ?_
  ·exact Guarded_none rfl
  ·have e78 : s' 78 = (.agg #[(.int .i64 x.kind), (.slice xsa x.set.length xsc), (.slice xaa x.args.length xac), (.int .i64 x.mn), (.int .i64 x.mx), (.bool x.neg)]) := H 3 rfl 78 (.eq (.agg #[(.int .i64 x.kind), (.slice xsa x.set.length xsc), (.slice xaa x.args.length xac), (.int .i64 x.mn), (.int .i64 x.mx), (.bool x.neg)])) rfl (by rw [hFs7]; rfl)
   have e79 : s' 79 = (.int .i64 c) := H 4 rfl 79 (.eq (.int .i64 c)) rfl (by rw [hFs7]; rfl)
   exact Does_enter (r_callF (vs := [(.agg (R6 x xsa xsc xaa xac)), (I6 c)]) Try.func17 nm17 bd17 (lst2 e78 e79)) ((ih x _ S _ (by omega) hx0 (ReIn.ext (Ext.trans E (X0.trans X)) x hxt0) (fun y hy => by have := hS y hy; have := E.size; have := X0.size; have := X.size; omega)).mono (fun r w h => ⟨reG_of (S' := fun b => S b ∨ w'.heap.size ≤ b) (fun b hb => by rcases hb with h1 | h1; exact .inl h1; exact .inr (by have := E.size; have := X0.size; have := X.size; omega)) (by rw [hD]; exact h.1), h.2⟩))
  refine DagStepsP.cons (fun s' w' X U H => Or.inl ⟨?_, ?_⟩) ?_
  ·exact Guarded_none rfl
  ·exact Does_val (r_loadAgg (vs := [(I6 t.kind), (.slice sa t.set.length sc), (.slice (some ⟨ab, ao, none⟩) t.args.length ac), (I6 t.mn), (I6 t.mx), (.bool t.neg)]) (U 2 rfl) agg27 siz27 rfl (((X0.trans X).keep Br).cells rfl)) (Ext.refl _) rfl
  refine DagStepsP.cons (fun s' w' X U H => Or.inl ⟨?_, ?_⟩) ?_
  ·exact Guarded_none rfl
  ·obtain ⟨xa80, xc80, ya80, yc80, e80, r80⟩ := H 5 rfl 80 (.gen (reG (fun b => S b ∨ n1 ≤ b) D) (reG_ext _ _)) rfl (by rw [hFs7]; rfl)
   have e81 : s' 81 = (.agg #[(.int .i64 t.kind), (.slice sa t.set.length sc), (.slice (some ⟨ab, ao, none⟩) t.args.length ac), (.int .i64 t.mn), (.int .i64 t.mx), (.bool t.neg)]) := H 6 rfl 81 (.eq (.agg #[(.int .i64 t.kind), (.slice sa t.set.length sc), (.slice (some ⟨ab, ao, none⟩) t.args.length ac), (.int .i64 t.mn), (.int .i64 t.mx), (.bool t.neg)])) rfl (by rw [hFs7]; rfl)
   exact Does_two e80 e81 r80 (ReIn.mono (fun y hy => .inl hy) t (ReIn.ext (Ext.trans E (X0.trans X)) t ht0)) (fun b hb => .inr (by have := E.size; have := X0.size; have := X.size; omega))
  refine DagStepsP.cons (fun s' w' X U H => Or.inl ⟨?_, ?_⟩) ?_
  ·exact Guarded_none rfl
  ·obtain ⟨b82, e82, q82⟩ := H 7 rfl 82 (.gen (rsG (fun b => S b ∨ n1 ≤ b) [D, t]) (rsG_ext _ _)) rfl (by rw [hFs7]; rfl)
   exact Does_enter (r_callF (vs := [(.slice (some ⟨b82, 0, none⟩) 2 2)]) Try.func33 nm33 bd33 (lst1 e82)) ((dcat_c _ (fun b => (S b ∨ n1 ≤ b) ∧ b < w'.heap.size) _ [D, t] (RsIn.lt q82) (fun y hy => hy.2) (fun y hm hk => by rcases List.mem_cons.1 hm with rfl | hm; exact (sim_three (by rw [hD]; exact step_ok c hx0)).1 (.inl hk); simp at hm; subst hm; omega) (by simp only [Re.sizes]; rw [hD]; omega)).mono (fun r w h => ⟨reG_of (S' := fun b => ((S b ∨ n1 ≤ b) ∧ b < w'.heap.size) ∨ w'.heap.size ≤ b) (fun b hb => by rcases hb with h1 | h1; exact h1.1; exact .inr (by have := E.size; have := X0.size; have := X.size; omega)) (by rw [hN5]; exact h.1), h.2⟩))
  refine DagStepsP.tail ?_
  exact DagStepsP.nil
 ·intro s' w7 X7 U H
  obtain ⟨xa83, xc83, ya83, yc83, e83, r83⟩ := H 8 rfl 83 (.gen (reG (fun b => S b ∨ n1 ≤ b) N) (reG_ext _ _)) rfl (by rw [hFs7]; rfl)
  obtain ⟨j7, rfl⟩ := Fits.out (σ := s') (l := [(4, (.pointer (some ⟨bo, 0, none⟩))), (83, (.agg #[(.int .i64 N.kind), (.slice xa83 N.set.length xc83), (.slice ya83 N.args.length yc83), (.int .i64 N.mn), (.int .i64 N.mx), (.bool N.neg)]))]) ⟨U 4 rfl, e83, trivial⟩
  clear U H
  replace Br := X7.keep Br
  replace Bo := X7.keep Bo
  replace E := E.ext X7
  refine s_storeAgg (b := bo) (o := 0) (c' := (R6 N xa83 xc83 ya83 yc83)) rfl rfl (by simp [Value.oneCell']) siz27 rfl Bo (by first | (simp; done) | exact Nat.le_of_ble_eq_true rfl) rfl ?_
  intro w8 S8
  replace r83 := ReIn.chg S8.chg (fun y hy h => by have h2 : y = bo := h; rcases hy with h1 | h1; have := hS y h1; omega; omega) _ r83
  replace Br := S8.keep (by omega) Br
  replace E := S8.step E (by first | exact Or.inl (by omega) | exact Or.inr rfl | exact Or.inr (by assumption) | exact Or.inr (by simp) | exact Or.inr (by omega) | exact Or.inr (by dsimp only; omega))
  replace Bo := S8.blk
  refine WpL_nil (thn_normal (Wp_ret (inB_ret (thn_ret ?_))))
  refine fin_agg Try.results17 (vs := [(.int .i64 N.kind), (.slice xa83 N.set.length xc83), (.slice ya83 N.args.length yc83), (.int .i64 N.mn), (.int .i64 N.mx), (.bool N.neg)]) (b := bo) rfl agg27 siz27 rfl (Bo.cells rfl) ?_
  exact ⟨⟨_, rfl, by rw [← hN]; exact ReIn.mono (fun y hy => by rcases hy with h1 | h1; exact .inl h1; exact .inr (by omega)) _ r83⟩, E⟩
end Go.Proofs
namespace Go.Eng
open Go
/-- The facts of the operations that are done before the variable is made, as facts afterwards. -/
inductive Cvs (n : Nat) : List Fact → List Fact → Prop where
  | nil : Cvs n [] []
  | cons {F F' : Fact} {l l' : List Fact} (h : ∀ v w, w.heap.size = n → F.In v w → F'.In v w) (t : Cvs n l l') : Cvs n (F :: l) (F' :: l')
theorem Cvs.get {n : Nat} : ∀ {l l' : List Fact}, Cvs n l l' → ∀ {j : Nat} {F' : Fact}, l'[j]? = some F' → ∃ F, l[j]? = some F ∧ ∀ v w, w.heap.size = n → F.In v w → F'.In v w
  | _, _, .nil, _, _, h => by simp at h
  | _, _, .cons h _, 0, _, h1 => by simp at h1; subst h1; exact ⟨_, rfl, h⟩
  | _, _, .cons _ t, j + 1, _, h1 => by
    obtain ⟨F, h2, h3⟩ := t.get (j := j) (by simpa using h1)
    exact ⟨F, by simpa using h2, h3⟩
theorem Cvs.same {n : Nat} {F : Fact} {l l' : List Fact} (t : Cvs n l l') : Cvs n (F :: l) (F :: l') := .cons (fun _ _ _ h => h) t
def AlOp (P : Program) (t : TypeId) (c : Array Value) (d : Nat) (o : Oper) : Prop :=
 (∃ z rt pos af, Zer P t z ∧ z.cells = c ∧ o = ⟨some d, .alloc t, rt, pos, af, none⟩) ∧ o.dst = some d ∧ o.guard = none
theorem AlOp.mk' {P : Program} {t : TypeId} {c : Array Value} {d : Nat} {z : Value} {rt : TypeId} {pos : String} {af : Array Edge} (hz : Zer P t z) (hc : z.cells = c) : AlOp P t c d ⟨some d, .alloc t, rt, pos, af, none⟩ := ⟨⟨_, _, _, _, hz, hc, rfl⟩, rfl, rfl⟩
/-- Each operation is of the head or of the tail; the first of the tail waits for the whole head but for one, each other of the tail for another of the tail. -/
def tailLB (l : List Oper) (hd : List Bool) (ts : List Nat) (lt f : Nat) : Bool :=
 (List.range l.length).all fun i => hd.getD i false || (ts.contains i && bif Nat.beq i f then (List.range l.length).all (fun u => !hd.getD u false || (Nat.beq u lt || edgeB l i u)) else ts.any fun p => !hd.getD p true && edgeB l i p)
def lateB (ops : Array Oper) (hd : List Bool) (ts : List Nat) (lt f al : Nat) (ks : List Nat) : Bool := !hd.getD lt false || (permB ops ks (((hd.set lt false).set f true).toArray) && (Nat.beq ks.length ts.length && !Nat.beq al lt))
theorem leftH_self : ∀ hd : List Bool, leftH hd hd = 0
  | [] => rfl
  | true :: hd => by have := leftH_self hd; simpa [leftH] using this
  | false :: hd => by have := leftH_self hd; simpa [leftH] using this
theorem Wp_dagA {P : Program} {N : Nat} {Q : Post} {σ : Env} {w : World} {id : Nat} {l : List Oper} (hd : List Bool) (ts : List Nat) (lt f : Nat) (ks : List Nat) (ds : List Nat) (wss : List (List Nat)) (Fs : (Nat → Prop) → List Fact) {Gs : (Nat → Prop) → List Fact} (hG : Fs = Gs) (R0 : Nat → Prop) (hR0 : ∀ y, w.heap.size ≤ y → R0 y) (al dA : Nat) {tA : TypeId} {oA : Oper} {cA : Array Value} {lo : Nat} (hlo : lo ≤ w.heap.size) (hdA : ds[al]? = some dA) (hoA : l[al]? = some oA) (hoA2 : AlOp P tA cA dA oA) (hFA : ∀ R, ∃ h, (Fs R)[al]? = some (.gen (alF tA cA lo) h))
    (hcv : ∀ n, Cvs n (Fs R0) (Fs fun y => R0 y ∧ y ≠ n)) (hm : P.follows .mixedOrders = true) (hB : dagPB N hd 0 l ds wss hd = true) (hn : nodupB ds = true)
    (hAt : hd[al]? = some true) (hT : (tailLB l hd ts lt f && permB l.toArray ts hd.toArray) = true) (hL : lateB l.toArray hd ts lt f al ks = true) (hN : Nat.beq (leftH hd (List.replicate l.length false) + ts.length) l.length = true)
    (steps : ∀ w1, Ext w w1 → ∀ RR : Nat → Prop, (∀ y, y < w.heap.size → R0 y → RR y) → (∀ y, w1.heap.size ≤ y → RR y) → DagStepsP P N ds (Fs RR) σ w1 l wss hd (Gs RR))
    (k : ∀ σ' w' (RR : Nat → Prop) β, Ext w w' → (∀ t, ds.contains t = false → σ' t = σ t) → (∀ y, RR y → R0 y ∧ y ≠ β) → σ' dA = .pointer (some ⟨β, 0, none⟩) → (∀ j, hd[j]? = some true → Holds ds (Fs RR) j σ' w') → WpL P N l.toArray (Q .normal) Q (ts.filterMap fun k => l[k]?) σ' w')
    (k2 : hd.getD lt false = true → ∀ σ' w' (RR : Nat → Prop) β, Ext w w' → (∀ t, ds.contains t = false → σ' t = σ t) → (∀ y, RR y → R0 y ∧ y ≠ β) → σ' dA = .pointer (some ⟨β, 0, none⟩) → (∀ j, hd[j]? = some true → j ≠ lt → Holds ds (Fs RR) j σ' w') → WpL P N l.toArray (Q .normal) Q ((f :: ks).filterMap fun k => l[k]?) σ' w') : Wp P N (.region id l.toArray true) Q σ w := by
  intro a ha he
  have eQ : lift N (thn (Q .normal) Q) = lift N Q := by funext e a w; cases e <;> rfl
  refine wp_region_any hm ?_
  obtain ⟨w1, hw1⟩ : ∃ w1 : World, w1 = { w with drawn := w.drawn + 1 } := ⟨_, rfl⟩
  have hE1 : Ext w w1 := by rw [hw1]; exact drew_ext w
  rw [← hw1]
  have hst0 := steps w1 hE1 R0 (fun y _ h => h) (fun y hy => hR0 y (by have := hE1.size; omega))
  rw [← hG] at hst0
  rw [Bool.and_eq_true] at hT
  obtain ⟨hT1, hT2⟩ := hT
  obtain ⟨hlen, hlen2⟩ := dagPB_len hB
  obtain ⟨hopA, hAft, hGA⟩ := hoA2
  have key : ∀ (m : Nat) (RR : Nat → Prop) (wB : World) (listed : Array Bool) (a : Act) (w' : World), DagStepsP P N ds (Fs RR) σ wB l wss hd (Fs RR) → Ext w wB → (listed.getD al false = false → RR = R0) → (listed.getD al false = true → ∃ β, (∀ y, RR y → R0 y ∧ y ≠ β) ∧ env a dA = .pointer (some ⟨β, 0, none⟩)) → leftH hd listed.toList = m → listed.size = l.length → (∀ (t : Nat), hd[t]? = some false → listed.toList[t]? = some false) → Ok N a → Ext wB w' → (∀ t, ds.contains t = false → env a t = σ t) → (∀ j, hd[j]? = some true → listed.getD j false = true → Holds ds (Fs RR) j (env a) w') →
      wpAny P .any l.toArray (lift N Q) (m + ts.length) listed a w' := by
    intro m
    induction m with
    | zero =>
      intro RR wB listed a w' hst hEB hA1 hA2 hc0 hsz htl ha hx hu hh
      have hl : listed = hd.toArray := by
        apply Array.ext'
        exact leftH_zero (by simp; omega) hc0 htl
      have hlA : listed.getD al false = true := by
        rw [hl]
        exact getD_arr (by simpa using hAt)
      rw [Nat.zero_add]
      obtain ⟨β, hβ1, hβ2⟩ := hA2 hlA
      have h1 := k (env a) w' RR β (hEB.trans hx) hu hβ1 hβ2 (fun j hj => hh j hj (getD_arr (by rw [hl]; exact hj))) a ha rfl
      rw [eQ] at h1
      exact wpAny_of_perm ts listed a w' (by rw [hl]; exact hT2) (by simpa using h1)
    | succ m ih =>
      intro RR wB listed a w' hst hEB hA1 hA2 hcm hsz htl ha hx hu hh
      obtain ⟨i0, hi0, hi1⟩ := leftH_pos (hd := hd) (listed := listed.toList) (by omega)
      rw [show m + 1 + ts.length = (m + ts.length) + 1 by omega]
      refine ⟨fun hr => ?_, fun i hi => ?_⟩
      · exfalso
        have hall : ∀ i : Nat, hd[i]? = some true → listed.getD i true = true := by
          intro i
          induction i using Nat.strongRecOn with
          | _ i ihi =>
            intro hi
            cases hv : listed.getD i true with
            | true => rfl
            | false =>
              exfalso
              obtain ⟨o, ho⟩ := get_of_lt (l := l) (i := i) (by have := lt_of_get hi; omega)
              obtain ⟨d, ws, h, _, _, h2, h3⟩ := dagPB_get hB ho
              rw [hi] at h2
              cases h2
              simp only [cond_true, Bool.and_eq_true, Nat.zero_add] at h3
              have : i ∈ Region.ready .any l.toArray listed := by
                refine mem_ready.2 ⟨hv, o, by simpa using ho, fun e he hb => ?_⟩
                have h4 := h3.1
                simp only [dagOne, Bool.and_eq_true, Array.all_eq_true_iff_forall_mem, Bool.or_eq_true, Bool.not_eq_true'] at h4
                have h5 := h3.2.1
                simp only [Array.all_eq_true_iff_forall_mem, Bool.or_eq_true, Bool.not_eq_true'] at h5
                have h6 := (h4.1.2 e he).resolve_left (by simp [hb])
                have hlt : e.on < i := by simpa [Nat.blt_eq] using h6
                have h7 := (h5 e he).resolve_left (by simp [hb])
                have hj0 : e.on < hd.length := by have := lt_of_get hi; omega
                have h8 : hd[e.on]? = some true := by
                  rw [List.getD_eq_getElem?_getD, List.getElem?_eq_getElem hj0, Option.getD_some] at h7
                  rw [List.getElem?_eq_getElem hj0, h7]
                have h9 := ihi e.on hlt h8
                have hj : e.on < listed.size := by omega
                simpa only [Array.getD_eq_getD_getElem?, Array.getElem?_eq_getElem hj, Option.getD_some] using h9
              rw [hr] at this
              cases this
        have := hall i0 hi0
        rw [getD_arr hi1] at this
        cases this
      · obtain ⟨h1, o, h2, h3⟩ := mem_ready.1 hi
        have ho : l[i]? = some o := by simpa using h2
        have hil : i < l.length := lt_of_get ho
        by_cases hih : hd[i]? = some true
        rotate_left
        · -- one of the tail: all of the head but one are listed
          have hb : hd[i]? = some false := by
            obtain ⟨b, hb⟩ := get_of_lt (l := hd) (i := i) (by omega)
            cases b with
            | true => exact absurd hb hih
            | false => exact hb
          have h4 := List.all_eq_true.1 hT1 i (List.mem_range.2 hil)
          rw [List.getD_eq_getElem?_getD, hb, Option.getD_some, Bool.false_or, Bool.and_eq_true] at h4
          have edge : ∀ u, edgeB l i u = true → listed.getD u false = true := fun u hu' => by
            unfold edgeB at hu'
            rw [ho] at hu'
            simp only [Array.any_eq_true', Bool.and_eq_true] at hu'
            obtain ⟨e, he, hb1, hb2⟩ := hu'
            have := Nat.eq_of_beq_eq_true hb2
            rw [← this]
            exact h3 e he hb1
          cases hif : Nat.beq i f with
          | false =>
            exfalso
            rw [hif, cond_false] at h4
            obtain ⟨p, _, h6⟩ := List.any_eq_true.1 h4.2
            rw [Bool.and_eq_true, Bool.not_eq_true'] at h6
            have h7 := edge p h6.2
            have hp : hd[p]? = some false := by
              have h8 := h6.1
              rw [List.getD_eq_getElem?_getD] at h8
              cases h9 : hd[p]? with
              | none => rw [h9] at h8; cases h8
              | some b => rw [h9, Option.getD_some] at h8; rw [h8]
            rw [getD_arr (htl p hp)] at h7
            cases h7
          | true =>
            rw [hif, cond_true] at h4
            have hfi : i = f := Nat.eq_of_beq_eq_true hif
            have hdone : ∀ u, hd[u]? = some true → u ≠ lt → listed.getD u false = true := fun u hu1 hu2 => by
              have h6 := List.all_eq_true.1 h4.2 u (List.mem_range.2 (by have := lt_of_get hu1; omega))
              rw [List.getD_eq_getElem?_getD, hu1, Option.getD_some, Bool.not_true, Bool.false_or, Bool.or_eq_true] at h6
              rcases h6 with h6 | h6
              · exact absurd (Nat.eq_of_beq_eq_true h6) hu2
              · exact edge u h6
            have hi0l : i0 = lt := Classical.byContradiction fun hne => by
              have := hdone i0 hi0 hne
              rw [getD_arr hi1] at this; cases this
            subst hi0l
            have hlE : listed.toList = hd.set i0 false := by
              apply List.ext_getElem?
              intro t
              rw [List.getElem?_set]
              by_cases ht : i0 = t
              · subst ht
                rw [if_pos rfl, if_pos (lt_of_get hi0)]
                exact hi1
              · rw [if_neg ht]
                cases h9 : hd[t]? with
                | none => exact List.getElem?_eq_none (by have := List.getElem?_eq_none_iff.1 h9; simp; omega)
                | some b =>
                  cases b with
                  | false => exact htl t h9
                  | true =>
                    have h10 := hdone t h9 (Ne.symm ht)
                    have h11 : t < listed.size := by have := lt_of_get h9; omega
                    simp only [Array.getD_eq_getD_getElem?, Array.getElem?_eq_getElem h11, Option.getD_some] at h10
                    rw [Array.getElem?_toList, Array.getElem?_eq_getElem h11, h10]
            have hm0 : m = 0 := by
              have h9 := leftH_set hi0 hi1
              have h10 : listed.toList.set i0 true = hd := by
                rw [hlE, List.set_set]
                apply List.ext_getElem?
                intro t
                rw [List.getElem?_set]
                by_cases ht : i0 = t
                · subst ht; rw [if_pos rfl, if_pos (lt_of_get hi0), hi0]
                · rw [if_neg ht]
              rw [h10, leftH_self] at h9
              omega
            subst hm0
            have hgd : hd.getD i0 false = true := by rw [List.getD_eq_getElem?_getD, hi0, Option.getD_some]
            unfold lateB at hL
            rw [hgd, Bool.not_true, Bool.false_or, Bool.and_eq_true, Bool.and_eq_true, Bool.not_eq_true'] at hL
            obtain ⟨hp1, hp2, hp3⟩ := hL
            have hp2 := Nat.eq_of_beq_eq_true hp2
            have hne : al ≠ i0 := fun e => by rw [e, Nat.beq_refl] at hp3; cases hp3
            obtain ⟨β, hβ1, hβ2⟩ := hA2 (hdone al hAt hne)
            have h9 := k2 hgd (env a) w' RR β (hEB.trans hx) hu hβ1 hβ2 (fun j hj hjn => hh j hj (hdone j hj hjn)) a ha rfl
            rw [eQ] at h9
            have h9' : wpList P l.toArray (lift N Q) ((f :: ks).filterMap fun k => l.toArray[k]?) a w' := by simpa using h9
            have hw : wpOp P l.toArray (lift N Q) i (wpList P l.toArray (lift N Q) (ks.filterMap fun k => l.toArray[k]?)) a w' := by
              rw [List.filterMap_cons, ← hfi, h2] at h9'
              unfold wpOp; simp only [h2]; exact h9'
            rw [Nat.zero_add, ← hp2]
            refine wpOp_mono (fun a2 w2 h10 => wpAny_of_perm ks _ a2 w2 ?_ h10) hw
            have hle : listed.setIfInBounds i true = (((hd.set i0 false).set f true).toArray) := by
              apply Array.ext'
              rw [Array.toList_setIfInBounds, hlE, hfi]
            rw [hle]; exact hp1
        obtain ⟨d, ws, h, hd', hws, hhs, h4⟩ := dagPB_get hB ho
        rw [hih] at hhs
        cases hhs
        obtain ⟨ws', F, hws', hF, hstep⟩ := hst.get ho hih
        rw [hws] at hws'
        cases hws'
        simp only [cond_true, Bool.and_eq_true, Nat.zero_add] at h4
        have hgB := h4.2.2
        have h4 := h4.1
        simp only [dagOne, Bool.and_eq_true, List.all_eq_true, Array.any_eq_true', Array.all_eq_true_iff_forall_mem, Bool.or_eq_true, Bool.not_eq_true'] at h4
        obtain ⟨⟨⟨hdst, hdN⟩, _⟩, hwait⟩ := h4
        have hdst : o.dst = some d := by
          split at hdst
          · rename_i d' h; rw [h, Nat.eq_of_beq_eq_true hdst]
          · cases hdst
        have hdN : d < N := by simpa [Nat.blt_eq] using hdN
        have hH : ∀ j, ws.contains j = true → Holds ds (Fs RR) j (env a) w' := by
          intro j hj
          have hj' : j ∈ ws := by simpa using hj
          obtain ⟨e, he, hb⟩ := hwait j hj'
          obtain ⟨hb1, hb2⟩ := hb
          have hej : e.on = j := Nat.eq_of_beq_eq_true hb2
          have hl1 := h3 e he hb1
          rw [hej] at hl1
          refine hh j ?_ hl1
          obtain ⟨b, hb⟩ := get_of_lt (l := hd) (i := j) (by
            rcases Nat.lt_or_ge j listed.size with h9 | h9
            · omega
            · simp [Array.getD_eq_getD_getElem?, Array.getElem?_eq_none h9] at hl1)
          cases b with
          | true => exact hb
          | false => rw [getD_arr (htl j hb)] at hl1; cases hl1
        have gd : ∀ j b, o.guard = some (j, b) → ∀ dj, ds[j]? = some dj → (∃ oj, l[j]? = some oj ∧ oj.dst = some dj) ∧ dj < N := fun j b hgd dj hdj => by
          obtain ⟨oj, hoj⟩ := get_of_lt (l := l) (i := j) (by have := lt_of_get hdj; omega)
          obtain ⟨dj', _, hj, hdj', _, h5, h6⟩ := dagPB_get hB hoj
          rw [hdj] at hdj'
          cases hdj'
          unfold guardB at hgB
          rw [hgd] at hgB
          simp only at hgB
          have h7 : hj = true := by rw [List.getD_eq_getElem?_getD, h5, Option.getD_some] at hgB; exact hgB
          rw [h7] at h6
          simp only [cond_true, Bool.and_eq_true, dagOne] at h6
          obtain ⟨⟨⟨hdst2, hdN2⟩, _⟩, _⟩ := h6.1
          refine ⟨⟨oj, hoj, ?_⟩, by simpa [Nat.blt_eq] using hdN2⟩
          split at hdst2
          · rename_i d' h; rw [h, Nat.eq_of_beq_eq_true hdst2]
          · cases hdst2
        have cont0 : ∀ (R2 : Nat → Prop) (wC : World) v w2, DagStepsP P N ds (Fs R2) σ wC l wss hd (Fs R2) → Ext w wC → Ext wC w2 → ((listed.setIfInBounds i true).getD al false = false → R2 = R0) → ((listed.setIfInBounds i true).getD al false = true → ∃ β, (∀ y, R2 y → R0 y ∧ y ≠ β) ∧ upd (env a) d v dA = .pointer (some ⟨β, 0, none⟩)) → (∀ F, (Fs R2)[i]? = some F → F.In v w2) → (∀ j, j ≠ i → hd[j]? = some true → listed.getD j false = true → Holds ds (Fs R2) j (env a) w2) → wpAny P .any l.toArray (lift N Q) (m + ts.length) (listed.setIfInBounds i true) (a.put o.dst v) w2 := by
          intro R2 wC v w2 hst2 hEC hxC hB1 hB2 hv hh2
          have henv : env (a.put o.dst v) = upd (env a) d v := by rw [hdst]; exact env_put ha hdN v
          have hlf : listed.toList[i]? = some false := by
            have hj : i < listed.size := by omega
            simp only [Array.getD_eq_getD_getElem?, Array.getElem?_eq_getElem hj, Option.getD_some] at h1
            rw [Array.getElem?_toList, Array.getElem?_eq_getElem hj, h1]
          refine ih R2 wC _ _ _ hst2 hEC hB1 (fun h => by obtain ⟨β, h5, h6⟩ := hB2 h; exact ⟨β, h5, by rw [henv]; exact h6⟩) ?_ (by simpa using hsz) (fun t ht => ?_) (ha.put _ _) hxC ?_ ?_
          · rw [Array.toList_setIfInBounds]
            have := leftH_set hih hlf
            omega
          · rw [Array.toList_setIfInBounds, List.getElem?_set]
            have hne : i ≠ t := fun e => by rw [← e, hih] at ht; cases ht
            rw [if_neg hne]
            exact htl t ht
          · intro t ht
            rw [henv, ← hu t ht]
            simp only [upd]
            cases hb : Nat.beq t d
            · rfl
            · exfalso
              have : t = d := Nat.eq_of_beq_eq_true hb
              subst this
              have := List.mem_of_getElem? hd'
              simp [this] at ht
          · intro j hjh hj d' F' hd'' hF'
            rw [henv]
            by_cases hij : j = i
            · subst hij
              rw [hd'] at hd''; cases hd''
              simp only [upd, Nat.beq_refl, cond_true]
              exact hv _ hF'
            · have hne : Nat.beq d' d = false := by
                cases hb : Nat.beq d' d
                · rfl
                · exfalso
                  have : d' = d := Nat.eq_of_beq_eq_true hb
                  subst this
                  exact hij (nodupB_get hn hd'' hd')
              simp only [upd, hne, cond_false]
              rw [getD_set_ne _ (Ne.symm hij)] at hj
              exact hh2 j hij hjh hj d' F' hd'' hF'
        by_cases hia : i = al
        · -- the new variable itself
          subst hia
          rw [hoA] at ho; cases ho
          rw [hdA] at hd'; cases hd'
          have hA0 := hA1 (getD_both h1)
          subst hA0
          obtain ⟨z, rt, pos, af, hz, hzc, hop⟩ := hopA
          have hw : Region.wanted oA (yielded l.toArray a.tmps) = true := by simp [Region.wanted, hGA]
          have hdo : Does P N oA (fun v w2 => v = .pointer (some ⟨w'.heap.size, 0, none⟩) ∧ Blk w2 w'.heap.size cA tA ∧ w'.heap.size < w2.heap.size) (env a) w' := by
            subst hop
            subst hzc
            have hn := New.mk' w' z.cells tA
            exact Does_val (v := .pointer (some ⟨w'.heap.size, 0, none⟩)) (by simp [execOp, Instr.alloc, hz.run, newVar, newRow]) hn.ext ⟨rfl, hn.blk, hn.blk.lt⟩
          unfold wpOp
          simp only [h2, hw, if_true]
          refine Or.inl (hdo a ha rfl _ _ ?_)
          rintro v w2 hx2 ⟨rfl, hblk, hlt⟩
          have hEB2 := hEB.trans hx
          have hs1 := hEB2.size
          have hst2 := steps w2 (hEB2.trans hx2) (fun y => RR y ∧ y ≠ w'.heap.size) (fun y hy h => ⟨h, by omega⟩) (fun y hy => ⟨hR0 y (by omega), by omega⟩)
          rw [← hG] at hst2
          refine cont0 _ w2 _ w2 hst2 (hEB2.trans hx2) (Ext.refl _) (fun h => ?_) (fun _ => ⟨w'.heap.size, fun y h => h, by simp [upd]⟩) (fun F2 hF2 => ?_) (fun j hij hjh hj => ?_)
          · rw [getD_arr (b := true) (by rw [Array.toList_setIfInBounds, List.getElem?_set, if_pos rfl, if_pos (by simpa using (by omega : i < listed.size))])] at h; cases h
          · obtain ⟨h5, h6⟩ := hFA fun y => RR y ∧ y ≠ w'.heap.size
            rw [h6] at hF2; cases hF2
            exact ⟨_, rfl, hblk, by omega⟩
          · intro dj Fj hdj hFj
            obtain ⟨F0, hF0, hc⟩ := (hcv w'.heap.size).get hFj
            exact Fact.ext (hc _ _ rfl (hh j hjh hj dj F0 hdj hF0)) hx2
        have cont : ∀ v w2, Ext w' w2 → F.In v w2 → wpAny P .any l.toArray (lift N Q) (m + ts.length) (listed.setIfInBounds i true) (a.put o.dst v) w2 := by
          intro v w2 hx2 hv
          refine cont0 RR wB v w2 hst hEB (hx.trans hx2) (fun h => hA1 (by rw [getD_set_ne _ (by omega : i ≠ al)] at h; exact h)) (fun h => ?_) (fun F2 hF2 => by rw [hF] at hF2; cases hF2; exact hv) (fun j _ hjh hj d3 F3 hd3 hF3 => Fact.ext (hh j hjh hj d3 F3 hd3 hF3) hx2)
          rw [getD_set_ne _ (by omega : i ≠ al)] at h
          obtain ⟨β, h5, h6⟩ := hA2 h
          refine ⟨β, h5, ?_⟩
          have hne : Nat.beq dA d = false := by
            cases hb : Nat.beq dA d
            · rfl
            · exfalso
              have : dA = d := Nat.eq_of_beq_eq_true hb
              subst this
              exact hia (nodupB_get hn hd' hdA)
          simp only [upd, hne, cond_false]
          exact h6
        rcases hstep (env a) w' hx hu hH with ⟨hg, hdo⟩ | ⟨⟨j, b, dj, hgd, hdj, hvj⟩, hund⟩
        · have hw : Region.wanted o (yielded l.toArray a.tmps) = true := by
            cases hgd : o.guard with
            | none => simp [Region.wanted, hgd]
            | some p =>
              obtain ⟨j, b⟩ := p
              obtain ⟨dj, hdj, hvj⟩ := hg j b hgd
              obtain ⟨hdst2, hdN2⟩ := gd j b hgd dj hdj
              have h6 : a.tmps[dj]? = some (Value.bool b) := by
                have h2 : a.tmps.getD dj undef = .bool b := hvj
                have hlt : dj < a.tmps.size := by rw [ha.size]; exact hdN2
                rw [Array.getElem?_eq_getElem hlt]
                simpa [hlt] using h2
              obtain ⟨oj, hoj, hdst2⟩ := hdst2
              simp [Region.wanted, hgd, yielded, hoj, hdst2, h6]
          unfold wpOp
          simp only [h2, hw, if_true]
          exact Or.inl (hdo a ha rfl _ _ cont)
        · have hw : Region.wanted o (yielded l.toArray a.tmps) = false := by
            obtain ⟨hdst2, hdN2⟩ := gd j b hgd dj hdj
            have hlt : dj < a.tmps.size := by rw [ha.size]; exact hdN2
            have h6 : a.tmps[dj]? = some (env a dj) := by
              rw [Array.getElem?_eq_getElem hlt]
              simp [env, hlt]
            obtain ⟨oj, hoj, hdst2⟩ := hdst2
            rcases hvj with hvj | hvj
            · rw [hvj] at h6
              cases b <;> simp [Region.wanted, hgd, yielded, hoj, hdst2, h6]
            · rw [hvj] at h6
              simp [Region.wanted, hgd, yielded, hoj, hdst2, h6, undef]
          unfold wpOp
          simp only [h2, hw, Bool.false_eq_true, if_false]
          exact cont undef w' (Ext.refl _) hund
  have h1 := key (leftH hd (Array.replicate l.toArray.size false).toList) R0 w1 (Array.replicate l.toArray.size false) a w1 hst0 hE1 (fun _ => rfl) (fun h => by rw [getD_replicate_false] at h; cases h) rfl (by simp) (fun t ht => by have h9 := lt_of_get ht; rw [Array.toList_replicate, List.getElem?_replicate, if_pos (by rw [List.size_toArray]; omega)]) ha (Ext.refl _) (fun t _ => by rw [he]) (fun j _ hj => by rw [getD_replicate_false] at hj; cases hj)
  have e3 : leftH hd (Array.replicate l.toArray.size false).toList + ts.length = l.toArray.size := by have h9 := Nat.eq_of_beq_eq_true hN; simpa using h9
  rw [e3] at h1
  exact h1
end Go.Eng
namespace Go.Proofs
open Go Go.Eng Go.Sort
set_option maxRecDepth 100000
theorem reG_ne {S : Nat → Prop} {x : Re} {v : Value} {w : World} {n : Nat} (e : w.heap.size = n) (h : reG S x v w) : reG (fun y => S y ∧ y ≠ n) x v w := by
 obtain ⟨sa, sc, aa, ac, h1, h2⟩ := h
 exact ⟨sa, sc, aa, ac, h1, ReIn.mono (fun y hy => ⟨hy.1, by omega⟩) x (ReIn.lt x h2)⟩
theorem rsG_ne {S : Nat → Prop} {l : List Re} {v : Value} {w : World} {n : Nat} (e : w.heap.size = n) (h : rsG S l v w) : rsG (fun y => S y ∧ y ≠ n) l v w := by
 obtain ⟨b, h1, h2⟩ := h
 exact ⟨b, h1, rs_mono (fun y hy => ⟨hy.1, by omega⟩) (RsIn.lt h2)⟩
theorem rs_tail {S : Nat → Prop} {w : World} {ab ao ac : Nat} {x : Re} {l : List Re} (h : RsIn S w (.slice (some ⟨ab, ao, none⟩) (x :: l).length ac) (x :: l)) : RsIn S w (.slice (some ⟨ab, ao + 6, none⟩) l.length (ac - 1)) l := by
 obtain ⟨aa, ac', h1, h2, h3⟩ := h
 simp only [Value.slice.injEq, true_and] at h1
 obtain ⟨rfl, rfl⟩ := h1
 obtain ⟨b, o, h4, h5, h6⟩ := h3.resolve_left (by simp)
 simp only [Option.some.injEq, Addr.mk.injEq, and_true] at h5
 obtain ⟨rfl, rfl⟩ := h5
 simp only [List.length_cons] at h2
 simp only [ResIn] at h6
 exact ⟨_, _, rfl, by omega, .inr ⟨_, _, h4, rfl, h6.2⟩⟩
theorem cat_rest {l : List Re} (h : ∀ y ∈ l, y.kind ≠ 0 ∧ y.kind ≠ 1 ∧ y.kind ≠ 3) : catD l = wrapT 3 emptyT l := by
  have h1 : flatT 3 l = l := by
    induction l with
    | nil => rfl
    | cons y l ih =>
      have hy := h y (by simp)
      have hl := ih fun z hz => h z (by simp [hz])
      unfold flatT at hl ⊢
      rw [List.flatMap_cons, hl]
      simp [hy]
  have h2 : delT isEmptyB l = l := List.filter_eq_self.2 fun y hy => by
    have := h y hy
    simp [isEmptyB, this]
  have h3 : l.any isNoneB = false := by
    rw [List.any_eq_false]
    intro y hy
    have := h y hy
    simp [isNoneB, this]
  unfold catD
  simp only [h1, h2, h3]
  simp
theorem stepC_rest (c : Int) {l : List Re} (h : l ≠ []) : stepR c (wrapT 3 emptyT l) = stepC c l := by
  match l, h with
  | [y], _ => simp [wrapT, stepC]
  | y :: z :: l, _ => show stepR c (.mk 3 [] (y :: z :: l) 0 0 false) = _; simp [stepR]
theorem pre4 (l : List Re) : PreN 4 [] l 0 0 false := ⟨by omega, rfl, fun _ => rfl, fun _ => ⟨rfl, rfl⟩, by omega, by omega, by omega, by omega⟩
theorem st3' {c : Int} {t x : Re} {l : List Re} (h : t.kind = 3) (ha : t.args = x :: l) (hl : l ≠ []) : stepR c t = if emptR x = true then nodeS (.mk 4 [] [catD [stepR c x, wrapT 3 emptyT l], stepR c (wrapT 3 emptyT l)] 0 0 false) else catD [stepR c x, wrapT 3 emptyT l] := by
 rw [st3 h, ha, stepC_rest c hl]
 conv => lhs; unfold stepC
 rw [if_neg hl]
 rfl
set_option maxHeartbeats 2000000 in
theorem step_k3 (c : Int) (n : Nat) (ih : StepOk c n) (t : Re) (hn : t.size ≤ n) (h300 : t.size ≤ 300) (hok : SimOk t) (hk : t.kind = 3) (w0 : World) (S : Nat → Prop) (vs : List Value) (ht : ReIn S w0 t vs) (hS : ∀ x, S x → x < w0.heap.size) :
    Ret Try.prog 17 #[.agg vs.toArray, .int .i64 c] w0 fun r w => (∃ us, r = .agg us.toArray ∧ ReIn (fun b => S b ∨ w0.heap.size ≤ b) w (stepR c t) us) ∧ Ext w0 w := by
  have ht0 := ht
  obtain ⟨sa, sc, aa, ac, rfl, hset, hlen, hargs⟩ := ht.form
  have hRs : RsIn S w0 (.slice aa t.args.length ac) t.args := rs_in ht0
  have hal := len_lt_size t
  have hszt := t.size_eq
  obtain ⟨hk2, hk3⟩ := hok.n.k3 hk
  obtain ⟨x, l, hax, hl0⟩ : ∃ x l, t.args = x :: l ∧ l ≠ [] := by
    match h : t.args with
    | [] => rw [h] at hk2; simp at hk2
    | [y] => rw [h] at hk2; simp at hk2
    | y :: z :: l => exact ⟨y, z :: l, rfl, by simp⟩
  have hkl : ∀ y ∈ l, y.kind ≠ 0 ∧ y.kind ≠ 1 ∧ y.kind ≠ 3 := fun y hy => hk3 y (by rw [hax]; simp [hy])
  have hox : SimOk x := hok.a x (by rw [hax]; simp)
  have hol : ∀ y ∈ l, SimOk y := fun y hy => hok.a y (by rw [hax]; simp [hy])
  have hx : t.args[0]? = some x := by rw [hax]; rfl
  have hal1 : t.args.length = l.length + 1 := by rw [hax]; rfl
  have hl1 : 0 < l.length := List.length_pos_iff.2 hl0
  have hxz := Re.size_arg hx
  obtain ⟨ab, ao, hab, rfl, hres⟩ := hargs.resolve_left (fun h => by rw [h] at hx; cases hx)
  obtain ⟨us, hus, hxt⟩ := hres.get hx
  have hxt0 := hxt
  obtain ⟨xsa, xsc, xaa, xac, rfl, _, _, _⟩ := hxt.form
  have hRl : RsIn S w0 (.slice (some ⟨ab, ao + 6, none⟩) l.length (ac - 1)) l := by
    refine rs_tail (x := x) ?_
    rw [← hax]; exact hRs
  obtain ⟨R, hR⟩ : ∃ R, R = wrapT 3 emptyT l := ⟨_, rfl⟩
  have hRc : catD l = R := by rw [hR]; exact cat_rest hkl
  have hRo : SimOk R := by rw [hR]; exact wrap_ok hol hkl
  have hszl : t.size = x.size + Re.sizes l + 1 := by rw [hszt, hax]; simp only [Re.sizes]
  have hRz : R.size ≤ Re.sizes l + 1 := by rw [hR]; exact wrap_size l
  have hxp := x.size_pos
  obtain ⟨D, hD⟩ : ∃ D, D = stepR c x := ⟨_, rfl⟩
  obtain ⟨F, hF⟩ : ∃ F, F = catD [D, R] := ⟨_, rfl⟩
  obtain ⟨G, hG⟩ : ∃ G, G = stepR c R := ⟨_, rfl⟩
  obtain ⟨N, hN⟩ : ∃ N, N = nodeS (.mk 4 [] [F, G] 0 0 false) := ⟨_, rfl⟩
  have hDo : SimOk D := by rw [hD]; exact step_ok c hox
  have hGo : SimOk G := by rw [hG]; exact step_ok c hRo
  have hst : stepR c t = if emptR x = true then N else F := by rw [hN, hG, hF, hD, hR]; exact st3' hk hax hl0
  have hDz : D.size ≤ 200000 := by rw [hD]; exact step_small hox (by omega)
  have hGz : G.size ≤ 200000 := by rw [hG]; exact step_small hRo (by omega)
  have hFo : SimOk F := by
    rw [hF]
    refine catD_ok fun z hz => ?_
    simp only [List.mem_cons, List.not_mem_nil, or_false] at hz
    rcases hz with rfl | rfl
    · exact hDo
    · exact hRo
  have hFz : F.size ≤ 200400 := by
    have := catD_size [D, R]
    rw [← hF] at this
    simp only [Re.sizes] at this
    omega
  rw [hst]
  clear hst hszt hk2 hk3
  refine Ret_of Try.func17 rfl Try.ntmps17 (Nat.le_of_ble_eq_true rfl) ?_
  have E : Chg none1 w0 w0 := Chg.refl _ _
  refine Wp_seq_region ?_
  refine s_box (v := (.agg (R6 t sa sc (some ⟨ab, ao, none⟩) ac))) (c := (R6 t sa sc (some ⟨ab, ao, none⟩) ac)) (by decide) rfl rfl ?_
  intro br wr Nr
  have Fr := Nr.ge E
  replace E := E.ext Nr.ext
  have Br := Nr.blk
  refine s_alloc (c := #[(I6 0), (.slice none 0 0), (.slice none 0 0), (I6 0), (I6 0), (.bool false)]) (by decide) zer27 rfl ?_
  intro bo wo No
  have Fo := No.ge E
  have Oo_br := No.lt Br
  replace Br := No.keep Br
  replace E := E.ext No.ext
  have Bo := No.blk
  refine WpL_nil (Wp_seq (Wp_seq_region ?_))
  refine qF br 0 0 rfl Try.underlying27 rfl siz3 rfl ?_
  refine qV (r_load (v := (I6 t.kind)) rfl flat3 (Br.cell rfl)) ?_
  refine WpL_nil (Wp_block (Wp_seq_region ?_))
  refine qV (r_eql (k := .i64) (a := t.kind) (b := 2) rfl rfl) ?_
  refine qA (.bool (decide ((t.kind : Int) = 2))) rfl ?_
  refine WpL_nil ?_
  obtain ⟨n1, hn1⟩ : ∃ n1, n1 = wo.heap.size := ⟨_, rfl⟩
  have hob : br < n1 ∧ bo < n1 ∧ w0.heap.size ≤ bo ∧ w0.heap.size ≤ n1 := ⟨by rw [hn1]; exact Br.lt, by rw [hn1]; exact Bo.lt, by omega, by rw [hn1]; exact E.size⟩
  have hn1w : n1 ≤ wo.heap.size := by omega
  have E1 : Chg none1 wo wo := Chg.refl _ _
  have hc1 : (decide ((t.kind : Int) = 2)) = false := decide_eq_false (by omega)
  refine Wp_cond_false (congrArg Value.bool hc1) ?_
  refine Wp_seq_region ?_
  refine qV (r_eql (k := .i64) (a := t.kind) (b := 3) rfl rfl) ?_
  refine qA (.bool (decide ((t.kind : Int) = 3))) rfl ?_
  refine WpL_nil ?_
  have hc2 : (decide ((t.kind : Int) = 3)) = true := decide_eq_true hk
  refine Wp_cond_true (congrArg Value.bool hc2) ?_
  refine Wp_seq_region ?_
  refine qF br 0 2 rfl Try.underlying27 rfl siz25 rfl ?_
  refine qV (r_load (v := (.slice (some ⟨ab, ao, none⟩) t.args.length ac)) rfl flat25 (Br.cell rfl)) ?_
  obtain ⟨a24, ha24⟩ : ∃ a' : Option Addr, (if ac = 1 then (some ⟨ab, ao, none⟩) else Option.map (fun q : Addr => q.add (1 * 6)) (some ⟨ab, ao, none⟩)) = a' := ⟨_, rfl⟩
  refine qV (r_sliceLo (a := (some ⟨ab, ao, none⟩)) (len := t.args.length) (cap := ac) (lo := 1) (l := 1) (n' := l.length) (c' := ac - 1) Try.underlying25 siz27 rfl rfl (by omega) (by omega) ha24 (by omega) (by omega)) ?_
  have ha24' : a24 = some ⟨ab, ao + 6, none⟩ := by rw [← ha24, if_neg (by omega)]; rfl
  rw [← ha24'] at hRl
  refine WpL_enter rfl rfl (by decide) (r_callF (vs := [(.slice a24 l.length (ac - 1))]) Try.func34 nm34 bd34 rfl) ((clonere_c _ S _ l (hRl.ext E) hl0 (by omega)).mono (R' := fun r w => (∃ a c, r = .slice a l.length c ∧ RsIn (fun b => S b ∨ n1 ≤ b) w r l) ∧ Ext wo w) (fun r w h => ⟨by obtain ⟨⟨a, c, h1, h2⟩, _⟩ := h; exact ⟨a, c, h1, rs_mono (fun b hb => by rcases hb with h1 | h1; exact .inl h1; exact .inr (by omega)) h2⟩, h.2⟩)) ?_
  rintro _ w25 ⟨⟨ca, cc, rfl, hcl⟩, X25⟩
  replace Br := X25.keep Br
  replace Bo := X25.keep Bo
  replace E := E.ext X25
  replace E1 := E1.ext X25
  obtain ⟨h25, hh25⟩ : ∃ h, h = w25.heap.size := ⟨_, rfl⟩
  refine WpL_enter rfl rfl (by decide) (r_callF (vs := [(.slice ca l.length cc)]) Try.func33 nm33 bd33 rfl) ((dcat_c _ _ _ l (RsIn.lt hcl) (fun y hy => hy.2) (fun y hy hk => by have := hkl y hy; omega) (by omega)).mono (R' := fun r w => reG (fun b => S b ∨ n1 ≤ b) R r w ∧ Ext w25 w) (fun r w h => ⟨reG_of (S' := fun b => ((S b ∨ n1 ≤ b) ∧ b < w25.heap.size) ∨ w25.heap.size ≤ b) (fun b hb => by rcases hb with h1 | h1; exact h1.1; exact .inr (by have := X25.size; omega)) (by rw [← hRc]; exact h.1), h.2⟩)) ?_
  rintro _ w26 ⟨⟨xa, xc, ya, yc, rfl, hR0⟩, X26⟩
  replace Br := X26.keep Br
  replace Bo := X26.keep Bo
  replace E := E.ext X26
  replace E1 := E1.ext X26
  have hR1 := ReIn.lt R hR0
  obtain ⟨h26, hh26⟩ : ∃ h, h = w26.heap.size := ⟨_, rfl⟩
  rw [← hh26] at hR1
  have E2 : Chg none1 w26 w26 := Chg.refl _ _
  refine s_allocStore (v := (.agg (R6 R xa xc ya yc))) (c := (R6 R xa xc ya yc)) (n := 6) (by decide) zer27 rfl siz27 rfl rfl rfl (by simp [Value.oneCell']) ?_
  intro bq wq Nq
  have Fq := Nq.ge E
  have Fq_E1 := Nq.ge E1
  have Fq_E2 := Nq.ge E2
  have Oq_br := Nq.lt Br
  have Oq_bo := Nq.lt Bo
  replace Br := Nq.keep Br
  replace Bo := Nq.keep Bo
  replace hR1 := ReIn.ext Nq.ext _ hR1
  replace E := E.ext Nq.ext
  have Bq := Nq.blk
  replace E1 := E1.ext Nq.ext
  replace E2 := E2.ext Nq.ext
  refine WpL_nil ?_
  have hz_3 : w0.heap.size ≤ wq.heap.size := E.size
  have lz_3_br : br < wq.heap.size := Br.lt
  have lz_3_bo : bo < wq.heap.size := Bo.lt
  have lz_3_bq : bq < wq.heap.size := Bq.lt
  refine Wp_seq ?_
  obtain ⟨Fs3, hFs3⟩ : ∃ Fs : (Nat → Prop) → List Fact, Fs = fun RR => [.eq (P6 br 2), .eq (.slice (some ⟨ab, ao, none⟩) t.args.length ac), .eq (.pointer (some ⟨ab, ao + 0 * 6, none⟩)), .eq (.agg (R6 x xsa xsc xaa xac)), .eq (I6 c), .gen (reG RR D) (reG_ext _ _), .eq (.agg (R6 R xa xc ya yc)), .gen (rsG RR [D, R]) (rsG_ext _ _), .gen (reG RR F) (reG_ext _ _), .gen (alF 27 #[(I6 0), (.slice none 0 0), (.slice none 0 0), (I6 0), (I6 0), (.bool false)] wq.heap.size) (alF_ext _ _ _), .eq undef] := ⟨_, rfl⟩
  refine Wp_dagA [true, true, true, true, true, true, true, true, true, true, false] [10] 11 10 [] [27, 28, 29, 30, 31, 32, 33, 34, 35, 6, 120] [[], [0], [1], [2], [], [3, 4], [], [5, 6], [5, 7], [], []] Fs3 hFs3 (fun b => S b ∨ n1 ≤ b) (fun y hy => .inr (by have := E1.size; omega)) 9 6 (lo := wq.heap.size) (Nat.le_refl _) rfl rfl (AlOp.mk' zer27 rfl) (fun RR => ⟨_, by rw [hFs3]; rfl⟩) (fun n => by rw [hFs3]; repeat (first | exact Cvs.nil | refine Cvs.same ?_ | refine Cvs.cons (fun v w e h => by first | exact reG_ne e h | exact rsG_ne e h | exact tupG_ne e h) ?_)) mixed (by kernel_rfl) (by kernel_rfl) rfl (by kernel_rfl) (by kernel_rfl) (by kernel_rfl) ?_ ?_ (fun h9 => absurd h9 (by decide))
  · intro wd X0 RR hRR1 hRR2
    refine DagStepsP.cons (fun s' w' X U H => Or.inl ⟨?_, ?_⟩) ?_
    · exact Guarded_none rfl
    · exact Does_val (r_fieldAddr (b := br) (o := 0) (o' := 2) (U 2 rfl) Try.underlying27 rfl siz25 rfl) (Ext.refl _) rfl
    refine DagStepsP.cons (fun s' w' X U H => Or.inl ⟨?_, ?_⟩) ?_
    · exact Guarded_none rfl
    · have e27 : s' 27 = (.pointer (some ⟨br, 2, none⟩)) := H 0 rfl 27 (.eq (.pointer (some ⟨br, 2, none⟩))) rfl (by rw [hFs3]; rfl)
      exact Does_val (r_load (v := (.slice (some ⟨ab, ao, none⟩) t.args.length ac)) e27 flat25 (((X0.trans X).keep Br).cell rfl)) (Ext.refl _) rfl
    refine DagStepsP.cons (fun s' w' X U H => Or.inl ⟨?_, ?_⟩) ?_
    · exact Guarded_none rfl
    · have e28 : s' 28 = (.slice (some ⟨ab, ao, none⟩) t.args.length ac) := H 1 rfl 28 (.eq (.slice (some ⟨ab, ao, none⟩) t.args.length ac)) rfl (by rw [hFs3]; rfl)
      exact Does_val (r_indexSlice (b := ab) (o := ao) (len := t.args.length) (cap := ac) (i := 0) (o' := ao + 0 * 6) e28 rfl rfl Try.underlying25 siz27 (by omega) (by omega)) (Ext.refl _) rfl
    refine DagStepsP.cons (fun s' w' X U H => Or.inl ⟨?_, ?_⟩) ?_
    · exact Guarded_none rfl
    · have e29 : s' 29 = (.pointer (some ⟨ab, ao + 0 * 6, none⟩)) := H 2 rfl 29 (.eq (.pointer (some ⟨ab, ao + 0 * 6, none⟩))) rfl (by rw [hFs3]; rfl)
      exact Does_val (r_loadAgg (vs := [(I6 x.kind), (.slice xsa x.set.length xsc), (.slice xaa x.args.length xac), (I6 x.mn), (I6 x.mx), (.bool x.neg)]) e29 agg27 siz27 rfl (hus.ext (Ext.trans E (X0.trans X)))) (Ext.refl _) rfl
    refine DagStepsP.cons (fun s' w' X U H => Or.inl ⟨?_, ?_⟩) ?_
    · exact Guarded_none rfl
    · exact Does_val (r_move (v := (I6 c)) (U 1 rfl)) (Ext.refl _) rfl
    refine DagStepsP.cons (fun s' w' X U H => Or.inl ⟨?_, ?_⟩) ?_
    · exact Guarded_none rfl
    · have e30 : s' 30 = (.agg #[(.int .i64 x.kind), (.slice xsa x.set.length xsc), (.slice xaa x.args.length xac), (.int .i64 x.mn), (.int .i64 x.mx), (.bool x.neg)]) := H 3 rfl 30 (.eq (.agg #[(.int .i64 x.kind), (.slice xsa x.set.length xsc), (.slice xaa x.args.length xac), (.int .i64 x.mn), (.int .i64 x.mx), (.bool x.neg)])) rfl (by rw [hFs3]; rfl)
      have e31 : s' 31 = (.int .i64 c) := H 4 rfl 31 (.eq (.int .i64 c)) rfl (by rw [hFs3]; rfl)
      exact Does_enter (r_callF (vs := [(.agg (R6 x xsa xsc xaa xac)), (I6 c)]) Try.func17 nm17 bd17 (lst2 e30 e31)) ((ih x _ S _ (by omega) hox (ReIn.ext (Ext.trans E (X0.trans X)) x hxt0) (fun y hy => by have := hS y hy; have := E.size; have := X0.size; have := X.size; omega)).mono (fun r w h => ⟨reG_of (S' := fun b => S b ∨ w'.heap.size ≤ b) (fun b hb => by rcases hb with h1 | h1; exact hRR1 b (by have := hS b h1; have := E.size; omega) (.inl h1); exact hRR2 b (by have := X.size; omega)) (by rw [hD]; exact h.1), h.2⟩))
    refine DagStepsP.cons (fun s' w' X U H => Or.inl ⟨?_, ?_⟩) ?_
    · exact Guarded_none rfl
    · exact Does_val (r_loadAgg (vs := [(I6 R.kind), (.slice xa R.set.length xc), (.slice ya R.args.length yc), (I6 R.mn), (I6 R.mx), (.bool R.neg)]) (U 5 rfl) agg27 siz27 rfl (((X0.trans X).keep Bq).cells rfl)) (Ext.refl _) rfl
    refine DagStepsP.cons (fun s' w' X U H => Or.inl ⟨?_, ?_⟩) ?_
    · exact Guarded_none rfl
    · obtain ⟨xa32, xc32, ya32, yc32, e32, r32⟩ := H 5 rfl 32 (.gen (reG RR D) (reG_ext _ _)) rfl (by rw [hFs3]; rfl)
      have e33 : s' 33 = (.agg #[(.int .i64 R.kind), (.slice xa R.set.length xc), (.slice ya R.args.length yc), (.int .i64 R.mn), (.int .i64 R.mx), (.bool R.neg)]) := H 6 rfl 33 (.eq (.agg #[(.int .i64 R.kind), (.slice xa R.set.length xc), (.slice ya R.args.length yc), (.int .i64 R.mn), (.int .i64 R.mx), (.bool R.neg)])) rfl (by rw [hFs3]; rfl)
      exact Does_two e32 e33 r32 (ReIn.mono (S := fun b => (S b ∨ n1 ≤ b) ∧ b < h26) (fun y hy => hRR1 y (by have := hy.2; have := E2.size; omega) hy.1) R (ReIn.ext (X0.trans X) R hR1)) (fun b hb => hRR2 b (by have := X.size; omega))
    refine DagStepsP.cons (fun s' w' X U H => Or.inl ⟨?_, ?_⟩) ?_
    · exact Guarded_none rfl
    · obtain ⟨b34, e34, q34⟩ := H 7 rfl 34 (.gen (rsG RR [D, R]) (rsG_ext _ _)) rfl (by rw [hFs3]; rfl)
      exact Does_enter (r_callF (vs := [(.slice (some ⟨b34, 0, none⟩) 2 2)]) Try.func33 nm33 bd33 (lst1 e34)) ((dcat_c _ (fun b => RR b ∧ b < w'.heap.size) _ [D, R] (RsIn.lt q34) (fun y hy => hy.2) (fun y hm hk => by rcases List.mem_cons.1 hm with rfl | hm; exact (sim_three hDo).1 (.inl hk); simp at hm; subst hm; exact (sim_three hRo).1 (.inl hk)) (by simp only [Re.sizes]; omega)).mono (fun r w h => ⟨reG_of (S' := fun b => (RR b ∧ b < w'.heap.size) ∨ w'.heap.size ≤ b) (fun b hb => by rcases hb with h1 | h1; exact h1.1; exact hRR2 b (by have := X.size; omega)) (by rw [hF]; exact h.1), h.2⟩))
    refine DagStepsP.cons (fun s' w' X U H => Or.inl ⟨?_, ?_⟩) ?_
    · exact Guarded_none rfl
    · exact Does_alloc (c := #[(I6 0), (.slice none 0 0), (.slice none 0 0), (I6 0), (I6 0), (.bool false)]) zer27 rfl (by have := X0.size; have := X.size; omega)
    refine DagStepsP.tail ?_
    exact DagStepsP.nil
  · intro s' w3 RR β X3 U hRA hβ H
    obtain ⟨xa35, xc35, ya35, yc35, e35, r35⟩ := H 8 rfl 35 (.gen (reG RR F) (reG_ext _ _)) rfl (by rw [hFs3]; rfl)
    obtain ⟨b6, e6, B6, g6⟩ := H 9 rfl 6 (.gen (alF 27 #[(.int .i64 0), (.slice none 0 0), (.slice none 0 0), (.int .i64 0), (.int .i64 0), (.bool false)] wq.heap.size) (alF_ext _ _ _)) rfl (by rw [hFs3]; rfl)
    have hβ2 : β = b6 := by have h9 := e6.symm.trans hβ; simpa using h9.symm
    rw [hβ2] at hRA
    clear hβ hβ2 β
    obtain ⟨j3, rfl⟩ := Fits.out (σ := s') (l := [(1, (.int .i64 c)), (2, (.pointer (some ⟨br, 0, none⟩))), (4, (.pointer (some ⟨bo, 0, none⟩))), (5, (.pointer (some ⟨bq, 0, none⟩))), (35, (.agg #[(.int .i64 F.kind), (.slice xa35 F.set.length xc35), (.slice ya35 F.args.length yc35), (.int .i64 F.mn), (.int .i64 F.mx), (.bool F.neg)])), (6, (.pointer (some ⟨b6, 0, none⟩)))]) ⟨U 1 rfl, U 2 rfl, U 4 rfl, U 5 rfl, e35, e6, trivial⟩
    clear U H
    replace Br := X3.keep Br
    replace Bo := X3.keep Bo
    replace Bq := X3.keep Bq
    replace hR1 := ReIn.ext X3 _ hR1
    replace E := E.ext X3
    replace E1 := E1.ext X3
    replace E2 := E2.ext X3
    refine s_storeAgg (b := b6) (o := 0) (c' := (R6 F xa35 xc35 ya35 yc35)) rfl rfl (by simp [Value.oneCell']) siz27 rfl B6 (by first | (simp; done) | exact Nat.le_of_ble_eq_true rfl) rfl ?_
    intro w4 S4
    replace hR1 := ReIn.chg S4.chg (fun y hy h => by have h2 : y = b6 := h; have := hy.2; omega) _ hR1
    replace r35 := ReIn.chg S4.chg (fun y hy h => by have h2 : y = b6 := h; have := (hRA y hy).2; omega) _ r35
    replace Br := S4.keep (by omega) Br
    replace Bo := S4.keep (by omega) Bo
    replace Bq := S4.keep (by omega) Bq
    replace E := S4.step E (by first | exact Or.inl (by omega) | exact Or.inr rfl | exact Or.inr (by assumption) | exact Or.inr (by simp) | exact Or.inr (by omega) | exact Or.inr (by dsimp only; omega))
    replace E1 := S4.step E1 (Or.inl (by omega))
    replace E2 := S4.step E2 (Or.inl (by omega))
    replace B6 := S4.blk
    refine WpL_nil (thn_normal (Wp_seq (Wp_seq_region ?_)))
    refine qF br 0 2 rfl Try.underlying27 rfl siz25 rfl ?_
    refine qV (r_load (v := (.slice (some ⟨ab, ao, none⟩) t.args.length ac)) rfl flat25 (Br.cell rfl)) ?_
    refine qV (r_indexSlice (b := ab) (o := ao) (len := t.args.length) (cap := ac) (i := 0) (o' := ao + 0 * 6) rfl rfl rfl Try.underlying25 siz27 (by omega) (by omega)) ?_
    refine qV (r_loadAgg (vs := [(I6 x.kind), (.slice xsa x.set.length xsc), (.slice xaa x.args.length xac), (I6 x.mn), (I6 x.mx), (.bool x.neg)]) rfl agg27 siz27 rfl (hus.ext E)) ?_
    refine WpL_enter rfl rfl (by decide) (r_callF (vs := [(.agg (R6 x xsa xsc xaa xac))]) Try.func19 nm19 bd19 rfl) (empt_c 300 x _ _ (by omega) (by omega) (ReIn.at x (ReIn.ext E x hxt0))) ?_
    rintro _ w40 ⟨rfl, X40⟩
    replace Br := X40.keep Br
    replace Bo := X40.keep Bo
    replace Bq := X40.keep Bq
    replace B6 := X40.keep B6
    replace hR1 := ReIn.ext X40 _ hR1
    replace r35 := ReIn.ext X40 _ r35
    replace E := E.ext X40
    replace E1 := E1.ext X40
    replace E2 := E2.ext X40
    refine qV (r_not (b := emptR x) rfl) ?_
    refine WpL_nil ?_
    refine Wp_cond (b := !(emptR x)) rfl (fun he => ?_) (fun he => ?_)
    · have khe := he
      replace he := by simpa using he
      refine Wp_seq_region ?_
      refine qV (r_loadAgg (vs := [(I6 F.kind), (.slice xa35 F.set.length xc35), (.slice ya35 F.args.length yc35), (I6 F.mn), (I6 F.mx), (.bool F.neg)]) rfl agg27 siz27 rfl (B6.cells rfl)) ?_
      refine s_storeAgg (b := bo) (o := 0) (c' := (R6 F xa35 xc35 ya35 yc35)) rfl rfl (by simp [Value.oneCell']) siz27 rfl Bo (by first | (simp; done) | exact Nat.le_of_ble_eq_true rfl) rfl ?_
      intro w6 S6
      replace r35 := ReIn.chg S6.chg (fun y hy h => by have h2 : y = bo := h; rcases (hRA y hy).1 with h1 | h1; have := hS y h1; omega; omega) _ r35
      replace Br := S6.keep (by omega) Br
      replace Bq := S6.keep (by omega) Bq
      replace B6 := S6.keep (by omega) B6
      replace E := S6.step E (by first | exact Or.inl (by omega) | exact Or.inr rfl | exact Or.inr (by assumption) | exact Or.inr (by simp) | exact Or.inr (by omega) | exact Or.inr (by dsimp only; omega))
      replace Bo := S6.blk
      refine WpL_nil (Wp_ret (thn_ret (inB_ret (thn_ret ?_))))
      refine fin_agg Try.results17 (vs := [(.int .i64 F.kind), (.slice xa35 F.set.length xc35), (.slice ya35 F.args.length yc35), (.int .i64 F.mn), (.int .i64 F.mx), (.bool F.neg)]) (b := bo) rfl agg27 siz27 rfl (Bo.cells rfl) ?_
      exact ⟨⟨_, rfl, by rw [if_neg (by simpa using he)]; exact ReIn.mono (fun y hy => by rcases (hRA y hy).1 with h1 | h1; exact .inl h1; exact .inr (by omega)) _ r35⟩, E⟩
    · have khe := he
      replace he := by simpa using he
      refine Wp_skip (thn_normal ?_)
      have hz_7 : w0.heap.size ≤ w40.heap.size := E.size
      have lz_7_br : br < w40.heap.size := Br.lt
      have lz_7_bo : bo < w40.heap.size := Bo.lt
      have lz_7_bq : bq < w40.heap.size := Bq.lt
      have lz_7_b6 : b6 < w40.heap.size := B6.lt
      refine Wp_seq ?_
      obtain ⟨Fs7, hFs7⟩ : ∃ Fs : List Fact, Fs = [.eq (.agg (R6 F xa35 xc35 ya35 yc35)), .eq (.agg (R6 R xa xc ya yc)), .eq (I6 c), .gen (reG (fun b => S b ∨ n1 ≤ b) G) (reG_ext _ _), .gen (rsG (fun b => S b ∨ n1 ≤ b) [F, G]) (rsG_ext _ _), .gen (reG (fun b => S b ∨ n1 ≤ b) (.mk 4 [] [F, G] 0 0 false)) (reG_ext _ _), .gen (reG (fun b => S b ∨ n1 ≤ b) N) (reG_ext _ _), .eq undef] := ⟨_, rfl⟩
      refine Wp_dagP [true, true, true, true, true, true, true, false] [7] [43, 44, 45, 46, 47, 48, 49, 117] [[], [], [], [1, 2], [0, 3], [4], [3, 5], []] Fs7 hFs7 mixed (by kernel_rfl) (by kernel_rfl) (by kernel_rfl) (by kernel_rfl) ?_ ?_
      · intro wd X0
        refine DagStepsP.cons (fun s' w' X U H => Or.inl ⟨?_, ?_⟩) ?_
        · exact Guarded_none rfl
        · exact Does_val (r_loadAgg (vs := [(I6 F.kind), (.slice xa35 F.set.length xc35), (.slice ya35 F.args.length yc35), (I6 F.mn), (I6 F.mx), (.bool F.neg)]) (U 6 rfl) agg27 siz27 rfl (((X0.trans X).keep B6).cells rfl)) (Ext.refl _) rfl
        refine DagStepsP.cons (fun s' w' X U H => Or.inl ⟨?_, ?_⟩) ?_
        · exact Guarded_none rfl
        · exact Does_val (r_loadAgg (vs := [(I6 R.kind), (.slice xa R.set.length xc), (.slice ya R.args.length yc), (I6 R.mn), (I6 R.mx), (.bool R.neg)]) (U 5 rfl) agg27 siz27 rfl (((X0.trans X).keep Bq).cells rfl)) (Ext.refl _) rfl
        refine DagStepsP.cons (fun s' w' X U H => Or.inl ⟨?_, ?_⟩) ?_
        · exact Guarded_none rfl
        · exact Does_val (r_move (v := (I6 c)) (U 1 rfl)) (Ext.refl _) rfl
        refine DagStepsP.cons (fun s' w' X U H => Or.inl ⟨?_, ?_⟩) ?_
        · exact Guarded_none rfl
        · have e44 : s' 44 = (.agg #[(.int .i64 R.kind), (.slice xa R.set.length xc), (.slice ya R.args.length yc), (.int .i64 R.mn), (.int .i64 R.mx), (.bool R.neg)]) := H 1 rfl 44 (.eq (.agg #[(.int .i64 R.kind), (.slice xa R.set.length xc), (.slice ya R.args.length yc), (.int .i64 R.mn), (.int .i64 R.mx), (.bool R.neg)])) rfl (by rw [hFs7]; rfl)
          have e45 : s' 45 = (.int .i64 c) := H 2 rfl 45 (.eq (.int .i64 c)) rfl (by rw [hFs7]; rfl)
          exact Does_enter (r_callF (vs := [(.agg (R6 R xa xc ya yc)), (I6 c)]) Try.func17 nm17 bd17 (lst2 e44 e45)) ((ih R _ (fun b => (S b ∨ n1 ≤ b) ∧ b < h26) _ (by omega) hRo (ReIn.ext (X0.trans X) R hR1) (fun y hy => by have := hy.2; have := X0.size; have := X.size; omega)).mono (fun r w h => ⟨reG_of (S' := fun b => ((S b ∨ n1 ≤ b) ∧ b < h26) ∨ w'.heap.size ≤ b) (fun b hb => by rcases hb with h1 | h1; exact h1.1; exact .inr (by have := X0.size; have := X.size; omega)) (by rw [hG]; exact h.1), h.2⟩))
        refine DagStepsP.cons (fun s' w' X U H => Or.inl ⟨?_, ?_⟩) ?_
        · exact Guarded_none rfl
        · have e43 : s' 43 = (.agg #[(.int .i64 F.kind), (.slice xa35 F.set.length xc35), (.slice ya35 F.args.length yc35), (.int .i64 F.mn), (.int .i64 F.mx), (.bool F.neg)]) := H 0 rfl 43 (.eq (.agg #[(.int .i64 F.kind), (.slice xa35 F.set.length xc35), (.slice ya35 F.args.length yc35), (.int .i64 F.mn), (.int .i64 F.mx), (.bool F.neg)])) rfl (by rw [hFs7]; rfl)
          obtain ⟨xa46, xc46, ya46, yc46, e46, r46⟩ := H 3 rfl 46 (.gen (reG (fun b => S b ∨ n1 ≤ b) G) (reG_ext _ _)) rfl (by rw [hFs7]; rfl)
          exact Does_two e43 e46 (ReIn.mono (fun y hy => (hRA y hy).1) F (ReIn.ext (X0.trans X) F r35)) r46 (fun b hb => .inr (by have := X0.size; have := X.size; omega))
        refine DagStepsP.cons (fun s' w' X U H => Or.inl ⟨?_, ?_⟩) ?_
        · exact Guarded_none rfl
        · obtain ⟨b47, e47, q47⟩ := H 4 rfl 47 (.gen (rsG (fun b => S b ∨ n1 ≤ b) [F, G]) (rsG_ext _ _)) rfl (by rw [hFs7]; rfl)
          exact Does_node4 e47 q47 rfl
        refine DagStepsP.cons (fun s' w' X U H => Or.inl ⟨?_, ?_⟩) ?_
        · exact Guarded_none rfl
        · obtain ⟨xa48, xc48, ya48, yc48, e48, r48⟩ := H 5 rfl 48 (.gen (reG (fun b => S b ∨ n1 ≤ b) (.mk 4 [] [F, G] 0 0 false)) (reG_ext _ _)) rfl (by rw [hFs7]; rfl)
          exact Does_enter (r_callF (vs := [(.agg #[(I6 4), (.slice xa48 0 xc48), (.slice ya48 2 yc48), (I6 0), (I6 0), (.bool false)])]) Try.func30 nm30 bd30 (lst1 e48)) ((dnode_c _ (fun b => (S b ∨ n1 ≤ b) ∧ b < w'.heap.size) (.mk 4 [] [F, G] 0 0 false) _ (ReIn.lt _ r48) (fun y hy => hy.2) (pre4 _) (fun y hy => by simp only [Re.args, List.mem_cons, List.not_mem_nil, or_false] at hy; rcases hy with rfl | rfl; exact hFo; exact hGo) (by simp only [Re.args, Re.sizes]; omega)).mono (fun r w h => ⟨reG_of (S' := fun b => ((S b ∨ n1 ≤ b) ∧ b < w'.heap.size) ∨ w'.heap.size ≤ b) (fun b hb => by rcases hb with h1 | h1; exact h1.1; exact .inr (by have := X0.size; have := X.size; omega)) (by rw [hN]; exact h.1), h.2⟩))
        refine DagStepsP.tail ?_
        exact DagStepsP.nil
      · intro s' w7 X7 U H
        obtain ⟨xa49, xc49, ya49, yc49, e49, r49⟩ := H 6 rfl 49 (.gen (reG (fun b => S b ∨ n1 ≤ b) N) (reG_ext _ _)) rfl (by rw [hFs7]; rfl)
        obtain ⟨j7, rfl⟩ := Fits.out (σ := s') (l := [(4, (.pointer (some ⟨bo, 0, none⟩))), (49, (.agg #[(.int .i64 N.kind), (.slice xa49 N.set.length xc49), (.slice ya49 N.args.length yc49), (.int .i64 N.mn), (.int .i64 N.mx), (.bool N.neg)]))]) ⟨U 4 rfl, e49, trivial⟩
        clear U H
        replace Br := X7.keep Br
        replace Bo := X7.keep Bo
        replace Bq := X7.keep Bq
        replace B6 := X7.keep B6
        replace E := E.ext X7
        refine s_storeAgg (b := bo) (o := 0) (c' := (R6 N xa49 xc49 ya49 yc49)) rfl rfl (by simp [Value.oneCell']) siz27 rfl Bo (by first | (simp; done) | exact Nat.le_of_ble_eq_true rfl) rfl ?_
        intro w8 S8
        replace r49 := ReIn.chg S8.chg (fun y hy h => by have h2 : y = bo := h; rcases hy with h1 | h1; have := hS y h1; omega; omega) _ r49
        replace Br := S8.keep (by omega) Br
        replace Bq := S8.keep (by omega) Bq
        replace B6 := S8.keep (by omega) B6
        replace E := S8.step E (by first | exact Or.inl (by omega) | exact Or.inr rfl | exact Or.inr (by assumption) | exact Or.inr (by simp) | exact Or.inr (by omega) | exact Or.inr (by dsimp only; omega))
        replace Bo := S8.blk
        refine WpL_nil (thn_normal (Wp_ret (inB_ret (thn_ret ?_))))
        refine fin_agg Try.results17 (vs := [(.int .i64 N.kind), (.slice xa49 N.set.length xc49), (.slice ya49 N.args.length yc49), (.int .i64 N.mn), (.int .i64 N.mx), (.bool N.neg)]) (b := bo) rfl agg27 siz27 rfl (Bo.cells rfl) ?_
        exact ⟨⟨_, rfl, by rw [if_pos (by simpa using he)]; exact ReIn.mono (fun y hy => by rcases hy with h1 | h1; exact .inl h1; exact .inr (by omega)) _ r49⟩, E⟩
end Go.Proofs
namespace Go.Proofs
open Go Go.Eng Go.Sort
set_option maxRecDepth 100000
theorem pre6 {m x : Int} (y : Re) (h : 0 ≤ m ∧ m ≤ x ∧ x ≤ 8) : PreN 6 [] [y] m x false := ⟨by omega, rfl, fun _ => rfl, by omega, by omega, by omega, fun _ => rfl, fun _ => h⟩
set_option maxHeartbeats 2000000 in
theorem step_k6 (c : Int) (n : Nat) (ih : StepOk c n) (t : Re) (hn : t.size ≤ n) (h300 : t.size ≤ 300) (hok : SimOk t) (hk : t.kind = 6) (w0 : World) (S : Nat → Prop) (vs : List Value) (ht : ReIn S w0 t vs) (hS : ∀ x, S x → x < w0.heap.size) :
  Ret Try.prog 17 #[.agg vs.toArray, .int .i64 c] w0 fun r w => (∃ us, r = .agg us.toArray ∧ ReIn (fun b => S b ∨ w0.heap.size ≤ b) w (stepR c t) us) ∧ Ext w0 w := by
 have ht0 := ht
 obtain ⟨sa, sc, aa, ac, rfl, hset, hlen, hargs⟩ := ht.form
 have hRs : RsIn S w0 (.slice aa t.args.length ac) t.args := rs_in ht0
 have hal := len_lt_size t
 have hszt := t.size_eq
 obtain ⟨x, hax, hx01, hx02, hm1, hm2, hm3, hm4, hm5⟩ := hok.n.k6 hk
 have hox : SimOk x := hok.a x (by rw [hax]; simp)
 have hx : t.args[0]? = some x := by rw [hax]; rfl
 have hal1 : t.args.length = 1 := by rw [hax]; rfl
 have hxz := Re.size_arg hx
 obtain ⟨ab, ao, hab, rfl, hres⟩ := hargs.resolve_left (fun h => by rw [h] at hx; cases hx)
 obtain ⟨us, hus, hxt⟩ := hres.get hx
 have hxt0 := hxt
 obtain ⟨xsa, xsc, xaa, xac, rfl, _, _, _⟩ := hxt.form
 obtain ⟨m1, hmm⟩ : ∃ m1, m1 = max 0 (t.mn - 1) := ⟨_, rfl⟩
 obtain ⟨x1, hx1⟩ : ∃ x1, x1 = t.mx - 1 := ⟨_, rfl⟩
 obtain ⟨R, hR⟩ : ∃ R, R = nodeS (.mk 6 [] [x] m1 x1 false) := ⟨_, rfl⟩
 have hp6 : PreN 6 [] [x] m1 x1 false := pre6 x (by omega)
 have hRo : SimOk R := by rw [hR]; exact node_ok hp6 (by intro z hz; simp at hz; subst hz; exact hox)
 have hRz : R.size ≤ 400 := by
  have h4 := node_size (k := 6) (s := []) (a := [x]) (m := m1) (x := x1) (g := false) (by omega) (by omega)
  rw [hR, nodeS_eq]
  simp only [Re.sizes] at h4
  simp only [Re.kind, Re.set, Re.args, Re.mn, Re.mx, Re.neg]
  omega
 obtain ⟨D, hD⟩ : ∃ D, D = stepR c x := ⟨_, rfl⟩
 obtain ⟨F, hF⟩ : ∃ F, F = catD [D, R] := ⟨_, rfl⟩
 have hDo : SimOk D := by rw [hD]; exact step_ok c hox
 have hDz : D.size ≤ 200000 := by rw [hD]; exact step_small hox (by omega)
 have hst : stepR c t = F := by rw [hF, hD, hR, hmm, hx1]; exact st6 hk hax
 rw [hst]
 clear hst hszt
 refine Ret_of Try.func17 rfl Try.ntmps17 (Nat.le_of_ble_eq_true rfl) ?_
 have E : Chg none1 w0 w0 := Chg.refl _ _
 refine Wp_seq_region ?_
 refine s_box (v := (.agg (R6 t sa sc (some ⟨ab, ao, none⟩) ac))) (c := (R6 t sa sc (some ⟨ab, ao, none⟩) ac)) (by decide) rfl rfl ?_
 intro br wr Nr
 have Fr := Nr.ge E
 replace E := E.ext Nr.ext
 have Br := Nr.blk
 refine s_alloc (c := #[(I6 0), (.slice none 0 0), (.slice none 0 0), (I6 0), (I6 0), (.bool false)]) (by decide) zer27 rfl ?_
 intro bo wo No
 have Fo := No.ge E
 have Oo_br := No.lt Br
 replace Br := No.keep Br
 replace E := E.ext No.ext
 have Bo := No.blk
 refine WpL_nil (Wp_seq (Wp_seq_region ?_))
 refine qF br 0 0 rfl Try.underlying27 rfl siz3 rfl ?_
 refine qV (r_load (v := (I6 t.kind)) rfl flat3 (Br.cell rfl)) ?_
 refine WpL_nil (Wp_block (Wp_seq_region ?_))
 refine qV (r_eql (k := .i64) (a := t.kind) (b := 2) rfl rfl) ?_
 refine qA (.bool (decide ((t.kind : Int) = 2))) rfl ?_
 refine WpL_nil ?_
 obtain ⟨n1, hn1⟩ : ∃ n1, n1 = wo.heap.size := ⟨_, rfl⟩
 have hob : br < n1 ∧ bo < n1 ∧ w0.heap.size ≤ bo ∧ w0.heap.size ≤ n1 := ⟨by rw [hn1]; exact Br.lt, by rw [hn1]; exact Bo.lt, by omega, by rw [hn1]; exact E.size⟩
 have hn1w : n1 ≤ wo.heap.size := by omega
 have hc1 : (decide ((t.kind : Int) = 2)) = false := decide_eq_false (by omega)
 refine Wp_cond_false (congrArg Value.bool hc1) ?_
 refine Wp_seq_region ?_
 refine qV (r_eql (k := .i64) (a := t.kind) (b := 3) rfl rfl) ?_
 refine qA (.bool (decide ((t.kind : Int) = 3))) rfl ?_
 refine WpL_nil ?_
 have hc2 : (decide ((t.kind : Int) = 3)) = false := decide_eq_false (by omega)
 refine Wp_cond_false (congrArg Value.bool hc2) ?_
 refine Wp_seq (Wp_seq_region ?_)
 refine qV (r_eql (k := .i64) (a := t.kind) (b := 4) rfl rfl) ?_
 refine qA (.bool (decide ((t.kind : Int) = 4))) rfl ?_
 refine WpL_nil ?_
 have hc3 : (decide ((t.kind : Int) = 4)) = false := decide_eq_false (by omega)
 refine Wp_cond_false (congrArg Value.bool hc3) ?_
 refine Wp_seq_region ?_
 refine qV (r_eql (k := .i64) (a := t.kind) (b := 7) rfl rfl) ?_
 refine qA (.bool (decide ((t.kind : Int) = 7))) rfl ?_
 refine WpL_nil ?_
 have hc4 : (decide ((t.kind : Int) = 7)) = false := decide_eq_false (by omega)
 refine Wp_cond_false (congrArg Value.bool hc4) ?_
 refine Wp_region ?_
 refine qV (r_eql (k := .i64) (a := t.kind) (b := 8) rfl rfl) ?_
 refine qA (.bool (decide ((t.kind : Int) = 8))) rfl ?_
 refine WpL_nil (thn_normal ?_)
 have hc5 : (decide ((t.kind : Int) = 8)) = false := decide_eq_false (by omega)
 refine Wp_cond_false (congrArg Value.bool hc5) ?_
 refine Wp_seq_region ?_
 refine qV (r_eql (k := .i64) (a := t.kind) (b := 5) rfl rfl) ?_
 refine qA (.bool (decide ((t.kind : Int) = 5))) rfl ?_
 refine WpL_nil ?_
 have hc6 : (decide ((t.kind : Int) = 5)) = false := decide_eq_false (by omega)
 refine Wp_cond_false (congrArg Value.bool hc6) ?_
 refine Wp_seq_region ?_
 refine qV (r_eql (k := .i64) (a := t.kind) (b := 6) rfl rfl) ?_
 refine qA (.bool (decide ((t.kind : Int) = 6))) rfl ?_
 refine WpL_nil ?_
 have hc7 : (decide ((t.kind : Int) = 6)) = true := decide_eq_true hk
 refine Wp_cond_true (congrArg Value.bool hc7) ?_
 have hz_8 : w0.heap.size ≤ wo.heap.size := E.size
 have lz_8_br : br < wo.heap.size := Br.lt
 have lz_8_bo : bo < wo.heap.size := Bo.lt
 refine Wp_seq ?_
 obtain ⟨Fs8, hFs8⟩ : ∃ Fs : (Nat → Prop) → List Fact, Fs = fun RR => [.eq (P6 br 2), .eq (.slice (some ⟨ab, ao, none⟩) t.args.length ac), .eq (.pointer (some ⟨ab, ao + 0 * 6, none⟩)), .eq (.agg (R6 x xsa xsc xaa xac)), .gen (rsG RR [x]) (rsG_ext _ _), .eq (P6 br 3), .eq (I6 t.mn), .eq (I6 (t.mn - 1)), .eq (I6 m1), .eq (P6 br 4), .eq (I6 t.mx), .eq (I6 (t.mx - 1)), .gen (reG RR (.mk 6 [] [x] m1 x1 false)) (reG_ext _ _), .gen (reG RR R) (reG_ext _ _), .gen (alF 27 #[(I6 0), (.slice none 0 0), (.slice none 0 0), (I6 0), (I6 0), (.bool false)] wo.heap.size) (alF_ext _ _ _), .eq undef] := ⟨_, rfl⟩
 refine Wp_dagA [true, true, true, true, true, true, true, true, true, true, true, true, true, true, true, false] [15] 16 15 [] [86, 87, 88, 89, 90, 91, 92, 93, 94, 95, 96, 97, 98, 99, 10, 125] [[], [0], [1], [2], [3], [], [5], [6], [7], [], [9], [10], [4, 8, 11], [12], [], []] Fs8 hFs8 (fun b => S b ∨ n1 ≤ b) (fun y hy => .inr (by omega)) 14 10 (lo := wo.heap.size) (Nat.le_refl _) rfl rfl (AlOp.mk' zer27 rfl) (fun RR => ⟨_, by rw [hFs8]; rfl⟩) (fun n => by rw [hFs8]; repeat (first | exact Cvs.nil | refine Cvs.same ?_ | refine Cvs.cons (fun v w e h => by first | exact reG_ne e h | exact rsG_ne e h | exact tupG_ne e h) ?_)) mixed (by kernel_rfl) (by kernel_rfl) rfl (by kernel_rfl) (by kernel_rfl) (by kernel_rfl) ?_ ?_ (fun h9 => absurd h9 (by decide))
 ·intro wd X0 RR hRR1 hRR2
  refine DagStepsP.cons (fun s' w' X U H => Or.inl ⟨?_, ?_⟩) ?_
  ·exact Guarded_none rfl
  ·exact Does_val (r_fieldAddr (b := br) (o := 0) (o' := 2) (U 2 rfl) Try.underlying27 rfl siz25 rfl) (Ext.refl _) rfl
  refine DagStepsP.cons (fun s' w' X U H => Or.inl ⟨?_, ?_⟩) ?_
  ·exact Guarded_none rfl
  ·have e86 : s' 86 = (.pointer (some ⟨br, 2, none⟩)) := H 0 rfl 86 (.eq (.pointer (some ⟨br, 2, none⟩))) rfl (by rw [hFs8]; rfl)
   exact Does_val (r_load (v := (.slice (some ⟨ab, ao, none⟩) t.args.length ac)) e86 flat25 (((X0.trans X).keep Br).cell rfl)) (Ext.refl _) rfl
  refine DagStepsP.cons (fun s' w' X U H => Or.inl ⟨?_, ?_⟩) ?_
  ·exact Guarded_none rfl
  ·have e87 : s' 87 = (.slice (some ⟨ab, ao, none⟩) t.args.length ac) := H 1 rfl 87 (.eq (.slice (some ⟨ab, ao, none⟩) t.args.length ac)) rfl (by rw [hFs8]; rfl)
   exact Does_val (r_indexSlice (b := ab) (o := ao) (len := t.args.length) (cap := ac) (i := 0) (o' := ao + 0 * 6) e87 rfl rfl Try.underlying25 siz27 (by omega) (by omega)) (Ext.refl _) rfl
  refine DagStepsP.cons (fun s' w' X U H => Or.inl ⟨?_, ?_⟩) ?_
  ·exact Guarded_none rfl
  ·have e88 : s' 88 = (.pointer (some ⟨ab, ao + 0 * 6, none⟩)) := H 2 rfl 88 (.eq (.pointer (some ⟨ab, ao + 0 * 6, none⟩))) rfl (by rw [hFs8]; rfl)
   exact Does_val (r_loadAgg (vs := [(I6 x.kind), (.slice xsa x.set.length xsc), (.slice xaa x.args.length xac), (I6 x.mn), (I6 x.mx), (.bool x.neg)]) e88 agg27 siz27 rfl (hus.ext (Ext.trans E (X0.trans X)))) (Ext.refl _) rfl
  refine DagStepsP.cons (fun s' w' X U H => Or.inl ⟨?_, ?_⟩) ?_
  ·exact Guarded_none rfl
  ·have e89 : s' 89 = (.agg #[(.int .i64 x.kind), (.slice xsa x.set.length xsc), (.slice xaa x.args.length xac), (.int .i64 x.mn), (.int .i64 x.mx), (.bool x.neg)]) := H 3 rfl 89 (.eq (.agg #[(.int .i64 x.kind), (.slice xsa x.set.length xsc), (.slice xaa x.args.length xac), (.int .i64 x.mn), (.int .i64 x.mx), (.bool x.neg)])) rfl (by rw [hFs8]; rfl)
   exact Does_oneR e89 (ReIn.mono (fun y hy => hRR1 y (by have := hS y hy; have := E.size; omega) (.inl hy)) x (ReIn.ext (Ext.trans E (X0.trans X)) x hxt0)) (fun b hb => hRR2 b (by have := X.size; omega))
  refine DagStepsP.cons (fun s' w' X U H => Or.inl ⟨?_, ?_⟩) ?_
  ·exact Guarded_none rfl
  ·exact Does_val (r_fieldAddr (b := br) (o := 0) (o' := 3) (U 2 rfl) Try.underlying27 rfl siz3 rfl) (Ext.refl _) rfl
  refine DagStepsP.cons (fun s' w' X U H => Or.inl ⟨?_, ?_⟩) ?_
  ·exact Guarded_none rfl
  ·have e91 : s' 91 = (.pointer (some ⟨br, 3, none⟩)) := H 5 rfl 91 (.eq (.pointer (some ⟨br, 3, none⟩))) rfl (by rw [hFs8]; rfl)
   exact Does_val (r_load (v := (I6 t.mn)) e91 flat3 (((X0.trans X).keep Br).cell rfl)) (Ext.refl _) rfl
  refine DagStepsP.cons (fun s' w' X U H => Or.inl ⟨?_, ?_⟩) ?_
  ·exact Guarded_none rfl
  ·have e92 : s' 92 = (.int .i64 t.mn) := H 6 rfl 92 (.eq (.int .i64 t.mn)) rfl (by rw [hFs8]; rfl)
   exact Does_val (r_sub (k := .i64) (a := t.mn) (b := 1) (c := t.mn - 1) e92 rfl (wI64 (by omega))) (Ext.refl _) rfl
  refine DagStepsP.cons (fun s' w' X U H => Or.inl ⟨?_, ?_⟩) ?_
  ·exact Guarded_none rfl
  ·have e93 : s' 93 = (.int .i64 (t.mn - 1)) := H 7 rfl 93 (.eq (.int .i64 (t.mn - 1))) rfl (by rw [hFs8]; rfl)
   exact Does_val (r_maxI (k := .i64) (c := m1) rfl e93 hmm.symm) (Ext.refl _) rfl
  refine DagStepsP.cons (fun s' w' X U H => Or.inl ⟨?_, ?_⟩) ?_
  ·exact Guarded_none rfl
  ·exact Does_val (r_fieldAddr (b := br) (o := 0) (o' := 4) (U 2 rfl) Try.underlying27 rfl siz3 rfl) (Ext.refl _) rfl
  refine DagStepsP.cons (fun s' w' X U H => Or.inl ⟨?_, ?_⟩) ?_
  ·exact Guarded_none rfl
  ·have e95 : s' 95 = (.pointer (some ⟨br, 4, none⟩)) := H 9 rfl 95 (.eq (.pointer (some ⟨br, 4, none⟩))) rfl (by rw [hFs8]; rfl)
   exact Does_val (r_load (v := (I6 t.mx)) e95 flat3 (((X0.trans X).keep Br).cell rfl)) (Ext.refl _) rfl
  refine DagStepsP.cons (fun s' w' X U H => Or.inl ⟨?_, ?_⟩) ?_
  ·exact Guarded_none rfl
  ·have e96 : s' 96 = (.int .i64 t.mx) := H 10 rfl 96 (.eq (.int .i64 t.mx)) rfl (by rw [hFs8]; rfl)
   exact Does_val (r_sub (k := .i64) (a := t.mx) (b := 1) (c := t.mx - 1) e96 rfl (wI64 (by omega))) (Ext.refl _) rfl
  refine DagStepsP.cons (fun s' w' X U H => Or.inl ⟨?_, ?_⟩) ?_
  ·exact Guarded_none rfl
  ·obtain ⟨b90, e90, q90⟩ := H 4 rfl 90 (.gen (rsG RR [x]) (rsG_ext _ _)) rfl (by rw [hFs8]; rfl)
   have e94 : s' 94 = (.int .i64 m1) := H 8 rfl 94 (.eq (.int .i64 m1)) rfl (by rw [hFs8]; rfl)
   have e97 : s' 97 = (.int .i64 (t.mx - 1)) := H 11 rfl 97 (.eq (.int .i64 (t.mx - 1))) rfl (by rw [hFs8]; rfl)
   exact Does_node6 e90 e94 (e97.trans (by rw [hx1])) q90 rfl
  refine DagStepsP.cons (fun s' w' X U H => Or.inl ⟨?_, ?_⟩) ?_
  ·exact Guarded_none rfl
  ·obtain ⟨xa98, xc98, ya98, yc98, e98, r98⟩ := H 12 rfl 98 (.gen (reG RR (.mk 6 [] [x] m1 x1 false)) (reG_ext _ _)) rfl (by rw [hFs8]; rfl)
   exact Does_enter (r_callF (vs := [(.agg #[(I6 6), (.slice xa98 0 xc98), (.slice ya98 1 yc98), (I6 m1), (I6 x1), (.bool false)])]) Try.func30 nm30 bd30 (lst1 e98)) ((dnode_c _ (fun b => RR b ∧ b < w'.heap.size) (.mk 6 [] [x] m1 x1 false) _ (ReIn.lt _ r98) (fun y hy => hy.2) hp6 (fun y hy => by simp only [Re.args, List.mem_cons, List.not_mem_nil, or_false] at hy; subst hy; exact hox) (by simp only [Re.args, Re.sizes]; omega)).mono (fun r w h => ⟨reG_of (S' := fun b => (RR b ∧ b < w'.heap.size) ∨ w'.heap.size ≤ b) (fun b hb => by rcases hb with h1 | h1; exact h1.1; exact hRR2 b (by have := X.size; omega)) (by rw [hR]; exact h.1), h.2⟩))
  refine DagStepsP.cons (fun s' w' X U H => Or.inl ⟨?_, ?_⟩) ?_
  ·exact Guarded_none rfl
  ·exact Does_alloc (c := #[(I6 0), (.slice none 0 0), (.slice none 0 0), (I6 0), (I6 0), (.bool false)]) zer27 rfl (by have := X0.size; have := X.size; omega)
  refine DagStepsP.tail ?_
  exact DagStepsP.nil
 ·intro s' w8 RR β X8 U hRA hβ H
  obtain ⟨xa99, xc99, ya99, yc99, e99, r99⟩ := H 13 rfl 99 (.gen (reG RR R) (reG_ext _ _)) rfl (by rw [hFs8]; rfl)
  obtain ⟨b10, e10, B10, g10⟩ := H 14 rfl 10 (.gen (alF 27 #[(.int .i64 0), (.slice none 0 0), (.slice none 0 0), (.int .i64 0), (.int .i64 0), (.bool false)] wo.heap.size) (alF_ext _ _ _)) rfl (by rw [hFs8]; rfl)
  have hβ2 : β = b10 := by have h9 := e10.symm.trans hβ; simpa using h9.symm
  rw [hβ2] at hRA
  clear hβ hβ2 β
  obtain ⟨j8, rfl⟩ := Fits.out (σ := s') (l := [(1, (.int .i64 c)), (2, (.pointer (some ⟨br, 0, none⟩))), (4, (.pointer (some ⟨bo, 0, none⟩))), (99, (.agg #[(.int .i64 R.kind), (.slice xa99 R.set.length xc99), (.slice ya99 R.args.length yc99), (.int .i64 R.mn), (.int .i64 R.mx), (.bool R.neg)])), (10, (.pointer (some ⟨b10, 0, none⟩)))]) ⟨U 1 rfl, U 2 rfl, U 4 rfl, e99, e10, trivial⟩
  clear U H
  replace Br := X8.keep Br
  replace Bo := X8.keep Bo
  replace E := E.ext X8
  refine s_storeAgg (b := b10) (o := 0) (c' := (R6 R xa99 xc99 ya99 yc99)) rfl rfl (by simp [Value.oneCell']) siz27 rfl B10 (by first | (simp; done) | exact Nat.le_of_ble_eq_true rfl) rfl ?_
  intro w9 S9
  replace r99 := ReIn.chg S9.chg (fun y hy h => by have h2 : y = b10 := h; have := (hRA y hy).2; omega) _ r99
  replace Br := S9.keep (by omega) Br
  replace Bo := S9.keep (by omega) Bo
  replace E := S9.step E (by first | exact Or.inl (by omega) | exact Or.inr rfl | exact Or.inr (by assumption) | exact Or.inr (by simp) | exact Or.inr (by omega) | exact Or.inr (by dsimp only; omega))
  replace B10 := S9.blk
  refine WpL_nil (thn_normal ?_)
  have hz_10 : w0.heap.size ≤ w9.heap.size := E.size
  have lz_10_br : br < w9.heap.size := Br.lt
  have lz_10_bo : bo < w9.heap.size := Bo.lt
  have lz_10_b10 : b10 < w9.heap.size := B10.lt
  refine Wp_seq ?_
  obtain ⟨Fs10, hFs10⟩ : ∃ Fs : List Fact, Fs = [.eq (P6 br 2), .eq (.slice (some ⟨ab, ao, none⟩) t.args.length ac), .eq (.pointer (some ⟨ab, ao + 0 * 6, none⟩)), .eq (.agg (R6 x xsa xsc xaa xac)), .eq (I6 c), .gen (reG (fun b => S b ∨ n1 ≤ b) D) (reG_ext _ _), .eq (.agg (R6 R xa99 xc99 ya99 yc99)), .gen (rsG (fun b => S b ∨ n1 ≤ b) [D, R]) (rsG_ext _ _), .gen (reG (fun b => S b ∨ n1 ≤ b) F) (reG_ext _ _), .eq undef] := ⟨_, rfl⟩
  refine Wp_dagP [true, true, true, true, true, true, true, true, true, false] [9] [100, 101, 102, 103, 104, 105, 106, 107, 108, 119] [[], [0], [1], [2], [], [3, 4], [], [5, 6], [5, 7], []] Fs10 hFs10 mixed (by kernel_rfl) (by kernel_rfl) (by kernel_rfl) (by kernel_rfl) ?_ ?_
  ·intro wd X0
   refine DagStepsP.cons (fun s' w' X U H => Or.inl ⟨?_, ?_⟩) ?_
   ·exact Guarded_none rfl
   ·exact Does_val (r_fieldAddr (b := br) (o := 0) (o' := 2) (U 2 rfl) Try.underlying27 rfl siz25 rfl) (Ext.refl _) rfl
   refine DagStepsP.cons (fun s' w' X U H => Or.inl ⟨?_, ?_⟩) ?_
   ·exact Guarded_none rfl
   ·have e100 : s' 100 = (.pointer (some ⟨br, 2, none⟩)) := H 0 rfl 100 (.eq (.pointer (some ⟨br, 2, none⟩))) rfl (by rw [hFs10]; rfl)
    exact Does_val (r_load (v := (.slice (some ⟨ab, ao, none⟩) t.args.length ac)) e100 flat25 (((X0.trans X).keep Br).cell rfl)) (Ext.refl _) rfl
   refine DagStepsP.cons (fun s' w' X U H => Or.inl ⟨?_, ?_⟩) ?_
   ·exact Guarded_none rfl
   ·have e101 : s' 101 = (.slice (some ⟨ab, ao, none⟩) t.args.length ac) := H 1 rfl 101 (.eq (.slice (some ⟨ab, ao, none⟩) t.args.length ac)) rfl (by rw [hFs10]; rfl)
    exact Does_val (r_indexSlice (b := ab) (o := ao) (len := t.args.length) (cap := ac) (i := 0) (o' := ao + 0 * 6) e101 rfl rfl Try.underlying25 siz27 (by omega) (by omega)) (Ext.refl _) rfl
   refine DagStepsP.cons (fun s' w' X U H => Or.inl ⟨?_, ?_⟩) ?_
   ·exact Guarded_none rfl
   ·have e102 : s' 102 = (.pointer (some ⟨ab, ao + 0 * 6, none⟩)) := H 2 rfl 102 (.eq (.pointer (some ⟨ab, ao + 0 * 6, none⟩))) rfl (by rw [hFs10]; rfl)
    exact Does_val (r_loadAgg (vs := [(I6 x.kind), (.slice xsa x.set.length xsc), (.slice xaa x.args.length xac), (I6 x.mn), (I6 x.mx), (.bool x.neg)]) e102 agg27 siz27 rfl (hus.ext (Ext.trans E (X0.trans X)))) (Ext.refl _) rfl
   refine DagStepsP.cons (fun s' w' X U H => Or.inl ⟨?_, ?_⟩) ?_
   ·exact Guarded_none rfl
   ·exact Does_val (r_move (v := (I6 c)) (U 1 rfl)) (Ext.refl _) rfl
   refine DagStepsP.cons (fun s' w' X U H => Or.inl ⟨?_, ?_⟩) ?_
   ·exact Guarded_none rfl
   ·have e103 : s' 103 = (.agg #[(.int .i64 x.kind), (.slice xsa x.set.length xsc), (.slice xaa x.args.length xac), (.int .i64 x.mn), (.int .i64 x.mx), (.bool x.neg)]) := H 3 rfl 103 (.eq (.agg #[(.int .i64 x.kind), (.slice xsa x.set.length xsc), (.slice xaa x.args.length xac), (.int .i64 x.mn), (.int .i64 x.mx), (.bool x.neg)])) rfl (by rw [hFs10]; rfl)
    have e104 : s' 104 = (.int .i64 c) := H 4 rfl 104 (.eq (.int .i64 c)) rfl (by rw [hFs10]; rfl)
    exact Does_enter (r_callF (vs := [(.agg (R6 x xsa xsc xaa xac)), (I6 c)]) Try.func17 nm17 bd17 (lst2 e103 e104)) ((ih x _ S _ (by omega) hox (ReIn.ext (Ext.trans E (X0.trans X)) x hxt0) (fun y hy => by have := hS y hy; have := E.size; have := X0.size; have := X.size; omega)).mono (fun r w h => ⟨reG_of (S' := fun b => S b ∨ w'.heap.size ≤ b) (fun b hb => by rcases hb with h1 | h1; exact .inl h1; exact .inr (by have := E.size; have := X0.size; have := X.size; omega)) (by rw [hD]; exact h.1), h.2⟩))
   refine DagStepsP.cons (fun s' w' X U H => Or.inl ⟨?_, ?_⟩) ?_
   ·exact Guarded_none rfl
   ·exact Does_val (r_loadAgg (vs := [(I6 R.kind), (.slice xa99 R.set.length xc99), (.slice ya99 R.args.length yc99), (I6 R.mn), (I6 R.mx), (.bool R.neg)]) (U 10 rfl) agg27 siz27 rfl (((X0.trans X).keep B10).cells rfl)) (Ext.refl _) rfl
   refine DagStepsP.cons (fun s' w' X U H => Or.inl ⟨?_, ?_⟩) ?_
   ·exact Guarded_none rfl
   ·obtain ⟨xa105, xc105, ya105, yc105, e105, r105⟩ := H 5 rfl 105 (.gen (reG (fun b => S b ∨ n1 ≤ b) D) (reG_ext _ _)) rfl (by rw [hFs10]; rfl)
    have e106 : s' 106 = (.agg #[(.int .i64 R.kind), (.slice xa99 R.set.length xc99), (.slice ya99 R.args.length yc99), (.int .i64 R.mn), (.int .i64 R.mx), (.bool R.neg)]) := H 6 rfl 106 (.eq (.agg #[(.int .i64 R.kind), (.slice xa99 R.set.length xc99), (.slice ya99 R.args.length yc99), (.int .i64 R.mn), (.int .i64 R.mx), (.bool R.neg)])) rfl (by rw [hFs10]; rfl)
    exact Does_two e105 e106 r105 (ReIn.mono (fun y hy => (hRA y hy).1) R (ReIn.ext (X0.trans X) R r99)) (fun b hb => .inr (by have := E.size; have := X0.size; have := X.size; omega))
   refine DagStepsP.cons (fun s' w' X U H => Or.inl ⟨?_, ?_⟩) ?_
   ·exact Guarded_none rfl
   ·obtain ⟨b107, e107, q107⟩ := H 7 rfl 107 (.gen (rsG (fun b => S b ∨ n1 ≤ b) [D, R]) (rsG_ext _ _)) rfl (by rw [hFs10]; rfl)
    exact Does_enter (r_callF (vs := [(.slice (some ⟨b107, 0, none⟩) 2 2)]) Try.func33 nm33 bd33 (lst1 e107)) ((dcat_c _ (fun b => (S b ∨ n1 ≤ b) ∧ b < w'.heap.size) _ [D, R] (RsIn.lt q107) (fun y hy => hy.2) (fun y hm hk => by rcases List.mem_cons.1 hm with rfl | hm; exact (sim_three hDo).1 (.inl hk); simp at hm; subst hm; exact (sim_three hRo).1 (.inl hk)) (by simp only [Re.sizes]; omega)).mono (fun r w h => ⟨reG_of (S' := fun b => ((S b ∨ n1 ≤ b) ∧ b < w'.heap.size) ∨ w'.heap.size ≤ b) (fun b hb => by rcases hb with h1 | h1; exact h1.1; exact .inr (by have := E.size; have := X0.size; have := X.size; omega)) (by rw [hF]; exact h.1), h.2⟩))
   refine DagStepsP.tail ?_
   exact DagStepsP.nil
  ·intro s' w10 X10 U H
   obtain ⟨xa108, xc108, ya108, yc108, e108, r108⟩ := H 8 rfl 108 (.gen (reG (fun b => S b ∨ n1 ≤ b) F) (reG_ext _ _)) rfl (by rw [hFs10]; rfl)
   obtain ⟨j10, rfl⟩ := Fits.out (σ := s') (l := [(4, (.pointer (some ⟨bo, 0, none⟩))), (108, (.agg #[(.int .i64 F.kind), (.slice xa108 F.set.length xc108), (.slice ya108 F.args.length yc108), (.int .i64 F.mn), (.int .i64 F.mx), (.bool F.neg)]))]) ⟨U 4 rfl, e108, trivial⟩
   clear U H
   replace Br := X10.keep Br
   replace Bo := X10.keep Bo
   replace B10 := X10.keep B10
   replace E := E.ext X10
   refine s_storeAgg (b := bo) (o := 0) (c' := (R6 F xa108 xc108 ya108 yc108)) rfl rfl (by simp [Value.oneCell']) siz27 rfl Bo (by first | (simp; done) | exact Nat.le_of_ble_eq_true rfl) rfl ?_
   intro w11 S11
   replace r108 := ReIn.chg S11.chg (fun y hy h => by have h2 : y = bo := h; rcases hy with h1 | h1; have := hS y h1; omega; omega) _ r108
   replace Br := S11.keep (by omega) Br
   replace B10 := S11.keep (by omega) B10
   replace E := S11.step E (by first | exact Or.inl (by omega) | exact Or.inr rfl | exact Or.inr (by assumption) | exact Or.inr (by simp) | exact Or.inr (by omega) | exact Or.inr (by dsimp only; omega))
   replace Bo := S11.blk
   refine WpL_nil (thn_normal (Wp_ret (inB_ret (thn_ret ?_))))
   refine fin_agg Try.results17 (vs := [(.int .i64 F.kind), (.slice xa108 F.set.length xc108), (.slice ya108 F.args.length yc108), (.int .i64 F.mn), (.int .i64 F.mx), (.bool F.neg)]) (b := bo) rfl agg27 siz27 rfl (Bo.cells rfl) ?_
   exact ⟨⟨_, rfl, ReIn.mono (fun y hy => by rcases hy with h1 | h1; exact .inl h1; exact .inr (by omega)) _ r108⟩, E⟩
end Go.Proofs
