/- Regions whose first operations come in any order and change only some blocks, and whose other operations have one order. Generic: no program is named. -/
import Derived.Test.YtiepeobnpmoghaaDoorDag
namespace Go.Eng
open Go

inductive FactT (M : Nat → Prop) where
  | eq (v : Value)
  | gen (F : Fct) (h : ∀ v w w', Chg M w w' → F v w → F v w')
  | own (F : Fct) (h : ∀ v w w', Ext w w' → F v w → F v w')
def FactT.In {M : Nat → Prop} : FactT M → Fct
  | .eq u, v, _ => v = u
  | .gen F _, v, w => F v w
  | .own F _, v, w => F v w
def FactT.isOwn {M : Nat → Prop} : FactT M → Bool
  | .own _ _ => true
  | _ => false
theorem FactT.chg {M : Nat → Prop} {F : FactT M} {v : Value} {w w' : World} (h : F.In v w) (e : Chg M w w') (ho : F.isOwn = false) : F.In v w' := by
  cases F with
  | eq u => exact h
  | gen F hF => exact hF _ _ _ e h
  | own F hF => cases ho
theorem FactT.ext {M : Nat → Prop} {F : FactT M} {v : Value} {w w' : World} (h : F.In v w) (e : Ext w w') : F.In v w' := by
  cases F with
  | eq u => exact h
  | gen F hF => exact hF _ _ _ (Ext.chg e) h
  | own F hF => exact hF _ _ _ e h
/-- Only the fact at one place is of the kind that holds behind that operation alone. -/
def ownB {M : Nat → Prop} (c : Nat) : Nat → List (FactT M) → Bool
  | _, [] => true
  | i, F :: l => (!F.isOwn || Nat.beq i c) && ownB c (i + 1) l
theorem ownB_get {M : Nat → Prop} {c : Nat} : ∀ {i : Nat} {l : List (FactT M)}, ownB c i l = true → ∀ {j : Nat} {F : FactT M}, l[j]? = some F → i + j ≠ c → F.isOwn = false
  | _, [], _, _, _, h, _ => by simp at h
  | i, G :: l, hB, 0, F, h, hne => by
    simp at h; subst h
    simp only [ownB, Bool.and_eq_true, Bool.or_eq_true, Bool.not_eq_true'] at hB
    rcases hB.1 with h | h
    · exact h
    · exact absurd (Nat.eq_of_beq_eq_true h) hne
  | i, G :: l, hB, j + 1, F, h, hne => by
    simp only [ownB, Bool.and_eq_true] at hB
    simp at h
    exact ownB_get hB.2 h (by omega)

def DoesT (M : Nat → Prop) (P : Program) (N : Nat) (o : Oper) (R : Fct) (σ : Env) (w : World) : Prop :=
  ∀ a, Ok N a → env a = σ → ∀ (Q : Exit → Act → World → Prop) (K : Act → World → Prop), (∀ v w', Chg M w w' → R v w' → K (a.put o.dst v) w') → o.wp P a w K Q
def HoldsT {M : Nat → Prop} (ds : List Nat) (Fs : List (FactT M)) (j : Nat) (σ : Env) (w : World) : Prop := ∀ d F, ds[j]? = some d → Fs[j]? = some F → F.In (σ d) w
section
variable {M : Nat → Prop} {P : Program} {N : Nat} {o : Oper} {R : Fct} {σ : Env} {w : World}
theorem DoesT_val {v : Value} {w' : World} (hr : (execOp (ev σ) o).run P w = .ok (.value v) w') (hx : Chg M w w') (h : R v w') : DoesT M P N o R σ w := by
  intro a ha he Q K hK
  unfold Oper.wp
  rw [eval_env, he, hr]
  simp only [Oper.upon]
  exact hK _ _ hx h
theorem DoesT_enter {f : FuncId} {args : Array Value} (hr : (execOp (ev σ) o).run P w = .ok (.enter f args) w) (hc : Ret P f args w fun v w' => R v w' ∧ Chg M w w') : DoesT M P N o R σ w := by
  intro a ha he Q K hK
  unfold Oper.wp
  rw [eval_env, he, hr]
  simp only [Oper.upon]
  refine Calls.mono hc ?_
  rintro e w' ⟨v, rfl, r, x⟩
  exact hK _ _ x r
end
def dagOneT (N i : Nat) (o : Oper) (d : Nat) (ws : List Nat) : Bool := dagOne N i o d ws && o.guard.isNone
def dagBT (N : Nat) : Nat → List Oper → List Nat → List (List Nat) → Bool
  | _, [], [], [] => true
  | i, o :: l, d :: ds, ws :: wss => dagOneT N i o d ws && dagBT N (i + 1) l ds wss
  | _, _, _, _ => false
theorem dagBT_dagB {N : Nat} : ∀ {i : Nat} {l : List Oper} {ds : List Nat} {wss : List (List Nat)}, dagBT N i l ds wss = true → dagB N i l ds wss = true
  | _, [], [], [], _ => rfl
  | _, [], [], _ :: _, hB => by simp [dagBT] at hB
  | _, [], _ :: _, _, hB => by simp [dagBT] at hB
  | i, x :: l, [], _, hB => by simp [dagBT] at hB
  | i, x :: l, d :: ds, [], hB => by simp [dagBT] at hB
  | i, x :: l, d :: ds, ws :: wss, hB => by
    simp only [dagBT, dagOneT, Bool.and_eq_true] at hB
    simp only [dagB, Bool.and_eq_true]
    exact ⟨hB.1.1, dagBT_dagB hB.2⟩
theorem dagBT_guard {N : Nat} : ∀ {i : Nat} {l : List Oper} {ds : List Nat} {wss : List (List Nat)}, dagBT N i l ds wss = true → ∀ {j : Nat} {o : Oper}, l[j]? = some o → o.guard = none
  | _, [], _, _, _, j, o, h => by simp at h
  | i, x :: l, [], _, hB, _, _, _ => by simp [dagBT] at hB
  | i, x :: l, d :: ds, [], hB, _, _, _ => by simp [dagBT] at hB
  | i, x :: l, d :: ds, ws :: wss, hB, j, o, h => by
    simp only [dagBT, dagOneT, Bool.and_eq_true] at hB
    cases j with
    | zero => simp at h; subst h; simpa using hB.1.2
    | succ j => simp at h; exact dagBT_guard hB.2 h
def DagStepT {M : Nat → Prop} (P : Program) (N : Nat) (ds : List Nat) (Fs : List (FactT M)) (σ : Env) (w : World) (own : Bool) (o : Oper) (ws : List Nat) (F : FactT M) : Prop :=
  ∀ σ' w', Chg (bif own then none1 else M) w w' → (∀ t, ds.contains t = false → σ' t = σ t) → (∀ j, ws.contains j = true → HoldsT ds Fs j σ' w') → DoesT (bif own then M else none1) P N o F.In σ' w'
inductive DagStepsT {M : Nat → Prop} (P : Program) (N : Nat) (ds : List Nat) (Fs : List (FactT M)) (σ : Env) (w : World) (c : Nat) : Nat → List Oper → List (List Nat) → List (FactT M) → Prop where
  | nil {i : Nat} : DagStepsT P N ds Fs σ w c i [] [] []
  | cons {i : Nat} {o : Oper} {ws : List Nat} {F : FactT M} {l : List Oper} {wss : List (List Nat)} {Gs : List (FactT M)} : DagStepT P N ds Fs σ w (Nat.beq i c) o ws F → DagStepsT P N ds Fs σ w c (i + 1) l wss Gs → DagStepsT P N ds Fs σ w c i (o :: l) (ws :: wss) (F :: Gs)
theorem DagStepsT.get {M : Nat → Prop} {P : Program} {N : Nat} {ds : List Nat} {Fs : List (FactT M)} {σ : Env} {w : World} {c : Nat} : ∀ {i : Nat} {l : List Oper} {wss : List (List Nat)} {Gs : List (FactT M)}, DagStepsT P N ds Fs σ w c i l wss Gs → ∀ {j : Nat} {o : Oper}, l[j]? = some o → ∃ ws F, wss[j]? = some ws ∧ Gs[j]? = some F ∧ DagStepT P N ds Fs σ w (Nat.beq (i + j) c) o ws F
  | _, _, _, _, .nil, j, o, h => by simp at h
  | _, _, _, _, .cons h1 h2, 0, o, h => by simp at h; subst h; exact ⟨_, _, rfl, rfl, h1⟩
  | i, _, _, _, .cons h1 h2, j + 1, o, h => by
    obtain ⟨ws, F, a, b, c⟩ := h2.get (j := j) (by simpa using h)
    exact ⟨ws, F, by simpa using a, by simpa using b, by rw [show i + (j + 1) = i + 1 + j from by omega]; exact c⟩

def headDone (n m : Nat) : Array Bool := (List.replicate n true ++ List.replicate (m - n) false).toArray
theorem count_take_set {l : List Bool} {n i : Nat} (hi : i < n) (hl : n ≤ l.length) (hf : l[i]? = some false) : ((l.set i true).take n).count false + 1 = (l.take n).count false := by
  have hi' : i < (l.take n).length := by simp; omega
  rw [List.take_set, List.count_set hi']
  have : (l.take n)[i] = false := by
    have h2 : (l.take n)[i]? = some false := by rw [List.getElem?_take_of_lt hi]; exact hf
    rw [List.getElem?_eq_getElem hi'] at h2; simpa using h2
  rw [this, if_pos (by rfl), if_neg (by decide)]
  have : 0 < (l.take n).count false := by
    rw [List.count_pos_iff]
    rw [← this]; exact List.getElem_mem hi'
  omega
theorem head_all {l : List Bool} {n : Nat} (hl : n ≤ l.length) (h0 : (l.take n).count false = 0) (ht : ∀ t, n ≤ t → t < l.length → l[t]? = some false) : l = List.replicate n true ++ List.replicate (l.length - n) false := by
  apply List.ext_getElem?
  intro i
  rcases Nat.lt_or_ge i n with h | h
  · rw [List.getElem?_append_left (by simpa using h), List.getElem?_replicate, if_pos h]
    have hi : i < l.length := by omega
    rw [List.getElem?_eq_getElem hi]
    cases hv : l[i] with
    | true => rfl
    | false =>
      exfalso
      rw [List.count_eq_zero] at h0
      apply h0
      have : (l.take n)[i]? = some false := by rw [List.getElem?_take_of_lt h, List.getElem?_eq_getElem hi, hv]
      exact List.mem_of_getElem? this
  · rw [List.getElem?_append_right (by simpa using h), List.getElem?_replicate, List.length_replicate]
    rcases Nat.lt_or_ge i l.length with h2 | h2
    · rw [if_pos (by omega), ht i h h2]
    · rw [if_neg (by omega), List.getElem?_eq_none h2]

theorem Wp_dagT {P : Program} {N : Nat} {Q : Post} {σ : Env} {w : World} {id : Nat} {l : List Oper} (M : Nat → Prop) (n c : Nat) (ds : List Nat) (wss : List (List Nat)) (Fs : List (FactT M)) {Gs : List (FactT M)} (hG : Fs = Gs) (hO : ownB c 0 Gs = true) (hm : P.follows .mixedOrders = true) (hB : dagBT N 0 (l.take n) ds wss = true) (hn : nodupB ds = true)
    (hT : (decide (n < l.length) && Region.sinkB .any l.toArray n && Region.chainB .any l.toArray n && Region.seqB .any l.toArray (l.length - n) n (headDone n l.length)) = true)
    (steps : ∀ w1, Ext w w1 → DagStepsT P N ds Fs σ w1 c 0 (l.take n) wss Gs)
    (k : ∀ σ' w1 w', Ext w w1 → Chg M w1 w' → (∀ t, ds.contains t = false → σ' t = σ t) → (∀ j, HoldsT ds Fs j σ' w') → WpL P N l.toArray (Q .normal) Q (l.drop n) σ' w') : Wp P N (.region id l.toArray true) Q σ w := by
  intro a ha he
  have eQ : lift N (thn (Q .normal) Q) = lift N Q := by funext e a w; cases e <;> rfl
  refine wp_region_any hm ?_
  obtain ⟨w1, hw1⟩ : ∃ w1 : World, w1 = { w with drawn := w.drawn + 1 } := ⟨_, rfl⟩
  have hE1 : Ext w w1 := by rw [hw1]; exact drew_ext w
  rw [← hw1]
  have hst := steps w1 hE1
  rw [← hG] at hst
  simp only [Bool.and_eq_true, decide_eq_true_eq] at hT
  obtain ⟨⟨⟨hnl, hs⟩, hc⟩, hseq⟩ := hT
  have toM : ∀ {q : Bool} {u u' : World}, Chg (bif q then M else none1) u u' → Chg M u u' := fun {q u u'} h => by cases q with | true => exact h | false => exact Ext.chg h
  have hB' := dagBT_dagB hB
  have hlen : ds.length = n := by rw [dagB_len hB']; simp; omega
  have key : ∀ (m : Nat) (listed : Array Bool) (a : Act) (w' : World), (listed.toList.take n).count false = m → HeadInv .any l.toArray n listed → Ok N a → Chg (bif listed.getD c false then M else none1) w1 w' → (∀ t, ds.contains t = false → env a t = σ t) → (∀ j, listed.getD j false = true → HoldsT ds Fs j (env a) w') →
      wpAny P .any l.toArray (lift N Q) (m + (l.length - n)) listed a w' := by
    intro m
    induction m with
    | zero =>
      intro listed a w' hc0 inv ha hx hu hh
      have hsz : listed.size = l.length := by simpa using inv.size
      have hl : listed = headDone n l.length := by
        apply Array.ext'
        rw [headDone]
        have := head_all (l := listed.toList) (n := n) (by simp; omega) hc0 (by
          intro t h1 h2
          have h2' : t < listed.size := by simpa using h2
          have := inv.tail t h1 (by simpa [hsz] using h2')
          simp only [Array.getD_eq_getD_getElem?, Array.getElem?_eq_getElem h2', Option.getD_some] at this
          simp [h2', this])
        rw [this]; simp [hsz]
      rw [Nat.zero_add]
      have h1 := k (env a) w1 w' hE1 (toM hx) hu (fun j d F hd hF => by
        have hj : j < n := by have := lt_of_get hd; omega
        refine hh j ?_ d F hd hF
        rw [hl, headDone]
        simp [Array.getD_eq_getD_getElem?, List.getElem?_append_left, hj]) a ha rfl
      rw [eQ] at h1
      have := wpAny_of_seq (P := P) (md := .any) (ops := l.toArray) (Q' := lift N Q) (l.drop n) n listed a w' (fun j => by simp [List.getElem?_drop]) (by rw [List.length_drop, hl]; exact hseq) h1
      rwa [List.length_drop] at this
    | succ m ih =>
      intro listed a w' hcm inv ha hx hu hh
      have hsz : listed.size = l.length := by simpa using inv.size
      obtain ⟨i0, hi0n, hi0⟩ : ∃ i, i < n ∧ listed.getD i true = false := by
        have : 0 < (listed.toList.take n).count false := by omega
        rw [List.count_pos_iff] at this
        obtain ⟨i, hi, he⟩ := List.getElem_of_mem this
        have hin : i < n := by simp at hi; omega
        refine ⟨i, hin, ?_⟩
        have hil : i < listed.size := by simp at hi; omega
        simp only [Array.getD_eq_getD_getElem?, Array.getElem?_eq_getElem hil, Option.getD_some]
        simpa using he
      rw [show m + 1 + (l.length - n) = (m + (l.length - n)) + 1 by omega]
      refine ⟨fun hr => ?_, fun i hi => ?_⟩
      · exfalso
        have hall : ∀ i, i < n → listed.getD i true = true := by
          intro i
          induction i using Nat.strongRecOn with
          | _ i ihi =>
            intro hi
            cases hv : listed.getD i true with
            | true => rfl
            | false =>
              exfalso
              obtain ⟨o, ho⟩ := get_of_lt (l := l) (i := i) (by omega)
              have ho' : (l.take n)[i]? = some o := by rw [List.getElem?_take_of_lt hi]; exact ho
              obtain ⟨d, ws, _, _, h3⟩ := dagB_get hB' ho'
              have : i ∈ Region.ready .any l.toArray listed := by
                refine mem_ready.2 ⟨hv, o, by simpa using ho, fun e he hb => ?_⟩
                simp only [dagOne, Bool.and_eq_true, Array.all_eq_true_iff_forall_mem, Bool.or_eq_true, Bool.not_eq_true', Nat.zero_add] at h3
                have := (h3.1.2 e he).resolve_left (by simp [hb])
                have hlt : e.on < i := by simpa [Nat.blt_eq] using this
                have h4 := ihi e.on hlt (by omega)
                have hj : e.on < listed.size := by omega
                simpa only [Array.getD_eq_getD_getElem?, Array.getElem?_eq_getElem hj, Option.getD_some] using h4
              rw [hr] at this
              cases this
        rw [hall i0 hi0n] at hi0
        cases hi0
      · have hin : i < n := by
          rcases Nat.lt_or_ge i n with h | h
          · exact h
          · exact absurd hi (tail_waits hs hc (by simpa using hnl) inv _ i0 rfl hi0n hi0 i h)
        obtain ⟨h1, o, h2, h3⟩ := mem_ready.1 hi
        have ho : l[i]? = some o := by simpa using h2
        have ho' : (l.take n)[i]? = some o := by rw [List.getElem?_take_of_lt hin]; exact ho
        obtain ⟨d, ws, hd, hws, h4⟩ := dagB_get hB' ho'
        have hgd := dagBT_guard hB ho'
        obtain ⟨ws', F, hws', hF, hstep⟩ := hst.get ho'
        rw [hws] at hws'
        cases hws'
        simp only [dagOne, Bool.and_eq_true, List.all_eq_true, Array.any_eq_true', Array.all_eq_true_iff_forall_mem, Bool.or_eq_true, Bool.not_eq_true', Nat.zero_add] at h4
        obtain ⟨⟨⟨hdst, hdN⟩, _⟩, hwait⟩ := h4
        have hdst : o.dst = some d := by
          split at hdst
          · rename_i d' h; rw [h, Nat.eq_of_beq_eq_true hdst]
          · cases hdst
        have hdN : d < N := by simpa [Nat.blt_eq] using hdN
        have hH : ∀ j, ws.contains j = true → HoldsT ds Fs j (env a) w' := by
          intro j hj
          have hj' : j ∈ ws := by simpa using hj
          obtain ⟨e, he, hb⟩ := hwait j hj'
          obtain ⟨hb1, hb2⟩ := hb
          have : e.on = j := Nat.eq_of_beq_eq_true hb2
          exact hh j (this ▸ h3 e he hb1)
        have hstep2 : (∀ v w2, Chg (bif Nat.beq (0 + i) c then M else none1) w' w2 → F.In v w2 → Chg (bif (listed.setIfInBounds i true).getD c false then M else none1) w1 w2) := by
          intro v w2 hx2 _
          have hil : i < listed.size := by omega
          rw [Nat.zero_add] at hx2
          by_cases hic : i = c
          · subst hic
            rw [Nat.beq_refl] at hx2
            have hg : (listed.setIfInBounds i true).getD i false = true := by simp [Array.getD_eq_getD_getElem?, hil]
            rw [hg]
            exact (toM hx).trans hx2
          · have hb : Nat.beq i c = false := by cases hb : Nat.beq i c; rfl; exact absurd (Nat.eq_of_beq_eq_true hb) hic
            rw [hb] at hx2
            rw [getD_set_ne _ hic]
            exact hx.ext hx2
        have cont : ∀ v w2, Chg (bif Nat.beq (0 + i) c then M else none1) w' w2 → F.In v w2 → wpAny P .any l.toArray (lift N Q) (m + (l.length - n)) (listed.setIfInBounds i true) (a.put o.dst v) w2 := by
          intro v w2 hx2 hv
          have henv : env (a.put o.dst v) = upd (env a) d v := by rw [hdst]; exact env_put ha hdN v
          refine ih _ _ _ ?_ (inv.set hi hin) (ha.put _ _) (hstep2 v w2 hx2 hv) ?_ ?_
          · have hil : i < listed.size := by omega
            have hl : listed.toList[i]? = some false := by
              simp only [Array.getD_eq_getD_getElem?, Array.getElem?_eq_getElem hil, Option.getD_some] at h1
              simp [hil, h1]
            have := count_take_set (l := listed.toList) hin (by simp; omega) hl
            rw [Array.toList_setIfInBounds]
            omega
          · intro t ht
            rw [henv, ← hu t ht]
            simp only [upd]
            cases hb : Nat.beq t d
            · rfl
            · exfalso
              have : t = d := Nat.eq_of_beq_eq_true hb
              subst this
              have := List.mem_of_getElem? hd
              simp [this] at ht
          · intro j hj d' F' hd' hF'
            rw [henv]
            by_cases hij : j = i
            · subst hij
              rw [hd] at hd'; cases hd'
              rw [hF] at hF'; cases hF'
              simp only [upd, Nat.beq_refl, cond_true]
              exact hv
            · have hne : Nat.beq d' d = false := by
                cases hb : Nat.beq d' d
                · rfl
                · exfalso
                  have : d' = d := Nat.eq_of_beq_eq_true hb
                  subst this
                  exact hij (nodupB_get hn hd' hd)
              simp only [upd, hne, cond_false]
              rw [getD_set_ne _ (Ne.symm hij)] at hj
              by_cases hic : i = c
              · refine FactT.chg (hh j hj d' F' hd' hF') (toM hx2) (ownB_get hO (by rw [← hG]; exact hF') (by omega))
              · have hb : Nat.beq (0 + i) c = false := by
                  cases hb : Nat.beq (0 + i) c
                  · rfl
                  · exact absurd (Nat.eq_of_beq_eq_true hb) (by omega)
                rw [hb] at hx2
                exact FactT.ext (hh j hj d' F' hd' hF') hx2
        have hx0 : Chg (bif Nat.beq (0 + i) c then none1 else M) w1 w' := by
          rw [Nat.zero_add]
          by_cases hic : i = c
          · subst hic
            rw [Nat.beq_refl]
            rw [getD_both h1] at hx
            exact hx
          · have hb : Nat.beq i c = false := by cases hb : Nat.beq i c; rfl; exact absurd (Nat.eq_of_beq_eq_true hb) hic
            rw [hb]
            exact toM hx
        have hdo := hstep (env a) w' hx0 hu hH
        have hw : Region.wanted o (yielded l.toArray a.tmps) = true := by simp [Region.wanted, hgd]
        unfold wpOp
        simp only [h2, hw, if_true]
        exact Or.inl (hdo a ha rfl _ _ cont)
  have inv0 : HeadInv .any l.toArray n (Array.replicate l.toArray.size false) :=
    ⟨by simp, fun j oj _ hl => (by rw [getD_replicate_false] at hl; cases hl), fun t _ ht => getD_in (by simpa using ht) (getD_replicate_false _ _)⟩
  have h1 := key n (Array.replicate l.toArray.size false) a w1 (by simp; omega) inv0 ha (Chg.refl _ _) (fun t _ => by rw [he]) (fun j hj => by rw [getD_replicate_false] at hj; cases hj)
  have e3 : n + (l.length - n) = l.toArray.size := by simp; omega
  rw [e3] at h1
  exact h1
end Go.Eng
