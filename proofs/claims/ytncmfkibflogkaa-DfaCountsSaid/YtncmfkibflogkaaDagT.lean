/- Regions whose first operations come in any order and change only some blocks, and whose other operations have one order. Generic: no program is named. -/
import Derived.Test.YtncmfkibflogkaaDag
namespace Go.Eng
open Go

inductive FactT (M : Nat → Prop) where
  | eq (v : Value)
  | gen (F : Fct) (h : ∀ v w w', Chg M w w' → F v w → F v w')
  | own (F : Fct) (h : ∀ v w w', Ext w w' → F v w → F v w')
  | till (F : Fct) (h : ∀ v w w', Ext w w' → F v w → F v w')
def FactT.In {M : Nat → Prop} : FactT M → Fct
  | .eq u, v, _ => v = u
  | .gen F _, v, w => F v w
  | .own F _, v, w => F v w
  | .till F _, v, w => F v w
/-- What a fact says, ahead of the operation that changes memory and behind it. -/
def FactT.At {M : Nat → Prop} (done : Bool) : FactT M → Fct
  | .till F _, v, w => done = false → F v w
  | F, v, w => F.In v w
theorem FactT.at_in {M : Nat → Prop} {F : FactT M} {v : Value} {w : World} (h : F.In v w) (done : Bool) : F.At done v w := by
  cases F <;> first | exact h | exact fun _ => h
theorem FactT.at_false {M : Nat → Prop} {F : FactT M} {v : Value} {w : World} (h : F.At false v w) : F.In v w := by
  cases F <;> first | exact h | exact h rfl
def FactT.isOwn {M : Nat → Prop} : FactT M → Bool
  | .own _ _ => true
  | _ => false
theorem FactT.chg {M : Nat → Prop} {F : FactT M} {v : Value} {w w' : World} {done : Bool} (h : F.At done v w) (e : Chg M w w') (ho : F.isOwn = false) : F.At true v w' := by
  cases F with
  | eq u => exact h
  | gen F hF => exact hF _ _ _ e h
  | own F hF => cases ho
  | till F hF => intro hd; cases hd
theorem FactT.ext {M : Nat → Prop} {F : FactT M} {v : Value} {w w' : World} {done : Bool} (h : F.At done v w) (e : Ext w w') : F.At done v w' := by
  cases F with
  | eq u => exact h
  | gen F hF => exact hF _ _ _ (Ext.chg e) h
  | own F hF => exact hF _ _ _ e h
  | till F hF => exact fun hd => hF _ _ _ e (h hd)
/-- Only the fact at one place is of the kind that holds behind that operation alone. -/
def ownB {M : Nat → Prop} (c : Nat) : Nat → List (FactT M) → Bool
  | _, [] => true
  | i, F :: l => (!F.isOwn || Nat.beq i c) && ownB c (i + 1) l
theorem ownB_get {M : Nat → Prop} {c : Nat} : ∀ {i : Nat} {l : List (FactT M)}, ownB c i l = true → ∀ {j : Nat} {F : FactT M}, l[j]? = some F → i + j ≠ c → F.isOwn = false
  | _, [], _, _, _, h, _ => by simp at h
  | i, G :: l, hB, 0, F, h, hne => by
    simp at h; subst h
    simp only [ownB, Bool.and_eq_true, Bool.or_eq_true, Bool.not_eq_true'] at hB
    rcases hB.1 with h | h
    · exact h
    · exact absurd (Nat.eq_of_beq_eq_true h) hne
  | i, G :: l, hB, j + 1, F, h, hne => by
    simp only [ownB, Bool.and_eq_true] at hB
    simp at h
    exact ownB_get hB.2 h (by omega)

def DoesT (M : Nat → Prop) (P : Program) (N : Nat) (o : Oper) (R : Fct) (σ : Env) (w : World) : Prop :=
  ∀ a, Ok N a → env a = σ → ∀ (Q : Exit → Act → World → Prop) (K : Act → World → Prop), (∀ v w', Chg M w w' → R v w' → K (a.put o.dst v) w') → o.wp P a w K Q
def HoldsT {M : Nat → Prop} (ds : List Nat) (Fs : List (FactT M)) (done : Bool) (j : Nat) (σ : Env) (w : World) : Prop := ∀ d F, ds[j]? = some d → Fs[j]? = some F → F.At done (σ d) w
section
variable {M : Nat → Prop} {P : Program} {N : Nat} {o : Oper} {R : Fct} {σ : Env} {w : World}
theorem DoesT_val {v : Value} {w' : World} (hr : (execOp (ev σ) o).run P w = .ok (.value v) w') (hx : Chg M w w') (h : R v w') : DoesT M P N o R σ w := by
  intro a ha he Q K hK
  unfold Oper.wp
  rw [eval_env, he, hr]
  simp only [Oper.upon]
  exact hK _ _ hx h
theorem DoesT_skip {w' : World} (hr : (execOp (ev σ) o).run P w = .ok .skip w') (hx : Chg M w w') (h : R undef w') : DoesT M P N o R σ w := by
  intro a ha he Q K hK
  unfold Oper.wp
  rw [eval_env, he, hr]
  simp only [Oper.upon]
  exact hK _ _ hx h
theorem DoesT_enter {f : FuncId} {args : Array Value} (hr : (execOp (ev σ) o).run P w = .ok (.enter f args) w) (hc : Ret P f args w fun v w' => R v w' ∧ Chg M w w') : DoesT M P N o R σ w := by
  intro a ha he Q K hK
  unfold Oper.wp
  rw [eval_env, he, hr]
  simp only [Oper.upon]
  refine Calls.mono hc ?_
  rintro e w' ⟨v, rfl, r, x⟩
  exact hK _ _ x r
end
def dagOneT (N i : Nat) (o : Oper) (d : Nat) (ws : List Nat) : Bool :=
  (match o.dst with | some d' => Nat.beq d' d && Nat.blt d N | none => Nat.ble N d) && (o.after.all fun e => !Region.binds .any e || Nat.blt e.on i) && (ws.all fun j => o.after.any fun e => Region.binds .any e && Nat.beq e.on j) && o.guard.isNone
def dagBT (N : Nat) : Nat → List Oper → List Nat → List (List Nat) → Bool
  | _, [], [], [] => true
  | i, o :: l, d :: ds, ws :: wss => dagOneT N i o d ws && dagBT N (i + 1) l ds wss
  | _, _, _, _ => false
theorem dagBT_get {N : Nat} : ∀ {i : Nat} {l : List Oper} {ds : List Nat} {wss : List (List Nat)}, dagBT N i l ds wss = true → ∀ {j : Nat} {o : Oper}, l[j]? = some o → ∃ d ws, ds[j]? = some d ∧ wss[j]? = some ws ∧ dagOneT N (i + j) o d ws = true
  | _, [], _, _, _, j, o, h => by simp at h
  | i, x :: l, [], _, hB, _, _, _ => by simp [dagBT] at hB
  | i, x :: l, d :: ds, [], hB, _, _, _ => by simp [dagBT] at hB
  | i, x :: l, d :: ds, ws :: wss, hB, j, o, h => by
    simp only [dagBT, Bool.and_eq_true] at hB
    cases j with
    | zero => simp at h; subst h; exact ⟨d, ws, rfl, rfl, hB.1⟩
    | succ j =>
      simp at h
      obtain ⟨d', ws', h1, h2, h3⟩ := dagBT_get hB.2 h
      exact ⟨d', ws', by simpa using h1, by simpa using h2, by rw [show i + (j + 1) = i + 1 + j from by omega]; exact h3⟩
theorem dagBT_len {N : Nat} : ∀ {i : Nat} {l : List Oper} {ds : List Nat} {wss : List (List Nat)}, dagBT N i l ds wss = true → ds.length = l.length
  | _, [], [], [], _ => rfl
  | _, [], [], _ :: _, hB => by simp [dagBT] at hB
  | _, [], _ :: _, _, hB => by simp [dagBT] at hB
  | i, x :: l, [], _, hB => by simp [dagBT] at hB
  | i, x :: l, d :: ds, [], hB => by simp [dagBT] at hB
  | i, x :: l, d :: ds, ws :: wss, hB => by
    simp only [dagBT, Bool.and_eq_true] at hB
    simp [dagBT_len hB.2]
/-- The operations that are sure to come ahead of the one that changes memory, and that one. -/
def calmB (c : Nat) (wss : List (List Nat)) (i : Nat) : Bool := Nat.beq i c || (wss.getD c []).contains i
def valOf (o : Oper) (v : Value) : Value := match o.dst with
  | some _ => v
  | none => undef
def DagStepT {M : Nat → Prop} (P : Program) (N : Nat) (ds : List Nat) (Fs : List (FactT M)) (σ : Env) (w : World) (own calm : Bool) (o : Oper) (ws : List Nat) (F : FactT M) : Prop :=
  ∀ σ' w', Chg (bif calm then none1 else M) w w' → (∀ t, ds.contains t = false → σ' t = σ t) → (∀ j, ws.contains j = true → HoldsT ds Fs (!calm) j σ' w') → DoesT (bif own then M else none1) P N o (fun v w => F.In (valOf o v) w) σ' w'
inductive DagStepsT {M : Nat → Prop} (P : Program) (N : Nat) (ds : List Nat) (Fs : List (FactT M)) (σ : Env) (w : World) (c : Nat) (all : List (List Nat)) : Nat → List Oper → List (List Nat) → List (FactT M) → Prop where
  | nil {i : Nat} : DagStepsT P N ds Fs σ w c all i [] [] []
  | cons {i : Nat} {o : Oper} {ws : List Nat} {F : FactT M} {l : List Oper} {wss : List (List Nat)} {Gs : List (FactT M)} : DagStepT P N ds Fs σ w (Nat.beq i c) (calmB c all i) o ws F → DagStepsT P N ds Fs σ w c all (i + 1) l wss Gs → DagStepsT P N ds Fs σ w c all i (o :: l) (ws :: wss) (F :: Gs)
theorem DagStepsT.get {M : Nat → Prop} {P : Program} {N : Nat} {ds : List Nat} {Fs : List (FactT M)} {σ : Env} {w : World} {c : Nat} {all : List (List Nat)} : ∀ {i : Nat} {l : List Oper} {wss : List (List Nat)} {Gs : List (FactT M)}, DagStepsT P N ds Fs σ w c all i l wss Gs → ∀ {j : Nat} {o : Oper}, l[j]? = some o → ∃ ws F, wss[j]? = some ws ∧ Gs[j]? = some F ∧ DagStepT P N ds Fs σ w (Nat.beq (i + j) c) (calmB c all (i + j)) o ws F
  | _, _, _, _, .nil, j, o, h => by simp at h
  | _, _, _, _, .cons h1 h2, 0, o, h => by simp at h; subst h; exact ⟨_, _, rfl, rfl, h1⟩
  | i, _, _, _, .cons h1 h2, j + 1, o, h => by
    obtain ⟨ws, F, a, b, c⟩ := h2.get (j := j) (by simpa using h)
    exact ⟨ws, F, by simpa using a, by simpa using b, by rw [show i + (j + 1) = i + 1 + j from by omega]; exact c⟩

def headDone (n m : Nat) : Array Bool := (List.replicate n true ++ List.replicate (m - n) false).toArray
theorem count_take_set {l : List Bool} {n i : Nat} (hi : i < n) (hl : n ≤ l.length) (hf : l[i]? = some false) : ((l.set i true).take n).count false + 1 = (l.take n).count false := by
  have hi' : i < (l.take n).length := by simp; omega
  rw [List.take_set, List.count_set hi']
  have : (l.take n)[i] = false := by
    have h2 : (l.take n)[i]? = some false := by rw [List.getElem?_take_of_lt hi]; exact hf
    rw [List.getElem?_eq_getElem hi'] at h2; simpa using h2
  rw [this, if_pos (by rfl), if_neg (by decide)]
  have : 0 < (l.take n).count false := by
    rw [List.count_pos_iff]
    rw [← this]; exact List.getElem_mem hi'
  omega
theorem head_all {l : List Bool} {n : Nat} (hl : n ≤ l.length) (h0 : (l.take n).count false = 0) (ht : ∀ t, n ≤ t → t < l.length → l[t]? = some false) : l = List.replicate n true ++ List.replicate (l.length - n) false := by
  apply List.ext_getElem?
  intro i
  rcases Nat.lt_or_ge i n with h | h
  · rw [List.getElem?_append_left (by simpa using h), List.getElem?_replicate, if_pos h]
    have hi : i < l.length := by omega
    rw [List.getElem?_eq_getElem hi]
    cases hv : l[i] with
    | true => rfl
    | false =>
      exfalso
      rw [List.count_eq_zero] at h0
      apply h0
      have : (l.take n)[i]? = some false := by rw [List.getElem?_take_of_lt h, List.getElem?_eq_getElem hi, hv]
      exact List.mem_of_getElem? this
  · rw [List.getElem?_append_right (by simpa using h), List.getElem?_replicate, List.length_replicate]
    rcases Nat.lt_or_ge i l.length with h2 | h2
    · rw [if_pos (by omega), ht i h h2]
    · rw [if_neg (by omega), List.getElem?_eq_none h2]

theorem Wp_dagT {P : Program} {N : Nat} {Q : Post} {σ : Env} {w : World} {id : Nat} {l : List Oper} (M : Nat → Prop) (n c : Nat) (ds : List Nat) (wss : List (List Nat)) (Fs : List (FactT M)) {Gs : List (FactT M)} (hG : Fs = Gs) (hO : ownB c 0 Gs = true) (hm : P.follows .mixedOrders = true) (hB : dagBT N 0 (l.take n) ds wss = true) (hn : nodupB ds = true)
    (hT : (decide (n < l.length) && Region.sinkB .any l.toArray n && Region.chainB .any l.toArray n && Region.seqB .any l.toArray (l.length - n) n (headDone n l.length)) = true)
    (steps : ∀ w1, Ext w w1 → DagStepsT P N ds Fs σ w1 c wss 0 (l.take n) wss Gs)
    (k : ∀ σ' w1 w', Ext w w1 → Chg M w1 w' → (∀ t, ds.contains t = false → σ' t = σ t) → (∀ j, HoldsT ds Fs true j σ' w') → WpL P N l.toArray (Q .normal) Q (l.drop n) σ' w') : Wp P N (.region id l.toArray true) Q σ w := by
  intro a ha he
  have eQ : lift N (thn (Q .normal) Q) = lift N Q := by funext e a w; cases e <;> rfl
  refine wp_region_any hm ?_
  obtain ⟨w1, hw1⟩ : ∃ w1 : World, w1 = { w with drawn := w.drawn + 1 } := ⟨_, rfl⟩
  have hE1 : Ext w w1 := by rw [hw1]; exact drew_ext w
  rw [← hw1]
  have hst := steps w1 hE1
  rw [← hG] at hst
  simp only [Bool.and_eq_true, decide_eq_true_eq] at hT
  obtain ⟨⟨⟨hnl, hs⟩, hc⟩, hseq⟩ := hT
  have toM : ∀ {q : Bool} {u u' : World}, Chg (bif q then M else none1) u u' → Chg M u u' := fun {q u u'} h => by cases q with | true => exact h | false => exact Ext.chg h
  have hlen : ds.length = n := by rw [dagBT_len hB]; simp; omega
  have key : ∀ (m : Nat) (listed : Array Bool) (a : Act) (w' : World), (listed.toList.take n).count false = m → HeadInv .any l.toArray n listed → Ok N a → Chg (bif listed.getD c false then M else none1) w1 w' → (∀ t, ds.contains t = false → env a t = σ t) → (∀ j, listed.getD j false = true → HoldsT ds Fs (listed.getD c false) j (env a) w') →
      wpAny P .any l.toArray (lift N Q) (m + (l.length - n)) listed a w' := by
    intro m
    induction m with
    | zero =>
      intro listed a w' hc0 inv ha hx hu hh
      have hsz : listed.size = l.length := by simpa using inv.size
      have hl : listed = headDone n l.length := by
        apply Array.ext'
        rw [headDone]
        have := head_all (l := listed.toList) (n := n) (by simp; omega) hc0 (by
          intro t h1 h2
          have h2' : t < listed.size := by simpa using h2
          have := inv.tail t h1 (by simpa [hsz] using h2')
          simp only [Array.getD_eq_getD_getElem?, Array.getElem?_eq_getElem h2', Option.getD_some] at this
          simp [h2', this])
        rw [this]; simp [hsz]
      rw [Nat.zero_add]
      have h1 := k (env a) w1 w' hE1 (toM hx) hu (fun j d F hd hF => by
        have hj : j < n := by have := lt_of_get hd; omega
        have h2 := hh j (by
          rw [hl, headDone]
          simp [Array.getD_eq_getD_getElem?, List.getElem?_append_left, hj]) d F hd hF
        cases F with
        | till F hF => intro hd; cases hd
        | eq u => exact h2
        | gen F hF => exact h2
        | own F hF => exact h2) a ha rfl
      rw [eQ] at h1
      have := wpAny_of_seq (P := P) (md := .any) (ops := l.toArray) (Q' := lift N Q) (l.drop n) n listed a w' (fun j => by simp [List.getElem?_drop]) (by rw [List.length_drop, hl]; exact hseq) h1
      rwa [List.length_drop] at this
    | succ m ih =>
      intro listed a w' hcm inv ha hx hu hh
      have hsz : listed.size = l.length := by simpa using inv.size
      obtain ⟨i0, hi0n, hi0⟩ : ∃ i, i < n ∧ listed.getD i true = false := by
        have : 0 < (listed.toList.take n).count false := by omega
        rw [List.count_pos_iff] at this
        obtain ⟨i, hi, he⟩ := List.getElem_of_mem this
        have hin : i < n := by simp at hi; omega
        refine ⟨i, hin, ?_⟩
        have hil : i < listed.size := by simp at hi; omega
        simp only [Array.getD_eq_getD_getElem?, Array.getElem?_eq_getElem hil, Option.getD_some]
        simpa using he
      rw [show m + 1 + (l.length - n) = (m + (l.length - n)) + 1 by omega]
      refine ⟨fun hr => ?_, fun i hi => ?_⟩
      · exfalso
        have hall : ∀ i, i < n → listed.getD i true = true := by
          intro i
          induction i using Nat.strongRecOn with
          | _ i ihi =>
            intro hi
            cases hv : listed.getD i true with
            | true => rfl
            | false =>
              exfalso
              obtain ⟨o, ho⟩ := get_of_lt (l := l) (i := i) (by omega)
              have ho' : (l.take n)[i]? = some o := by rw [List.getElem?_take_of_lt hi]; exact ho
              obtain ⟨d, ws, _, _, h3⟩ := dagBT_get hB ho'
              have : i ∈ Region.ready .any l.toArray listed := by
                refine mem_ready.2 ⟨hv, o, by simpa using ho, fun e he hb => ?_⟩
                simp only [dagOneT, Bool.and_eq_true, Array.all_eq_true_iff_forall_mem, Bool.or_eq_true, Bool.not_eq_true', Nat.zero_add] at h3
                have := (h3.1.1.2 e he).resolve_left (by simp [hb])
                have hlt : e.on < i := by simpa [Nat.blt_eq] using this
                have h4 := ihi e.on hlt (by omega)
                have hj : e.on < listed.size := by omega
                simpa only [Array.getD_eq_getD_getElem?, Array.getElem?_eq_getElem hj, Option.getD_some] using h4
              rw [hr] at this
              cases this
        rw [hall i0 hi0n] at hi0
        cases hi0
      · have hin : i < n := by
          rcases Nat.lt_or_ge i n with h | h
          · exact h
          · exact absurd hi (tail_waits hs hc (by simpa using hnl) inv _ i0 rfl hi0n hi0 i h)
        obtain ⟨h1, o, h2, h3⟩ := mem_ready.1 hi
        have hil : i < listed.size := by omega
        have ho : l[i]? = some o := by simpa using h2
        have ho' : (l.take n)[i]? = some o := by rw [List.getElem?_take_of_lt hin]; exact ho
        obtain ⟨d, ws, hd, hws, h4⟩ := dagBT_get hB ho'
        obtain ⟨ws', F, hws', hF, hstep⟩ := hst.get ho'
        rw [hws] at hws'
        cases hws'
        simp only [Nat.zero_add] at hstep
        simp only [dagOneT, Bool.and_eq_true, List.all_eq_true, Array.any_eq_true', Array.all_eq_true_iff_forall_mem, Bool.or_eq_true, Bool.not_eq_true', Nat.zero_add] at h4
        obtain ⟨⟨⟨hdst, _⟩, hwait⟩, hgd⟩ := h4
        have hgd : o.guard = none := by simpa using hgd
        -- what is sure to come ahead of the change
        have hcalm : calmB c wss i = true → listed.getD c false = false := by
          intro hcb
          simp only [calmB, Bool.or_eq_true] at hcb
          rcases hcb with hcb | hcb
          · have : i = c := Nat.eq_of_beq_eq_true hcb
            subst this; exact getD_both h1
          · cases hlc : listed.getD c false with
            | false => rfl
            | true =>
              exfalso
              have hcn : c < n := by
                rcases Nat.lt_or_ge c n with h | h
                · exact h
                · rcases Nat.lt_or_ge c l.length with h' | h'
                  · have := getD_both (inv.tail c h (by simpa using h')); rw [this] at hlc; cases hlc
                  · simp [Array.getElem?_eq_none (show listed.size ≤ c by omega)] at hlc
              obtain ⟨oc, hoc⟩ := get_of_lt (l := l) (i := c) (by omega)
              have hoc' : (l.take n)[c]? = some oc := by rw [List.getElem?_take_of_lt hcn]; exact hoc
              obtain ⟨dc, wsc, _, hwsc, h5⟩ := dagBT_get hB hoc'
              have hgc : wss.getD c [] = wsc := by simp [hwsc]
              rw [hgc] at hcb
              simp only [dagOneT, Bool.and_eq_true, List.all_eq_true, Array.any_eq_true', Nat.zero_add] at h5
              obtain ⟨e, he, hb1, hb2⟩ := h5.1.2 i (by simpa using hcb)
              have hei : e.on = i := Nat.eq_of_beq_eq_true hb2
              have := inv.closed c oc (by simpa using hoc) hlc e he hb1
              rw [hei, getD_both h1] at this
              cases this
        have hH : ∀ j, ws.contains j = true → HoldsT ds Fs (!calmB c wss i) j (env a) w' := by
          intro j hj d' F' hd' hF'
          have hj' : j ∈ ws := by simpa using hj
          obtain ⟨e, he, hb⟩ := hwait j hj'
          obtain ⟨hb1, hb2⟩ := hb
          have : e.on = j := Nat.eq_of_beq_eq_true hb2
          have h5 := hh j (this ▸ h3 e he hb1) d' F' hd' hF'
          cases hcb : calmB c wss i with
          | true => rw [hcalm hcb] at h5; exact h5
          | false =>
            cases F' with
            | till F hF => intro hd; cases hd
            | eq u => exact h5
            | gen F hF => exact h5
            | own F hF => exact h5
        have hstep2 : (∀ w2, Chg (bif Nat.beq i c then M else none1) w' w2 → Chg (bif (listed.setIfInBounds i true).getD c false then M else none1) w1 w2) := by
          intro w2 hx2
          by_cases hic : i = c
          · subst hic
            rw [Nat.beq_refl] at hx2
            have hg : (listed.setIfInBounds i true).getD i false = true := by simp [Array.getD_eq_getD_getElem?, hil]
            rw [hg]
            exact (toM hx).trans hx2
          · have hb : Nat.beq i c = false := by cases hb : Nat.beq i c; rfl; exact absurd (Nat.eq_of_beq_eq_true hb) hic
            rw [hb] at hx2
            rw [getD_set_ne _ hic]
            exact hx.ext hx2
        have cont : ∀ v w2, Chg (bif Nat.beq i c then M else none1) w' w2 → F.In (valOf o v) w2 → wpAny P .any l.toArray (lift N Q) (m + (l.length - n)) (listed.setIfInBounds i true) (a.put o.dst v) w2 := by
          intro v w2 hx2 hv
          have henv : (∀ t, t ≠ d → env (a.put o.dst v) t = env a t) ∧ env (a.put o.dst v) d = valOf o v := by
            cases hod : o.dst with
            | none =>
              rw [hod] at hdst
              have hNd : N ≤ d := Nat.le_of_ble_eq_true hdst
              refine ⟨fun t _ => rfl, ?_⟩
              simp only [valOf, hod]
              show a.tmps.getD d undef = undef
              have : a.tmps.size ≤ d := by rw [ha.size]; exact hNd
              simp [Array.getElem?_eq_none this]
            | some d' =>
              rw [hod] at hdst
              simp only [Bool.and_eq_true] at hdst
              have hd1 : d' = d := Nat.eq_of_beq_eq_true hdst.1
              have hd2 : d < N := by simpa [Nat.blt_eq] using hdst.2
              subst hd1
              rw [env_put ha hd2 v]
              refine ⟨fun t ht => ?_, ?_⟩
              · have : Nat.beq t d' = false := by cases hb : Nat.beq t d'; rfl; exact absurd (Nat.eq_of_beq_eq_true hb) ht
                simp [upd, this]
              · simp [upd, valOf, hod]
          refine ih _ _ _ ?_ (inv.set hi hin) (ha.put _ _) (hstep2 w2 hx2) ?_ ?_
          · have hl : listed.toList[i]? = some false := by
              simp only [Array.getD_eq_getD_getElem?, Array.getElem?_eq_getElem hil, Option.getD_some] at h1
              simp [hil, h1]
            have := count_take_set (l := listed.toList) hin (by simp; omega) hl
            rw [Array.toList_setIfInBounds]
            omega
          · intro t ht
            rw [henv.1 t (fun h => by
              subst h
              have := List.mem_of_getElem? hd
              simp [this] at ht), hu t ht]
          · intro j hj d' F' hd' hF'
            by_cases hij : j = i
            · subst hij
              rw [hd] at hd'; cases hd'
              rw [hF] at hF'; cases hF'
              rw [henv.2]
              exact FactT.at_in hv _
            · have hne : d' ≠ d := by
                intro h
                subst h
                exact hij (nodupB_get hn hd' hd)
              rw [henv.1 d' hne]
              rw [getD_set_ne _ (Ne.symm hij)] at hj
              have h6 := hh j hj d' F' hd' hF'
              by_cases hic : i = c
              · have hg : (listed.setIfInBounds i true).getD c false = true := by rw [← hic]; simp [Array.getD_eq_getD_getElem?, hil]
                rw [hg]
                exact FactT.chg h6 (toM hx2) (ownB_get hO (by rw [← hG]; exact hF') (by omega))
              · have hb : Nat.beq i c = false := by
                  cases hb : Nat.beq i c
                  · rfl
                  · exact absurd (Nat.eq_of_beq_eq_true hb) hic
                rw [hb] at hx2
                rw [getD_set_ne _ hic]
                exact FactT.ext h6 hx2
        have hx0 : Chg (bif calmB c wss i then none1 else M) w1 w' := by
          cases hcb : calmB c wss i with
          | true => rw [hcalm hcb] at hx; exact hx
          | false => exact toM hx
        have hdo := hstep (env a) w' hx0 hu hH
        have hw : Region.wanted o (yielded l.toArray a.tmps) = true := by simp [Region.wanted, hgd]
        unfold wpOp
        simp only [h2, hw, if_true]
        exact Or.inl (hdo a ha rfl _ _ cont)
  have inv0 : HeadInv .any l.toArray n (Array.replicate l.toArray.size false) :=
    ⟨by simp, fun j oj _ hl => (by rw [getD_replicate_false] at hl; cases hl), fun t _ ht => getD_in (by simpa using ht) (getD_replicate_false _ _)⟩
  have h1 := key n (Array.replicate l.toArray.size false) a w1 (by simp; omega) inv0 ha (by rw [getD_replicate_false]; exact Chg.refl _ _) (fun t _ => by rw [he]) (fun j hj => by rw [getD_replicate_false] at hj; cases hj)
  have e3 : n + (l.length - n) = l.toArray.size := by simp; omega
  rw [e3] at h1
  exact h1
def DagStepK {M : Nat → Prop} (P : Program) (N : Nat) (ds : List Nat) (Fs : List (FactT M)) (σ : Env) (w : World) (own calm : Bool) (o : Oper) (ws : List Nat) (F : FactT M) (K : List Nat → Env → Prop) : Prop :=
  ∀ σ' w', Chg (bif calm then none1 else M) w w' → (∀ t, ds.contains t = false → σ' t = σ t) → (∀ j, ws.contains j = true → HoldsT ds Fs (!calm) j σ' w') → K ws σ' → DoesT (bif own then M else none1) P N o (fun v w => F.In (valOf o v) w) σ' w'
inductive DagStepsK {M : Nat → Prop} (P : Program) (N : Nat) (ds : List Nat) (Fs : List (FactT M)) (σ : Env) (w : World) (c : Nat) (all : List (List Nat)) (K : List Nat → Env → Prop) : Nat → List Oper → List (List Nat) → List (FactT M) → Prop where
  | nil {i : Nat} : DagStepsK P N ds Fs σ w c all K i [] [] []
  | cons {i : Nat} {o : Oper} {ws : List Nat} {F : FactT M} {l : List Oper} {wss : List (List Nat)} {Gs : List (FactT M)} : DagStepK P N ds Fs σ w (Nat.beq i c) (calmB c all i) o ws F K → DagStepsK P N ds Fs σ w c all K (i + 1) l wss Gs → DagStepsK P N ds Fs σ w c all K i (o :: l) (ws :: wss) (F :: Gs)
theorem DagStepsK.get {M : Nat → Prop} {P : Program} {N : Nat} {ds : List Nat} {Fs : List (FactT M)} {σ : Env} {w : World} {c : Nat} {all : List (List Nat)} {K : List Nat → Env → Prop} : ∀ {i : Nat} {l : List Oper} {wss : List (List Nat)} {Gs : List (FactT M)}, DagStepsK P N ds Fs σ w c all K i l wss Gs → ∀ {j : Nat} {o : Oper}, l[j]? = some o → ∃ ws F, wss[j]? = some ws ∧ Gs[j]? = some F ∧ DagStepK P N ds Fs σ w (Nat.beq (i + j) c) (calmB c all (i + j)) o ws F K
  | _, _, _, _, .nil, j, o, h => by simp at h
  | _, _, _, _, .cons h1 h2, 0, o, h => by simp at h; subst h; exact ⟨_, _, rfl, rfl, h1⟩
  | i, _, _, _, .cons h1 h2, j + 1, o, h => by
    obtain ⟨ws, F, a, b, c⟩ := h2.get (j := j) (by simpa using h)
    exact ⟨ws, F, by simpa using a, by simpa using b, by rw [show i + (j + 1) = i + 1 + j from by omega]; exact c⟩
/-- The same, with a relation between what two of the operations give, whichever comes first. -/
theorem Wp_dagT2 {P : Program} {N : Nat} {Q : Post} {σ : Env} {w : World} {id : Nat} {l : List Oper} (M : Nat → Prop) (n c : Nat) (ds : List Nat) (wss : List (List Nat)) (Fs : List (FactT M)) {Gs : List (FactT M)} (hG : Fs = Gs) (hO : ownB c 0 Gs = true) (hm : P.follows .mixedOrders = true) (hB : dagBT N 0 (l.take n) ds wss = true) (hn : nodupB ds = true)
    (hT : (decide (n < l.length) && Region.sinkB .any l.toArray n && Region.chainB .any l.toArray n && Region.seqB .any l.toArray (l.length - n) n (headDone n l.length)) = true)
    (p q dp dq : Nat) (Fp Fq : FactT M) (R : Value → Value → Prop) (hpq : (p ≠ q ∧ ds[p]? = some dp ∧ ds[q]? = some dq) ∧ Fs[p]? = some Fp ∧ Fs[q]? = some Fq)
    (sp : ∀ w1, Ext w w1 → ∀ o ws, l[p]? = some o → wss[p]? = some ws → ∀ σ' w', Chg (bif calmB c wss p then none1 else M) w1 w' → (∀ t, ds.contains t = false → σ' t = σ t) → (∀ j, ws.contains j = true → HoldsT ds Fs (!calmB c wss p) j σ' w') → Fq.At true (σ' dq) w' → DoesT (bif Nat.beq p c then M else none1) P N o (fun v w => Fp.In (valOf o v) w ∧ R (valOf o v) (σ' dq)) σ' w')
    (sq : ∀ w1, Ext w w1 → ∀ o ws, l[q]? = some o → wss[q]? = some ws → ∀ σ' w', Chg (bif calmB c wss q then none1 else M) w1 w' → (∀ t, ds.contains t = false → σ' t = σ t) → (∀ j, ws.contains j = true → HoldsT ds Fs (!calmB c wss q) j σ' w') → Fp.At true (σ' dp) w' → DoesT (bif Nat.beq q c then M else none1) P N o (fun v w => Fq.In (valOf o v) w ∧ R (σ' dp) (valOf o v)) σ' w')
    (steps : ∀ w1, Ext w w1 → DagStepsK P N ds Fs σ w1 c wss (fun ws σ' => ws.contains p = true → ws.contains q = true → R (σ' dp) (σ' dq)) 0 (l.take n) wss Gs)
    (k : ∀ σ' w1 w', Ext w w1 → Chg M w1 w' → (∀ t, ds.contains t = false → σ' t = σ t) → (∀ j, HoldsT ds Fs true j σ' w') → R (σ' dp) (σ' dq) → WpL P N l.toArray (Q .normal) Q (l.drop n) σ' w') : Wp P N (.region id l.toArray true) Q σ w := by
  intro a ha he
  have eQ : lift N (thn (Q .normal) Q) = lift N Q := by funext e a w; cases e <;> rfl
  refine wp_region_any hm ?_
  obtain ⟨w1, hw1⟩ : ∃ w1 : World, w1 = { w with drawn := w.drawn + 1 } := ⟨_, rfl⟩
  have hE1 : Ext w w1 := by rw [hw1]; exact drew_ext w
  rw [← hw1]
  have hst := steps w1 hE1
  rw [← hG] at hst
  simp only [Bool.and_eq_true, decide_eq_true_eq] at hT
  obtain ⟨⟨⟨hnl, hs⟩, hc⟩, hseq⟩ := hT
  have toM : ∀ {q : Bool} {u u' : World}, Chg (bif q then M else none1) u u' → Chg M u u' := fun {q u u'} h => by cases q with | true => exact h | false => exact Ext.chg h
  have hlen : ds.length = n := by rw [dagBT_len hB]; simp; omega
  have key : ∀ (m : Nat) (listed : Array Bool) (a : Act) (w' : World), (listed.toList.take n).count false = m → HeadInv .any l.toArray n listed → Ok N a → Chg (bif listed.getD c false then M else none1) w1 w' → (∀ t, ds.contains t = false → env a t = σ t) → (∀ j, listed.getD j false = true → HoldsT ds Fs (listed.getD c false) j (env a) w') → (listed.getD p false = true → listed.getD q false = true → R (env a dp) (env a dq)) →
      wpAny P .any l.toArray (lift N Q) (m + (l.length - n)) listed a w' := by
    intro m
    induction m with
    | zero =>
      intro listed a w' hc0 inv ha hx hu hh hR
      have hsz : listed.size = l.length := by simpa using inv.size
      have hl : listed = headDone n l.length := by
        apply Array.ext'
        rw [headDone]
        have := head_all (l := listed.toList) (n := n) (by simp; omega) hc0 (by
          intro t h1 h2
          have h2' : t < listed.size := by simpa using h2
          have := inv.tail t h1 (by simpa [hsz] using h2')
          simp only [Array.getD_eq_getD_getElem?, Array.getElem?_eq_getElem h2', Option.getD_some] at this
          simp [h2', this])
        rw [this]; simp [hsz]
      rw [Nat.zero_add]
      have h1 := k (env a) w1 w' hE1 (toM hx) hu (fun j d F hd hF => by
        have hj : j < n := by have := lt_of_get hd; omega
        have h2 := hh j (by
          rw [hl, headDone]
          simp [Array.getD_eq_getD_getElem?, List.getElem?_append_left, hj]) d F hd hF
        cases F with
        | till F hF => intro hd; cases hd
        | eq u => exact h2
        | gen F hF => exact h2
        | own F hF => exact h2) (by
        have hp : p < n := by have := lt_of_get hpq.1.2.1; omega
        have hq : q < n := by have := lt_of_get hpq.1.2.2; omega
        exact hR (by rw [hl, headDone]; simp [Array.getD_eq_getD_getElem?, List.getElem?_append_left, hp]) (by rw [hl, headDone]; simp [Array.getD_eq_getD_getElem?, List.getElem?_append_left, hq])) a ha rfl
      rw [eQ] at h1
      have := wpAny_of_seq (P := P) (md := .any) (ops := l.toArray) (Q' := lift N Q) (l.drop n) n listed a w' (fun j => by simp [List.getElem?_drop]) (by rw [List.length_drop, hl]; exact hseq) h1
      rwa [List.length_drop] at this
    | succ m ih =>
      intro listed a w' hcm inv ha hx hu hh hR
      have hsz : listed.size = l.length := by simpa using inv.size
      obtain ⟨i0, hi0n, hi0⟩ : ∃ i, i < n ∧ listed.getD i true = false := by
        have : 0 < (listed.toList.take n).count false := by omega
        rw [List.count_pos_iff] at this
        obtain ⟨i, hi, he⟩ := List.getElem_of_mem this
        have hin : i < n := by simp at hi; omega
        refine ⟨i, hin, ?_⟩
        have hil : i < listed.size := by simp at hi; omega
        simp only [Array.getD_eq_getD_getElem?, Array.getElem?_eq_getElem hil, Option.getD_some]
        simpa using he
      rw [show m + 1 + (l.length - n) = (m + (l.length - n)) + 1 by omega]
      refine ⟨fun hr => ?_, fun i hi => ?_⟩
      · exfalso
        have hall : ∀ i, i < n → listed.getD i true = true := by
          intro i
          induction i using Nat.strongRecOn with
          | _ i ihi =>
            intro hi
            cases hv : listed.getD i true with
            | true => rfl
            | false =>
              exfalso
              obtain ⟨o, ho⟩ := get_of_lt (l := l) (i := i) (by omega)
              have ho' : (l.take n)[i]? = some o := by rw [List.getElem?_take_of_lt hi]; exact ho
              obtain ⟨d, ws, _, _, h3⟩ := dagBT_get hB ho'
              have : i ∈ Region.ready .any l.toArray listed := by
                refine mem_ready.2 ⟨hv, o, by simpa using ho, fun e he hb => ?_⟩
                simp only [dagOneT, Bool.and_eq_true, Array.all_eq_true_iff_forall_mem, Bool.or_eq_true, Bool.not_eq_true', Nat.zero_add] at h3
                have := (h3.1.1.2 e he).resolve_left (by simp [hb])
                have hlt : e.on < i := by simpa [Nat.blt_eq] using this
                have h4 := ihi e.on hlt (by omega)
                have hj : e.on < listed.size := by omega
                simpa only [Array.getD_eq_getD_getElem?, Array.getElem?_eq_getElem hj, Option.getD_some] using h4
              rw [hr] at this
              cases this
        rw [hall i0 hi0n] at hi0
        cases hi0
      · have hin : i < n := by
          rcases Nat.lt_or_ge i n with h | h
          · exact h
          · exact absurd hi (tail_waits hs hc (by simpa using hnl) inv _ i0 rfl hi0n hi0 i h)
        obtain ⟨h1, o, h2, h3⟩ := mem_ready.1 hi
        have hil : i < listed.size := by omega
        have ho : l[i]? = some o := by simpa using h2
        have ho' : (l.take n)[i]? = some o := by rw [List.getElem?_take_of_lt hin]; exact ho
        obtain ⟨d, ws, hd, hws, h4⟩ := dagBT_get hB ho'
        obtain ⟨ws', F, hws', hF, hstep⟩ := hst.get ho'
        rw [hws] at hws'
        cases hws'
        simp only [Nat.zero_add] at hstep
        simp only [dagOneT, Bool.and_eq_true, List.all_eq_true, Array.any_eq_true', Array.all_eq_true_iff_forall_mem, Bool.or_eq_true, Bool.not_eq_true', Nat.zero_add] at h4
        obtain ⟨⟨⟨hdst, _⟩, hwait⟩, hgd⟩ := h4
        have hgd : o.guard = none := by simpa using hgd
        -- what is sure to come ahead of the change
        have hcalm : calmB c wss i = true → listed.getD c false = false := by
          intro hcb
          simp only [calmB, Bool.or_eq_true] at hcb
          rcases hcb with hcb | hcb
          · have : i = c := Nat.eq_of_beq_eq_true hcb
            subst this; exact getD_both h1
          · cases hlc : listed.getD c false with
            | false => rfl
            | true =>
              exfalso
              have hcn : c < n := by
                rcases Nat.lt_or_ge c n with h | h
                · exact h
                · rcases Nat.lt_or_ge c l.length with h' | h'
                  · have := getD_both (inv.tail c h (by simpa using h')); rw [this] at hlc; cases hlc
                  · simp [Array.getElem?_eq_none (show listed.size ≤ c by omega)] at hlc
              obtain ⟨oc, hoc⟩ := get_of_lt (l := l) (i := c) (by omega)
              have hoc' : (l.take n)[c]? = some oc := by rw [List.getElem?_take_of_lt hcn]; exact hoc
              obtain ⟨dc, wsc, _, hwsc, h5⟩ := dagBT_get hB hoc'
              have hgc : wss.getD c [] = wsc := by simp [hwsc]
              rw [hgc] at hcb
              simp only [dagOneT, Bool.and_eq_true, List.all_eq_true, Array.any_eq_true', Nat.zero_add] at h5
              obtain ⟨e, he, hb1, hb2⟩ := h5.1.2 i (by simpa using hcb)
              have hei : e.on = i := Nat.eq_of_beq_eq_true hb2
              have := inv.closed c oc (by simpa using hoc) hlc e he hb1
              rw [hei, getD_both h1] at this
              cases this
        have hH : ∀ j, ws.contains j = true → HoldsT ds Fs (!calmB c wss i) j (env a) w' := by
          intro j hj d' F' hd' hF'
          have hj' : j ∈ ws := by simpa using hj
          obtain ⟨e, he, hb⟩ := hwait j hj'
          obtain ⟨hb1, hb2⟩ := hb
          have : e.on = j := Nat.eq_of_beq_eq_true hb2
          have h5 := hh j (this ▸ h3 e he hb1) d' F' hd' hF'
          cases hcb : calmB c wss i with
          | true => rw [hcalm hcb] at h5; exact h5
          | false =>
            cases F' with
            | till F hF => intro hd; cases hd
            | eq u => exact h5
            | gen F hF => exact h5
            | own F hF => exact h5
        have hstep2 : (∀ w2, Chg (bif Nat.beq i c then M else none1) w' w2 → Chg (bif (listed.setIfInBounds i true).getD c false then M else none1) w1 w2) := by
          intro w2 hx2
          by_cases hic : i = c
          · subst hic
            rw [Nat.beq_refl] at hx2
            have hg : (listed.setIfInBounds i true).getD i false = true := by simp [Array.getD_eq_getD_getElem?, hil]
            rw [hg]
            exact (toM hx).trans hx2
          · have hb : Nat.beq i c = false := by cases hb : Nat.beq i c; rfl; exact absurd (Nat.eq_of_beq_eq_true hb) hic
            rw [hb] at hx2
            rw [getD_set_ne _ hic]
            exact hx.ext hx2
        have hlpq : l[i]? = some o := ho
        have hlw : ∀ j, ws.contains j = true → listed.getD j false = true := by
          intro j hj
          obtain ⟨e, he, hb1, hb2⟩ := hwait j (by simpa using hj)
          have : e.on = j := Nat.eq_of_beq_eq_true hb2
          exact this ▸ h3 e he hb1
        have hKK : ws.contains p = true → ws.contains q = true → R (env a dp) (env a dq) := fun h1 h2 => hR (hlw p h1) (hlw q h2)
        have cont : ∀ v w2, Chg (bif Nat.beq i c then M else none1) w' w2 → (F.In (valOf o v) w2 ∧ (i = p → listed.getD q false = true → R (valOf o v) (env a dq)) ∧ (i = q → listed.getD p false = true → R (env a dp) (valOf o v))) → wpAny P .any l.toArray (lift N Q) (m + (l.length - n)) (listed.setIfInBounds i true) (a.put o.dst v) w2 := by
          intro v w2 hx2 hv3
          obtain ⟨hv, hvp, hvq⟩ := hv3
          have henv : (∀ t, t ≠ d → env (a.put o.dst v) t = env a t) ∧ env (a.put o.dst v) d = valOf o v := by
            cases hod : o.dst with
            | none =>
              rw [hod] at hdst
              have hNd : N ≤ d := Nat.le_of_ble_eq_true hdst
              refine ⟨fun t _ => rfl, ?_⟩
              simp only [valOf, hod]
              show a.tmps.getD d undef = undef
              have : a.tmps.size ≤ d := by rw [ha.size]; exact hNd
              simp [Array.getElem?_eq_none this]
            | some d' =>
              rw [hod] at hdst
              simp only [Bool.and_eq_true] at hdst
              have hd1 : d' = d := Nat.eq_of_beq_eq_true hdst.1
              have hd2 : d < N := by simpa [Nat.blt_eq] using hdst.2
              subst hd1
              rw [env_put ha hd2 v]
              refine ⟨fun t ht => ?_, ?_⟩
              · have : Nat.beq t d' = false := by cases hb : Nat.beq t d'; rfl; exact absurd (Nat.eq_of_beq_eq_true hb) ht
                simp [upd, this]
              · simp [upd, valOf, hod]
          refine ih _ _ _ ?_ (inv.set hi hin) (ha.put _ _) (hstep2 w2 hx2) ?_ ?_ ?_
          · have hl : listed.toList[i]? = some false := by
              simp only [Array.getD_eq_getD_getElem?, Array.getElem?_eq_getElem hil, Option.getD_some] at h1
              simp [hil, h1]
            have := count_take_set (l := listed.toList) hin (by simp; omega) hl
            rw [Array.toList_setIfInBounds]
            omega
          · intro t ht
            rw [henv.1 t (fun h => by
              subst h
              have := List.mem_of_getElem? hd
              simp [this] at ht), hu t ht]
          · intro j hj d' F' hd' hF'
            by_cases hij : j = i
            · subst hij
              rw [hd] at hd'; cases hd'
              rw [hF] at hF'; cases hF'
              rw [henv.2]
              exact FactT.at_in hv _
            · have hne : d' ≠ d := by
                intro h
                subst h
                exact hij (nodupB_get hn hd' hd)
              rw [henv.1 d' hne]
              rw [getD_set_ne _ (Ne.symm hij)] at hj
              have h6 := hh j hj d' F' hd' hF'
              by_cases hic : i = c
              · have hg : (listed.setIfInBounds i true).getD c false = true := by rw [← hic]; simp [Array.getD_eq_getD_getElem?, hil]
                rw [hg]
                exact FactT.chg h6 (toM hx2) (ownB_get hO (by rw [← hG]; exact hF') (by omega))
              · have hb : Nat.beq i c = false := by
                  cases hb : Nat.beq i c
                  · rfl
                  · exact absurd (Nat.eq_of_beq_eq_true hb) hic
                rw [hb] at hx2
                rw [getD_set_ne _ hic]
                exact FactT.ext h6 hx2
          · intro hlp hlq
            by_cases hip : i = p
            · subst hip
              have hqi : q ≠ i := fun h => hpq.1.1 h.symm
              rw [getD_set_ne _ (Ne.symm hqi)] at hlq
              have hdd : dp = d := by have := hpq.1.2.1; rw [hd] at this; cases this; rfl
              have hne2 : dq ≠ d := fun h => hqi (nodupB_get hn hpq.1.2.2 (h ▸ hd))
              rw [hdd, henv.2, henv.1 dq hne2]
              exact hvp rfl hlq
            · by_cases hiq : i = q
              · subst hiq
                rw [getD_set_ne _ hip] at hlp
                have hdd : dq = d := by have := hpq.1.2.2; rw [hd] at this; cases this; rfl
                have hne2 : dp ≠ d := fun h => hip (nodupB_get hn hpq.1.2.1 (h ▸ hd)).symm
                rw [hdd, henv.2, henv.1 dp hne2]
                exact hvq rfl hlp
              · rw [getD_set_ne _ hip] at hlp
                rw [getD_set_ne _ hiq] at hlq
                rw [henv.1 dp (fun h => hip (nodupB_get hn hpq.1.2.1 (h ▸ hd)).symm), henv.1 dq (fun h => hiq (nodupB_get hn hpq.1.2.2 (h ▸ hd)).symm)]
                exact hR hlp hlq
        have hx0 : Chg (bif calmB c wss i then none1 else M) w1 w' := by
          cases hcb : calmB c wss i with
          | true => rw [hcalm hcb] at hx; exact hx
          | false => exact toM hx
        have hweak : ∀ {G : FactT M} {b : Bool} {v : Value}, G.At b v w' → G.At true v w' := fun {G b v} h => by
          cases G with
          | till F hF => intro hd; cases hd
          | eq u => exact h
          | gen F hF => exact h
          | own F hF => exact h
        have hdo : DoesT (bif Nat.beq i c then M else none1) P N o (fun v w => F.In (valOf o v) w ∧ (i = p → listed.getD q false = true → R (valOf o v) (env a dq)) ∧ (i = q → listed.getD p false = true → R (env a dp) (valOf o v))) (env a) w' := by
          have mono : ∀ {R1 R2 : Fct}, (∀ v w, R1 v w → R2 v w) → DoesT (bif Nat.beq i c then M else none1) P N o R1 (env a) w' → DoesT (bif Nat.beq i c then M else none1) P N o R2 (env a) w' := fun hr h a' ha' he' Q' K' hK => h a' ha' he' Q' K' (fun v w2 hx2 h2 => hK v w2 hx2 (hr v w2 h2))
          by_cases hip : i = p
          · subst hip
            have hFF : F = Fp := by have := hpq.2.1; rw [hF] at this; cases this; rfl
            cases hlq : listed.getD q false with
            | false => exact mono (fun v w h => ⟨h, (fun _ h2 => by cases h2), fun h2 => absurd h2 hpq.1.1⟩) (hstep (env a) w' hx0 hu hH hKK)
            | true =>
              have := sp w1 hE1 o ws hlpq hws (env a) w' hx0 hu hH (hweak (hh q hlq dq Fq hpq.1.2.2 hpq.2.2))
              exact mono (fun v w h => ⟨hFF ▸ h.1, fun _ _ => h.2, fun h2 => absurd h2 hpq.1.1⟩) this
          · by_cases hiq : i = q
            · subst hiq
              have hFF : F = Fq := by have := hpq.2.2; rw [hF] at this; cases this; rfl
              cases hlp : listed.getD p false with
              | false => exact mono (fun v w h => ⟨h, fun h2 => absurd h2 hip, fun _ h2 => by cases h2⟩) (hstep (env a) w' hx0 hu hH hKK)
              | true =>
                have := sq w1 hE1 o ws hlpq hws (env a) w' hx0 hu hH (hweak (hh p hlp dp Fp hpq.1.2.1 hpq.2.1))
                exact mono (fun v w h => ⟨hFF ▸ h.1, fun h2 => absurd h2 hip, fun _ _ => h.2⟩) this
            · exact mono (fun v w h => ⟨h, fun h2 => absurd h2 hip, fun h2 => absurd h2 hiq⟩) (hstep (env a) w' hx0 hu hH hKK)
        have hw : Region.wanted o (yielded l.toArray a.tmps) = true := by simp [Region.wanted, hgd]
        unfold wpOp
        simp only [h2, hw, if_true]
        exact Or.inl (hdo a ha rfl _ _ cont)
  have inv0 : HeadInv .any l.toArray n (Array.replicate l.toArray.size false) :=
    ⟨by simp, fun j oj _ hl => (by rw [getD_replicate_false] at hl; cases hl), fun t _ ht => getD_in (by simpa using ht) (getD_replicate_false _ _)⟩
  have h1 := key n (Array.replicate l.toArray.size false) a w1 (by simp; omega) inv0 ha (by rw [getD_replicate_false]; exact Chg.refl _ _) (fun t _ => by rw [he]) (fun j hj => by rw [getD_replicate_false] at hj; cases hj) (fun hj => by rw [getD_replicate_false] at hj; cases hj)
  have e3 : n + (l.length - n) = l.toArray.size := by simp; omega
  rw [e3] at h1
  exact h1
section
variable {M : Nat → Prop} {P : Program} {N : Nat} {σ : Env} {w : World} {ty : TypeId} {pos : String} {af : Array Edge} {g : Option (Nat × Bool)} {t : TypeId} {x y : Operand} {R : Fct}
theorem DoesT_store {b o : Nat} {v : Value} {c : Array Value} {e : TypeId} (hx : ev σ x = .pointer (some ⟨b, o, none⟩)) (hy : ev σ y = v) (h1 : v.oneCell' = true) (hs : Siz P t 1) (hB : Blk w b c e) (ho : o < c.size) (hM : M b) (hR : ∀ w', Put w w' b (c.setIfInBounds o v) e → R undef w') :
    DoesT M P N ⟨none, .store t x y, ty, pos, af, g⟩ R σ w := by
  have hp := Put.of_setRow hB (c.setIfInBounds o v)
  refine DoesT_skip (w' := w.setRow b (c.setIfInBounds o v)) ?_ (hp.chg.mono fun z _ h => by subst h; exact hM) (hR _ hp)
  have hcs : v.cells = #[v] := by cases v <;> first | rfl | (simp [Value.oneCell'] at h1; done)
  have hst := run_storeCells_at P b o e [v] 0 c w hB (by simp; omega) (by simpa using h1)
  have he : (c.toList.take (o + 0) ++ [v] ++ c.toList.drop (o + 0 + [v].length)).toArray = c.setIfInBounds o v := by
    apply Array.ext'
    simp only [Nat.add_zero, List.length_singleton, Array.toList_setIfInBounds]
    rw [List.set_eq_take_append_cons_drop, if_pos (by simpa using ho)]
    simp
  rw [he] at hst
  simp [execOp, hx, hy, Instr.storeAt, Instr.sureAddr, storeVar, hs.run, hcs, hst]
theorem DoesT_storeAgg {b o n : Nat} {vs c : Array Value} {e : TypeId} (hx : ev σ x = .pointer (some ⟨b, o, none⟩)) (hy : ev σ y = .agg vs) (h1 : ∀ v ∈ vs.toList, v.oneCell' = true) (hs : Siz P t n) (hn : vs.size = n) (hB : Blk w b c e) (ho : o + n ≤ c.size) (hM : M b) (hR : ∀ w', Put w w' b (c.toList.take o ++ vs.toList ++ c.toList.drop (o + n)).toArray e → R undef w') :
    DoesT M P N ⟨none, .store t x y, ty, pos, af, g⟩ R σ w := by
  subst hn
  have hp := Put.of_setRow hB (c.toList.take o ++ vs.toList ++ c.toList.drop (o + vs.size)).toArray
  refine DoesT_skip (w' := w.setRow b _) ?_ (hp.chg.mono fun z _ h => by subst h; exact hM) (hR _ hp)
  have hst := run_storeCells_at P b o e vs.toList 0 c w hB (by simpa using ho) h1
  simp only [Nat.add_zero, Array.length_toList] at hst
  simp [execOp, hx, hy, Instr.storeAt, Instr.sureAddr, storeVar, hs.run, Value.cells, hst]
end
end Go.Eng
