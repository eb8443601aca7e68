/- Contracts and plain lemmas, part 2. -/
import Derived.Tactics
import Derived.Deep.Quiet
import Derived.Laws.AppendOwn
import Derived.KernelRfl
import Derived.Laws.Entries
import Derived.Laws.Build
import Derived.Below
import Derived.RowKit3
import Derived.StillTail
import Derived.Sort.Grow
import Derived.Deep.Draws
import Derived.Test.YtfbglkkidenifaaGreatChecked
import Derived.Laws.StructEq
import Derived.Shelf.SlSortCmp.WholeK
import Derived.Shelf.Sort.Plain
import Derived.Shelf.Slices.CompactI
import Derived.Test.YtfbglkkidenifaaGreatProg
import Derived.MapKept
import Derived.Laws.BytesArg
import Derived.Test.YtfbglkkidenifaaGreatDc1
namespace Go.Eng
open Go
inductive FactT (M : Nat → Prop) where
  | eq (v : Value)
  | gen (F : Fct) (h : ∀ v w w', Chg M w w' → F v w → F v w')
  | own (F : Fct) (h : ∀ v w w', Ext w w' → F v w → F v w')
  | till (F : Fct) (h : ∀ v w w', Ext w w' → F v w → F v w')
def FactT.In {M : Nat → Prop} : FactT M → Fct
  | .eq u, v, _ => v = u
  | .gen F _, v, w => F v w
  | .own F _, v, w => F v w
  | .till F _, v, w => F v w
/-- What a fact says, ahead of the operation that changes memory and behind it. -/
def FactT.At {M : Nat → Prop} (done : Bool) : FactT M → Fct
  | .till F _, v, w => done = false → F v w
  | F, v, w => F.In v w
theorem FactT.at_in {M : Nat → Prop} {F : FactT M} {v : Value} {w : World} (h : F.In v w) (done : Bool) : F.At done v w := by
 cases F <;> first | exact h | exact fun _ => h
theorem FactT.at_false {M : Nat → Prop} {F : FactT M} {v : Value} {w : World} (h : F.At false v w) : F.In v w := by
 cases F <;> first | exact h | exact h rfl
def FactT.isOwn {M : Nat → Prop} : FactT M → Bool
  | .own _ _ => true
  | _ => false
theorem FactT.chg {M : Nat → Prop} {F : FactT M} {v : Value} {w w' : World} {done : Bool} (h : F.At done v w) (e : Chg M w w') (ho : F.isOwn = false) : F.At true v w' := by
  cases F with
  | eq u => exact h
  | gen F hF => exact hF _ _ _ e h
  | own F hF => cases ho
  | till F hF => intro hd; cases hd
theorem FactT.ext {M : Nat → Prop} {F : FactT M} {v : Value} {w w' : World} {done : Bool} (h : F.At done v w) (e : Ext w w') : F.At done v w' := by
  cases F with
  | eq u => exact h
  | gen F hF => exact hF _ _ _ (Ext.chg e) h
  | own F hF => exact hF _ _ _ e h
  | till F hF => exact fun hd => hF _ _ _ e (h hd)
/-- Only the fact at one place is of the kind that holds behind that operation alone. -/
def ownB {M : Nat → Prop} (c : Nat) : Nat → List (FactT M) → Bool
  | _, [] => true
  | i, F :: l => (!F.isOwn || Nat.beq i c) && ownB c (i + 1) l
theorem ownB_get {M : Nat → Prop} {c : Nat} : ∀ {i : Nat} {l : List (FactT M)}, ownB c i l = true → ∀ {j : Nat} {F : FactT M}, l[j]? = some F → i + j ≠ c → F.isOwn = false
  | _, [], _, _, _, h, _ => by simp at h
  | i, G :: l, hB, 0, F, h, hne => by
    simp at h; subst h
    simp only [ownB, Bool.and_eq_true, Bool.or_eq_true, Bool.not_eq_true'] at hB
    rcases hB.1 with h | h
    · exact h
    · exact absurd (Nat.eq_of_beq_eq_true h) hne
  | i, G :: l, hB, j + 1, F, h, hne => by
    simp only [ownB, Bool.and_eq_true] at hB
    simp at h
    exact ownB_get hB.2 h (by omega)
def DoesT (M : Nat → Prop) (P : Program) (N : Nat) (o : Oper) (R : Fct) (σ : Env) (w : World) : Prop :=
 ∀ a, Ok N a → env a = σ → ∀ (Q : Exit → Act → World → Prop) (K : Act → World → Prop), (∀ v w', Chg M w w' → R v w' → K (a.put o.dst v) w') → o.wp P a w K Q
def HoldsT {M : Nat → Prop} (ds : List Nat) (Fs : List (FactT M)) (done : Bool) (j : Nat) (σ : Env) (w : World) : Prop := ∀ d F, ds[j]? = some d → Fs[j]? = some F → F.At done (σ d) w
section
variable {M : Nat → Prop} {P : Program} {N : Nat} {o : Oper} {R : Fct} {σ : Env} {w : World}
theorem DoesT_val {v : Value} {w' : World} (hr : (execOp (ev σ) o).run P w = .ok (.value v) w') (hx : Chg M w w') (h : R v w') : DoesT M P N o R σ w := by
 intro a ha he Q K hK
 unfold Oper.wp
 rw [eval_env, he, hr]
 simp only [Oper.upon]
 exact hK _ _ hx h
theorem DoesT_enter {f : FuncId} {args : Array Value} (hr : (execOp (ev σ) o).run P w = .ok (.enter f args) w) (hc : Ret P f args w fun v w' => R v w' ∧ Chg M w w') : DoesT M P N o R σ w := by
 intro a ha he Q K hK
 unfold Oper.wp
 rw [eval_env, he, hr]
 simp only [Oper.upon]
 refine Calls.mono hc ?_
 rintro e w' ⟨v, rfl, r, x⟩
 exact hK _ _ x r
end
def dagOneT (N i : Nat) (o : Oper) (d : Nat) (ws : List Nat) : Bool :=
 (match o.dst with | some d' => Nat.beq d' d && Nat.blt d N | none => Nat.ble N d) && (o.after.all fun e => !Region.binds .any e || Nat.blt e.on i) && (ws.all fun j => o.after.any fun e => Region.binds .any e && Nat.beq e.on j) && o.guard.isNone
def dagBT (N : Nat) : Nat → List Oper → List Nat → List (List Nat) → Bool
  | _, [], [], [] => true
  | i, o :: l, d :: ds, ws :: wss => dagOneT N i o d ws && dagBT N (i + 1) l ds wss
  | _, _, _, _ => false
theorem dagBT_get {N : Nat} : ∀ {i : Nat} {l : List Oper} {ds : List Nat} {wss : List (List Nat)}, dagBT N i l ds wss = true → ∀ {j : Nat} {o : Oper}, l[j]? = some o → ∃ d ws, ds[j]? = some d ∧ wss[j]? = some ws ∧ dagOneT N (i + j) o d ws = true
  | _, [], _, _, _, j, o, h => by simp at h
  | i, x :: l, [], _, hB, _, _, _ => by simp [dagBT] at hB
  | i, x :: l, d :: ds, [], hB, _, _, _ => by simp [dagBT] at hB
  | i, x :: l, d :: ds, ws :: wss, hB, j, o, h => by
    simp only [dagBT, Bool.and_eq_true] at hB
    cases j with
    | zero => simp at h; subst h; exact ⟨d, ws, rfl, rfl, hB.1⟩
    | succ j =>
      simp at h
      obtain ⟨d', ws', h1, h2, h3⟩ := dagBT_get hB.2 h
      exact ⟨d', ws', by simpa using h1, by simpa using h2, by rw [show i + (j + 1) = i + 1 + j from by omega]; exact h3⟩
theorem dagBT_len {N : Nat} : ∀ {i : Nat} {l : List Oper} {ds : List Nat} {wss : List (List Nat)}, dagBT N i l ds wss = true → ds.length = l.length
  | _, [], [], [], _ => rfl
  | _, [], [], _ :: _, hB => by simp [dagBT] at hB
  | _, [], _ :: _, _, hB => by simp [dagBT] at hB
  | i, x :: l, [], _, hB => by simp [dagBT] at hB
  | i, x :: l, d :: ds, [], hB => by simp [dagBT] at hB
  | i, x :: l, d :: ds, ws :: wss, hB => by
    simp only [dagBT, Bool.and_eq_true] at hB
    simp [dagBT_len hB.2]
/-- The operations that are sure to come ahead of the one that changes memory, and that one. -/
def calmB (c : Nat) (wss : List (List Nat)) (i : Nat) : Bool := Nat.beq i c || (wss.getD c []).contains i
def valOf (o : Oper) (v : Value) : Value := match o.dst with
  | some _ => v
  | none => undef
def DagStepT {M : Nat → Prop} (P : Program) (N : Nat) (ds : List Nat) (Fs : List (FactT M)) (σ : Env) (w : World) (own calm : Bool) (o : Oper) (ws : List Nat) (F : FactT M) : Prop :=
 ∀ σ' w', Chg (bif calm then none1 else M) w w' → (∀ t, ds.contains t = false → σ' t = σ t) → (∀ j, ws.contains j = true → HoldsT ds Fs (!calm) j σ' w') → DoesT (bif own then M else none1) P N o (fun v w => F.In (Go.Eng.valOf o v) w) σ' w'
inductive DagStepsT {M : Nat → Prop} (P : Program) (N : Nat) (ds : List Nat) (Fs : List (FactT M)) (σ : Env) (w : World) (c : Nat) (all : List (List Nat)) : Nat → List Oper → List (List Nat) → List (FactT M) → Prop where
  | nil {i : Nat} : DagStepsT P N ds Fs σ w c all i [] [] []
  | cons {i : Nat} {o : Oper} {ws : List Nat} {F : FactT M} {l : List Oper} {wss : List (List Nat)} {Gs : List (FactT M)} : DagStepT P N ds Fs σ w (Nat.beq i c) (calmB c all i) o ws F → DagStepsT P N ds Fs σ w c all (i + 1) l wss Gs → DagStepsT P N ds Fs σ w c all i (o :: l) (ws :: wss) (F :: Gs)
theorem DagStepsT.get {M : Nat → Prop} {P : Program} {N : Nat} {ds : List Nat} {Fs : List (FactT M)} {σ : Env} {w : World} {c : Nat} {all : List (List Nat)} : ∀ {i : Nat} {l : List Oper} {wss : List (List Nat)} {Gs : List (FactT M)}, DagStepsT P N ds Fs σ w c all i l wss Gs → ∀ {j : Nat} {o : Oper}, l[j]? = some o → ∃ ws F, wss[j]? = some ws ∧ Gs[j]? = some F ∧ DagStepT P N ds Fs σ w (Nat.beq (i + j) c) (calmB c all (i + j)) o ws F
  | _, _, _, _, .nil, j, o, h => by simp at h
  | _, _, _, _, .cons h1 h2, 0, o, h => by simp at h; subst h; exact ⟨_, _, rfl, rfl, h1⟩
  | i, _, _, _, .cons h1 h2, j + 1, o, h => by
    obtain ⟨ws, F, a, b, c⟩ := h2.get (j := j) (by simpa using h)
    exact ⟨ws, F, by simpa using a, by simpa using b, by rw [show i + (j + 1) = i + 1 + j from by omega]; exact c⟩
def headDone (n m : Nat) : Array Bool := (List.replicate n true ++ List.replicate (m - n) false).toArray
theorem count_take_set {l : List Bool} {n i : Nat} (hi : i < n) (hl : n ≤ l.length) (hf : l[i]? = some false) : ((l.set i true).take n).count false + 1 = (l.take n).count false := by
 have hi' : i < (l.take n).length := by simp; omega
 rw [List.take_set, List.count_set hi']
 have : (l.take n)[i] = false := by
  have h2 : (l.take n)[i]? = some false := by rw [List.getElem?_take_of_lt hi]; exact hf
  rw [List.getElem?_eq_getElem hi'] at h2; simpa using h2
 rw [this, if_pos (by rfl), if_neg (by decide)]
 have : 0 < (l.take n).count false := by
  rw [List.count_pos_iff]
  rw [← this]; exact List.getElem_mem hi'
 omega
theorem head_all {l : List Bool} {n : Nat} (hl : n ≤ l.length) (h0 : (l.take n).count false = 0) (ht : ∀ t, n ≤ t → t < l.length → l[t]? = some false) : l = List.replicate n true ++ List.replicate (l.length - n) false := by
  apply List.ext_getElem?
  intro i
  rcases Nat.lt_or_ge i n with h | h
  · rw [List.getElem?_append_left (by simpa using h), List.getElem?_replicate, if_pos h]
    have hi : i < l.length := by omega
    rw [List.getElem?_eq_getElem hi]
    cases hv : l[i] with
    | true => rfl
    | false =>
      exfalso
      rw [List.count_eq_zero] at h0
      apply h0
      have : (l.take n)[i]? = some false := by rw [List.getElem?_take_of_lt h, List.getElem?_eq_getElem hi, hv]
      exact List.mem_of_getElem? this
  · rw [List.getElem?_append_right (by simpa using h), List.getElem?_replicate, List.length_replicate]
    rcases Nat.lt_or_ge i l.length with h2 | h2
    · rw [if_pos (by omega), ht i h h2]
    · rw [if_neg (by omega), List.getElem?_eq_none h2]
theorem Wp_dagT {P : Program} {N : Nat} {Q : Post} {σ : Env} {w : World} {id : Nat} {l : List Oper} (M : Nat → Prop) (n c : Nat) (ds : List Nat) (wss : List (List Nat)) (Fs : List (FactT M)) {Gs : List (FactT M)} (hG : Fs = Gs) (hO : ownB c 0 Gs = true) (hm : P.follows .mixedOrders = true) (hB : dagBT N 0 (l.take n) ds wss = true) (hn : nodupB ds = true)
    (hT : (decide (n < l.length) && Region.sinkB .any l.toArray n && Region.chainB .any l.toArray n && Region.seqB .any l.toArray (l.length - n) n (headDone n l.length)) = true)
    (steps : ∀ w1, Ext w w1 → DagStepsT P N ds Fs σ w1 c wss 0 (l.take n) wss Gs)
    (k : ∀ σ' w1 w', Ext w w1 → Chg M w1 w' → (∀ t, ds.contains t = false → σ' t = σ t) → (∀ j, HoldsT ds Fs true j σ' w') → WpL P N l.toArray (Q .normal) Q (l.drop n) σ' w') : Wp P N (.region id l.toArray true) Q σ w := by
  intro a ha he
  have eQ : lift N (thn (Q .normal) Q) = lift N Q := by funext e a w; cases e <;> rfl
  refine wp_region_any hm ?_
  obtain ⟨w1, hw1⟩ : ∃ w1 : World, w1 = { w with drawn := w.drawn + 1 } := ⟨_, rfl⟩
  have hE1 : Ext w w1 := by rw [hw1]; exact drew_ext w
  rw [← hw1]
  have hst := steps w1 hE1
  rw [← hG] at hst
  simp only [Bool.and_eq_true, decide_eq_true_eq] at hT
  obtain ⟨⟨⟨hnl, hs⟩, hc⟩, hseq⟩ := hT
  have toM : ∀ {q : Bool} {u u' : World}, Chg (bif q then M else none1) u u' → Chg M u u' := fun {q u u'} h => by cases q with | true => exact h | false => exact Ext.chg h
  have hlen : ds.length = n := by rw [dagBT_len hB]; simp; omega
  have key : ∀ (m : Nat) (listed : Array Bool) (a : Act) (w' : World), (listed.toList.take n).count false = m → HeadInv .any l.toArray n listed → Ok N a → Chg (bif listed.getD c false then M else none1) w1 w' → (∀ t, ds.contains t = false → env a t = σ t) → (∀ j, listed.getD j false = true → HoldsT ds Fs (listed.getD c false) j (env a) w') →
      wpAny P .any l.toArray (lift N Q) (m + (l.length - n)) listed a w' := by
    intro m
    induction m with
    | zero =>
      intro listed a w' hc0 inv ha hx hu hh
      have hsz : listed.size = l.length := by simpa using inv.size
      have hl : listed = headDone n l.length := by
        apply Array.ext'
        rw [headDone]
        have := head_all (l := listed.toList) (n := n) (by simp; omega) hc0 (by
          intro t h1 h2
          have h2' : t < listed.size := by simpa using h2
          have := inv.tail t h1 (by simpa [hsz] using h2')
          simp only [Array.getD_eq_getD_getElem?, Array.getElem?_eq_getElem h2', Option.getD_some] at this
          simp [h2', this])
        rw [this]; simp [hsz]
      rw [Nat.zero_add]
      have h1 := k (env a) w1 w' hE1 (toM hx) hu (fun j d F hd hF => by
        have hj : j < n := by have := lt_of_get hd; omega
        have h2 := hh j (by
          rw [hl, headDone]
          simp [Array.getD_eq_getD_getElem?, List.getElem?_append_left, hj]) d F hd hF
        cases F with
        | till F hF => intro hd; cases hd
        | eq u => exact h2
        | gen F hF => exact h2
        | own F hF => exact h2) a ha rfl
      rw [eQ] at h1
      have := wpAny_of_seq (P := P) (md := .any) (ops := l.toArray) (Q' := lift N Q) (l.drop n) n listed a w' (fun j => by simp [List.getElem?_drop]) (by rw [List.length_drop, hl]; exact hseq) h1
      rwa [List.length_drop] at this
    | succ m ih =>
      intro listed a w' hcm inv ha hx hu hh
      have hsz : listed.size = l.length := by simpa using inv.size
      obtain ⟨i0, hi0n, hi0⟩ : ∃ i, i < n ∧ listed.getD i true = false := by
        have : 0 < (listed.toList.take n).count false := by omega
        rw [List.count_pos_iff] at this
        obtain ⟨i, hi, he⟩ := List.getElem_of_mem this
        have hin : i < n := by simp at hi; omega
        refine ⟨i, hin, ?_⟩
        have hil : i < listed.size := by simp at hi; omega
        simp only [Array.getD_eq_getD_getElem?, Array.getElem?_eq_getElem hil, Option.getD_some]
        simpa using he
      rw [show m + 1 + (l.length - n) = (m + (l.length - n)) + 1 by omega]
      refine ⟨fun hr => ?_, fun i hi => ?_⟩
      · exfalso
        have hall : ∀ i, i < n → listed.getD i true = true := by
          intro i
          induction i using Nat.strongRecOn with
          | _ i ihi =>
            intro hi
            cases hv : listed.getD i true with
            | true => rfl
            | false =>
              exfalso
              obtain ⟨o, ho⟩ := get_of_lt (l := l) (i := i) (by omega)
              have ho' : (l.take n)[i]? = some o := by rw [List.getElem?_take_of_lt hi]; exact ho
              obtain ⟨d, ws, _, _, h3⟩ := dagBT_get hB ho'
              have : i ∈ Region.ready .any l.toArray listed := by
                refine mem_ready.2 ⟨hv, o, by simpa using ho, fun e he hb => ?_⟩
                simp only [dagOneT, Bool.and_eq_true, Array.all_eq_true_iff_forall_mem, Bool.or_eq_true, Bool.not_eq_true', Nat.zero_add] at h3
                have := (h3.1.1.2 e he).resolve_left (by simp [hb])
                have hlt : e.on < i := by simpa [Nat.blt_eq] using this
                have h4 := ihi e.on hlt (by omega)
                have hj : e.on < listed.size := by omega
                simpa only [Array.getD_eq_getD_getElem?, Array.getElem?_eq_getElem hj, Option.getD_some] using h4
              rw [hr] at this
              cases this
        rw [hall i0 hi0n] at hi0
        cases hi0
      · have hin : i < n := by
          rcases Nat.lt_or_ge i n with h | h
          · exact h
          · exact absurd hi (tail_waits hs hc (by simpa using hnl) inv _ i0 rfl hi0n hi0 i h)
        obtain ⟨h1, o, h2, h3⟩ := mem_ready.1 hi
        have hil : i < listed.size := by omega
        have ho : l[i]? = some o := by simpa using h2
        have ho' : (l.take n)[i]? = some o := by rw [List.getElem?_take_of_lt hin]; exact ho
        obtain ⟨d, ws, hd, hws, h4⟩ := dagBT_get hB ho'
        obtain ⟨ws', F, hws', hF, hstep⟩ := hst.get ho'
        rw [hws] at hws'
        cases hws'
        simp only [Nat.zero_add] at hstep
        simp only [dagOneT, Bool.and_eq_true, List.all_eq_true, Array.any_eq_true', Array.all_eq_true_iff_forall_mem, Bool.or_eq_true, Bool.not_eq_true', Nat.zero_add] at h4
        obtain ⟨⟨⟨hdst, _⟩, hwait⟩, hgd⟩ := h4
        have hgd : o.guard = none := by simpa using hgd
        -- what is sure to come ahead of the change
        have hcalm : calmB c wss i = true → listed.getD c false = false := by
          intro hcb
          simp only [calmB, Bool.or_eq_true] at hcb
          rcases hcb with hcb | hcb
          · have : i = c := Nat.eq_of_beq_eq_true hcb
            subst this; exact getD_both h1
          · cases hlc : listed.getD c false with
            | false => rfl
            | true =>
              exfalso
              have hcn : c < n := by
                rcases Nat.lt_or_ge c n with h | h
                · exact h
                · rcases Nat.lt_or_ge c l.length with h' | h'
                  · have := getD_both (inv.tail c h (by simpa using h')); rw [this] at hlc; cases hlc
                  · simp [Array.getElem?_eq_none (show listed.size ≤ c by omega)] at hlc
              obtain ⟨oc, hoc⟩ := get_of_lt (l := l) (i := c) (by omega)
              have hoc' : (l.take n)[c]? = some oc := by rw [List.getElem?_take_of_lt hcn]; exact hoc
              obtain ⟨dc, wsc, _, hwsc, h5⟩ := dagBT_get hB hoc'
              have hgc : wss.getD c [] = wsc := by simp [hwsc]
              rw [hgc] at hcb
              simp only [dagOneT, Bool.and_eq_true, List.all_eq_true, Array.any_eq_true', Nat.zero_add] at h5
              obtain ⟨e, he, hb1, hb2⟩ := h5.1.2 i (by simpa using hcb)
              have hei : e.on = i := Nat.eq_of_beq_eq_true hb2
              have := inv.closed c oc (by simpa using hoc) hlc e he hb1
              rw [hei, getD_both h1] at this
              cases this
        have hH : ∀ j, ws.contains j = true → HoldsT ds Fs (!calmB c wss i) j (env a) w' := by
          intro j hj d' F' hd' hF'
          have hj' : j ∈ ws := by simpa using hj
          obtain ⟨e, he, hb⟩ := hwait j hj'
          obtain ⟨hb1, hb2⟩ := hb
          have : e.on = j := Nat.eq_of_beq_eq_true hb2
          have h5 := hh j (this ▸ h3 e he hb1) d' F' hd' hF'
          cases hcb : calmB c wss i with
          | true => rw [hcalm hcb] at h5; exact h5
          | false =>
            cases F' with
            | till F hF => intro hd; cases hd
            | eq u => exact h5
            | gen F hF => exact h5
            | own F hF => exact h5
        have hstep2 : (∀ w2, Chg (bif Nat.beq i c then M else none1) w' w2 → Chg (bif (listed.setIfInBounds i true).getD c false then M else none1) w1 w2) := by
          intro w2 hx2
          by_cases hic : i = c
          · subst hic
            rw [Nat.beq_refl] at hx2
            have hg : (listed.setIfInBounds i true).getD i false = true := by simp [Array.getD_eq_getD_getElem?, hil]
            rw [hg]
            exact (toM hx).trans hx2
          · have hb : Nat.beq i c = false := by cases hb : Nat.beq i c; rfl; exact absurd (Nat.eq_of_beq_eq_true hb) hic
            rw [hb] at hx2
            rw [getD_set_ne _ hic]
            exact hx.ext hx2
        have cont : ∀ v w2, Chg (bif Nat.beq i c then M else none1) w' w2 → F.In (Go.Eng.valOf o v) w2 → wpAny P .any l.toArray (lift N Q) (m + (l.length - n)) (listed.setIfInBounds i true) (a.put o.dst v) w2 := by
          intro v w2 hx2 hv
          have henv : (∀ t, t ≠ d → env (a.put o.dst v) t = env a t) ∧ env (a.put o.dst v) d = Go.Eng.valOf o v := by
            cases hod : o.dst with
            | none =>
              rw [hod] at hdst
              have hNd : N ≤ d := Nat.le_of_ble_eq_true hdst
              refine ⟨fun t _ => rfl, ?_⟩
              simp only [Go.Eng.valOf, hod]
              show a.tmps.getD d undef = undef
              have : a.tmps.size ≤ d := by rw [ha.size]; exact hNd
              simp [Array.getElem?_eq_none this]
            | some d' =>
              rw [hod] at hdst
              simp only [Bool.and_eq_true] at hdst
              have hd1 : d' = d := Nat.eq_of_beq_eq_true hdst.1
              have hd2 : d < N := by simpa [Nat.blt_eq] using hdst.2
              subst hd1
              rw [env_put ha hd2 v]
              refine ⟨fun t ht => ?_, ?_⟩
              · have : Nat.beq t d' = false := by cases hb : Nat.beq t d'; rfl; exact absurd (Nat.eq_of_beq_eq_true hb) ht
                simp [upd, this]
              · simp [upd, Go.Eng.valOf, hod]
          refine ih _ _ _ ?_ (inv.set hi hin) (ha.put _ _) (hstep2 w2 hx2) ?_ ?_
          · have hl : listed.toList[i]? = some false := by
              simp only [Array.getD_eq_getD_getElem?, Array.getElem?_eq_getElem hil, Option.getD_some] at h1
              simp [hil, h1]
            have := count_take_set (l := listed.toList) hin (by simp; omega) hl
            rw [Array.toList_setIfInBounds]
            omega
          · intro t ht
            rw [henv.1 t (fun h => by
              subst h
              have := List.mem_of_getElem? hd
              simp [this] at ht), hu t ht]
          · intro j hj d' F' hd' hF'
            by_cases hij : j = i
            · subst hij
              rw [hd] at hd'; cases hd'
              rw [hF] at hF'; cases hF'
              rw [henv.2]
              exact FactT.at_in hv _
            · have hne : d' ≠ d := by
                intro h
                subst h
                exact hij (nodupB_get hn hd' hd)
              rw [henv.1 d' hne]
              rw [getD_set_ne _ (Ne.symm hij)] at hj
              have h6 := hh j hj d' F' hd' hF'
              by_cases hic : i = c
              · have hg : (listed.setIfInBounds i true).getD c false = true := by rw [← hic]; simp [Array.getD_eq_getD_getElem?, hil]
                rw [hg]
                exact FactT.chg h6 (toM hx2) (ownB_get hO (by rw [← hG]; exact hF') (by omega))
              · have hb : Nat.beq i c = false := by
                  cases hb : Nat.beq i c
                  · rfl
                  · exact absurd (Nat.eq_of_beq_eq_true hb) hic
                rw [hb] at hx2
                rw [getD_set_ne _ hic]
                exact FactT.ext h6 hx2
        have hx0 : Chg (bif calmB c wss i then none1 else M) w1 w' := by
          cases hcb : calmB c wss i with
          | true => rw [hcalm hcb] at hx; exact hx
          | false => exact toM hx
        have hdo := hstep (env a) w' hx0 hu hH
        have hw : Region.wanted o (yielded l.toArray a.tmps) = true := by simp [Region.wanted, hgd]
        unfold wpOp
        simp only [h2, hw, if_true]
        exact Or.inl (hdo a ha rfl _ _ cont)
  have inv0 : HeadInv .any l.toArray n (Array.replicate l.toArray.size false) :=
    ⟨by simp, fun j oj _ hl => (by rw [getD_replicate_false] at hl; cases hl), fun t _ ht => getD_in (by simpa using ht) (getD_replicate_false _ _)⟩
  have h1 := key n (Array.replicate l.toArray.size false) a w1 (by simp; omega) inv0 ha (by rw [getD_replicate_false]; exact Chg.refl _ _) (fun t _ => by rw [he]) (fun j hj => by rw [getD_replicate_false] at hj; cases hj)
  have e3 : n + (l.length - n) = l.toArray.size := by simp; omega
  rw [e3] at h1
  exact h1
def DagStepK {M : Nat → Prop} (P : Program) (N : Nat) (ds : List Nat) (Fs : List (FactT M)) (σ : Env) (w : World) (own calm : Bool) (o : Oper) (ws : List Nat) (F : FactT M) (K : List Nat → Env → Prop) : Prop :=
 ∀ σ' w', Chg (bif calm then none1 else M) w w' → (∀ t, ds.contains t = false → σ' t = σ t) → (∀ j, ws.contains j = true → HoldsT ds Fs (!calm) j σ' w') → K ws σ' → DoesT (bif own then M else none1) P N o (fun v w => F.In (Go.Eng.valOf o v) w) σ' w'
inductive DagStepsK {M : Nat → Prop} (P : Program) (N : Nat) (ds : List Nat) (Fs : List (FactT M)) (σ : Env) (w : World) (c : Nat) (all : List (List Nat)) (K : List Nat → Env → Prop) : Nat → List Oper → List (List Nat) → List (FactT M) → Prop where
  | nil {i : Nat} : DagStepsK P N ds Fs σ w c all K i [] [] []
  | cons {i : Nat} {o : Oper} {ws : List Nat} {F : FactT M} {l : List Oper} {wss : List (List Nat)} {Gs : List (FactT M)} : DagStepK P N ds Fs σ w (Nat.beq i c) (calmB c all i) o ws F K → DagStepsK P N ds Fs σ w c all K (i + 1) l wss Gs → DagStepsK P N ds Fs σ w c all K i (o :: l) (ws :: wss) (F :: Gs)
theorem DagStepsK.get {M : Nat → Prop} {P : Program} {N : Nat} {ds : List Nat} {Fs : List (FactT M)} {σ : Env} {w : World} {c : Nat} {all : List (List Nat)} {K : List Nat → Env → Prop} : ∀ {i : Nat} {l : List Oper} {wss : List (List Nat)} {Gs : List (FactT M)}, DagStepsK P N ds Fs σ w c all K i l wss Gs → ∀ {j : Nat} {o : Oper}, l[j]? = some o → ∃ ws F, wss[j]? = some ws ∧ Gs[j]? = some F ∧ DagStepK P N ds Fs σ w (Nat.beq (i + j) c) (calmB c all (i + j)) o ws F K
  | _, _, _, _, .nil, j, o, h => by simp at h
  | _, _, _, _, .cons h1 h2, 0, o, h => by simp at h; subst h; exact ⟨_, _, rfl, rfl, h1⟩
  | i, _, _, _, .cons h1 h2, j + 1, o, h => by
    obtain ⟨ws, F, a, b, c⟩ := h2.get (j := j) (by simpa using h)
    exact ⟨ws, F, by simpa using a, by simpa using b, by rw [show i + (j + 1) = i + 1 + j from by omega]; exact c⟩
end Go.Eng
namespace Go.Proofs
open Go Go.Eng
set_option maxRecDepth 100000
section
variable {P : Program} {σ : Env} {w : World} {dst : Option Tmp} {ty : TypeId} {pos : String} {af : Array Edge} {g : Option (Nat × Bool)} {t t' e : TypeId} {x y : Operand}
theorem r_eqlNil {a : Option Addr} {n c n' c' : Nat} (hu : P.underlying t = some (.slice e)) (hx : ev σ x = .slice a n c) (hy : ev σ y = .slice none n' c') :
  (execOp (ev σ) ⟨dst, .binOp .eql t x y t', ty, pos, af, g⟩).run P w = .ok (.value (.bool a.isNone)) w := by
 have h : (Op.equalIn 10000 t (.slice a n c) (.slice none n' c')).run P w = .ok a.isNone w := by
  rw [Op.equalIn]
  cases a <;> simp [run_underlying hu]
 cases a <;> simp_all [execOp, eqGuard, binOp, Op.equal, Op.maxDepth]
theorem r_append0 {s : Operand} {a a' : Option Addr} {n c c' size : Nat} (hu : P.underlying t = some (.slice e)) (hs : Siz P e size) (hx : ev σ s = .slice a n c) (hn : n ≤ c) (hy : ev σ x = .slice a' 0 c') :
  (execOp (ev σ) ⟨dst, .call ⟨.builtin .append, #[s, x], #[t, t]⟩, ty, pos, af, g⟩).run P w = .ok (.value (.slice a n c)) w := by
 have hz : size * 0 = 0 := Nat.mul_zero _
 cases a <;> cases a' <;> simp [execOp, resolve, invoke, builtin, Builtin.append_, hx, hy, run_underlying hu, hs.run, Builtin.lenOf, Builtin.firstCells, loadCells, loadCellsFrom, storeCells, hn]
theorem s_build0 {N : Nat} {Q : Post} {K : Env → World → Prop} {ops : Array Oper} {rest : List Oper} {d size : Nat} (hN : d < N) (hu : P.underlying t = some (.slice e)) (hs : Siz P e size)
  (k : ∀ b w', New w w' b #[] e → WpL P N ops K Q rest (upd σ d (.slice (some ⟨b, 0, none⟩) 0 0)) w') : WpL P N ops K Q (⟨some d, .buildSlice t 0 #[], ty, pos, af, none⟩ :: rest) σ w := by
 refine WpL_val (v := .slice (some ⟨w.heap.size, 0, none⟩) 0 0) (w' := { w with heap := w.heap.push (.cells #[] e (0, 0)) }) rfl rfl hN ?_ (k _ _ (New.mk' w #[] e))
 have h0 : Array.range 0 = #[] := rfl
 simp [execOp, Instr.buildSlice, run_underlying hu, hs.run, Instr.fill, newRow, h0]
end
theorem own_empty {w : World} {b e base size : Nat} (h : Blk w b #[] e) (hb : base ≤ b) : w.ownsRow base e size (.slice (some ⟨b, 0, none⟩) 0 0) 0 [] :=
 ⟨by simp, .inr ⟨b, 0, #[], rfl, hb, h, Nat.le_refl _, by simp [maxLen], by simp, by simp⟩⟩
theorem idxi_c (w0 : World) (v : Value) (x : Int) (l : List Int) (hs : IntsAt w0 v l) :
  Ret Tryz.prog 170 #[v, .int .i64 x] w0 fun r w => r = .int .i64 (idx (fun y => decide (x = y)) l) ∧ Ext w0 w := by
 obtain ⟨a, c, rfl⟩ := SlAt.form hs
 have hlen : l.length ≤ 9223372036854775807 := by simpa using SlAt.le hs
 simp only [List.length_map] at hs ⊢
 refine Ret_of Tryz.func170 rfl Tryz.ntmps170 (Nat.le_of_ble_eq_true rfl) ?_
 have E : Chg none1 w0 w0 := Chg.refl _ _
 refine Wp_seq_region ?_
 refine qA (I6 0) rfl ?_
 refine WpL_nil (Wp_seq (Wp_seq_region ?_))
 refine qM (.slice a l.length c) rfl ?_
 refine qV (r_lenSlice (ad := a) (n := l.length) (cap := c) Tryz.underlying26 rfl) ?_
 refine qM (I6 0) rfl ?_
 refine WpL_nil (Wp_block ?_)
 refine Wp_loop (fun nn_ σ W1 => ∃ (k : Nat), (∃ jj_, σ = upds jj_ [(0, (.slice a l.length c)), (1, (I6 x)), (7, (I6 (l.length : Int))), (8, (I6 (k : Int)))]) ∧ Chg none1 w0 W1 ∧ (k ≤ l.length) ∧ (∀ (i : Nat) (y : Int), i < k → l[i]? = some y → decide (x = y) = false) ∧ nn_ = l.length - k) (n := l.length - 0) ?_ ?_
 ·exact ⟨0, Fits.out ⟨rfl, rfl, rfl, rfl, trivial⟩, E, Nat.zero_le _, (fun i y h => absurd h (Nat.not_lt_zero _)), rfl⟩
 ·clear E
  rintro _ _ W1 ⟨k, ⟨j1, rfl⟩, E, hk, hno, rfl⟩
  refine Wp_seq_region ?_
  refine qV (r_lss (k := .i64) (a := (k : Int)) (b := (l.length : Int)) rfl rfl) ?_
  refine WpL_nil (Wp_seq ?_)
  refine Wp_cond (b := decide (((k : Int) : Int) < (l.length : Int))) rfl (fun hlt => ?_) (fun hlt => ?_)
  ·have khlt := hlt
   replace hlt := of_decide_eq_true hlt
   obtain ⟨y, hy⟩ := get_of_lt (l := l) (i := k) (by omega)
   obtain ⟨b, o, rfl, hcells⟩ := ints_cells hs (by omega)
   refine Wp_skip (thn_normal (Wp_seq (Wp_block (Wp_seq_region ?_))))
   refine qM (I6 (k : Int)) rfl ?_
   refine qA (I6 (k : Int)) rfl ?_
   refine WpL_nil (Wp_seq_region ?_)
   refine qM (I6 x) rfl ?_
   refine qM (.slice (some ⟨b, o, none⟩) l.length c) rfl ?_
   refine qM (I6 (k : Int)) rfl ?_
   refine qV (r_indexSlice (b := b) (o := o) (len := l.length) (cap := c) (i := k) (o' := o + k) rfl rfl rfl Tryz.underlying26 siz3 (by omega) (by omega)) ?_
   refine qV (r_load (v := (I6 y)) rfl flat3 (E.cell (fun f => f) (hcells k y hy))) ?_
   refine qV (r_eql (k := .i64) (a := x) (b := y) rfl rfl) ?_
   refine WpL_nil ?_
   refine Wp_cond (b := decide ((x : Int) = y)) rfl (fun hp => ?_) (fun hp => ?_)
   ·have khp := hp
    replace hp := of_decide_eq_true hp
    refine Wp_seq_region ?_
    refine qM (I6 (k : Int)) rfl ?_
    refine qA (I6 (k : Int)) rfl ?_
    refine WpL_nil (Wp_ret (inB_ret (thn_ret (thn_ret (inB_ret (thn_ret ?_))))))
    refine fin_tmp Tryz.results170 (v := (.int .i64 ((k : Nat) : Int))) rfl ?_
    exact ⟨int_eq (idx_hit hy (by simpa using hp) hno).symm, E⟩
   ·have khp := hp
    replace hp := of_decide_eq_false hp
    refine Wp_skip (inB_normal (thn_normal (Wp_region ?_)))
    refine qV (r_add (k := .i64) (a := (k : Int)) (b := 1) (c := (k : Int) + 1) rfl rfl (wI64 (by omega))) ?_
    refine qM (I6 ((k : Int) + 1)) rfl ?_
    refine WpL_nil (thn_normal ?_)
    exact ⟨l.length - (k + 1), by omega, k + 1, Fits.out ⟨rfl, rfl, rfl, rfl, trivial⟩, E, (by omega), below_next hy (by simpa using hp) hno, rfl⟩
  ·have khlt := hlt
   replace hlt := of_decide_eq_false hlt
   have hkk : k = l.length := by omega
   refine Wp_exit (thn_exit (thn_exit (inB_here (thn_normal (Wp_seq_region ?_)))))
   refine qA (I6 (-1)) rfl ?_
   refine WpL_nil (Wp_ret ?_)
   refine fin_tmp Tryz.results170 (v := (.int .i64 (-1))) rfl ?_
   exact ⟨int_eq (idx_miss fun i y hy => hno i y (by have := lt_of_get hy; omega) hy).symm, E⟩
theorem hasi_c (w0 : World) (v : Value) (x : Int) (l : List Int) (hs : IntsAt w0 v l) :
  Ret Tryz.prog 128 #[v, .int .i64 x] w0 fun r w => r = .bool (l.contains x) ∧ Ext w0 w := by
 refine Ret_of Tryz.func128 rfl Tryz.ntmps128 (Nat.le_of_ble_eq_true rfl) ?_
 have E : Chg none1 w0 w0 := Chg.refl _ _
 refine Wp_seq_region ?_
 refine qA (.bool false) rfl ?_
 refine WpL_nil (Wp_seq_region ?_)
 refine qM v rfl ?_
 refine qM (I6 x) rfl ?_
 refine WpL_enter rfl rfl (by decide) (r_callF (vs := [v, (I6 x)]) Tryz.func170 nm170 bd170 rfl) (idxi_c _ v x l hs) ?_
 rintro _ w9 ⟨rfl, X9⟩
 replace E := E.ext X9
 refine qV (r_geq (k := .i64) (a := idx (fun y => decide (x = y)) l) (b := 0) rfl rfl) ?_
 refine qA (.bool (decide ((0 : Int) ≤ idx (fun y => decide (x = y)) l))) rfl ?_
 refine WpL_nil (Wp_ret ?_)
 refine fin_tmp Tryz.results128 (v := (.bool (decide ((0 : Int) ≤ idx (fun y => decide (x = y)) l)))) rfl ?_
 exact ⟨bool_eq ((idx_any _ l).trans (by rw [List.contains_eq_any_beq]; congr 1)), E⟩
end Go.Proofs
namespace Go.Proofs
open Go Go.Eng
set_option maxRecDepth 100000
theorem part_int {P : Program} {w : World} {e : TypeId} {cs : Array Value} {o : Nat} {v : Value} (hf : flatB P e = true) (hv : cs[o]? = some v) : (part e cs o).run P w = .ok v w := by
 simp [part, flatB.run hf, hv]
theorem get_ext {α : Type} {l m : List α} (hl : l.length = m.length) (h : ∀ i, i < l.length → l[i]? = m[i]?) : l = m := by
 apply List.ext_getElem?
 intro i
 rcases Nat.lt_or_ge i l.length with h' | h'
 ·exact h i h'
 ·rw [List.getElem?_eq_none h', List.getElem?_eq_none (by omega)]
section
variable {P : Program} {σ : Env} {w : World} {dst : Option Tmp} {ty : TypeId} {pos : String} {af : Array Edge} {g : Option (Nat × Bool)} {t t' e : TypeId} {x y : Operand}
theorem equalIn_span {f0 f1 : Field} (d : Nat) (a b c f : Int) (hp : P.stoodInHeld t = false) (ht : P.underlying t = some (.struct #[f0, f1])) (hn0 : f0.name ≠ "_") (hn1 : f1.name ≠ "_") (ho0 : f0.offset = 0) (ho1 : f1.offset = 1) (h0 : f0.type = e) (h1 : f1.type = e) (he : P.underlying e = some (.int .i64)) (hf : flatB P e = true) :
  (Op.equalIn (d + 2) t (.agg #[.int .i64 a, .int .i64 b]) (.agg #[.int .i64 c, .int .i64 f])).run P w = .ok (decide (a = c) && decide (b = f)) w := by
 have q1 : ∀ x y : Int, (Op.equalIn (d + 1) e (.int .i64 x) (.int .i64 y)).run P w = .ok (x == y) w := fun x y => run_equalIn_int w d e .i64 .i64 x y he
 have p0 : ∀ x y : Int, (part e #[.int .i64 x, .int .i64 y] 0).run P w = .ok (.int .i64 x) w := fun x y => part_int hf rfl
 have p1 : ∀ x y : Int, (part e #[.int .i64 x, .int .i64 y] 1).run P w = .ok (.int .i64 y) w := fun x y => part_int hf rfl
 have hpr : (program).run P w = .ok P w := rfl
 rw [Op.equalIn]
 simp only [Sem.run_bind, run_underlying ht, Result.andThen_ok, hpr, hp]
 by_cases hac : a = c
 ·by_cases hbf : b = f
  ·simp [hn0, hn1, ho0, ho1, h0, h1, p0, p1, q1, hac, hbf]
  ·simp [hn0, hn1, ho0, ho1, h0, h1, p0, p1, q1, hac, hbf]
 ·simp [hn0, hn1, ho0, ho1, h0, h1, p0, p1, q1, hac]
theorem r_neqSpan {f0 f1 : Field} {a b c f : Int} (hp : P.stoodInHeld t = false) (ht : P.underlying t = some (.struct #[f0, f1])) (hn0 : f0.name ≠ "_") (hn1 : f1.name ≠ "_") (ho0 : f0.offset = 0) (ho1 : f1.offset = 1) (h0 : f0.type = e) (h1 : f1.type = e) (he : P.underlying e = some (.int .i64)) (hf : flatB P e = true) (hm : P.eqGuardType P.depth t = false)
  (hx : ev σ x = .agg #[.int .i64 a, .int .i64 b]) (hy : ev σ y = .agg #[.int .i64 c, .int .i64 f]) :
  (execOp (ev σ) ⟨dst, .binOp .neq t x y t', ty, pos, af, g⟩).run P w = .ok (.value (.bool (!(decide (a = c) && decide (b = f))))) w := by
 have h := equalIn_span (P := P) (w := w) 9998 a b c f hp ht hn0 hn1 ho0 ho1 h0 h1 he hf
 simp only [execOp, hx, hy, Sem.run_bind, run_eqGuard_agg w .neq t x y _ _ hm, Result.andThen_ok, run_neq_struct, h]
 rfl
end
theorem eqgSpan : Tryz.prog.eqGuardType Tryz.prog.depth 103 = false := by kernel_rfl
theorem stoodSpan : Tryz.prog.stoodInHeld 103 = false := by kernel_rfl
set_option maxHeartbeats 400000 in
theorem speq_c (w0 : World) (v1 v2 : Value) (l1 l2 : List (Int × Int)) (h1 : SpansAt w0 v1 l1) (h2 : SpansAt w0 v2 l2) :
  Ret Tryz.prog 80 #[v1, v2] w0 fun v w => v = .bool (decide (l1 = l2)) ∧ Ext w0 w := by
 obtain ⟨a1, c1, rfl⟩ := SlAt.form h1
 obtain ⟨a2, c2, rfl⟩ := SlAt.form h2
 have hb1 : l1.length ≤ 9223372036854775807 := by simpa using SlAt.le h1
 simp only [List.length_map] at h1 h2 ⊢
 refine Ret_of Tryz.func80 rfl Tryz.ntmps80 (Nat.le_of_ble_eq_true rfl) ?_
 have E : Chg none1 w0 w0 := Chg.refl _ _
 refine Wp_seq_region ?_
 refine qA (.bool false) rfl ?_
 refine WpL_nil (Wp_seq (Wp_seq_region ?_))
 refine qM (.slice a1 l1.length c1) rfl ?_
 refine qV (r_lenSlice (ad := a1) (n := l1.length) (cap := c1) Tryz.underlying22 rfl) ?_
 refine qM (.slice a2 l2.length c2) rfl ?_
 refine qV (r_lenSlice (ad := a2) (n := l2.length) (cap := c2) Tryz.underlying22 rfl) ?_
 refine qV (r_neq (k := .i64) (a := (l1.length : Int)) (b := (l2.length : Int)) rfl rfl) ?_
 refine WpL_nil ?_
 refine Wp_cond (b := decide (((l1.length : Int) : Int) ≠ (l2.length : Int))) rfl (fun hl => ?_) (fun hl => ?_)
 ·have khl := hl
  replace hl := of_decide_eq_true hl
  refine Wp_seq_region ?_
  refine qA (.bool false) rfl ?_
  refine WpL_nil (Wp_ret (thn_ret ?_))
  refine fin_tmp Tryz.results80 (v := (.bool false)) rfl ?_
  exact ⟨bool_eq (by symm; rw [decide_eq_false_iff_not]; intro h; rw [h] at hl; exact hl rfl), E⟩
 ·have khl := hl
  replace hl := of_decide_eq_false hl
  refine Wp_skip (thn_normal (Wp_seq (Wp_seq_region ?_)))
  refine qM (.slice a1 l1.length c1) rfl ?_
  refine qV (r_lenSlice (ad := a1) (n := l1.length) (cap := c1) Tryz.underlying22 rfl) ?_
  refine qM (I6 0) rfl ?_
  refine WpL_nil (Wp_block ?_)
  refine Wp_loop (fun nn_ σ W2 => ∃ (k : Nat), (∃ jj_, σ = upds jj_ [(0, (.slice a1 l1.length c1)), (1, (.slice a2 l2.length c2)), (12, (I6 (l1.length : Int))), (13, (I6 (k : Int)))]) ∧ Chg none1 w0 W2 ∧ (k ≤ l1.length) ∧ (∀ (i : Nat), i < k → l1[i]? = l2[i]?) ∧ nn_ = l1.length - k) (n := l1.length - 0) ?_ ?_
  ·exact ⟨0, Fits.out ⟨rfl, rfl, rfl, rfl, trivial⟩, E, Nat.zero_le _, (fun i h => absurd h (Nat.not_lt_zero _)), rfl⟩
  ·clear E
   rintro _ _ W2 ⟨k, ⟨j2, rfl⟩, E, hk, heq, rfl⟩
   refine Wp_seq_region ?_
   refine qV (r_lss (k := .i64) (a := (k : Int)) (b := (l1.length : Int)) rfl rfl) ?_
   refine WpL_nil (Wp_seq ?_)
   refine Wp_cond (b := decide (((k : Int) : Int) < (l1.length : Int))) rfl (fun hlt => ?_) (fun hlt => ?_)
   ·have khlt := hlt
    replace hlt := of_decide_eq_true hlt
    obtain ⟨p, hp⟩ := get_of_lt (l := l1) (i := k) (by omega)
    obtain ⟨q, hq⟩ := get_of_lt (l := l2) (i := k) (by omega)
    obtain ⟨b1, o1, rfl, hc1⟩ := spans_cells h1 (by omega)
    obtain ⟨b2, o2, rfl, hc2⟩ := spans_cells h2 (by omega)
    refine Wp_skip (thn_normal (Wp_seq (Wp_block (Wp_seq_region ?_))))
    refine qM (I6 (k : Int)) rfl ?_
    refine qA (I6 (k : Int)) rfl ?_
    refine WpL_nil ?_
    refine Wp_seq_draw 8 mixed (by kernel_rfl) ?_
    intro w4 X4 _
    replace E := E.ext X4
    refine qT (r_move (v := (.slice (some ⟨b1, o1, none⟩) l1.length c1)) rfl) ?_
    refine qT (r_move (v := (I6 (k : Int))) rfl) ?_
    refine qT (r_indexSlice (b := b1) (o := o1) (len := l1.length) (cap := c1) (i := k) (o' := o1 + k * 2) rfl rfl rfl Tryz.underlying22 siz103 (by omega) (by omega)) ?_
    refine qT (r_loadAgg (vs := [(I6 p.1), (I6 p.2)]) rfl agg103 siz103 rfl ((hc1 k p hp).ext E)) ?_
    refine qT (r_move (v := (.slice (some ⟨b2, o2, none⟩) l2.length c2)) rfl) ?_
    refine qT (r_move (v := (I6 (k : Int))) rfl) ?_
    refine qT (r_indexSlice (b := b2) (o := o2) (len := l2.length) (cap := c2) (i := k) (o' := o2 + k * 2) rfl rfl rfl Tryz.underlying22 siz103 (by omega) (by omega)) ?_
    refine qT (r_loadAgg (vs := [(I6 q.1), (I6 q.2)]) rfl agg103 siz103 rfl ((hc2 k q hq).ext E)) ?_
    refine WpT_zero ?_
    refine WpL_val (v := (.bool (!(decide (p.1 = q.1) && decide (p.2 = q.2))))) rfl rfl (by decide) (r_neqSpan stoodSpan Tryz.underlying103 (by decide) (by decide) rfl rfl rfl rfl Tryz.underlying3 flat3 eqgSpan rfl rfl) ?_
    refine WpL_nil ?_
    refine Wp_cond (b := !(decide (p.1 = q.1) && decide (p.2 = q.2))) rfl (fun hpq => ?_) (fun hpq => ?_)
    ·have khpq := hpq
     replace hpq := by simpa using hpq
     refine Wp_seq_region ?_
     refine qA (.bool false) rfl ?_
     refine WpL_nil (Wp_ret (inB_ret (thn_ret (thn_ret (inB_ret (thn_ret ?_))))))
     refine fin_tmp Tryz.results80 (v := (.bool false)) rfl ?_
     exact ⟨bool_eq (by symm; rw [decide_eq_false_iff_not]; intro h; subst h; rw [hp] at hq; cases hq; simp at hpq), E⟩
    ·have khpq := hpq
     replace hpq := by simpa using hpq
     have hpq2 : p = q := by obtain ⟨p1, p2⟩ := p; obtain ⟨q1, q2⟩ := q; simp at hpq; simp; exact hpq
     refine Wp_skip (inB_normal (thn_normal (Wp_region ?_)))
     refine qV (r_add (k := .i64) (a := (k : Int)) (b := 1) (c := (k : Int) + 1) rfl rfl (wI64 (by omega))) ?_
     refine qM (I6 ((k : Int) + 1)) rfl ?_
     refine WpL_nil (thn_normal ?_)
     exact ⟨l1.length - (k + 1), by omega, k + 1, Fits.out ⟨rfl, rfl, rfl, rfl, trivial⟩, E, (by omega), (fun i hi => by rcases Nat.lt_or_ge i k with h | h; exact heq i h; obtain rfl : i = k := (by omega); rw [hp, hq, hpq2]), rfl⟩
   ·have khlt := hlt
    replace hlt := of_decide_eq_false hlt
    have hkk : k = l1.length := by omega
    refine Wp_exit (thn_exit (thn_exit (inB_here (thn_normal (Wp_seq_region ?_)))))
    refine qA (.bool true) rfl ?_
    refine WpL_nil (Wp_ret ?_)
    refine fin_tmp Tryz.results80 (v := (.bool true)) rfl ?_
    exact ⟨bool_eq (by symm; rw [decide_eq_true_eq]; exact get_ext (by omega) (fun i hi => heq i (by omega))), E⟩
theorem spans_flat {w : World} {b o : Nat} {l : List (Int × Int)} (h : ∀ i s, l[i]? = some s → CellsAt w b (o + i * 2) [.int .i64 s.1, .int .i64 s.2]) : CellsAt w b o (l.map spanV).flatten := by
  induction l generalizing o with
  | nil => intro i v hv; simp at hv
  | cons s l ih =>
    have h0 := h 0 s rfl
    have h1 := ih (o := o + 2) (fun i u hu => by have := h (i + 1) u (by simpa using hu); rwa [show o + (i + 1) * 2 = o + 2 + i * 2 from by omega] at this)
    intro i v hv
    simp only [List.map_cons, List.flatten_cons] at hv
    have hl : (spanV s).length = 2 := rfl
    rcases Nat.lt_or_ge i 2 with hi | hi
    · rw [List.getElem?_append_left (by omega)] at hv
      have := h0 i v hv
      simpa using this
    · rw [List.getElem?_append_right (by omega)] at hv
      have := h1 (i - 2) v (by rw [hl] at hv; exact hv)
      rwa [show o + 2 + (i - 2) = o + i from by omega] at this
theorem spans_six (l : List (Int × Int)) : (l.map spanV).flatten.length = l.length * 2 := by
  induction l with
  | nil => rfl
  | cons s l ih => simp only [List.map_cons, List.flatten_cons, List.length_append, ih, List.length_cons]; have : (spanV s).length = 2 := rfl; omega
theorem spans_one (l : List (Int × Int)) : ∀ u ∈ (l.map spanV).flatten, u.oneCell' = true := by
 intro u hu
 simp only [List.mem_flatten, List.mem_map] at hu
 obtain ⟨r, ⟨s, _, rfl⟩, hu⟩ := hu
 simp [spanV] at hu
 rcases hu with rfl | rfl <;> rfl
def cmpI (x y : Int) : Int := if x < y then -1 else if y < x then 1 else 0
theorem nan_c (w0 : World) (x : Int) : Ret Tryz.prog 180 #[.int .i64 x] w0 fun v w => v = .bool false ∧ Ext w0 w := by
 refine Ret_of Tryz.func180 rfl Tryz.ntmps180 (Nat.le_of_ble_eq_true rfl) ?_
 have E : Chg none1 w0 w0 := Chg.refl _ _
 refine Wp_seq_region ?_
 refine qA (.bool false) rfl ?_
 refine WpL_nil (Wp_seq_region ?_)
 refine qM (I6 x) rfl ?_
 refine qM (I6 x) rfl ?_
 refine qV (r_neq (k := .i64) (a := x) (b := x) rfl rfl) ?_
 refine qA (.bool (decide ((x : Int) ≠ x))) rfl ?_
 refine WpL_nil (Wp_ret ?_)
 refine fin_tmp Tryz.results180 (v := (.bool (decide ((x : Int) ≠ x)))) rfl ?_
 exact ⟨bool_eq (by simp), E⟩
theorem compare_c (w0 : World) (x y : Int) : Ret Tryz.prog 158 #[.int .i64 x, .int .i64 y] w0 fun v w => v = .int .i64 (cmpI x y) ∧ Ext w0 w := by
 refine Ret_of Tryz.func158 rfl Tryz.ntmps158 (Nat.le_of_ble_eq_true rfl) ?_
 have E : Chg none1 w0 w0 := Chg.refl _ _
 refine Wp_seq_region ?_
 refine qA (I6 0) rfl ?_
 refine WpL_nil (Wp_seq_region ?_)
 refine qM (I6 x) rfl ?_
 refine WpL_enter rfl rfl (by decide) (r_callF (vs := [(I6 x)]) Tryz.func180 nm180 bd180 rfl) (nan_c _ x) ?_
 rintro _ w9 ⟨rfl, X9⟩
 replace E := E.ext X9
 refine qA (.bool false) rfl ?_
 refine WpL_nil (Wp_seq_region ?_)
 refine qM (I6 y) rfl ?_
 refine WpL_enter rfl rfl (by decide) (r_callF (vs := [(I6 y)]) Tryz.func180 nm180 bd180 rfl) (nan_c _ y) ?_
 rintro _ w19 ⟨rfl, X19⟩
 replace E := E.ext X19
 refine qA (.bool false) rfl ?_
 refine WpL_nil (Wp_seq (Wp_seq_region ?_))
 refine qM (.bool false) rfl ?_
 refine WpL_nil ?_
 refine Wp_cond_false rfl ?_
 refine Wp_skip (thn_normal (Wp_seq (Wp_seq_region ?_)))
 refine qM (.bool false) rfl ?_
 refine WpL_nil ?_
 refine Wp_cond_false rfl ?_
 refine Wp_skip (thn_normal (Wp_seq (Wp_seq_region ?_)))
 refine qM (I6 x) rfl ?_
 refine qM (I6 y) rfl ?_
 refine qV (r_lss (k := .i64) (a := x) (b := y) rfl rfl) ?_
 refine WpL_nil ?_
 refine Wp_cond (b := decide ((x : Int) < y)) rfl (fun h1 => ?_) (fun h1 => ?_)
 ·have kh1 := h1
  replace h1 := of_decide_eq_true h1
  refine Wp_seq_region ?_
  refine qA (I6 (-1)) rfl ?_
  refine WpL_nil (Wp_ret (thn_ret ?_))
  refine fin_tmp Tryz.results158 (v := (.int .i64 (-1))) rfl ?_
  exact ⟨int_eq (by unfold cmpI; rw [if_pos h1]), E⟩
 ·have kh1 := h1
  replace h1 := of_decide_eq_false h1
  refine Wp_skip (thn_normal (Wp_seq (Wp_seq_region ?_)))
  refine qM (I6 x) rfl ?_
  refine qM (I6 y) rfl ?_
  refine qV (r_gtr (k := .i64) (a := x) (b := y) rfl rfl) ?_
  refine WpL_nil ?_
  refine Wp_cond (b := decide ((y : Int) < x)) rfl (fun h2 => ?_) (fun h2 => ?_)
  ·have kh2 := h2
   replace h2 := of_decide_eq_true h2
   refine Wp_seq_region ?_
   refine qA (I6 1) rfl ?_
   refine WpL_nil (Wp_ret (thn_ret ?_))
   refine fin_tmp Tryz.results158 (v := (.int .i64 1)) rfl ?_
   exact ⟨int_eq (by unfold cmpI; rw [if_neg h1, if_pos h2]), E⟩
  ·have kh2 := h2
   replace h2 := of_decide_eq_false h2
   refine Wp_skip (thn_normal (Wp_seq_region ?_))
   refine qA (I6 0) rfl ?_
   refine WpL_nil (Wp_ret ?_)
   refine fin_tmp Tryz.results158 (v := (.int .i64 0)) rfl ?_
   exact ⟨int_eq (by unfold cmpI; rw [if_neg h1, if_neg h2]), E⟩
section
variable {P : Program} {σ : Env} {w : World} {dst : Option Tmp} {ty : TypeId} {pos : String} {af : Array Edge} {g : Option (Nat × Bool)} {tys : Array TypeId} {x y : Operand} {k : IntKind} {a b c : Int}
theorem r_maxI (hx : ev σ x = .int k a) (hy : ev σ y = .int k b) (hc : max a b = c) :
  (execOp (ev σ) ⟨dst, .call ⟨.builtin .max, #[x, y], tys⟩, ty, pos, af, g⟩).run P w = .ok (.value (.int k c)) w := by
 subst hc
 have : (if a < b then b else a) = max a b := by split <;> omega
 simp [execOp, resolve, invoke, builtin, Builtin.max_, Builtin.max2, hx, hy, this]
end
end Go.Proofs
namespace Go.Proofs
open Go Go.Eng
set_option maxRecDepth 100000
theorem PairsAt.ext {w w' : World} {v : Value} {l : List (Nat × Nat)} (h : PairsAt w v l) (e : Ext w w') : PairsAt w' v l := SlAt.ext h e
end Go.Proofs
namespace Go.Eng
open Go
def SlIn (S : Nat → Prop) (w : World) (k : Nat) (v : Value) (rows : List (List Value)) : Prop :=
 ∃ a cap, v = .slice a rows.length cap ∧ rows.length ≤ 9223372036854775807 ∧ rows.length ≤ cap ∧ (rows = [] ∨ ∃ b o, S b ∧ a = some ⟨b, o, none⟩ ∧ ∀ i r, rows[i]? = some r → CellsAt w b (o + i * k) r)
theorem SlIn.at {S : Nat → Prop} {w : World} {k : Nat} {v : Value} {rows : List (List Value)} (h : SlIn S w k v rows) : SlAt w k v rows := by
 obtain ⟨a, cap, h1, h2, h3, h4⟩ := h
 refine ⟨a, cap, h1, h2, h3, ?_⟩
 rcases h4 with h | ⟨b, o, _, h5, h6⟩
 ·exact .inl h
 ·exact .inr ⟨b, o, h5, h6⟩
theorem SlIn.of {w : World} {k : Nat} {v : Value} {rows : List (List Value)} (h : SlAt w k v rows) : SlIn (fun _ => True) w k v rows := by
 obtain ⟨a, cap, h1, h2, h3, h4⟩ := h
 refine ⟨a, cap, h1, h2, h3, ?_⟩
 rcases h4 with h | ⟨b, o, h5, h6⟩
 ·exact .inl h
 ·exact .inr ⟨b, o, trivial, h5, h6⟩
theorem SlIn.chg {S M : Nat → Prop} {w w' : World} {k : Nat} {v : Value} {rows : List (List Value)} (h : SlIn S w k v rows) (c : Chg M w w') (hm : ∀ b, S b → ¬ M b) : SlIn S w' k v rows := by
 obtain ⟨a, cap, h1, h2, h3, h4⟩ := h
 refine ⟨a, cap, h1, h2, h3, ?_⟩
 rcases h4 with h | ⟨b, o, hb, h5, h6⟩
 ·exact .inl h
 ·exact .inr ⟨b, o, hb, h5, fun i r hr => (h6 i r hr).chg c (hm b hb)⟩
theorem SlIn.mono {S S' : Nat → Prop} {w : World} {k : Nat} {v : Value} {rows : List (List Value)} (h : SlIn S w k v rows) (hs : ∀ b, S b → S' b) : SlIn S' w k v rows := by
 obtain ⟨a, cap, h1, h2, h3, h4⟩ := h
 refine ⟨a, cap, h1, h2, h3, ?_⟩
 rcases h4 with h | ⟨b, o, hb, h5⟩
 ·exact .inl h
 ·exact .inr ⟨b, o, hs b hb, h5⟩
theorem SlIn.nil (S : Nat → Prop) (w : World) (k : Nat) (a : Option Addr) (cap : Nat) : SlIn S w k (.slice a 0 cap) [] := ⟨a, cap, rfl, by simp, by simp, .inl rfl⟩
theorem SlIn.mk {S : Nat → Prop} {w : World} {k : Nat} {b o n c : Nat} {rows : List (List Value)} (h : SlAt w k (.slice (some ⟨b, o, none⟩) n c) rows) (hs : S b) : SlIn S w k (.slice (some ⟨b, o, none⟩) n c) rows := by
 obtain ⟨a, cap, h1, h2, h3, h4⟩ := h
 refine ⟨a, cap, h1, h2, h3, ?_⟩
 rcases h4 with h | ⟨b', o', h5, h6⟩
 ·exact .inl h
 ·simp only [Value.slice.injEq] at h1
  have : b' = b := by rw [← h1.1] at h5; simp at h5; exact h5.1.symm
  exact .inr ⟨b', o', this ▸ hs, h5, h6⟩
mutual
def ReIn (S : Nat → Prop) (w : World) : Re → List Value → Prop
  | .mk k set args mn mx ng, vs => ∃ sa sc aa ac, vs = [.int .i64 k, .slice sa set.length sc, .slice aa args.length ac, .int .i64 mn, .int .i64 mx, .bool ng] ∧ SlIn S w 2 (.slice sa set.length sc) (set.map spanV) ∧ (args.length ≤ ac ∧ ac ≤ 9223372036854775807) ∧
      (args = [] ∨ ∃ b o, S b ∧ aa = some ⟨b, o, none⟩ ∧ ResIn S w b o args)
def ResIn (S : Nat → Prop) (w : World) (b : Nat) : Nat → List Re → Prop
  | _, [] => True
  | o, t :: ts => (∃ vs, CellsAt w b o vs ∧ ReIn S w t vs) ∧ ResIn S w b (o + 6) ts
end
mutual
theorem ReIn.at {S : Nat → Prop} {w : World} : ∀ (t : Re) {vs : List Value}, ReIn S w t vs → ReAt w t vs
  | .mk k set args mn mx ng, vs, h => by
    simp only [ReIn] at h
    simp only [ReAt]
    obtain ⟨sa, sc, aa, ac, hv, hs, hl, ha⟩ := h
    refine ⟨sa, sc, aa, ac, hv, hs.at, hl, ?_⟩
    rcases ha with h | ⟨b, o, _, h1, h2⟩
    · exact .inl h
    · exact .inr ⟨b, o, h1, ResIn.at args h2⟩
theorem ResIn.at {S : Nat → Prop} {w : World} {b : Nat} : ∀ (ts : List Re) {o : Nat}, ResIn S w b o ts → ResAt w b o ts
  | [], _, _ => by simp only [ResAt]
  | t :: ts, o, h => by
    simp only [ResIn] at h
    simp only [ResAt]
    obtain ⟨⟨vs, h1, h2⟩, h3⟩ := h
    exact ⟨⟨vs, h1, ReIn.at t h2⟩, ResIn.at ts h3⟩
end
mutual
theorem ReIn.chg {S M : Nat → Prop} {w w' : World} (c : Chg M w w') (hm : ∀ b, S b → ¬ M b) : ∀ (t : Re) {vs : List Value}, ReIn S w t vs → ReIn S w' t vs
  | .mk k set args mn mx ng, vs, h => by
    simp only [ReIn] at h ⊢
    obtain ⟨sa, sc, aa, ac, hv, hs, hl, ha⟩ := h
    refine ⟨sa, sc, aa, ac, hv, hs.chg c hm, hl, ?_⟩
    rcases ha with h | ⟨b, o, hb, h1, h2⟩
    · exact .inl h
    · exact .inr ⟨b, o, hb, h1, ResIn.chg c hm args hb h2⟩
theorem ResIn.chg {S M : Nat → Prop} {w w' : World} (c : Chg M w w') (hm : ∀ b, S b → ¬ M b) {b : Nat} : ∀ (ts : List Re) {o : Nat}, S b → ResIn S w b o ts → ResIn S w' b o ts
  | [], _, _, _ => by simp only [ResIn]
  | t :: ts, o, hb, h => by
    simp only [ResIn] at h ⊢
    obtain ⟨⟨vs, h1, h2⟩, h3⟩ := h
    exact ⟨⟨vs, h1.chg c (hm b hb), ReIn.chg c hm t h2⟩, ResIn.chg c hm ts hb h3⟩
end
mutual
theorem ReIn.mono {S S' : Nat → Prop} {w : World} (hs : ∀ b, S b → S' b) : ∀ (t : Re) {vs : List Value}, ReIn S w t vs → ReIn S' w t vs
  | .mk k set args mn mx ng, vs, h => by
    simp only [ReIn] at h ⊢
    obtain ⟨sa, sc, aa, ac, hv, h0, hl, ha⟩ := h
    refine ⟨sa, sc, aa, ac, hv, h0.mono hs, hl, ?_⟩
    rcases ha with h | ⟨b, o, hb, h1, h2⟩
    · exact .inl h
    · exact .inr ⟨b, o, hs b hb, h1, ResIn.mono hs args h2⟩
theorem ResIn.mono {S S' : Nat → Prop} {w : World} (hs : ∀ b, S b → S' b) {b : Nat} : ∀ (ts : List Re) {o : Nat}, ResIn S w b o ts → ResIn S' w b o ts
  | [], _, _ => by simp only [ResIn]
  | t :: ts, o, h => by
    simp only [ResIn] at h ⊢
    obtain ⟨⟨vs, h1, h2⟩, h3⟩ := h
    exact ⟨⟨vs, h1, ReIn.mono hs t h2⟩, ResIn.mono hs ts h3⟩
end
theorem ReIn.ext {S : Nat → Prop} {w w' : World} (e : Ext w w') (t : Re) {vs : List Value} (h : ReIn S w t vs) : ReIn S w' t vs := ReIn.chg e (fun _ _ f => f) t h
theorem ReIn.form {S : Nat → Prop} {w : World} {t : Re} {vs : List Value} (h : ReIn S w t vs) : ∃ sa sc aa ac, vs = [.int .i64 t.kind, .slice sa t.set.length sc, .slice aa t.args.length ac, .int .i64 t.mn, .int .i64 t.mx, .bool t.neg] ∧ SlIn S w 2 (.slice sa t.set.length sc) (t.set.map spanV) ∧ (t.args.length ≤ ac ∧ ac ≤ 9223372036854775807) ∧
  (t.args = [] ∨ ∃ b o, S b ∧ aa = some ⟨b, o, none⟩ ∧ ResIn S w b o t.args) := by
 cases t; simp only [ReIn] at h; exact h
theorem ReIn.of {S : Nat → Prop} {w : World} {k : Int} {set : List (Int × Int)} {args : List Re} {mn mx : Int} {ng : Bool} {sa aa : Option Addr} {sc ac : Nat} (hs : SlIn S w 2 (.slice sa set.length sc) (set.map spanV)) (hl : (args.length ≤ ac ∧ ac ≤ 9223372036854775807)) (ha : args = [] ∨ ∃ b o, S b ∧ aa = some ⟨b, o, none⟩ ∧ ResIn S w b o args) :
  ReIn S w (.mk k set args mn mx ng) [.int .i64 k, .slice sa set.length sc, .slice aa args.length ac, .int .i64 mn, .int .i64 mx, .bool ng] := by
 simp only [ReIn]; exact ⟨sa, sc, aa, ac, rfl, hs, hl, ha⟩
theorem ResIn.one {S : Nat → Prop} {w : World} {b o : Nat} {t : Re} {vs : List Value} (hc : CellsAt w b o vs) (h : ReIn S w t vs) : ResIn S w b o [t] := by
 simp only [ResIn]; exact ⟨⟨vs, hc, h⟩, trivial⟩
theorem ResIn.two {S : Nat → Prop} {w : World} {b o : Nat} {t u : Re} {vs us : List Value} (hc : CellsAt w b o vs) (h : ReIn S w t vs) (hc' : CellsAt w b (o + 6) us) (h' : ReIn S w u us) : ResIn S w b o [t, u] := by
 simp only [ResIn]; exact ⟨⟨vs, hc, h⟩, ⟨us, hc', h'⟩, trivial⟩
theorem ResIn.get {S : Nat → Prop} {w : World} {b : Nat} : ∀ {ts : List Re} {o i : Nat} {t : Re}, ResIn S w b o ts → ts[i]? = some t → ∃ vs, CellsAt w b (o + i * 6) vs ∧ ReIn S w t vs
  | [], _, _, _, _, h => by simp at h
  | x :: ts, o, 0, t, h, hi => by
    simp only [ResIn] at h
    simp at hi
    subst hi
    simpa using h.1
  | x :: ts, o, i + 1, t, h, hi => by
    simp only [ResIn] at h
    have := ResIn.get h.2 (i := i) (by simpa using hi)
    rwa [show o + (i + 1) * 6 = o + 6 + i * 6 from by omega]
theorem ReIn.len {S : Nat → Prop} {w : World} {t : Re} {vs : List Value} (h : ReIn S w t vs) : vs.length = 6 := (ReIn.at t h).len
theorem ReIn.of_at {w : World} : ∀ (t : Re) {vs : List Value}, ReAt w t vs → ReIn (fun b => b < w.heap.size) w t vs := by
  intro t
  have key : ∀ n, (∀ t : Re, t.size ≤ n → ∀ vs, ReAt w t vs → ReIn (fun b => b < w.heap.size) w t vs) := by
    intro n
    induction n with
    | zero => intro t ht; have := t.size_pos; omega
    | succ n ih =>
      intro t hn vs h
      obtain ⟨sa, sc, aa, ac, rfl, hs, hl, ha⟩ := h.form
      have hsz := t.size_eq
      cases t with
      | mk k set args mn mx ng =>
      simp only [Re.kind, Re.set, Re.args, Re.mn, Re.mx, Re.neg] at *
      refine ReIn.of ?_ hl ?_
      · obtain ⟨a, cap, h1, h2, h3, h4⟩ := hs
        refine ⟨a, cap, h1, h2, h3, ?_⟩
        rcases h4 with h | ⟨b, o, h5, h6⟩
        · exact .inl h
        · cases set with
          | nil => exact .inl rfl
          | cons s r =>
            have := h6 0 (spanV s) rfl 0 _ rfl
            exact .inr ⟨b, o, World.block_lt_of_cell? w _ this, h5, h6⟩
      · rcases ha with h | ⟨b, o, h1, h2⟩
        · exact .inl h
        · have key2 : ∀ (ts : List Re) (o : Nat), Re.sizes ts ≤ n → ResAt w b o ts → ResIn (fun b => b < w.heap.size) w b o ts := by
            intro ts
            induction ts with
            | nil => intro _ _ _; simp only [ResIn]
            | cons t ts ih2 =>
              intro o hz h
              simp only [Re.sizes] at hz
              simp only [ResAt] at h
              simp only [ResIn]
              obtain ⟨⟨vs, h3, h4⟩, h5⟩ := h
              exact ⟨⟨vs, h3, ih t (by omega) vs h4⟩, ih2 _ (by omega) h5⟩
          cases args with
          | nil => exact .inl rfl
          | cons t ts =>
            have h3 := h2
            simp only [ResAt] at h3
            obtain ⟨⟨vs, h4, h5⟩, _⟩ := h3
            obtain ⟨_, _, _, _, rfl, _⟩ := h5.form
            have := h4 0 _ rfl
            exact .inr ⟨b, o, World.block_lt_of_cell? w _ this, h1, key2 _ o (by omega) h2⟩
  exact fun {vs} h => key t.size t (Nat.le_refl _) vs h
end Go.Eng
namespace Go.Proofs
open Go Go.Eng
set_option maxRecDepth 100000
abbrev TS : Nat := 99
def StrAt (wb w : World) (bs : Nat) (l : List Int) : Prop := ∃ a c, Blk w bs #[.slice a l.length c] TS ∧ IntsAt wb (.slice a l.length c) l
theorem StrAt.ext {wb w w' : World} {bs : Nat} {l : List Int} (h : StrAt wb w bs l) (e : Ext w w') : StrAt wb w' bs l := let ⟨a, c, h1, h2⟩ := h; ⟨a, c, e.keep h1, h2⟩
theorem StrAt.lt {wb w : World} {bs : Nat} {l : List Int} (h : StrAt wb w bs l) : bs < w.heap.size := let ⟨_, _, h1, _⟩ := h; h1.lt
theorem next_c (wb w0 : World) (bs : Nat) (l : List Int) (n : Int) (hn : 0 < n) (hm : n ≤ 2000) (hE : Ext wb w0) (hb : wb.heap.size ≤ bs) (hS : StrAt wb w0 bs l) :
  Ret Tryz.prog 135 #[.pointer (some ⟨bs, 0, none⟩), .int .i64 n] w0 fun v w => ∃ x l', v = .int .i64 x ∧ 0 ≤ x ∧ x < n ∧ StrAt wb w bs l' ∧ Chg (fun x => x = bs) w0 w := by
 obtain ⟨a, c, hB, hl⟩ := hS
 have hcap := SlAt.cap hl
 have hlen : l.length ≤ 9223372036854775807 := by simpa using SlAt.le hl
 refine Ret_of Tryz.func135 rfl Tryz.ntmps135 (Nat.le_of_ble_eq_true rfl) ?_
 have E : Chg (fun x => x = bs) w0 w0 := Chg.refl _ _
 refine Wp_seq_region ?_
 refine qA (I6 0) rfl ?_
 refine WpL_nil (Wp_seq (Wp_seq_region ?_))
 refine qM (P6 bs 0) rfl ?_
 refine qV (r_nilCheck (a := ⟨bs, 0, none⟩) rfl) ?_
 refine qF bs 0 0 rfl Tryz.underlying99 rfl siz26 rfl ?_
 refine qV (r_load (v := (.slice a l.length c)) rfl flat26 (hB.cell rfl)) ?_
 refine qV (r_lenSlice (ad := a) (n := l.length) (cap := c) Tryz.underlying26 rfl) ?_
 refine qV (r_eql (k := .i64) (a := (l.length : Int)) (b := 0) rfl rfl) ?_
 refine WpL_nil ?_
 refine Wp_cond (b := decide (((l.length : Int) : Int) = 0)) rfl (fun h0 => ?_) (fun h0 => ?_)
 ·have kh0 := h0
  replace h0 := of_decide_eq_true h0
  refine Wp_seq_region ?_
  refine qA (I6 0) rfl ?_
  refine WpL_nil (Wp_ret (thn_ret ?_))
  refine fin_tmp Tryz.results135 (v := (.int .i64 0)) rfl ?_
  exact ⟨0, l, rfl, Int.le_refl _, hn, ⟨a, c, hB, hl⟩, E⟩
 ·have kh0 := h0
  replace h0 := of_decide_eq_false h0
  obtain ⟨x, hx⟩ := get_of_lt (l := l) (i := 0) (by omega)
  obtain ⟨b, o, rfl, hcl⟩ := ints_cells hl (by omega)
  refine Wp_skip (thn_normal (Wp_seq_region ?_))
  refine qM (P6 bs 0) rfl ?_
  refine qV (r_nilCheck (a := ⟨bs, 0, none⟩) rfl) ?_
  refine qF bs 0 0 rfl Tryz.underlying99 rfl siz26 rfl ?_
  refine qV (r_load (v := (.slice (some ⟨b, o, none⟩) l.length c)) rfl flat26 (hB.cell rfl)) ?_
  refine qV (r_indexSlice (b := b) (o := o) (len := l.length) (cap := c) (i := 0) (o' := o + 0) rfl rfl rfl Tryz.underlying26 siz3 (by omega) (by omega)) ?_
  refine qV (r_load (v := (I6 x)) rfl flat3 ((hE.cell (hcl 0 x hx)))) ?_
  refine qA (I6 x) rfl ?_
  refine WpL_nil (Wp_seq_region ?_)
  refine qM (P6 bs 0) rfl ?_
  refine qM (P6 bs 0) rfl ?_
  refine qV (r_nilCheck (a := ⟨bs, 0, none⟩) rfl) ?_
  refine qF bs 0 0 rfl Tryz.underlying99 rfl siz26 rfl ?_
  refine qV (r_load (v := (.slice (some ⟨b, o, none⟩) l.length c)) rfl flat26 (hB.cell rfl)) ?_
  obtain ⟨sl, hsl⟩ : ∃ a' : Option Addr, (if c = 1 then (some ⟨b, o, none⟩) else Option.map (fun q : Addr => q.add (1 * 1)) (some ⟨b, o, none⟩)) = a' := ⟨_, rfl⟩
  refine qV (r_sliceLo (a := (some ⟨b, o, none⟩)) (len := l.length) (cap := c) (lo := 1) (l := 1) (n' := (l.length - 1)) (c' := (c - 1)) Tryz.underlying26 siz3 rfl rfl (by omega) (by omega) hsl (by omega) (by omega)) ?_
  refine qV (r_nilCheck (a := ⟨bs, 0, none⟩) rfl) ?_
  refine qF bs 0 0 rfl Tryz.underlying99 rfl siz26 rfl ?_
  refine s_store (b := bs) (o := 0) (c' := #[(.slice sl (l.length - 1) (c - 1))]) (v := (.slice sl (l.length - 1) (c - 1))) rfl rfl rfl siz26 hB (by simp) rfl ?_
  intro w2 S2
  replace E := S2.step E (by first | exact Or.inl (by omega) | exact Or.inr rfl | exact Or.inr (by assumption) | exact Or.inr (by simp) | exact Or.inr (by omega) | exact Or.inr (by dsimp only; omega))
  replace hB := S2.blk
  refine WpL_nil (Wp_seq_region ?_)
  refine qM (I6 x) rfl ?_
  refine qM (I6 n) rfl ?_
  refine WpL_enter rfl rfl (by decide) (r_callF (vs := [(I6 x), (I6 n)]) Tryz.func24 nm24 bd24 rfl) (below_c x n hn hm _) ?_
  rintro _ _ ⟨rfl, rfl⟩
  have hcut := SlAt.cut (lo := 1) (hi := l.length) hl (by omega) (Nat.le_refl _) hsl rfl rfl
  have hdl : ((l.map intV).drop 1).take (l.length - 1) = (l.drop 1).map intV := by rw [List.take_of_length_le (by simp), List.map_drop]
  rw [hdl] at hcut
  have hll : (l.drop 1).length = l.length - 1 := by simp
  refine qA (I6 (x % n)) rfl ?_
  refine WpL_nil (Wp_ret ?_)
  refine fin_tmp Tryz.results135 (v := (.int .i64 (x % n))) rfl ?_
  exact ⟨x % n, l.drop 1, rfl, Int.emod_nonneg x (by omega), Int.emod_lt_of_pos x hn, ⟨sl, c - 1, by rw [hll]; exact hB, by rw [hll]; exact hcut⟩, E⟩
end Go.Proofs
namespace Go.Proofs
open Go Go.Eng
set_option maxRecDepth 100000
theorem span_c (w0 : World) (lo hi : Int) : Ret Tryz.prog 134 #[.int .i64 lo, .int .i64 hi] w0 fun v w => ∃ b, v = .slice (some ⟨b, 0, none⟩) 1 1 ∧ SpansAt w v [(lo, hi)] ∧ w0.heap.size ≤ b ∧ Ext w0 w := by
 refine Ret_of Tryz.func134 rfl Tryz.ntmps134 (Nat.le_of_ble_eq_true rfl) ?_
 have E : Chg none1 w0 w0 := Chg.refl _ _
 refine Wp_seq_region ?_
 refine qA (.slice none 0 0) rfl ?_
 refine WpL_nil (Wp_seq_region ?_)
 refine qM (I6 lo) rfl ?_
 refine qM (I6 hi) rfl ?_
 refine qV (r_build (ps := [(0, (I6 lo)), (1, (I6 hi))]) (v := (.agg #[(I6 lo), (I6 hi)])) rfl (by kernel_rfl)) ?_
 refine s_buildSlice (ps := [(0, (.agg #[(I6 lo), (I6 hi)]))]) (c := #[(I6 lo), (I6 hi)]) (by decide) rfl Tryz.underlying22 siz103 zer103 (by decide) (by decide) (by kernel_rfl) ?_
 intro b1 w1 N1
 have F1 := N1.ge E
 replace E := E.ext N1.ext
 have B1 := N1.blk
 refine qA (.slice (some ⟨b1, 0, none⟩) 1 1) rfl ?_
 refine WpL_nil (Wp_ret ?_)
 refine fin_tmp Tryz.results134 (v := (.slice (some ⟨b1, 0, none⟩) 1 1)) rfl ?_
 exact ⟨b1, rfl, spans_of_blk [(lo, hi)] B1 (by simp) (by simp), by omega, E⟩
def oneT (r : Int) : Re := .mk 2 [(r, r)] [] 0 0 false
theorem one_c (w0 : World) (r : Int) : Ret Tryz.prog 77 #[.int .i64 r] w0 fun v w => ∃ b, v = .agg #[.int .i64 2, .slice (some ⟨b, 0, none⟩) 1 1, .slice none 0 0, .int .i64 0, .int .i64 0, .bool false] ∧ SpansAt w (.slice (some ⟨b, 0, none⟩) 1 1) [(r, r)] ∧ Ext w0 w := by
 refine Ret_of Tryz.func77 rfl Tryz.ntmps77 (Nat.le_of_ble_eq_true rfl) ?_
 have E : Chg none1 w0 w0 := Chg.refl _ _
 refine Wp_seq_region ?_
 refine s_alloc (c := #[(I6 0), (.slice none 0 0), (.slice none 0 0), (I6 0), (I6 0), (.bool false)]) (by decide) zer25 rfl ?_
 intro b1 w1 N1
 have F1 := N1.ge E
 replace E := E.ext N1.ext
 have B1 := N1.blk
 refine WpL_nil (Wp_seq_region ?_)
 refine qM (I6 r) rfl ?_
 refine qM (I6 r) rfl ?_
 refine WpL_enter rfl rfl (by decide) (r_callF (vs := [(I6 r), (I6 r)]) Tryz.func134 nm134 bd134 rfl) (span_c _ r r) ?_
 rintro _ w9 ⟨b, rfl, hsp, hb, X9⟩
 replace B1 := X9.keep B1
 replace E := E.ext X9
 have hbne : b ≠ b1 := by have := N1.size; have := N1.eq; omega
 refine qV (r_build (ps := [(0, (I6 2)), (1, (.slice (some ⟨b, 0, none⟩) 1 1))]) (v := (.agg #[(I6 2), (.slice (some ⟨b, 0, none⟩) 1 1), (.slice none 0 0), (I6 0), (I6 0), (.bool false)])) rfl (by kernel_rfl)) ?_
 refine s_storeAgg (b := b1) (o := 0) (c' := #[(I6 2), (.slice (some ⟨b, 0, none⟩) 1 1), (.slice none 0 0), (I6 0), (I6 0), (.bool false)]) rfl rfl (by simp [Value.oneCell']) siz25 rfl B1 (by first | (simp; done) | exact Nat.le_of_ble_eq_true rfl) rfl ?_
 intro w2 S2
 replace E := S2.step E (by first | exact Or.inl (by omega) | exact Or.inr rfl | exact Or.inr (by assumption) | exact Or.inr (by simp) | exact Or.inr (by omega) | exact Or.inr (by dsimp only; omega))
 replace B1 := S2.blk
 refine WpL_nil (Wp_ret ?_)
 refine fin_agg Tryz.results77 (vs := [(.int .i64 2), (.slice (some ⟨b, 0, none⟩) 1 1), (.slice none 0 0), (.int .i64 0), (.int .i64 0), (.bool false)]) (b := b1) rfl agg25 siz25 rfl (B1.cells rfl) ?_
 exact ⟨b, rfl, (SlIn.mk hsp (S := fun x => x = b) rfl).chg S2.chg (fun x h => by omega) |>.at, E⟩
theorem re_c (w0 : World) (k : Int) (aa : Option Addr) (n c : Nat) : Ret Tryz.prog 76 #[.int .i64 k, .slice aa n c] w0 fun v w => v = .agg #[.int .i64 k, .slice none 0 0, .slice aa n c, .int .i64 0, .int .i64 0, .bool false] ∧ Ext w0 w := by
 refine Ret_of Tryz.func76 rfl Tryz.ntmps76 (Nat.le_of_ble_eq_true rfl) ?_
 have E : Chg none1 w0 w0 := Chg.refl _ _
 refine Wp_seq_region ?_
 refine s_alloc (c := #[(I6 0), (.slice none 0 0), (.slice none 0 0), (I6 0), (I6 0), (.bool false)]) (by decide) zer25 rfl ?_
 intro b1 w1 N1
 have F1 := N1.ge E
 replace E := E.ext N1.ext
 have B1 := N1.blk
 refine WpL_nil (Wp_seq_region ?_)
 refine qM (I6 k) rfl ?_
 refine qM (.slice aa n c) rfl ?_
 refine qV (r_build (ps := [(0, (I6 k)), (2, (.slice aa n c))]) (v := (.agg #[(I6 k), (.slice none 0 0), (.slice aa n c), (I6 0), (I6 0), (.bool false)])) rfl (by kernel_rfl)) ?_
 refine s_storeAgg (b := b1) (o := 0) (c' := #[(I6 k), (.slice none 0 0), (.slice aa n c), (I6 0), (I6 0), (.bool false)]) rfl rfl (by simp [Value.oneCell']) siz25 rfl B1 (by first | (simp; done) | exact Nat.le_of_ble_eq_true rfl) rfl ?_
 intro w2 S2
 replace E := S2.step E (by first | exact Or.inl (by omega) | exact Or.inr rfl | exact Or.inr (by assumption) | exact Or.inr (by simp) | exact Or.inr (by omega) | exact Or.inr (by dsimp only; omega))
 replace B1 := S2.blk
 refine WpL_nil (Wp_ret ?_)
 refine fin_agg Tryz.results76 (vs := [(.int .i64 k), (.slice none 0 0), (.slice aa n c), (.int .i64 0), (.int .i64 0), (.bool false)]) (b := b1) rfl agg25 siz25 rfl (B1.cells rfl) ?_
 exact ⟨rfl, E⟩
theorem one_at {w : World} {b : Nat} {r : Int} (h : SpansAt w (.slice (some ⟨b, 0, none⟩) 1 1) [(r, r)]) : ReAt w (oneT r) [.int .i64 2, .slice (some ⟨b, 0, none⟩) 1 1, .slice none 0 0, .int .i64 0, .int .i64 0, .bool false] :=
 ReAt.of (set := [(r, r)]) (args := []) h (by simp) (.inl rfl)
end Go.Proofs
namespace Go.Proofs
open Go Go.Eng
set_option maxRecDepth 100000
mutual
def allRe (p : Re → Prop) : Re → Prop
  | .mk k set args mn mx ng => p (.mk k set args mn mx ng) ∧ allRes p args
def allRes (p : Re → Prop) : List Re → Prop
  | [] => True
  | t :: ts => allRe p t ∧ allRes p ts
end
def genP (kinds : Int) (t : Re) : Prop := nodeE t = 0 ∧ t.kind ≤ kinds ∧ (t.kind = 2 → ∃ lo hi, t.set = [(lo, hi)] ∧ 97 ≤ lo ∧ lo ≤ hi ∧ hi ≤ 100)
mutual
theorem gen_ok {kinds : Int} : ∀ (t : Re), allRe (genP kinds) t → okRe t
  | .mk k set args mn mx ng, h => by simp only [allRe] at h; simp only [okRe]; exact ⟨h.1.1, gen_oks args h.2⟩
theorem gen_oks {kinds : Int} : ∀ (ts : List Re), allRes (genP kinds) ts → okRes ts
  | [], _ => by simp only [okRes]
  | t :: ts, h => by simp only [allRes] at h; simp only [okRes]; exact ⟨gen_ok t h.1, gen_oks ts h.2⟩
end
theorem StrAt.put {wb w w' : World} {bs b : Nat} {l : List Int} {c : Array Value} {t : TypeId} (h : StrAt wb w bs l) (s : Put w w' b c t) (hne : bs ≠ b) : StrAt wb w' bs l :=
 let ⟨a, c, h1, h2⟩ := h; ⟨a, c, s.keep hne h1, h2⟩
theorem node_leaf {k : Int} (h : k = 0 ∨ k = 1) : nodeE (.mk k [] [] 0 0 false) = 0 := by
 rcases h with rfl | rfl <;> decide
theorem node_set {lo hi : Int} (h1 : 0 ≤ lo) (h2 : lo ≤ hi) (h3 : hi ≤ 1114111) : nodeE (.mk 2 [(lo, hi)] [] 0 0 false) = 0 := by
 simp [nodeE, formB, okB, checkE, checkL, validB, Re.kind, Re.set, Re.args, Re.mn, Re.mx, Re.neg, h1, h2, h3]
theorem node_two {k : Int} (h : k = 3 ∨ k = 4 ∨ k = 7) (t u : Re) : nodeE (.mk k [] [t, u] 0 0 false) = 0 := by
 rcases h with rfl | rfl | rfl <;> simp [nodeE, formB, okB, Re.kind, Re.set, Re.args, Re.mn, Re.mx, Re.neg]
theorem node_rep {mn mx : Int} (h0 : 0 ≤ mn) (h1 : mn ≤ mx) (h2 : mx ≤ 8) (t : Re) : nodeE (.mk 6 [] [t] mn mx false) = 0 := by
 simp [nodeE, formB, okB, Re.kind, Re.set, Re.args, Re.mn, Re.mx, Re.neg]; omega
theorem node_group {mn : Int} (h0 : 0 ≤ mn) (h1 : mn ≤ 9) (t : Re) : nodeE (.mk 9 [] [t] mn 0 false) = 0 := by
 simp [nodeE, formB, okB, Re.kind, Re.set, Re.args, Re.mn, Re.mx, Re.neg]; omega
theorem node_look (ng : Bool) (t : Re) : nodeE (.mk 10 [] [t] 0 0 ng) = 0 := by
 simp [nodeE, formB, okB, Re.kind, Re.set, Re.args, Re.mn, Re.mx, Re.neg]
theorem node_one {k : Int} (h : k = 5 ∨ k = 8) (t : Re) : nodeE (.mk k [] [t] 0 0 false) = 0 := by
 rcases h with rfl | rfl <;> simp [nodeE, formB, okB, Re.kind, Re.set, Re.args, Re.mn, Re.mx, Re.neg]
theorem gen_mk {kinds k mn mx : Int} {ng : Bool} {ts : List Re} (hk : k ≤ kinds) (h2 : k ≠ 2) (hn : nodeE (.mk k [] ts mn mx ng) = 0) (ht : allRes (genP kinds) ts) : allRe (genP kinds) (.mk k [] ts mn mx ng) := by
 simp only [allRe]; exact ⟨⟨hn, hk, fun h => absurd h h2⟩, ht⟩
theorem gen_pow {d : Nat} (h : 1 ≤ d) : 2 ^ (d - 1 + 1) = 2 ^ d := by rw [Nat.sub_add_cancel h]
theorem gen_size1 {d : Nat} (h : 1 ≤ d) {t : Re} (hs : t.size + 1 ≤ 2 ^ (d - 1 + 1)) {k mn mx : Int} {set : List (Int × Int)} {ng : Bool} : (Re.mk k set [t] mn mx ng).size + 1 ≤ 2 ^ (d + 1) := by
 rw [gen_pow h] at hs
 simp only [Re.size, Re.sizes, Nat.pow_succ]; have := t.size_pos; omega
theorem gen_size2 {d : Nat} (h : 1 ≤ d) {t u : Re} (hs : t.size + 1 ≤ 2 ^ (d - 1 + 1)) (hu : u.size + 1 ≤ 2 ^ (d - 1 + 1)) {k mn mx : Int} {set : List (Int × Int)} {ng : Bool} : (Re.mk k set [t, u] mn mx ng).size + 1 ≤ 2 ^ (d + 1) := by
 rw [gen_pow h] at hs hu
 simp only [Re.size, Re.sizes, Nat.pow_succ]; omega
set_option maxHeartbeats 4000000 in
theorem gen_c (wb : World) (bs : Nat) (kinds : Int) (hk : kinds = 8 ∨ kinds = 10) (hb : wb.heap.size ≤ bs) : ∀ (d : Nat), d ≤ 4 → ∀ (w0 : World) (l : List Int), Ext wb w0 → StrAt wb w0 bs l →
    Ret Tryz.prog 78 #[.pointer (some ⟨bs, 0, none⟩), .int .i64 ((d : Nat) : Int), .int .i64 kinds] w0 fun v w => ∃ t vs l', v = .agg vs.toArray ∧ allRe (genP kinds) t ∧ t.size + 1 ≤ 2 ^ (d + 1) ∧ ReIn (fun b => w0.heap.size ≤ b) w t vs ∧ StrAt wb w bs l' ∧ Chg (fun x => x = bs) w0 w := by
  intro d
  induction d using Nat.strongRecOn with
  | _ d ih =>
  intro hd4 w0 l hE hS
  have hbs0 := hS.lt
  have toE : ∀ {w : World}, Chg (fun x => x = bs) w0 w → Ext wb w := fun c => Chg.step hE c fun x hx hm => by have hm' : x = bs := hm; omega
  refine Ret_of Tryz.func78 rfl Tryz.ntmps78 (Nat.le_of_ble_eq_true rfl) ?_
  have E : Chg (fun x => x = bs) w0 w0 := Chg.refl _ _
  refine Wp_seq_region ?_
  refine s_alloc (c := #[(I6 0), (.slice none 0 0), (.slice none 0 0), (I6 0), (I6 0), (.bool false)]) (by decide) zer25 rfl ?_
  intro b1 w1 N1
  have F1 := N1.ge E
  replace hS := hS.ext N1.ext
  replace E := E.ext N1.ext
  have B1 := N1.blk
  refine WpL_nil (Wp_seq_region ?_)
  refine qM (P6 bs 0) rfl ?_
  refine qM (I6 kinds) rfl ?_
  refine qV (r_add (k := .i64) (a := kinds) (b := 1) (c := kinds + 1) rfl rfl (wI64 (by omega))) ?_
  have hne1 : b1 ≠ bs := by omega
  refine WpL_enter rfl rfl (by decide) (r_callF (vs := [(P6 bs 0), (I6 (kinds + 1))]) Tryz.func135 nm135 bd135 rfl) (next_c wb _ bs _ _ (by omega) (by omega) (toE E) hb hS) ?_
  rintro _ w2 ⟨k0, l1, rfl, hk0, hk1, hS, C2⟩
  replace B1 := C2.keep (hne1) B1
  replace E := E.trans C2
  refine qA (I6 k0) rfl ?_
  refine WpL_nil ?_
  refine Wp_cut (fun σ W2 => ∃ (k : Int) (l1 : List Int), (∃ jj_, σ = upds jj_ [(0, (P6 bs 0)), (1, (I6 (d : Int))), (2, (I6 kinds)), (6, (P6 b1 0)), (7, (I6 k))]) ∧ Chg (fun x => x = bs) w0 W2 ∧ Blk W2 b1 #[(I6 0), (.slice none 0 0), (.slice none 0 0), (I6 0), (I6 0), (.bool false)] 25 ∧ (StrAt wb W2 bs l1) ∧ (0 ≤ k ∧ k ≤ kinds ∧ (d = 0 → k < 3))) ?_ ?_
  · skip
    refine Wp_seq_region ?_
    refine qM (I6 (d : Int)) rfl ?_
    refine qV (r_eql (k := .i64) (a := (d : Int)) (b := 0) rfl rfl) ?_
    refine WpL_nil ?_
    refine Wp_cond (b := decide (((d : Int) : Int) = 0)) rfl (fun hd => ?_) (fun hd => ?_)
    · have khd := hd
      replace hd := of_decide_eq_true hd
      refine Wp_region ?_
      refine qM (P6 bs 0) rfl ?_
      refine WpL_enter rfl rfl (by decide) (r_callF (vs := [(P6 bs 0), (I6 3)]) Tryz.func135 nm135 bd135 rfl) (next_c wb _ bs _ _ (by omega) (by omega) (toE E) hb hS) ?_
      rintro _ w3 ⟨k2, l2, rfl, hk2, hk3, hS, C3⟩
      replace B1 := C3.keep (hne1) B1
      replace E := E.trans C3
      refine qA (I6 k2) rfl ?_
      refine WpL_nil (thn_normal ?_)
      exact ⟨k2, l2, Fits.out ⟨rfl, rfl, rfl, rfl, rfl, trivial⟩, E, B1, hS, (by omega)⟩
    · have khd := hd
      replace hd := of_decide_eq_false hd
      refine Wp_skip (thn_normal ?_)
      exact ⟨k0, l1, Fits.out ⟨rfl, rfl, rfl, rfl, rfl, trivial⟩, E, B1, hS, (by omega)⟩
  · clear E B1
    rintro _ W2 ⟨k, l1, ⟨j2, rfl⟩, E, B1, hS, hkk⟩
    refine Wp_seq (Wp_seq_region ?_)
    refine qM (I6 k) rfl ?_
    refine WpL_nil (Wp_block (Wp_seq (Wp_seq_region ?_)))
    refine qV (r_eql (k := .i64) (a := k) (b := 0) rfl rfl) ?_
    refine qA (.bool (decide ((k : Int) = 0))) rfl ?_
    refine WpL_nil ?_
    refine Wp_cond (b := decide ((k : Int) = 0)) rfl (fun h0 => ?_) (fun h0 => ?_)
    · have kh0 := h0
      replace h0 := of_decide_eq_true h0
      refine Wp_skip (thn_normal ?_)
      refine Wp_cond_true (congrArg Value.bool kh0) ?_
      refine Wp_seq_region ?_
      refine qM (I6 k) rfl ?_
      refine qV (r_build (ps := [(0, (I6 k))]) (v := (.agg #[(I6 k), (.slice none 0 0), (.slice none 0 0), (I6 0), (I6 0), (.bool false)])) rfl (by kernel_rfl)) ?_
      refine s_storeAgg (b := b1) (o := 0) (c' := #[(I6 k), (.slice none 0 0), (.slice none 0 0), (I6 0), (I6 0), (.bool false)]) rfl rfl (by simp [Value.oneCell']) siz25 rfl B1 (by first | (simp; done) | exact Nat.le_of_ble_eq_true rfl) rfl ?_
      intro w5 S5
      replace hS := hS.put S5 (Ne.symm hne1)
      replace E := S5.step E (by first | exact Or.inl (by omega) | exact Or.inr rfl | exact Or.inr (by assumption) | exact Or.inr (by simp) | exact Or.inr (by omega) | exact Or.inr (by dsimp only; omega))
      replace B1 := S5.blk
      refine WpL_nil (Wp_ret (inB_ret (thn_ret ?_)))
      refine fin_agg Tryz.results78 (vs := [(.int .i64 k), (.slice none 0 0), (.slice none 0 0), (.int .i64 0), (.int .i64 0), (.bool false)]) (b := b1) rfl agg25 siz25 rfl (B1.cells rfl) ?_
      exact ⟨.mk k [] [] 0 0 false, _, l1, rfl, gen_mk hkk.2.1 (by omega) (node_leaf (by omega)) (by simp only [allRes]), by simp only [Re.size, Re.sizes]; have := Nat.two_pow_pos d; rw [Nat.pow_succ]; omega, ReIn.of (set := []) (SlIn.nil _ _ _ _ _) (by simp) (.inl rfl), hS, E⟩
    · have kh0 := h0
      replace h0 := of_decide_eq_false h0
      refine Wp_region ?_
      refine qV (r_eql (k := .i64) (a := k) (b := 1) rfl rfl) ?_
      refine qA (.bool (decide ((k : Int) = 1))) rfl ?_
      refine WpL_nil (thn_normal ?_)
      refine Wp_cond (b := decide ((k : Int) = 1)) rfl (fun h1 => ?_) (fun h1 => ?_)
      · have kh1 := h1
        replace h1 := of_decide_eq_true h1
        refine Wp_seq_region ?_
        refine qM (I6 k) rfl ?_
        refine qV (r_build (ps := [(0, (I6 k))]) (v := (.agg #[(I6 k), (.slice none 0 0), (.slice none 0 0), (I6 0), (I6 0), (.bool false)])) rfl (by kernel_rfl)) ?_
        refine s_storeAgg (b := b1) (o := 0) (c' := #[(I6 k), (.slice none 0 0), (.slice none 0 0), (I6 0), (I6 0), (.bool false)]) rfl rfl (by simp [Value.oneCell']) siz25 rfl B1 (by first | (simp; done) | exact Nat.le_of_ble_eq_true rfl) rfl ?_
        intro w7 S7
        replace hS := hS.put S7 (Ne.symm hne1)
        replace E := S7.step E (by first | exact Or.inl (by omega) | exact Or.inr rfl | exact Or.inr (by assumption) | exact Or.inr (by simp) | exact Or.inr (by omega) | exact Or.inr (by dsimp only; omega))
        replace B1 := S7.blk
        refine WpL_nil (Wp_ret (inB_ret (thn_ret ?_)))
        refine fin_agg Tryz.results78 (vs := [(.int .i64 k), (.slice none 0 0), (.slice none 0 0), (.int .i64 0), (.int .i64 0), (.bool false)]) (b := b1) rfl agg25 siz25 rfl (B1.cells rfl) ?_
        exact ⟨.mk k [] [] 0 0 false, _, l1, rfl, gen_mk hkk.2.1 (by omega) (node_leaf (by omega)) (by simp only [allRes]), by simp only [Re.size, Re.sizes]; have := Nat.two_pow_pos d; rw [Nat.pow_succ]; omega, ReIn.of (set := []) (SlIn.nil _ _ _ _ _) (by simp) (.inl rfl), hS, E⟩
      · have kh1 := h1
        replace h1 := of_decide_eq_false h1
        refine Wp_seq_region ?_
        refine qV (r_eql (k := .i64) (a := k) (b := 2) rfl rfl) ?_
        refine qA (.bool (decide ((k : Int) = 2))) rfl ?_
        refine WpL_nil ?_
        refine Wp_cond (b := decide ((k : Int) = 2)) rfl (fun h2 => ?_) (fun h2 => ?_)
        · have kh2 := h2
          replace h2 := of_decide_eq_true h2
          refine Wp_seq_region ?_
          refine qM (P6 bs 0) rfl ?_
          refine WpL_enter rfl rfl (by decide) (r_callF (vs := [(P6 bs 0), (I6 3)]) Tryz.func135 nm135 bd135 rfl) (next_c wb _ bs _ _ (by omega) (by omega) (toE E) hb hS) ?_
          rintro _ w5 ⟨x, l2, rfl, hx0, hx1, hS, C5⟩
          replace B1 := C5.keep (hne1) B1
          replace E := E.trans C5
          refine qV (r_add (k := .i64) (a := 97) (b := x) (c := 97 + x) rfl rfl (wI64 (by omega))) ?_
          refine qA (I6 (97 + x)) rfl ?_
          refine WpL_nil (Wp_seq_region ?_)
          refine qM (I6 k) rfl ?_
          refine qM (I6 (97 + x)) rfl ?_
          refine qM (I6 (97 + x)) rfl ?_
          refine qM (P6 bs 0) rfl ?_
          refine WpL_enter rfl rfl (by decide) (r_callF (vs := [(P6 bs 0), (I6 2)]) Tryz.func135 nm135 bd135 rfl) (next_c wb _ bs _ _ (by omega) (by omega) (toE E) hb hS) ?_
          rintro _ w6 ⟨y, l3, rfl, hy0, hy1, hS, C6⟩
          replace B1 := C6.keep (hne1) B1
          replace E := E.trans C6
          refine qV (r_add (k := .i64) (a := 97 + x) (b := y) (c := (97 + x) + y) rfl rfl (wI64 (by omega))) ?_
          refine qV (r_build (ps := [(0, (I6 (97 + x))), (1, (I6 ((97 + x) + y)))]) (v := (.agg #[(I6 (97 + x)), (I6 ((97 + x) + y))])) rfl (by kernel_rfl)) ?_
          refine s_buildSlice (ps := [(0, (.agg #[(I6 (97 + x)), (I6 ((97 + x) + y))]))]) (c := #[(I6 (97 + x)), (I6 ((97 + x) + y))]) (by decide) rfl Tryz.underlying22 siz103 zer103 (by decide) (by decide) (by kernel_rfl) ?_
          intro bq wq Nq
          have Fq := Nq.ge E
          have Oq_b1 := Nq.lt B1
          replace B1 := Nq.keep B1
          replace hS := hS.ext Nq.ext
          replace E := E.ext Nq.ext
          have Bq := Nq.blk
          refine qV (r_build (ps := [(0, (I6 k)), (1, (.slice (some ⟨bq, 0, none⟩) 1 1))]) (v := (.agg #[(I6 k), (.slice (some ⟨bq, 0, none⟩) 1 1), (.slice none 0 0), (I6 0), (I6 0), (.bool false)])) rfl (by kernel_rfl)) ?_
          refine s_storeAgg (b := b1) (o := 0) (c' := #[(I6 k), (.slice (some ⟨bq, 0, none⟩) 1 1), (.slice none 0 0), (I6 0), (I6 0), (.bool false)]) rfl rfl (by simp [Value.oneCell']) siz25 rfl B1 (by first | (simp; done) | exact Nat.le_of_ble_eq_true rfl) rfl ?_
          intro w9 S9
          replace hS := hS.put S9 (Ne.symm hne1)
          replace Bq := S9.keep (by omega) Bq
          replace E := S9.step E (by first | exact Or.inl (by omega) | exact Or.inr rfl | exact Or.inr (by assumption) | exact Or.inr (by simp) | exact Or.inr (by omega) | exact Or.inr (by dsimp only; omega))
          replace B1 := S9.blk
          refine WpL_nil (Wp_ret (inB_ret (thn_ret ?_)))
          refine fin_agg Tryz.results78 (vs := [(.int .i64 k), (.slice (some ⟨bq, 0, none⟩) 1 1), (.slice none 0 0), (.int .i64 0), (.int .i64 0), (.bool false)]) (b := b1) rfl agg25 siz25 rfl (B1.cells rfl) ?_
          exact ⟨.mk k [(97 + x, 97 + x + y)] [] 0 0 false, _, l3, rfl, by subst h2; simp only [allRe, allRes]; exact ⟨⟨node_set (by omega) (by omega) (by omega), hkk.2.1, fun _ => ⟨_, _, rfl, by omega, by omega, by omega⟩⟩, trivial⟩, by simp only [Re.size, Re.sizes]; have := Nat.two_pow_pos d; rw [Nat.pow_succ]; omega, ReIn.of (set := [(97 + x, 97 + x + y)]) (SlIn.mk (spans_of_blk [(97 + x, 97 + x + y)] Bq (by simp) (by simp)) (by omega)) (by simp) (.inl rfl), hS, E⟩
        · have kh2 := h2
          replace h2 := of_decide_eq_false h2
          refine Wp_seq (Wp_seq_region ?_)
          refine qV (r_eql (k := .i64) (a := k) (b := 3) rfl rfl) ?_
          refine qA (.bool (decide ((k : Int) = 3))) rfl ?_
          refine WpL_nil ?_
          refine Wp_cond (b := decide ((k : Int) = 3)) rfl (fun h3 => ?_) (fun h3 => ?_)
          · have kh3 := h3
            replace h3 := of_decide_eq_true h3
            have hd1 : 1 ≤ d := by omega
            have hlt1 := B1.lt
            have hz1 := E.size
            refine Wp_skip (thn_normal ?_)
            refine Wp_cond_true (congrArg Value.bool kh3) ?_
            refine Wp_seq_region ?_
            refine qM (I6 k) rfl ?_
            refine qM (P6 bs 0) rfl ?_
            refine qM (I6 (d : Int)) rfl ?_
            refine qV (r_sub (k := .i64) (a := (d : Int)) (b := 1) (c := ((d - 1 : Nat) : Int)) rfl rfl (by rw [wI64 (by omega)]; omega)) ?_
            refine qM (I6 kinds) rfl ?_
            refine WpL_enter rfl rfl (by decide) (r_callF (vs := [(P6 bs 0), (I6 ((d - 1 : Nat) : Int)), (I6 kinds)]) Tryz.func78 nm78 bd78 rfl) (ih (d - 1) (by omega) (by omega) _ _ (toE E) hS) ?_
            rintro _ w5 ⟨t1, us1, l5, rfl, hg1, hs1, ht1, hS, C5⟩
            replace B1 := C5.keep (hne1) B1
            replace E := E.trans C5
            obtain ⟨sa1, sc1, aa1, ac1, rfl, _, _, _⟩ := ht1.form
            have hlt2 := B1.lt
            have hz2 := E.size
            refine qM (P6 bs 0) rfl ?_
            refine qM (I6 (d : Int)) rfl ?_
            refine qV (r_sub (k := .i64) (a := (d : Int)) (b := 1) (c := ((d - 1 : Nat) : Int)) rfl rfl (by rw [wI64 (by omega)]; omega)) ?_
            refine qM (I6 kinds) rfl ?_
            refine WpL_enter rfl rfl (by decide) (r_callF (vs := [(P6 bs 0), (I6 ((d - 1 : Nat) : Int)), (I6 kinds)]) Tryz.func78 nm78 bd78 rfl) (ih (d - 1) (by omega) (by omega) _ _ (toE E) hS) ?_
            rintro _ w6 ⟨t2, us2, l6, rfl, hg2, hs2, ht2, hS, C6⟩
            replace B1 := C6.keep (hne1) B1
            replace E := E.trans C6
            obtain ⟨sa2, sc2, aa2, ac2, rfl, _, _, _⟩ := ht2.form
            replace ht1 := ReIn.chg C6 (fun x hx hm => by have hx' := hx; have hm' : x = bs := hm; have := E.size; omega) t1 ht1
            refine s_buildSlice (ps := [(0, (.agg (R6 t1 sa1 sc1 aa1 ac1))), (1, (.agg (R6 t2 sa2 sc2 aa2 ac2)))]) (c := #[(I6 t1.kind), (.slice sa1 t1.set.length sc1), (.slice aa1 t1.args.length ac1), (I6 t1.mn), (I6 t1.mx), (.bool t1.neg), (I6 t2.kind), (.slice sa2 t2.set.length sc2), (.slice aa2 t2.args.length ac2), (I6 t2.mn), (I6 t2.mx), (.bool t2.neg)]) (by decide) rfl Tryz.underlying23 siz25 zer25 (by decide) (by decide) (by kernel_rfl) ?_
            intro bq wq Nq
            have Fq := Nq.ge E
            have Oq_b1 := Nq.lt B1
            replace B1 := Nq.keep B1
            replace hS := hS.ext Nq.ext
            replace ht1 := ReIn.ext Nq.ext t1 ht1
            replace ht2 := ReIn.ext Nq.ext t2 ht2
            replace E := E.ext Nq.ext
            have Bq := Nq.blk
            refine qV (r_build (ps := [(0, (I6 k)), (2, (.slice (some ⟨bq, 0, none⟩) 2 2))]) (v := (.agg #[(I6 k), (.slice none 0 0), (.slice (some ⟨bq, 0, none⟩) 2 2), (I6 0), (I6 0), (.bool false)])) rfl (by kernel_rfl)) ?_
            refine s_storeAgg (b := b1) (o := 0) (c' := #[(I6 k), (.slice none 0 0), (.slice (some ⟨bq, 0, none⟩) 2 2), (I6 0), (I6 0), (.bool false)]) rfl rfl (by simp [Value.oneCell']) siz25 rfl B1 (by first | (simp; done) | exact Nat.le_of_ble_eq_true rfl) rfl ?_
            intro w11 S11
            replace hS := hS.put S11 (Ne.symm hne1)
            replace ht1 := ReIn.chg S11.chg (fun x hx hm => by have hx' := hx; have hm' : x = b1 := hm; omega) t1 ht1
            replace ht2 := ReIn.chg S11.chg (fun x hx hm => by have hx' := hx; have hm' : x = b1 := hm; omega) t2 ht2
            replace Bq := S11.keep (by omega) Bq
            replace E := S11.step E (by first | exact Or.inl (by omega) | exact Or.inr rfl | exact Or.inr (by assumption) | exact Or.inr (by simp) | exact Or.inr (by omega) | exact Or.inr (by dsimp only; omega))
            replace B1 := S11.blk
            refine WpL_nil (Wp_ret (inB_ret (thn_ret ?_)))
            refine fin_agg Tryz.results78 (vs := [(.int .i64 k), (.slice none 0 0), (.slice (some ⟨bq, 0, none⟩) 2 2), (.int .i64 0), (.int .i64 0), (.bool false)]) (b := b1) rfl agg25 siz25 rfl (B1.cells rfl) ?_
            exact ⟨.mk k [] [t1, t2] 0 0 false, _, l6, rfl, gen_mk hkk.2.1 (by omega) (node_two (by omega) t1 t2) (by simp only [allRes]; exact ⟨hg1, hg2, trivial⟩), gen_size2 hd1 hs1 hs2, ReIn.of (set := []) (SlIn.nil _ _ _ _ _) (by simp) (.inr ⟨bq, 0, by omega, rfl, ResIn.two (Bq.cells rfl) (ReIn.mono (fun b (h : _ ≤ b) => by omega) t1 ht1) (Bq.cells rfl) (ReIn.mono (fun b (h : _ ≤ b) => by omega) t2 ht2)⟩), hS, E⟩
          · have kh3 := h3
            replace h3 := of_decide_eq_false h3
            refine Wp_seq_region ?_
            refine qV (r_eql (k := .i64) (a := k) (b := 4) rfl rfl) ?_
            refine qA (.bool (decide ((k : Int) = 4))) rfl ?_
            refine WpL_nil ?_
            refine Wp_cond (b := decide ((k : Int) = 4)) rfl (fun h4 => ?_) (fun h4 => ?_)
            · have kh4 := h4
              replace h4 := of_decide_eq_true h4
              have hd1 : 1 ≤ d := by omega
              have hlt1 := B1.lt
              have hz1 := E.size
              refine Wp_skip (thn_normal ?_)
              refine Wp_cond_true (congrArg Value.bool kh4) ?_
              refine Wp_seq_region ?_
              refine qM (I6 k) rfl ?_
              refine qM (P6 bs 0) rfl ?_
              refine qM (I6 (d : Int)) rfl ?_
              refine qV (r_sub (k := .i64) (a := (d : Int)) (b := 1) (c := ((d - 1 : Nat) : Int)) rfl rfl (by rw [wI64 (by omega)]; omega)) ?_
              refine qM (I6 kinds) rfl ?_
              refine WpL_enter rfl rfl (by decide) (r_callF (vs := [(P6 bs 0), (I6 ((d - 1 : Nat) : Int)), (I6 kinds)]) Tryz.func78 nm78 bd78 rfl) (ih (d - 1) (by omega) (by omega) _ _ (toE E) hS) ?_
              rintro _ w5 ⟨t1, us1, l5, rfl, hg1, hs1, ht1, hS, C5⟩
              replace B1 := C5.keep (hne1) B1
              replace E := E.trans C5
              obtain ⟨sa1, sc1, aa1, ac1, rfl, _, _, _⟩ := ht1.form
              have hlt2 := B1.lt
              have hz2 := E.size
              refine qM (P6 bs 0) rfl ?_
              refine qM (I6 (d : Int)) rfl ?_
              refine qV (r_sub (k := .i64) (a := (d : Int)) (b := 1) (c := ((d - 1 : Nat) : Int)) rfl rfl (by rw [wI64 (by omega)]; omega)) ?_
              refine qM (I6 kinds) rfl ?_
              refine WpL_enter rfl rfl (by decide) (r_callF (vs := [(P6 bs 0), (I6 ((d - 1 : Nat) : Int)), (I6 kinds)]) Tryz.func78 nm78 bd78 rfl) (ih (d - 1) (by omega) (by omega) _ _ (toE E) hS) ?_
              rintro _ w6 ⟨t2, us2, l6, rfl, hg2, hs2, ht2, hS, C6⟩
              replace B1 := C6.keep (hne1) B1
              replace E := E.trans C6
              obtain ⟨sa2, sc2, aa2, ac2, rfl, _, _, _⟩ := ht2.form
              replace ht1 := ReIn.chg C6 (fun x hx hm => by have hx' := hx; have hm' : x = bs := hm; have := E.size; omega) t1 ht1
              refine s_buildSlice (ps := [(0, (.agg (R6 t1 sa1 sc1 aa1 ac1))), (1, (.agg (R6 t2 sa2 sc2 aa2 ac2)))]) (c := #[(I6 t1.kind), (.slice sa1 t1.set.length sc1), (.slice aa1 t1.args.length ac1), (I6 t1.mn), (I6 t1.mx), (.bool t1.neg), (I6 t2.kind), (.slice sa2 t2.set.length sc2), (.slice aa2 t2.args.length ac2), (I6 t2.mn), (I6 t2.mx), (.bool t2.neg)]) (by decide) rfl Tryz.underlying23 siz25 zer25 (by decide) (by decide) (by kernel_rfl) ?_
              intro bq wq Nq
              have Fq := Nq.ge E
              have Oq_b1 := Nq.lt B1
              replace B1 := Nq.keep B1
              replace hS := hS.ext Nq.ext
              replace ht1 := ReIn.ext Nq.ext t1 ht1
              replace ht2 := ReIn.ext Nq.ext t2 ht2
              replace E := E.ext Nq.ext
              have Bq := Nq.blk
              refine qV (r_build (ps := [(0, (I6 k)), (2, (.slice (some ⟨bq, 0, none⟩) 2 2))]) (v := (.agg #[(I6 k), (.slice none 0 0), (.slice (some ⟨bq, 0, none⟩) 2 2), (I6 0), (I6 0), (.bool false)])) rfl (by kernel_rfl)) ?_
              refine s_storeAgg (b := b1) (o := 0) (c' := #[(I6 k), (.slice none 0 0), (.slice (some ⟨bq, 0, none⟩) 2 2), (I6 0), (I6 0), (.bool false)]) rfl rfl (by simp [Value.oneCell']) siz25 rfl B1 (by first | (simp; done) | exact Nat.le_of_ble_eq_true rfl) rfl ?_
              intro w13 S13
              replace hS := hS.put S13 (Ne.symm hne1)
              replace ht1 := ReIn.chg S13.chg (fun x hx hm => by have hx' := hx; have hm' : x = b1 := hm; omega) t1 ht1
              replace ht2 := ReIn.chg S13.chg (fun x hx hm => by have hx' := hx; have hm' : x = b1 := hm; omega) t2 ht2
              replace Bq := S13.keep (by omega) Bq
              replace E := S13.step E (by first | exact Or.inl (by omega) | exact Or.inr rfl | exact Or.inr (by assumption) | exact Or.inr (by simp) | exact Or.inr (by omega) | exact Or.inr (by dsimp only; omega))
              replace B1 := S13.blk
              refine WpL_nil (Wp_ret (inB_ret (thn_ret ?_)))
              refine fin_agg Tryz.results78 (vs := [(.int .i64 k), (.slice none 0 0), (.slice (some ⟨bq, 0, none⟩) 2 2), (.int .i64 0), (.int .i64 0), (.bool false)]) (b := b1) rfl agg25 siz25 rfl (B1.cells rfl) ?_
              exact ⟨.mk k [] [t1, t2] 0 0 false, _, l6, rfl, gen_mk hkk.2.1 (by omega) (node_two (by omega) t1 t2) (by simp only [allRes]; exact ⟨hg1, hg2, trivial⟩), gen_size2 hd1 hs1 hs2, ReIn.of (set := []) (SlIn.nil _ _ _ _ _) (by simp) (.inr ⟨bq, 0, by omega, rfl, ResIn.two (Bq.cells rfl) (ReIn.mono (fun b (h : _ ≤ b) => by omega) t1 ht1) (Bq.cells rfl) (ReIn.mono (fun b (h : _ ≤ b) => by omega) t2 ht2)⟩), hS, E⟩
            · have kh4 := h4
              replace h4 := of_decide_eq_false h4
              refine Wp_region ?_
              refine qV (r_eql (k := .i64) (a := k) (b := 7) rfl rfl) ?_
              refine qA (.bool (decide ((k : Int) = 7))) rfl ?_
              refine WpL_nil (thn_normal ?_)
              refine Wp_cond (b := decide ((k : Int) = 7)) rfl (fun h7 => ?_) (fun h7 => ?_)
              · have kh7 := h7
                replace h7 := of_decide_eq_true h7
                have hd1 : 1 ≤ d := by omega
                have hlt1 := B1.lt
                have hz1 := E.size
                refine Wp_seq_region ?_
                refine qM (I6 k) rfl ?_
                refine qM (P6 bs 0) rfl ?_
                refine qM (I6 (d : Int)) rfl ?_
                refine qV (r_sub (k := .i64) (a := (d : Int)) (b := 1) (c := ((d - 1 : Nat) : Int)) rfl rfl (by rw [wI64 (by omega)]; omega)) ?_
                refine qM (I6 kinds) rfl ?_
                refine WpL_enter rfl rfl (by decide) (r_callF (vs := [(P6 bs 0), (I6 ((d - 1 : Nat) : Int)), (I6 kinds)]) Tryz.func78 nm78 bd78 rfl) (ih (d - 1) (by omega) (by omega) _ _ (toE E) hS) ?_
                rintro _ w5 ⟨t1, us1, l5, rfl, hg1, hs1, ht1, hS, C5⟩
                replace B1 := C5.keep (hne1) B1
                replace E := E.trans C5
                obtain ⟨sa1, sc1, aa1, ac1, rfl, _, _, _⟩ := ht1.form
                have hlt2 := B1.lt
                have hz2 := E.size
                refine qM (P6 bs 0) rfl ?_
                refine qM (I6 (d : Int)) rfl ?_
                refine qV (r_sub (k := .i64) (a := (d : Int)) (b := 1) (c := ((d - 1 : Nat) : Int)) rfl rfl (by rw [wI64 (by omega)]; omega)) ?_
                refine qM (I6 kinds) rfl ?_
                refine WpL_enter rfl rfl (by decide) (r_callF (vs := [(P6 bs 0), (I6 ((d - 1 : Nat) : Int)), (I6 kinds)]) Tryz.func78 nm78 bd78 rfl) (ih (d - 1) (by omega) (by omega) _ _ (toE E) hS) ?_
                rintro _ w6 ⟨t2, us2, l6, rfl, hg2, hs2, ht2, hS, C6⟩
                replace B1 := C6.keep (hne1) B1
                replace E := E.trans C6
                obtain ⟨sa2, sc2, aa2, ac2, rfl, _, _, _⟩ := ht2.form
                replace ht1 := ReIn.chg C6 (fun x hx hm => by have hx' := hx; have hm' : x = bs := hm; have := E.size; omega) t1 ht1
                refine s_buildSlice (ps := [(0, (.agg (R6 t1 sa1 sc1 aa1 ac1))), (1, (.agg (R6 t2 sa2 sc2 aa2 ac2)))]) (c := #[(I6 t1.kind), (.slice sa1 t1.set.length sc1), (.slice aa1 t1.args.length ac1), (I6 t1.mn), (I6 t1.mx), (.bool t1.neg), (I6 t2.kind), (.slice sa2 t2.set.length sc2), (.slice aa2 t2.args.length ac2), (I6 t2.mn), (I6 t2.mx), (.bool t2.neg)]) (by decide) rfl Tryz.underlying23 siz25 zer25 (by decide) (by decide) (by kernel_rfl) ?_
                intro bq wq Nq
                have Fq := Nq.ge E
                have Oq_b1 := Nq.lt B1
                replace B1 := Nq.keep B1
                replace hS := hS.ext Nq.ext
                replace ht1 := ReIn.ext Nq.ext t1 ht1
                replace ht2 := ReIn.ext Nq.ext t2 ht2
                replace E := E.ext Nq.ext
                have Bq := Nq.blk
                refine qV (r_build (ps := [(0, (I6 k)), (2, (.slice (some ⟨bq, 0, none⟩) 2 2))]) (v := (.agg #[(I6 k), (.slice none 0 0), (.slice (some ⟨bq, 0, none⟩) 2 2), (I6 0), (I6 0), (.bool false)])) rfl (by kernel_rfl)) ?_
                refine s_storeAgg (b := b1) (o := 0) (c' := #[(I6 k), (.slice none 0 0), (.slice (some ⟨bq, 0, none⟩) 2 2), (I6 0), (I6 0), (.bool false)]) rfl rfl (by simp [Value.oneCell']) siz25 rfl B1 (by first | (simp; done) | exact Nat.le_of_ble_eq_true rfl) rfl ?_
                intro w15 S15
                replace hS := hS.put S15 (Ne.symm hne1)
                replace ht1 := ReIn.chg S15.chg (fun x hx hm => by have hx' := hx; have hm' : x = b1 := hm; omega) t1 ht1
                replace ht2 := ReIn.chg S15.chg (fun x hx hm => by have hx' := hx; have hm' : x = b1 := hm; omega) t2 ht2
                replace Bq := S15.keep (by omega) Bq
                replace E := S15.step E (by first | exact Or.inl (by omega) | exact Or.inr rfl | exact Or.inr (by assumption) | exact Or.inr (by simp) | exact Or.inr (by omega) | exact Or.inr (by dsimp only; omega))
                replace B1 := S15.blk
                refine WpL_nil (Wp_ret (inB_ret (thn_ret ?_)))
                refine fin_agg Tryz.results78 (vs := [(.int .i64 k), (.slice none 0 0), (.slice (some ⟨bq, 0, none⟩) 2 2), (.int .i64 0), (.int .i64 0), (.bool false)]) (b := b1) rfl agg25 siz25 rfl (B1.cells rfl) ?_
                exact ⟨.mk k [] [t1, t2] 0 0 false, _, l6, rfl, gen_mk hkk.2.1 (by omega) (node_two (by omega) t1 t2) (by simp only [allRes]; exact ⟨hg1, hg2, trivial⟩), gen_size2 hd1 hs1 hs2, ReIn.of (set := []) (SlIn.nil _ _ _ _ _) (by simp) (.inr ⟨bq, 0, by omega, rfl, ResIn.two (Bq.cells rfl) (ReIn.mono (fun b (h : _ ≤ b) => by omega) t1 ht1) (Bq.cells rfl) (ReIn.mono (fun b (h : _ ≤ b) => by omega) t2 ht2)⟩), hS, E⟩
              · have kh7 := h7
                replace h7 := of_decide_eq_false h7
                refine Wp_seq_region ?_
                refine qV (r_eql (k := .i64) (a := k) (b := 6) rfl rfl) ?_
                refine qA (.bool (decide ((k : Int) = 6))) rfl ?_
                refine WpL_nil ?_
                refine Wp_cond (b := decide ((k : Int) = 6)) rfl (fun h6 => ?_) (fun h6 => ?_)
                · have kh6 := h6
                  replace h6 := of_decide_eq_true h6
                  refine Wp_seq_region ?_
                  refine qM (P6 bs 0) rfl ?_
                  refine WpL_enter rfl rfl (by decide) (r_callF (vs := [(P6 bs 0), (I6 3)]) Tryz.func135 nm135 bd135 rfl) (next_c wb _ bs _ _ (by omega) (by omega) (toE E) hb hS) ?_
                  rintro _ w3 ⟨x, l2, rfl, hx0, hx1, hS, C3⟩
                  replace B1 := C3.keep (hne1) B1
                  replace E := E.trans C3
                  refine qA (I6 x) rfl ?_
                  refine WpL_nil (Wp_seq_region ?_)
                  refine qM (I6 k) rfl ?_
                  refine qM (I6 x) rfl ?_
                  refine qM (I6 x) rfl ?_
                  refine qM (P6 bs 0) rfl ?_
                  refine WpL_enter rfl rfl (by decide) (r_callF (vs := [(P6 bs 0), (I6 3)]) Tryz.func135 nm135 bd135 rfl) (next_c wb _ bs _ _ (by omega) (by omega) (toE E) hb hS) ?_
                  rintro _ w4 ⟨y, l3, rfl, hy0, hy1, hS, C4⟩
                  replace B1 := C4.keep (hne1) B1
                  replace E := E.trans C4
                  refine qV (r_add (k := .i64) (a := x) (b := y) (c := x + y) rfl rfl (wI64 (by omega))) ?_
                  refine qM (P6 bs 0) rfl ?_
                  refine qM (I6 (d : Int)) rfl ?_
                  have hd1 : 1 ≤ d := by omega
                  have hlt1 := B1.lt
                  have hz1 := E.size
                  refine qV (r_sub (k := .i64) (a := (d : Int)) (b := 1) (c := ((d - 1 : Nat) : Int)) rfl rfl (by rw [wI64 (by omega)]; omega)) ?_
                  refine qM (I6 kinds) rfl ?_
                  refine WpL_enter rfl rfl (by decide) (r_callF (vs := [(P6 bs 0), (I6 ((d - 1 : Nat) : Int)), (I6 kinds)]) Tryz.func78 nm78 bd78 rfl) (ih (d - 1) (by omega) (by omega) _ _ (toE E) hS) ?_
                  rintro _ w5 ⟨t1, us1, l5, rfl, hg1, hs1, ht1, hS, C5⟩
                  replace B1 := C5.keep (hne1) B1
                  replace E := E.trans C5
                  obtain ⟨sa1, sc1, aa1, ac1, rfl, _, _, _⟩ := ht1.form
                  refine s_buildSlice (ps := [(0, (.agg (R6 t1 sa1 sc1 aa1 ac1)))]) (c := (R6 t1 sa1 sc1 aa1 ac1)) (by decide) rfl Tryz.underlying23 siz25 zer25 (by decide) (by decide) (by kernel_rfl) ?_
                  intro bq wq Nq
                  have Fq := Nq.ge E
                  have Oq_b1 := Nq.lt B1
                  replace B1 := Nq.keep B1
                  replace hS := hS.ext Nq.ext
                  replace ht1 := ReIn.ext Nq.ext t1 ht1
                  replace E := E.ext Nq.ext
                  have Bq := Nq.blk
                  refine qV (r_build (ps := [(0, (I6 k)), (3, (I6 x)), (4, (I6 (x + y))), (2, (.slice (some ⟨bq, 0, none⟩) 1 1))]) (v := (.agg #[(I6 k), (.slice none 0 0), (.slice (some ⟨bq, 0, none⟩) 1 1), (I6 x), (I6 (x + y)), (.bool false)])) rfl (by kernel_rfl)) ?_
                  refine s_storeAgg (b := b1) (o := 0) (c' := #[(I6 k), (.slice none 0 0), (.slice (some ⟨bq, 0, none⟩) 1 1), (I6 x), (I6 (x + y)), (.bool false)]) rfl rfl (by simp [Value.oneCell']) siz25 rfl B1 (by first | (simp; done) | exact Nat.le_of_ble_eq_true rfl) rfl ?_
                  intro w17 S17
                  replace hS := hS.put S17 (Ne.symm hne1)
                  replace ht1 := ReIn.chg S17.chg (fun x hx hm => by have hx' := hx; have hm' : x = b1 := hm; omega) t1 ht1
                  replace Bq := S17.keep (by omega) Bq
                  replace E := S17.step E (by first | exact Or.inl (by omega) | exact Or.inr rfl | exact Or.inr (by assumption) | exact Or.inr (by simp) | exact Or.inr (by omega) | exact Or.inr (by dsimp only; omega))
                  replace B1 := S17.blk
                  refine WpL_nil (Wp_ret (inB_ret (thn_ret ?_)))
                  refine fin_agg Tryz.results78 (vs := [(.int .i64 k), (.slice none 0 0), (.slice (some ⟨bq, 0, none⟩) 1 1), (.int .i64 x), (.int .i64 (x + y)), (.bool false)]) (b := b1) rfl agg25 siz25 rfl (B1.cells rfl) ?_
                  exact ⟨.mk k [] [t1] x (x + y) false, _, l5, rfl, gen_mk (by omega) (by omega) (by subst h6; exact node_rep (by omega) (by omega) (by omega) t1) (by simp only [allRes]; exact ⟨hg1, trivial⟩), gen_size1 hd1 hs1, ReIn.of (set := []) (SlIn.nil _ _ _ _ _) (by simp) (.inr ⟨bq, 0, by omega, rfl, ResIn.one (Bq.cells rfl) (ReIn.mono (fun b (h : _ ≤ b) => by omega) t1 ht1)⟩), hS, E⟩
                · have kh6 := h6
                  replace h6 := of_decide_eq_false h6
                  refine Wp_seq_region ?_
                  refine qV (r_eql (k := .i64) (a := k) (b := 9) rfl rfl) ?_
                  refine qA (.bool (decide ((k : Int) = 9))) rfl ?_
                  refine WpL_nil ?_
                  refine Wp_cond (b := decide ((k : Int) = 9)) rfl (fun h9 => ?_) (fun h9 => ?_)
                  · have kh9 := h9
                    replace h9 := of_decide_eq_true h9
                    refine Wp_seq_region ?_
                    refine qM (I6 k) rfl ?_
                    refine qM (P6 bs 0) rfl ?_
                    refine WpL_enter rfl rfl (by decide) (r_callF (vs := [(P6 bs 0), (I6 4)]) Tryz.func135 nm135 bd135 rfl) (next_c wb _ bs _ _ (by omega) (by omega) (toE E) hb hS) ?_
                    rintro _ w3 ⟨x, l2, rfl, hx0, hx1, hS, C3⟩
                    replace B1 := C3.keep (hne1) B1
                    replace E := E.trans C3
                    have hd1 : 1 ≤ d := by omega
                    have hlt1 := B1.lt
                    have hz1 := E.size
                    refine qM (P6 bs 0) rfl ?_
                    refine qM (I6 (d : Int)) rfl ?_
                    refine qV (r_sub (k := .i64) (a := (d : Int)) (b := 1) (c := ((d - 1 : Nat) : Int)) rfl rfl (by rw [wI64 (by omega)]; omega)) ?_
                    refine qM (I6 kinds) rfl ?_
                    refine WpL_enter rfl rfl (by decide) (r_callF (vs := [(P6 bs 0), (I6 ((d - 1 : Nat) : Int)), (I6 kinds)]) Tryz.func78 nm78 bd78 rfl) (ih (d - 1) (by omega) (by omega) _ _ (toE E) hS) ?_
                    rintro _ w5 ⟨t1, us1, l5, rfl, hg1, hs1, ht1, hS, C5⟩
                    replace B1 := C5.keep (hne1) B1
                    replace E := E.trans C5
                    obtain ⟨sa1, sc1, aa1, ac1, rfl, _, _, _⟩ := ht1.form
                    refine s_buildSlice (ps := [(0, (.agg (R6 t1 sa1 sc1 aa1 ac1)))]) (c := (R6 t1 sa1 sc1 aa1 ac1)) (by decide) rfl Tryz.underlying23 siz25 zer25 (by decide) (by decide) (by kernel_rfl) ?_
                    intro bq wq Nq
                    have Fq := Nq.ge E
                    have Oq_b1 := Nq.lt B1
                    replace B1 := Nq.keep B1
                    replace hS := hS.ext Nq.ext
                    replace ht1 := ReIn.ext Nq.ext t1 ht1
                    replace E := E.ext Nq.ext
                    have Bq := Nq.blk
                    refine qV (r_build (ps := [(0, (I6 k)), (3, (I6 x)), (2, (.slice (some ⟨bq, 0, none⟩) 1 1))]) (v := (.agg #[(I6 k), (.slice none 0 0), (.slice (some ⟨bq, 0, none⟩) 1 1), (I6 x), (I6 0), (.bool false)])) rfl (by kernel_rfl)) ?_
                    refine s_storeAgg (b := b1) (o := 0) (c' := #[(I6 k), (.slice none 0 0), (.slice (some ⟨bq, 0, none⟩) 1 1), (I6 x), (I6 0), (.bool false)]) rfl rfl (by simp [Value.oneCell']) siz25 rfl B1 (by first | (simp; done) | exact Nat.le_of_ble_eq_true rfl) rfl ?_
                    intro w19 S19
                    replace hS := hS.put S19 (Ne.symm hne1)
                    replace ht1 := ReIn.chg S19.chg (fun x hx hm => by have hx' := hx; have hm' : x = b1 := hm; omega) t1 ht1
                    replace Bq := S19.keep (by omega) Bq
                    replace E := S19.step E (by first | exact Or.inl (by omega) | exact Or.inr rfl | exact Or.inr (by assumption) | exact Or.inr (by simp) | exact Or.inr (by omega) | exact Or.inr (by dsimp only; omega))
                    replace B1 := S19.blk
                    refine WpL_nil (Wp_ret (inB_ret (thn_ret ?_)))
                    refine fin_agg Tryz.results78 (vs := [(.int .i64 k), (.slice none 0 0), (.slice (some ⟨bq, 0, none⟩) 1 1), (.int .i64 x), (.int .i64 0), (.bool false)]) (b := b1) rfl agg25 siz25 rfl (B1.cells rfl) ?_
                    exact ⟨.mk k [] [t1] x 0 false, _, l5, rfl, gen_mk (by omega) (by omega) (by subst h9; exact node_group (by omega) (by omega) t1) (by simp only [allRes]; exact ⟨hg1, trivial⟩), gen_size1 hd1 hs1, ReIn.of (set := []) (SlIn.nil _ _ _ _ _) (by simp) (.inr ⟨bq, 0, by omega, rfl, ResIn.one (Bq.cells rfl) (ReIn.mono (fun b (h : _ ≤ b) => by omega) t1 ht1)⟩), hS, E⟩
                  · have kh9 := h9
                    replace h9 := of_decide_eq_false h9
                    refine Wp_seq_region ?_
                    refine qV (r_eql (k := .i64) (a := k) (b := 10) rfl rfl) ?_
                    refine qA (.bool (decide ((k : Int) = 10))) rfl ?_
                    refine WpL_nil ?_
                    refine Wp_cond (b := decide ((k : Int) = 10)) rfl (fun h10 => ?_) (fun h10 => ?_)
                    · have kh10 := h10
                      replace h10 := of_decide_eq_true h10
                      refine Wp_seq_region ?_
                      refine qM (I6 k) rfl ?_
                      refine qM (P6 bs 0) rfl ?_
                      refine WpL_enter rfl rfl (by decide) (r_callF (vs := [(P6 bs 0), (I6 2)]) Tryz.func135 nm135 bd135 rfl) (next_c wb _ bs _ _ (by omega) (by omega) (toE E) hb hS) ?_
                      rintro _ w3 ⟨x, l2, rfl, hx0, hx1, hS, C3⟩
                      replace B1 := C3.keep (hne1) B1
                      replace E := E.trans C3
                      have hd1 : 1 ≤ d := by omega
                      have hlt1 := B1.lt
                      have hz1 := E.size
                      refine qV (r_eql (k := .i64) (a := x) (b := 1) rfl rfl) ?_
                      refine qM (P6 bs 0) rfl ?_
                      refine qM (I6 (d : Int)) rfl ?_
                      refine qV (r_sub (k := .i64) (a := (d : Int)) (b := 1) (c := ((d - 1 : Nat) : Int)) rfl rfl (by rw [wI64 (by omega)]; omega)) ?_
                      refine qM (I6 kinds) rfl ?_
                      refine WpL_enter rfl rfl (by decide) (r_callF (vs := [(P6 bs 0), (I6 ((d - 1 : Nat) : Int)), (I6 kinds)]) Tryz.func78 nm78 bd78 rfl) (ih (d - 1) (by omega) (by omega) _ _ (toE E) hS) ?_
                      rintro _ w5 ⟨t1, us1, l5, rfl, hg1, hs1, ht1, hS, C5⟩
                      replace B1 := C5.keep (hne1) B1
                      replace E := E.trans C5
                      obtain ⟨sa1, sc1, aa1, ac1, rfl, _, _, _⟩ := ht1.form
                      refine s_buildSlice (ps := [(0, (.agg (R6 t1 sa1 sc1 aa1 ac1)))]) (c := (R6 t1 sa1 sc1 aa1 ac1)) (by decide) rfl Tryz.underlying23 siz25 zer25 (by decide) (by decide) (by kernel_rfl) ?_
                      intro bq wq Nq
                      have Fq := Nq.ge E
                      have Oq_b1 := Nq.lt B1
                      replace B1 := Nq.keep B1
                      replace hS := hS.ext Nq.ext
                      replace ht1 := ReIn.ext Nq.ext t1 ht1
                      replace E := E.ext Nq.ext
                      have Bq := Nq.blk
                      refine qV (r_build (ps := [(0, (I6 k)), (5, (.bool (decide ((x : Int) = 1)))), (2, (.slice (some ⟨bq, 0, none⟩) 1 1))]) (v := (.agg #[(I6 k), (.slice none 0 0), (.slice (some ⟨bq, 0, none⟩) 1 1), (I6 0), (I6 0), (.bool (decide ((x : Int) = 1)))])) rfl (by kernel_rfl)) ?_
                      refine s_storeAgg (b := b1) (o := 0) (c' := #[(I6 k), (.slice none 0 0), (.slice (some ⟨bq, 0, none⟩) 1 1), (I6 0), (I6 0), (.bool (decide ((x : Int) = 1)))]) rfl rfl (by simp [Value.oneCell']) siz25 rfl B1 (by first | (simp; done) | exact Nat.le_of_ble_eq_true rfl) rfl ?_
                      intro w21 S21
                      replace hS := hS.put S21 (Ne.symm hne1)
                      replace ht1 := ReIn.chg S21.chg (fun x hx hm => by have hx' := hx; have hm' : x = b1 := hm; omega) t1 ht1
                      replace Bq := S21.keep (by omega) Bq
                      replace E := S21.step E (by first | exact Or.inl (by omega) | exact Or.inr rfl | exact Or.inr (by assumption) | exact Or.inr (by simp) | exact Or.inr (by omega) | exact Or.inr (by dsimp only; omega))
                      replace B1 := S21.blk
                      refine WpL_nil (Wp_ret (inB_ret (thn_ret ?_)))
                      refine fin_agg Tryz.results78 (vs := [(.int .i64 k), (.slice none 0 0), (.slice (some ⟨bq, 0, none⟩) 1 1), (.int .i64 0), (.int .i64 0), (.bool (decide ((x : Int) = 1)))]) (b := b1) rfl agg25 siz25 rfl (B1.cells rfl) ?_
                      exact ⟨.mk k [] [t1] 0 0 (decide (x = 1)), _, l5, rfl, gen_mk (by omega) (by omega) (by subst h10; exact node_look _ t1) (by simp only [allRes]; exact ⟨hg1, trivial⟩), gen_size1 hd1 hs1, ReIn.of (set := []) (SlIn.nil _ _ _ _ _) (by simp) (.inr ⟨bq, 0, by omega, rfl, ResIn.one (Bq.cells rfl) (ReIn.mono (fun b (h : _ ≤ b) => by omega) t1 ht1)⟩), hS, E⟩
                    · have kh10 := h10
                      replace h10 := of_decide_eq_false h10
                      have hd1 : 1 ≤ d := by omega
                      have hlt1 := B1.lt
                      have hz1 := E.size
                      refine Wp_skip (inB_normal (thn_normal (Wp_seq_region ?_)))
                      refine qM (I6 k) rfl ?_
                      refine qM (P6 bs 0) rfl ?_
                      refine qM (I6 (d : Int)) rfl ?_
                      refine qV (r_sub (k := .i64) (a := (d : Int)) (b := 1) (c := ((d - 1 : Nat) : Int)) rfl rfl (by rw [wI64 (by omega)]; omega)) ?_
                      refine qM (I6 kinds) rfl ?_
                      refine WpL_enter rfl rfl (by decide) (r_callF (vs := [(P6 bs 0), (I6 ((d - 1 : Nat) : Int)), (I6 kinds)]) Tryz.func78 nm78 bd78 rfl) (ih (d - 1) (by omega) (by omega) _ _ (toE E) hS) ?_
                      rintro _ w5 ⟨t1, us1, l5, rfl, hg1, hs1, ht1, hS, C5⟩
                      replace B1 := C5.keep (hne1) B1
                      replace E := E.trans C5
                      obtain ⟨sa1, sc1, aa1, ac1, rfl, _, _, _⟩ := ht1.form
                      refine s_buildSlice (ps := [(0, (.agg (R6 t1 sa1 sc1 aa1 ac1)))]) (c := (R6 t1 sa1 sc1 aa1 ac1)) (by decide) rfl Tryz.underlying23 siz25 zer25 (by decide) (by decide) (by kernel_rfl) ?_
                      intro bq wq Nq
                      have Fq := Nq.ge E
                      have Oq_b1 := Nq.lt B1
                      replace B1 := Nq.keep B1
                      replace hS := hS.ext Nq.ext
                      replace ht1 := ReIn.ext Nq.ext t1 ht1
                      replace E := E.ext Nq.ext
                      have Bq := Nq.blk
                      refine qV (r_build (ps := [(0, (I6 k)), (2, (.slice (some ⟨bq, 0, none⟩) 1 1))]) (v := (.agg #[(I6 k), (.slice none 0 0), (.slice (some ⟨bq, 0, none⟩) 1 1), (I6 0), (I6 0), (.bool false)])) rfl (by kernel_rfl)) ?_
                      refine s_storeAgg (b := b1) (o := 0) (c' := #[(I6 k), (.slice none 0 0), (.slice (some ⟨bq, 0, none⟩) 1 1), (I6 0), (I6 0), (.bool false)]) rfl rfl (by simp [Value.oneCell']) siz25 rfl B1 (by first | (simp; done) | exact Nat.le_of_ble_eq_true rfl) rfl ?_
                      intro w22 S22
                      replace hS := hS.put S22 (Ne.symm hne1)
                      replace ht1 := ReIn.chg S22.chg (fun x hx hm => by have hx' := hx; have hm' : x = b1 := hm; omega) t1 ht1
                      replace Bq := S22.keep (by omega) Bq
                      replace E := S22.step E (by first | exact Or.inl (by omega) | exact Or.inr rfl | exact Or.inr (by assumption) | exact Or.inr (by simp) | exact Or.inr (by omega) | exact Or.inr (by dsimp only; omega))
                      replace B1 := S22.blk
                      refine WpL_nil (Wp_ret ?_)
                      refine fin_agg Tryz.results78 (vs := [(.int .i64 k), (.slice none 0 0), (.slice (some ⟨bq, 0, none⟩) 1 1), (.int .i64 0), (.int .i64 0), (.bool false)]) (b := b1) rfl agg25 siz25 rfl (B1.cells rfl) ?_
                      exact ⟨.mk k [] [t1] 0 0 false, _, l5, rfl, gen_mk (by omega) (by omega) (node_one (by omega) t1) (by simp only [allRes]; exact ⟨hg1, trivial⟩), gen_size1 hd1 hs1, ReIn.of (set := []) (SlIn.nil _ _ _ _ _) (by simp) (.inr ⟨bq, 0, by omega, rfl, ResIn.one (Bq.cells rfl) (ReIn.mono (fun b (h : _ ≤ b) => by omega) t1 ht1)⟩), hS, E⟩
end Go.Proofs
namespace Go.Proofs
open Go Go.Eng
def Wf (n : Nat) (R : Rl) : Prop := ∀ i j, R i j = true → i ≤ j ∧ j ≤ n
theorem wf_no (n : Nat) : Wf n noR := fun i j h => by simp [noR] at h
theorem wf_id (n : Nat) : Wf n (idR n) := fun i j h => by simp [idR] at h; omega
theorem wf_or {n : Nat} {A B : Rl} (a : Wf n A) (b : Wf n B) : Wf n (orR A B) := fun i j h => by
 simp only [orR, Bool.or_eq_true] at h; rcases h with h | h; exact a i j h; exact b i j h
theorem wf_and {n : Nat} {A B : Rl} (a : Wf n A) : Wf n (andR A B) := fun i j h => by
 simp only [andR, Bool.and_eq_true] at h; exact a i j h.1
theorem wf_then {n : Nat} {A B : Rl} (a : Wf n A) (b : Wf n B) : Wf n (thenR A B n) := fun i k h => by
 simp only [thenR, Bool.and_eq_true, List.any_eq_true] at h
 obtain ⟨_, j, _, h1, h2⟩ := h
 have := a i j h1; have := b j k h2; omega
theorem wf_star {n : Nat} {A : Rl} (a : Wf n A) : ∀ m, Wf n (starN n A m)
  | 0 => wf_id n
  | m + 1 => wf_or (wf_star a m) (wf_then (wf_star a m) a)
theorem wf_pow {n : Nat} {A : Rl} (a : Wf n A) : ∀ m, Wf n (powR n A m)
  | 0 => wf_id n
  | m + 1 => wf_then (wf_pow a m) a
theorem wf_rep {n : Nat} {A : Rl} (a : Wf n A) (mn : Int) : ∀ m, Wf n (repR n A mn m)
  | 0 => wf_no n
  | m + 1 => by
    simp only [repR]
    split
    · exact wf_or (wf_rep a mn m) (wf_pow a m)
    · exact wf_rep a mn m
theorem wf_not (n : Nat) (A : Rl) : Wf n (notR n A) := fun i j h => by simp [notR] at h; omega
theorem wf_look (n : Nat) (A : Rl) (ng : Bool) : Wf n (lookR n A ng) := fun i j h => by simp [lookR] at h; omega
theorem wf_set (text : List Int) (set : List (Int × Int)) : Wf text.length (setR text set) := fun i j h => by
  simp only [setR, Bool.and_eq_true, decide_eq_true_eq] at h
  obtain ⟨h1, rfl⟩ := h
  cases hx : text[i]? with
  | none => simp [hx] at h1
  | some c => have := lt_of_get hx; omega
theorem wf_head {n : Nat} {L : List Rl} (h : ∀ x ∈ L, Wf n x) : Wf n (L.headD noR) := by
  cases L with
  | nil => exact wf_no n
  | cons x r => exact h x (by simp)
theorem wf_foldThen {n : Nat} : ∀ (L : List Rl) (A : Rl), Wf n A → (∀ x ∈ L, Wf n x) → Wf n (L.foldl (fun a x => thenR a x n) A)
  | [], _, h, _ => h
  | x :: L, A, h, hl => wf_foldThen L _ (wf_then h (hl x (by simp))) fun y hy => hl y (by simp [hy])
theorem wf_foldOr {n : Nat} : ∀ (L : List Rl) (A : Rl), Wf n A → (∀ x ∈ L, Wf n x) → Wf n (L.foldl orR A)
  | [], _, h, _ => h
  | x :: L, A, h, hl => wf_foldOr L _ (wf_or h (hl x (by simp))) fun y hy => hl y (by simp [hy])
theorem wf_foldAnd {n : Nat} : ∀ (L : List Rl) (A : Rl), Wf n A → Wf n (L.foldl andR A)
  | [], _, h => h
  | x :: L, A, h => wf_foldAnd L _ (wf_and h)
theorem wf_relK (text : List Int) (k : Int) (set : List (Int × Int)) (L : List Rl) (mn mx : Int) (ng : Bool) (h : ∀ x ∈ L, Wf text.length x) : Wf text.length (relK text k set L mn mx ng) := by
 unfold relK
 repeat' split
 ·exact wf_id _
 ·exact wf_set _ _
 ·exact wf_foldThen _ _ (wf_id _) h
 ·exact wf_foldOr _ _ (wf_no _) h
 ·exact wf_foldAnd _ _ (wf_head h)
 ·exact wf_not _ _
 ·exact wf_star (wf_head h) _
 ·exact wf_rep (wf_head h) _ _
 ·exact wf_head h
 ·exact wf_look _ _ _
 ·exact wf_no _
mutual
theorem wf_rel (text : List Int) : ∀ (t : Re), Wf text.length (relOf text t)
  | .mk k set args mn mx ng => by simp only [relOf]; exact wf_relK _ _ _ _ _ _ _ (wf_rels text args)
theorem wf_rels (text : List Int) : ∀ (ts : List Re), ∀ x ∈ relsOf text ts, Wf text.length x
  | [], _, h => by simp [relsOf] at h
  | t :: ts, x, h => by
    simp only [relsOf, List.mem_cons] at h
    rcases h with rfl | h
    · exact wf_rel text t
    · exact wf_rels text ts x h
end
theorem rl_ext {A B : Rl} (h : ∀ i j, A i j = true ↔ B i j = true) : A = B := by
 funext i j; exact Bool.eq_iff_iff.2 (h i j)
theorem then_iff {n : Nat} (hn : n ≤ 24) {A B : Rl} (a : Wf n A) (i k : Nat) : thenR A B n i k = true ↔ ∃ j, A i j = true ∧ B j k = true := by
 simp only [thenR, Bool.and_eq_true, List.any_eq_true, List.mem_range, decide_eq_true_eq]
 constructor
 ·rintro ⟨_, j, _, h⟩; exact ⟨j, h⟩
 ·rintro ⟨j, h1, h2⟩; have := a i j h1; exact ⟨by omega, j, by omega, h1, h2⟩
theorem id_iff (n i j : Nat) : idR n i j = true ↔ i ≤ n ∧ j = i := by simp [idR]
theorem id_then {n : Nat} (hn : n ≤ 24) {A : Rl} (a : Wf n A) : thenR (idR n) A n = A := rl_ext fun i k => by
 rw [then_iff hn (wf_id n)]
 constructor
 ·rintro ⟨j, h1, h2⟩; rw [id_iff] at h1; obtain ⟨_, rfl⟩ := h1; exact h2
 ·intro h; have := a i k h; exact ⟨i, (id_iff n i i).2 ⟨by omega, rfl⟩, h⟩
theorem then_assoc {n : Nat} (hn : n ≤ 24) {A B C : Rl} (a : Wf n A) (b : Wf n B) : thenR A (thenR B C n) n = thenR (thenR A B n) C n := rl_ext fun i k => by
 rw [then_iff hn a, then_iff hn (wf_then a b)]
 constructor
 ·rintro ⟨j, h1, h2⟩; rw [then_iff hn b] at h2; obtain ⟨m, h3, h4⟩ := h2; exact ⟨m, (then_iff hn a i m).2 ⟨j, h1, h3⟩, h4⟩
 ·rintro ⟨j, h1, h2⟩; rw [then_iff hn a] at h1; obtain ⟨m, h3, h4⟩ := h1; exact ⟨m, h3, (then_iff hn b m k).2 ⟨j, h4, h2⟩⟩
/-- Repetition. -/
inductive St (n : Nat) (A : Rl) (i : Nat) : Nat → Prop where
  | refl : i ≤ n → St n A i i
  | step {j k : Nat} : St n A i j → A j k = true → St n A i k
theorem St.trans {n : Nat} {A : Rl} {i j k : Nat} (h : St n A i j) (h' : St n A j k) : St n A i k := by
  induction h' with
  | refl _ => exact h
  | step _ h2 ih => exact .step ih h2
theorem St.one {n : Nat} {A : Rl} (a : Wf n A) {i j : Nat} (h : A i j = true) : St n A i j := .step (.refl (by have := a i j h; omega)) h
theorem St.le {n : Nat} {A : Rl} (a : Wf n A) {i j : Nat} (h : St n A i j) : i ≤ n ∧ j ≤ n := by
  induction h with
  | refl h => exact ⟨h, h⟩
  | step _ h2 ih => exact ⟨ih.1, (a _ _ h2).2⟩
abbrev catT (s t : Re) : Re := .mk 3 [] [s, t] 0 0 false
abbrev emptyT : Re := .mk 1 [] [] 0 0 false
abbrev noneT : Re := .mk 0 [] [] 0 0 false
section
variable (text : List Int)
theorem rel_cat (hn : text.length ≤ 24) (s t : Re) : relOf text (catT s t) = thenR (relOf text s) (relOf text t) text.length := by
 simp only [relOf, relsOf, relK, List.foldl]
 simp [id_then hn (wf_rel text s)]
end
theorem ok_two {k : Int} (h : k = 3 ∨ k = 4 ∨ k = 7) {s t : Re} (a : okRe s) (b : okRe t) : okRe (.mk k [] [s, t] 0 0 false) := by simp only [okRe, okRes]; exact ⟨node_two h s t, a, b, trivial⟩
def Txt (text : List Int) : Prop := text.length ≤ 24 ∧ ∀ x ∈ text, runeB x = true
theorem check_zero {t : Re} {text : List Int} (ht : okRe t) (hs : t.size ≤ 40) (h : Txt text) : checkP t text = 0 := by
 have h1 : fitsE t 40 = 0 := (fitsE_zero (by decide) (by decide)).2 ⟨ht, by omega⟩
 unfold checkP
 rw [if_neg (by simp [h1]), if_neg (by have := h.1; omega), if_neg]
 simp only [List.any_eq_true, Bool.not_eq_true', not_exists, not_and]
 intro x hx
 simp [h.2 x hx]
/-- Two expressions of which the program says that they match the same parts of a text. -/
def Sm (s t : Re) (text : List Int) : Prop := checkP s text = 0 ∧ checkP t text = 0 ∧ pairsL (relOf text s) (text.length + 1) = pairsL (relOf text t) (text.length + 1)
theorem sm_mk {s t : Re} {text : List Int} (h : Txt text) (a : okRe s) (b : okRe t) (ha : s.size ≤ 40) (hb : t.size ≤ 40) (he : relOf text s = relOf text t) : Sm s t text :=
 ⟨check_zero a ha h, check_zero b hb h, by rw [he]⟩
section
variable {text : List Int} (h : Txt text) {a b c : Re} (oa : okRe a) (ob : okRe b) (oc : okRe c)
include h oa
theorem kl1 (ob : okRe b) (oc : okRe c) (hs : a.size + b.size + c.size ≤ 18) : Sm (catT a (catT b c)) (catT (catT a b) c) text :=
 sm_mk h (ok_two (by simp) oa (ok_two (by simp) ob oc)) (ok_two (by simp) (ok_two (by simp) oa ob) oc) (by simp [Re.size, Re.sizes]; omega) (by simp [Re.size, Re.sizes]; omega)
  (by simp only [rel_cat text h.1]; exact then_assoc h.1 (wf_rel text a) (wf_rel text b))
end
end Go.Proofs
namespace Go.Proofs
open Go Go.Eng
mutual
def sameT : Re → Re → Bool
  | .mk k s a m x g, .mk k' s' a' m' x' g' => decide (k = k') && decide (s = s') && decide (m = m') && decide (x = x') && decide (g = g') && sameTs a a'
def sameTs : List Re → List Re → Bool
  | [], [] => true
  | t :: ts, u :: us => sameT t u && sameTs ts us
  | _, _ => false
end
mutual
theorem sameT_iff : ∀ (t u : Re), sameT t u = true ↔ t = u
  | .mk k s a m x g, .mk k' s' a' m' x' g' => by
    simp only [sameT, Bool.and_eq_true, decide_eq_true_eq, sameTs_iff a a', Re.mk.injEq]
    constructor
    · rintro ⟨⟨⟨⟨⟨h1, h2⟩, h3⟩, h4⟩, h5⟩, h6⟩; exact ⟨h1, h2, h6, h3, h4, h5⟩
    · rintro ⟨h1, h2, h6, h3, h4, h5⟩; exact ⟨⟨⟨⟨⟨h1, h2⟩, h3⟩, h4⟩, h5⟩, h6⟩
theorem sameTs_iff : ∀ (ts us : List Re), sameTs ts us = true ↔ ts = us
  | [], [] => by simp [sameTs]
  | t :: ts, u :: us => by simp only [sameTs, Bool.and_eq_true, sameT_iff t u, sameTs_iff ts us, List.cons.injEq]
  | [], _ :: _ => by simp [sameTs]
  | _ :: _, [] => by simp [sameTs]
end
/-- Arguments of a kind replaced by their arguments. -/
def flatT (k : Int) (l : List Re) : List Re := l.flatMap fun x => if x.kind = k then x.args else [x]
theorem sizes_flat (k : Int) : ∀ (l : List Re), Re.sizes (flatT k l) ≤ Re.sizes l
  | [] => by simp [flatT, Re.sizes]
  | x :: l => by
    have ih := sizes_flat k l
    show Re.sizes ((if x.kind = k then x.args else [x]) ++ flatT k l) ≤ _
    rw [Re.sizes_append]
    have := x.size_eq
    simp only [Re.sizes]
    split
    · omega
    · simp only [Re.sizes]; omega
def isL (k : Int) : Prop := k = 3 ∨ k = 4 ∨ k = 7
end Go.Proofs
namespace Go.Proofs
open Go Go.Eng
set_option maxRecDepth 100000
abbrev Sp := Int × Int
def vSp (s : Sp) : Prop := 0 ≤ s.1 ∧ s.1 ≤ s.2 ∧ s.2 ≤ 1114111
structure Canon (l : List Sp) : Prop where
 ok : ∀ s ∈ l, vSp s
 gap : l.Pairwise fun s t => s.2 + 2 ≤ t.1
theorem leLt (a b : Int) : a ≤ b ∨ b < a := by omega
theorem ltLe (a b : Int) : a < b ∨ b ≤ a := by omega
theorem inS_iff {l : List Sp} {r : Int} : inS l r = true ↔ ∃ s ∈ l, s.1 ≤ r ∧ r ≤ s.2 := by
 unfold inS
 simp [List.any_eq_true]
theorem inS_cons (s : Sp) (l : List Sp) (r : Int) : inS (s :: l) r = ((decide (s.1 ≤ r) && decide (r ≤ s.2)) || inS l r) := rfl
theorem inS_append (a b : List Sp) (r : Int) : inS (a ++ b) r = (inS a r || inS b r) := by
 unfold inS; rw [List.any_append]
theorem inS_nil (r : Int) : inS [] r = false := rfl
theorem inS_perm {a b : List Sp} (h : a.Perm b) (r : Int) : inS a r = inS b r := by
 rw [Bool.eq_iff_iff, inS_iff, inS_iff]
 exact ⟨fun ⟨s, hs, q⟩ => ⟨s, h.mem_iff.1 hs, q⟩, fun ⟨s, hs, q⟩ => ⟨s, h.mem_iff.2 hs, q⟩⟩
theorem Canon.nil : Canon [] := ⟨fun _ h => (by cases h), List.Pairwise.nil⟩
theorem Canon.one {s : Sp} (h : vSp s) : Canon [s] := ⟨fun t ht => by rw [List.mem_singleton] at ht; subst ht; exact h, List.pairwise_singleton _ _⟩
theorem Canon.tail {s : Sp} {l : List Sp} (h : Canon (s :: l)) : Canon l := ⟨fun t ht => h.ok t (List.mem_cons_of_mem _ ht), (List.pairwise_cons.1 h.gap).2⟩
theorem Canon.head {s : Sp} {l : List Sp} (h : Canon (s :: l)) : vSp s := h.ok s List.mem_cons_self
theorem Canon.far {s : Sp} {l : List Sp} (h : Canon (s :: l)) : ∀ t ∈ l, s.2 + 2 ≤ t.1 := (List.pairwise_cons.1 h.gap).1
theorem Canon.cons {s : Sp} {l : List Sp} (h1 : vSp s) (h2 : ∀ t ∈ l, s.2 + 2 ≤ t.1) (h3 : Canon l) : Canon (s :: l) :=
 ⟨fun t ht => by rcases List.mem_cons.1 ht with rfl | ht; exact h1; exact h3.ok t ht, List.pairwise_cons.2 ⟨h2, h3.gap⟩⟩
theorem canon_low {s : Sp} {l : List Sp} (h : Canon (s :: l)) {r : Int} (hr : r ≤ s.2 + 1) : inS l r = false := by
  cases e : inS l r with
  | false => rfl
  | true =>
    obtain ⟨t, ht, h1, _⟩ := inS_iff.1 e
    have := h.far t ht
    omega
theorem canon_below {s : Sp} {l : List Sp} (h : Canon (s :: l)) {r : Int} (hr : r < s.1) : inS (s :: l) r = false := by
 have hv := h.head
 rw [inS_cons, canon_low h (by unfold vSp at hv; omega), Bool.or_false, decide_eq_false (by omega)]; rfl
theorem canon_unique : ∀ {a b : List Sp}, Canon a → Canon b → (∀ r, inS a r = inS b r) → a = b
  | [], [], _, _, _ => rfl
  | [], t :: b, _, hb, h => by
    have hv := hb.head
    unfold vSp at hv
    have := h t.1
    rw [inS_nil, inS_cons, decide_eq_true (Int.le_refl _), decide_eq_true (by omega)] at this
    simp at this
  | s :: a, [], ha, _, h => by
    have hv := ha.head
    unfold vSp at hv
    have := h s.1
    rw [inS_nil, inS_cons, decide_eq_true (Int.le_refl _), decide_eq_true (by omega)] at this
    simp at this
  | s :: a, t :: b, ha, hb, h => by
    have hv := ha.head
    have hu := hb.head
    unfold vSp at hv hu
    have self : ∀ {s : Sp} {l : List Sp} {r : Int}, s.1 ≤ r → r ≤ s.2 → inS (s :: l) r = true := fun h1 h2 => by
      rw [inS_cons, decide_eq_true h1, decide_eq_true h2]; rfl
    have e1 : s.1 = t.1 := by
      rcases Int.lt_trichotomy s.1 t.1 with h1 | h1 | h1
      · have h2 := h s.1
        rw [self (Int.le_refl _) (by omega), canon_below hb h1] at h2
        cases h2
      · exact h1
      · have h2 := h t.1
        rw [self (s := t) (Int.le_refl _) (by omega), canon_below ha h1] at h2
        cases h2
    have e2 : s.2 = t.2 := by
      rcases Int.lt_trichotomy s.2 t.2 with h1 | h1 | h1
      · have h2 := h (s.2 + 1)
        rw [self (s := t) (by omega) (by omega), inS_cons, canon_low ha (Int.le_refl _), decide_eq_false (p := s.2 + 1 ≤ s.2) (by omega)] at h2
        simp at h2
      · exact h1
      · have h2 := h (t.2 + 1)
        rw [self (s := s) (by omega) (by omega), inS_cons, canon_low hb (Int.le_refl _), decide_eq_false (p := t.2 + 1 ≤ t.2) (by omega)] at h2
        simp at h2
    have e3 : s = t := Prod.ext e1 e2
    subst e3
    have e4 : a = b := canon_unique ha.tail hb.tail fun r => by
      rcases leLt r (s.2 + 1) with h1 | h1
      · rw [canon_low ha h1, canon_low hb h1]
      · have h2 := h r
        rw [inS_cons, inS_cons, decide_eq_false (p := r ≤ s.2) (by omega)] at h2
        simpa using h2
    rw [e4]
def jstep (out : List Sp) (s : Sp) : List Sp := match out.getLast? with
  | some c => if s.1 ≤ c.2 + 1 then out.dropLast ++ [(c.1, max c.2 s.2)] else out ++ [s]
  | none => [s]
def joinF (l : List Sp) : List Sp := l.foldl jstep []
theorem jstep_snoc (o : List Sp) (c s : Sp) : jstep (o ++ [c]) s = if s.1 ≤ c.2 + 1 then o ++ [(c.1, max c.2 s.2)] else o ++ [c] ++ [s] := by
 unfold jstep; simp
theorem jstep_nil (s : Sp) : jstep [] s = [s] := rfl
structure JInv (out l : List Sp) (m : Int) : Prop where
 can : Canon out
 low : ∀ s ∈ out, s.1 ≤ m
 mem : ∀ r, inS out r = inS l r
 len : out.length ≤ l.length
theorem snoc_cases {α : Type} (l : List α) : l = [] ∨ ∃ o c, l = o ++ [c] := by
 rcases List.eq_nil_or_concat l with h | ⟨o, c, h⟩
 ·exact .inl h
 ·exact .inr ⟨o, c, by simpa using h⟩
theorem canon_snoc {o : List Sp} {c : Sp} : Canon (o ++ [c]) ↔ Canon o ∧ vSp c ∧ ∀ t ∈ o, t.2 + 2 ≤ c.1 := by
 constructor
 ·intro h
  have h1 := List.pairwise_append.1 h.gap
  exact ⟨⟨fun t ht => h.ok t (by simp [ht]), h1.1⟩, h.ok c (by simp), fun t ht => h1.2.2 t ht c (by simp)⟩
 ·rintro ⟨h1, h2, h3⟩
  refine ⟨fun t ht => ?_, List.pairwise_append.2 ⟨h1.gap, List.pairwise_singleton _ _, fun t ht u hu => ?_⟩⟩
  ·rcases List.mem_append.1 ht with ht | ht
   ·exact h1.ok t ht
   ·rw [List.mem_singleton] at ht; subst ht; exact h2
  ·rw [List.mem_singleton] at hu; subst hu; exact h3 t ht
theorem jstep_inv {out l : List Sp} {m : Int} {s : Sp} (h : JInv out l m) (hs : vSp s) (hm : m ≤ s.1) : JInv (jstep out s) (l ++ [s]) s.1 := by
 rcases snoc_cases out with rfl | ⟨o, c, rfl⟩
 ·rw [jstep_nil]
  refine ⟨Canon.one hs, fun t ht => by rw [List.mem_singleton] at ht; subst ht; exact Int.le_refl _, fun r => ?_, by simp⟩
  rw [inS_append, ← h.mem r]; rfl
 ·obtain ⟨h1, h2, h3⟩ := canon_snoc.1 h.can
  have hc := h.low c (by simp)
  unfold vSp at h2 hs
  rw [jstep_snoc]
  split
  ·rename_i h4
   have hmx : max c.2 s.2 = c.2 ∨ max c.2 s.2 = s.2 := by omega
   have hge : c.2 ≤ max c.2 s.2 ∧ s.2 ≤ max c.2 s.2 := by omega
   refine ⟨canon_snoc.2 ⟨h1, ⟨h2.1, by simp only; omega, by simp only; omega⟩, h3⟩, fun t ht => ?_, fun r => ?_, ?_⟩
   ·rcases List.mem_append.1 ht with ht | ht
    ·have := h.low t (by simp [ht]); omega
    ·rw [List.mem_singleton] at ht; subst ht; simp only; omega
   ·have hr := h.mem r
    rw [inS_append] at hr
    rw [inS_append, inS_append, ← hr]
    have e : inS [(c.1, max c.2 s.2)] r = (inS [c] r || inS [s] r) := by
     rw [Bool.eq_iff_iff]
     simp only [inS_cons, inS_nil, Bool.or_false, Bool.or_eq_true, Bool.and_eq_true, decide_eq_true_eq]
     constructor
     ·intro ⟨q1, q2⟩; omega
     ·rintro (⟨q1, q2⟩ | ⟨q1, q2⟩) <;> omega
    rw [e, Bool.or_assoc]
   ·have := h.len; simp at this ⊢; omega
  ·rename_i h4
   refine ⟨canon_snoc.2 ⟨h.can, hs, fun t ht => ?_⟩, fun t ht => ?_, fun r => ?_, ?_⟩
   ·rcases List.mem_append.1 ht with ht | ht
    ·have := h3 t ht; omega
    ·rw [List.mem_singleton] at ht; subst ht; omega
   ·rcases List.mem_append.1 ht with ht | ht
    ·have := h.low t ht; omega
    ·rw [List.mem_singleton] at ht; subst ht; exact Int.le_refl _
   ·rw [inS_append _ [s], inS_append l, h.mem r]
   ·have := h.len; simp at this ⊢; omega
theorem foldl_inv : ∀ (r : List Sp) {out l : List Sp} {m : Int}, JInv out l m → (∀ s ∈ r, vSp s ∧ m ≤ s.1) → r.Pairwise (fun s t => s.1 ≤ t.1) → ∃ m', JInv (r.foldl jstep out) (l ++ r) m'
  | [], out, l, m, h, _, _ => ⟨m, by simpa using h⟩
  | s :: r, out, l, m, h, hv, hp => by
    have h1 := hv s List.mem_cons_self
    have h2 := List.pairwise_cons.1 hp
    obtain ⟨m', h3⟩ := foldl_inv r (jstep_inv h h1.1 h1.2) (fun t ht => ⟨(hv t (List.mem_cons_of_mem _ ht)).1, h2.1 t ht⟩) h2.2
    exact ⟨m', by simpa using h3⟩
theorem joinF_all {l : List Sp} (hv : ∀ s ∈ l, vSp s) (hp : l.Pairwise (fun s t => s.1 ≤ t.1)) : Canon (joinF l) ∧ (∀ r, inS (joinF l) r = inS l r) ∧ (joinF l).length ≤ l.length := by
 obtain ⟨m, h⟩ := foldl_inv l (out := []) (l := []) (m := 0) ⟨Canon.nil, fun _ h => by (cases h), fun _ => rfl, Nat.le_refl _⟩ (fun s hs => ⟨hv s hs, (hv s hs).1⟩) hp
 exact ⟨h.can, h.mem, h.len⟩
/-- What joining makes of a list, in whatever order the spans come: by sorting. -/
def JoinOf (l out : List Sp) : Prop := ∃ l', l'.Perm l ∧ l'.Pairwise (fun s t => s.1 ≤ t.1) ∧ out = joinF l'
theorem JoinOf.all {l out : List Sp} (h : JoinOf l out) (hv : ∀ s ∈ l, vSp s) : Canon out ∧ (∀ r, inS out r = inS l r) ∧ out.length ≤ l.length := by
 obtain ⟨l', h1, h2, rfl⟩ := h
 have h3 := joinF_all (fun s hs => hv s (h1.mem_iff.1 hs)) h2
 exact ⟨h3.1, fun r => (h3.2.1 r).trans (inS_perm h1 r), by rw [← h1.length_eq]; exact h3.2.2⟩
def restL (p : Int) : List Sp → List Sp
  | [] => if p ≤ 1114111 then [(p, 1114111)] else []
  | s :: r => if p < s.1 then (p, s.1 - 1) :: restL (s.2 + 1) r else restL (s.2 + 1) r
theorem restL_all : ∀ (l : List Sp) (p : Int), Canon l → 0 ≤ p → (∀ s ∈ l, p ≤ s.1) →
    Canon (restL p l) ∧ (∀ t ∈ restL p l, p ≤ t.1) ∧ (∀ r, p ≤ r → r ≤ 1114111 → inS (restL p l) r = !inS l r)
  | [], p, _, h0, _ => by
    unfold restL
    split
    · rename_i h
      refine ⟨Canon.one ⟨h0, h, by omega⟩, fun t ht => by rw [List.mem_singleton] at ht; subst ht; exact Int.le_refl _, fun r h1 h2 => ?_⟩
      rw [inS_cons, inS_nil, decide_eq_true h1, decide_eq_true h2]; rfl
    · exact ⟨Canon.nil, fun t ht => (by cases ht), fun r h1 h2 => by omega⟩
  | s :: r, p, hc, h0, hp => by
    have hv := hc.head
    have hps := hp s List.mem_cons_self
    unfold vSp at hv
    obtain ⟨h1, h2, h3⟩ := restL_all r (s.2 + 1) hc.tail (by omega) (fun t ht => by have := hc.far t ht; omega)
    have hin : ∀ q, s.2 + 1 ≤ q → q ≤ 1114111 → inS (restL (s.2 + 1) r) q = !inS (s :: r) q := fun q q1 q2 => by
      rw [h3 q q1 q2, inS_cons, decide_eq_false (p := q ≤ s.2) (by omega), Bool.and_false, Bool.false_or]
    have hno : ∀ q, q ≤ s.2 → inS (restL (s.2 + 1) r) q = false := fun q hq => by
      cases e : inS (restL (s.2 + 1) r) q with
      | false => rfl
      | true => obtain ⟨t, ht, q1, _⟩ := inS_iff.1 e; have := h2 t ht; omega
    have hyes : ∀ q, s.1 ≤ q → q ≤ s.2 → inS (s :: r) q = true := fun q q1 q2 => by rw [inS_cons, decide_eq_true q1, decide_eq_true q2]; rfl
    unfold restL
    split
    · rename_i hlt
      refine ⟨Canon.cons ⟨h0, by simp only; omega, by simp only; omega⟩ (fun t ht => by have := h2 t ht; simp only; omega) h1, fun t ht => ?_, fun q q1 q2 => ?_⟩
      · rcases List.mem_cons.1 ht with rfl | ht
        · exact Int.le_refl _
        · have := h2 t ht; omega
      · rw [inS_cons]
        rcases ltLe q s.1 with h4 | h4
        · rw [decide_eq_true (p := p ≤ q) q1, decide_eq_true (p := q ≤ s.1 - 1) (by omega), canon_below hc h4]; rfl
        · rw [decide_eq_false (p := q ≤ s.1 - 1) (by omega), Bool.and_false, Bool.false_or]
          rcases ltLe s.2 q with h5 | h5
          · exact hin q (by omega) q2
          · rw [hno q h5, hyes q h4 h5]; rfl
    · rename_i hlt
      refine ⟨h1, fun t ht => by have := h2 t ht; omega, fun q q1 q2 => ?_⟩
      rcases ltLe s.2 q with h5 | h5
      · exact hin q (by omega) q2
      · rw [hno q h5, hyes q (by omega) h5]; rfl
theorem canon_out {l : List Sp} (h : Canon l) {r : Int} (hr : r < 0 ∨ 1114111 < r) : inS l r = false := by
  cases e : inS l r with
  | false => rfl
  | true => obtain ⟨t, ht, q1, q2⟩ := inS_iff.1 e; have := h.ok t ht; unfold vSp at this; omega
def notS (l : List Sp) : List Sp := restL 0 l
theorem notS_canon {l : List Sp} (h : Canon l) : Canon (notS l) := (restL_all l 0 h (Int.le_refl _) fun s hs => (h.ok s hs).1).1
theorem notS_mem {l : List Sp} (h : Canon l) {r : Int} (h0 : 0 ≤ r) (h1 : r ≤ 1114111) : inS (notS l) r = !inS l r := (restL_all l 0 h (Int.le_refl _) fun s hs => (h.ok s hs).1).2.2 r h0 h1
theorem canon_ext {a b : List Sp} (ha : Canon a) (hb : Canon b) (h : ∀ r, 0 ≤ r → r ≤ 1114111 → inS a r = inS b r) : a = b :=
 canon_unique ha hb fun r => by
  rcases ltLe r 0 with h1 | h1
  ·rw [canon_out ha (.inl h1), canon_out hb (.inl h1)]
  ·rcases ltLe 1114111 r with h2 | h2
   ·rw [canon_out ha (.inr h2), canon_out hb (.inr h2)]
   ·exact h r h1 h2
end Go.Proofs
namespace Go.Proofs
open Go Go.Eng
set_option maxRecDepth 100000
abbrev TSp : Nat := 103
theorem own_low {w : World} {base base' e size n : Nat} {v : Value} {xs : List Value} (h : w.ownsRow base e size v n xs) (hb : base' ≤ base) : w.ownsRow base' e size v n xs := by
 obtain ⟨h1, h2⟩ := h
 refine ⟨h1, h2.imp id ?_⟩
 rintro ⟨g, cap, cur, a, b, r⟩
 exact ⟨g, cap, cur, a, Nat.le_trans hb b, r⟩
/-- A list of spans that lies in memory of one's own. -/
def OwnS (w : World) (base : Nat) (r : Value) (l : List Sp) : Prop := (∃ a c, r = .slice a l.length c) ∧ w.ownsRow base TSp 2 r l.length (l.map spanV).flatten
theorem OwnS.at {w : World} {base : Nat} {r : Value} {l : List Sp} (h : OwnS w base r l) : SpansAt w r l :=
 own_slat h.2 (by intro x hx; simp only [List.mem_map] at hx; obtain ⟨p, _, rfl⟩ := hx; rfl) (by simp) (by decide)
theorem OwnS.ext {w w' : World} {base : Nat} {r : Value} {l : List Sp} (h : OwnS w base r l) (e : Ext w w') : OwnS w' base r l := ⟨h.1, own_ext h.2 e⟩
theorem spanV_snoc (l : List Sp) (s : Sp) : ((l ++ [s]).map spanV).flatten = (l.map spanV).flatten ++ [.int .i64 s.1, .int .i64 s.2] := by simp [spanV]
set_option maxHeartbeats 1000000 in
theorem clones_c (w0 : World) (v : Value) (l : List Sp) (h : SpansAt w0 v l) (hl : l.length ≤ 8796093022208) :
  Ret Tryz.prog 114 #[v] w0 fun r w => OwnS w w0.heap.size r l ∧ Ext w0 w := by
 obtain ⟨a, c, rfl⟩ := SlAt.form h
 simp only [List.length_map] at h ⊢
 obtain ⟨base, hbase⟩ : ∃ base, base = w0.heap.size := ⟨_, rfl⟩
 rw [← hbase]
 refine Ret_of Tryz.func114 rfl Tryz.ntmps114 (Nat.le_of_ble_eq_true rfl) ?_
 have E : Chg none1 w0 w0 := Chg.refl _ _
 refine Wp_seq_region ?_
 refine qA (.slice none 0 0) rfl ?_
 refine WpL_nil (Wp_seq (Wp_seq_region ?_))
 refine qM (.slice a l.length c) rfl ?_
 refine WpL_val (v := (.bool a.isNone)) rfl rfl (by decide) (r_eqlNil Tryz.underlying22 rfl rfl) ?_
 refine WpL_nil ?_
 refine Wp_cond (b := a.isNone) rfl (fun hn => ?_) (fun hn => ?_)
 ·have khn := hn
  have hl0 : l.length = 0 := by rcases Nat.eq_zero_or_pos l.length with h0 | h0; exact h0; obtain ⟨b, o, rfl, _⟩ := spans_cells h h0; simp at hn
  have hl1 : l = [] := List.eq_nil_of_length_eq_zero hl0
  refine Wp_seq_region ?_
  refine qA (.slice none 0 0) rfl ?_
  refine WpL_nil (Wp_ret (thn_ret ?_))
  refine fin_tmp Tryz.results114 (v := (.slice none 0 0)) rfl ?_
  subst hl1; exact ⟨⟨⟨none, 0, rfl⟩, World.ownsRow_nil _ _ _ _⟩, E⟩
 ·have khn := hn
  rcases Bool.eq_false_or_eq_true (decide (l.length = 0)) with hz | hz
  ·have khz := hz
   replace khz := of_decide_eq_true khz
   refine Wp_skip (thn_normal (Wp_seq_region ?_))
   refine s_build0 (by decide) Tryz.underlying22 siz103 ?_
   intro bq wq Nq
   have Fq := Nq.ge E
   replace E := E.ext Nq.ext
   have Bq := Nq.blk
   refine qM (.slice a l.length c) rfl ?_
   refine qV (r_append0 Tryz.underlying22 siz103 (a' := a) (c' := c) rfl (Nat.le_refl _) (by show Value.slice a l.length c = _; rw [khz])) ?_
   refine qA (.slice (some ⟨bq, 0, none⟩) 0 0) rfl ?_
   refine WpL_nil (Wp_ret ?_)
   refine fin_tmp Tryz.results114 (v := (.slice (some ⟨bq, 0, none⟩) 0 0)) rfl ?_
   have hl1 : l = [] := List.eq_nil_of_length_eq_zero khz
   subst hl1; exact ⟨⟨⟨_, 0, rfl⟩, own_empty (base := base) (size := 2) Bq (by omega)⟩, E⟩
  ·have khz := hz
   replace khz := of_decide_eq_false khz
   obtain ⟨b, o, rfl, hcl⟩ := spans_cells h (by omega)
   refine Wp_skip (thn_normal (Wp_seq_region ?_))
   refine s_build0 (by decide) Tryz.underlying22 siz103 ?_
   intro bq wq Nq
   have Fq := Nq.ge E
   replace E := E.ext Nq.ext
   have Bq := Nq.blk
   refine qM (.slice (some ⟨b, o, none⟩) l.length c) rfl ?_
   have hown := own_empty (base := base) (size := 2) Bq (by omega)
   have hbs : base ≤ wq.heap.size := by have := Nq.ext.size; omega
   refine s_append (base := base) (n := 0) (m := l.length) (xs := []) (news := (l.map spanV).flatten) (size := 2) (bytes := 16) (v := (.slice (some ⟨bq, 0, none⟩) 0 0)) (by decide) Tryz.underlying22 siz103 byt103 zer103 rfl (by decide) rfl hown rfl (spans_six l) ((spans_flat hcl).ext Nq.ext) (spans_one l) (by unfold maxLen; omega) (by omega) (hbs) ?_
   intro v9 w29 Ov9 Cv9 Dv9
   replace E := E.step Cv9 (fun x hx h => absurd (hown.lt x h).1 (by omega))
   obtain ⟨la, lc, rfl⟩ := own_form Ov9
   refine qA (.slice la (0 + l.length) lc) rfl ?_
   refine WpL_nil (Wp_ret ?_)
   refine fin_tmp Tryz.results114 (v := (.slice la (0 + l.length) lc)) rfl ?_
   simp only [Nat.zero_add, List.nil_append] at Ov9 ⊢
   exact ⟨⟨⟨la, lc, rfl⟩, Ov9⟩, E⟩
def SpssAt (w : World) (v : Value) (ll : List (List Sp)) : Prop := ∃ vs : List Value, SlAt w 1 v (vs.map fun x => [x]) ∧ vs.length = ll.length ∧ ∀ (i : Nat) (u : Value) (l : List Sp), vs[i]? = some u → ll[i]? = some l → SpansAt w u l
theorem SpssAt.ext {w w' : World} {v : Value} {ll : List (List Sp)} (h : SpssAt w v ll) (e : Ext w w') : SpssAt w' v ll := by
 obtain ⟨vs, h1, h2, h3⟩ := h
 exact ⟨vs, h1.ext e, h2, fun i u l hu hl => (h3 i u l hu hl).ext e⟩
theorem SpssAt.form {w : World} {v : Value} {ll : List (List Sp)} (h : SpssAt w v ll) : ∃ a c, v = .slice a ll.length c ∧ ll.length ≤ c ∧ ll.length ≤ 9223372036854775807 := by
 obtain ⟨vs, h1, h2, _⟩ := h
 obtain ⟨a, c, rfl⟩ := h1.form
 have := h1.cap
 have := h1.le
 simp only [List.length_map] at *
 rw [h2] at *
 exact ⟨a, c, rfl, by omega, by omega⟩
theorem spss_cells {w : World} {a : Option Addr} {n c : Nat} {ll : List (List Sp)} (h : SpssAt w (.slice a n c) ll) (hn : 0 < n) :
  ∃ b o, a = some ⟨b, o, none⟩ ∧ ∀ i l, ll[i]? = some l → ∃ ra rc, w.cell? ⟨b, o + i, none⟩ = some (.slice ra l.length rc) ∧ SpansAt w (.slice ra l.length rc) l := by
 obtain ⟨vs, h1, h2, h3⟩ := h
 obtain ⟨b, o, ha, hc⟩ := SlAt.at h1 hn
 refine ⟨b, o, ha, fun i l hl => ?_⟩
 have hi : i < vs.length := by have := lt_of_get hl; omega
 have hu : vs[i]? = some vs[i] := List.getElem?_eq_getElem hi
 have h4 := h3 i vs[i] l hu hl
 obtain ⟨ra, rc, hf⟩ := SlAt.form h4
 simp only [List.length_map] at hf
 have h5 := hc i [vs[i]] (by simp [hu]) 0 _ rfl
 rw [Nat.mul_one, Nat.add_zero, hf] at h5
 rw [hf] at h4
 exact ⟨ra, rc, h5, h4⟩
theorem lens_take {ll : List (List Sp)} {k : Nat} {l : List Sp} (h : ll[k]? = some l) : (ll.take (k + 1)).flatten = (ll.take k).flatten ++ l := by
 rw [List.take_add_one, h]; simp
theorem lens_le (ll : List (List Sp)) (k : Nat) : (ll.take k).flatten.length ≤ ll.flatten.length := by
 have h : ll.flatten = (ll.take k).flatten ++ (ll.drop k).flatten := by rw [← List.flatten_append, List.take_append_drop]
 rw [h, List.length_append]; omega
end Go.Proofs
namespace Go.Proofs
open Go Go.Eng Go.Sort
set_option maxRecDepth 100000
def orL : List Int → Int
  | [] => 0
  | x :: r => if x ≠ 0 then x else orL r
theorem sor_c (w0 : World) (v : Value) (l : List Int) (h : IntsAt w0 v l) : Ret Tryz.prog 206 #[v] w0 fun r w => r = .int .i64 (orL l) ∧ Ext w0 w := by
 obtain ⟨a, c, rfl⟩ := SlAt.form h
 have hlen : l.length ≤ 9223372036854775807 := by simpa using SlAt.le h
 simp only [List.length_map] at h ⊢
 refine Ret_of Tryz.func206 rfl Tryz.ntmps206 (Nat.le_of_ble_eq_true rfl) ?_
 have E : Chg none1 w0 w0 := Chg.refl _ _
 refine Wp_seq_region ?_
 refine qA (I6 0) rfl ?_
 refine WpL_nil (Wp_seq_region ?_)
 refine qA (I6 0) rfl ?_
 refine WpL_nil (Wp_seq (Wp_seq_region ?_))
 refine qM (.slice a l.length c) rfl ?_
 refine qV (r_lenSlice (ad := a) (n := l.length) (cap := c) Tryz.underlying26 rfl) ?_
 refine qM (I6 0) rfl ?_
 refine WpL_nil (Wp_block ?_)
 refine Wp_loop (fun nn_ σ W1 => ∃ (k : Nat), (∃ jj_, σ = upds jj_ [(3, (I6 0)), (6, (.slice a l.length c)), (7, (I6 (l.length : Int))), (8, (I6 (k : Int)))]) ∧ Chg none1 w0 W1 ∧ (k ≤ l.length) ∧ (orL (l.drop k) = orL l) ∧ nn_ = l.length - k) (n := l.length - 0) ?_ ?_
 ·exact ⟨0, Fits.out ⟨rfl, rfl, rfl, rfl, trivial⟩, E, Nat.zero_le _, rfl, rfl⟩
 ·clear E
  rintro _ _ W1 ⟨k, ⟨j1, rfl⟩, E, hk, ho, rfl⟩
  refine Wp_seq_region ?_
  refine qV (r_lss (k := .i64) (a := (k : Int)) (b := (l.length : Int)) rfl rfl) ?_
  refine WpL_nil (Wp_seq ?_)
  refine Wp_cond (b := decide (((k : Int) : Int) < (l.length : Int))) rfl (fun hlt => ?_) (fun hlt => ?_)
  ·have khlt := hlt
   replace hlt := of_decide_eq_true hlt
   obtain ⟨x, hx⟩ := get_of_lt (l := l) (i := k) (by omega)
   obtain ⟨b, o, rfl, hcl⟩ := ints_cells h (by omega)
   rw [drop_cons hx] at ho
   refine Wp_skip (thn_normal (Wp_seq (Wp_block (Wp_seq_region ?_))))
   refine qV (r_indexSlice (b := b) (o := o) (len := l.length) (cap := c) (i := k) (o' := o + k) rfl rfl rfl Tryz.underlying26 siz3 (by omega) (by omega)) ?_
   refine qV (r_load (v := (I6 x)) rfl flat3 (E.cell (fun f => f) (hcl k x hx))) ?_
   refine qA (I6 x) rfl ?_
   refine WpL_nil (Wp_seq_region ?_)
   refine qM (I6 x) rfl ?_
   refine qM (I6 0) rfl ?_
   refine qV (r_neq (k := .i64) (a := x) (b := 0) rfl rfl) ?_
   refine WpL_nil ?_
   refine Wp_cond (b := decide ((x : Int) ≠ 0)) rfl (fun hne => ?_) (fun hne => ?_)
   ·have khne := hne
    replace hne := of_decide_eq_true hne
    refine Wp_seq_region ?_
    refine qM (I6 x) rfl ?_
    refine qA (I6 x) rfl ?_
    refine WpL_nil (Wp_ret (inB_ret (thn_ret (thn_ret (inB_ret (thn_ret ?_))))))
    refine fin_tmp Tryz.results206 (v := (.int .i64 x)) rfl ?_
    exact ⟨int_eq (by rw [← ho, orL, if_pos hne]), E⟩
   ·have khne := hne
    replace hne := of_decide_eq_false hne
    refine Wp_skip (inB_normal (thn_normal (Wp_region ?_)))
    refine qV (r_add (k := .i64) (a := (k : Int)) (b := 1) (c := (k : Int) + 1) rfl rfl (wI64 (by omega))) ?_
    refine qM (I6 ((k : Int) + 1)) rfl ?_
    refine WpL_nil (thn_normal ?_)
    exact ⟨l.length - (k + 1), by omega, k + 1, Fits.out ⟨rfl, rfl, rfl, rfl, trivial⟩, E, (by omega), (by rw [← ho, orL, if_neg hne]), rfl⟩
  ·have khlt := hlt
   replace hlt := of_decide_eq_false hlt
   have hkk : k = l.length := by omega
   refine Wp_exit (thn_exit (thn_exit (inB_here (thn_normal (Wp_seq_region ?_)))))
   refine qM (I6 0) rfl ?_
   refine qA (I6 0) rfl ?_
   refine WpL_nil (Wp_ret ?_)
   refine fin_tmp Tryz.results206 (v := (.int .i64 0)) rfl ?_
   exact ⟨int_eq (by rw [← ho, hkk, List.drop_length]; rfl), E⟩
def ints2F (a b : Int) : Fct := fun v w => ∃ bb, v = .slice (some ⟨bb, 0, none⟩) 2 2 ∧ IntsAt w v [a, b]
theorem ints2F_ext (a b : Int) : Stable (ints2F a b) := by
 rintro v w w' e ⟨bb, h1, h2⟩
 exact ⟨bb, h1, h2.ext e⟩
theorem Does_ints2 {N : Nat} {σ : Env} {w : World} {dst : Option Tmp} {ty : TypeId} {pos : String} {af : Array Edge} {g : Option (Nat × Bool)} {x y : Operand} {a b : Int} (hx : ev σ x = .int .i64 a) (hy : ev σ y = .int .i64 b) :
  Does Tryz.prog N ⟨dst, .buildSlice 26 2 #[(0, x), (1, y)], ty, pos, af, g⟩ (ints2F a b) σ w := by
 have hn := New.mk' w #[.int .i64 a, .int .i64 b] 3
 refine Does_val (run_buildSlice (parts := [(0, x), (1, y)]) (ps := [(0, .int .i64 a), (1, .int .i64 b)]) (by simp only [List.map, hx, hy]) Tryz.underlying26 siz3 zer3 (by decide) (by decide) (by kernel_rfl)) hn.ext ?_
 exact ⟨_, rfl, ints_of_blk [a, b] hn.blk (by simp) (by simp)⟩
end Go.Proofs
namespace Go.Proofs
open Go Go.Eng Go.Sort
set_option maxRecDepth 100000
def lexI (p q : Int) : Int := if p ≠ 0 then p else q
/-- Two comparisons, there and back. -/
def Sy (p p' : Int) : Prop := (p < 0 ↔ 0 < p') ∧ (0 < p ↔ p' < 0)
/-- Comparisons of one with another, of this with a third, and of the first with the third. -/
def Tr3 (p q r : Int) : Prop := (p ≤ 0 → q ≤ 0 → r ≤ 0) ∧ (p < 0 → q ≤ 0 → r < 0) ∧ (p ≤ 0 → q < 0 → r < 0)
theorem lexI_sg (p q : Int) : (lexI p q < 0 ↔ p < 0 ∨ (p = 0 ∧ q < 0)) ∧ (0 < lexI p q ↔ 0 < p ∨ (p = 0 ∧ 0 < q)) := by unfold lexI; split <;> omega
theorem Sy.lex {p p' P P' : Int} (h : Sy p p') (k : Sy P P') : Sy (lexI p P) (lexI p' P') := by
 unfold Sy at *
 have h1 := lexI_sg p P
 have h2 := lexI_sg p' P'
 omega
theorem Tr3.lex {p q r P Q R : Int} (h : Tr3 p q r) (k : Tr3 P Q R) : Tr3 (lexI p P) (lexI q Q) (lexI r R) := by
 unfold Tr3 at *
 have h1 := lexI_sg p P
 have h2 := lexI_sg q Q
 have h3 := lexI_sg r R
 refine ⟨fun a b => ?_, fun a b => ?_, fun a b => ?_⟩ <;> omega
theorem cmpI_sg (a b : Int) : (cmpI a b < 0 ↔ a < b) ∧ (0 < cmpI a b ↔ b < a) := by unfold cmpI; (repeat' split) <;> omega
theorem sy_cmp (a b : Int) : Sy (cmpI a b) (cmpI b a) := by
 have h1 := cmpI_sg a b
 have h2 := cmpI_sg b a
 unfold Sy
 omega
theorem tr_cmp (a b c : Int) : Tr3 (cmpI a b) (cmpI b c) (cmpI a c) := by
 have h1 := cmpI_sg a b
 have h2 := cmpI_sg b c
 have h3 := cmpI_sg a c
 unfold Tr3
 omega
theorem sy_zero : Sy 0 0 := by unfold Sy; omega
theorem tr_zero : Tr3 0 0 0 := by unfold Tr3; omega
def cmpSp (s t : Int × Int) : Int := orL [cmpI s.1 t.1, cmpI s.2 t.2]
theorem orL_cons (x : Int) (r : List Int) : orL (x :: r) = lexI x (orL r) := rfl
theorem orL_nil : orL [] = 0 := rfl
theorem sy_sp (a b : Int × Int) : Sy (cmpSp a b) (cmpSp b a) := by
 simp only [cmpSp, orL_cons, orL_nil]
 exact (sy_cmp _ _).lex ((sy_cmp _ _).lex sy_zero)
theorem tr_sp (a b c : Int × Int) : Tr3 (cmpSp a b) (cmpSp b c) (cmpSp a c) := by
 simp only [cmpSp, orL_cons, orL_nil]
 exact (tr_cmp _ _ _).lex ((tr_cmp _ _ _).lex tr_zero)
/-- Lists compared one by one; what ends earlier is less. -/
def cmpL {α : Type} (f : α → α → Int) : List α → List α → Int
  | [], [] => 0
  | [], _ :: _ => -1
  | _ :: _, [] => 1
  | x :: l, y :: m => lexI (f x y) (cmpL f l m)
theorem sy_list {α : Type} {f : α → α → Int} (hf : ∀ a b, Sy (f a b) (f b a)) : ∀ a b : List α, Sy (cmpL f a b) (cmpL f b a)
  | x :: a, y :: b => (hf x y).lex (sy_list hf a b)
  | [], [] => sy_zero
  | [], _ :: _ => by simp only [cmpL]; unfold Sy; omega
  | _ :: _, [] => by simp only [cmpL]; unfold Sy; omega
theorem tr_list {α : Type} {f : α → α → Int} (hf : ∀ a b c, Tr3 (f a b) (f b c) (f a c)) : ∀ a b c : List α, Tr3 (cmpL f a b) (cmpL f b c) (cmpL f a c)
  | x :: a, y :: b, z :: c => (hf x y z).lex (tr_list hf a b c)
  | [], [], [] => tr_zero
  | [], [], _ :: _ => by simp only [cmpL]; unfold Tr3; omega
  | [], _ :: _, [] => by simp only [cmpL]; unfold Tr3; omega
  | [], _ :: _, _ :: _ => by simp only [cmpL]; unfold Tr3; omega
  | _ :: _, [], [] => by simp only [cmpL]; unfold Tr3; omega
  | _ :: _, [], _ :: _ => by simp only [cmpL]; unfold Tr3; omega
  | _ :: _, _ :: _, [] => by simp only [cmpL]; unfold Tr3; omega
mutual
def ordR : Re → Re → Int
  | .mk k s a m x _, .mk k' s' a' m' x' _ => orL [cmpI k k', cmpL cmpSp s s', cmpI m m', cmpI x x', ordRs a a']
def ordRs : List Re → List Re → Int
  | [], [] => 0
  | [], _ :: _ => -1
  | _ :: _, [] => 1
  | t :: ts, u :: us => lexI (ordR t u) (ordRs ts us)
end
mutual
theorem sy_re : ∀ a b : Re, Sy (ordR a b) (ordR b a)
  | .mk k s a m x g, .mk k' s' a' m' x' g' => by
    simp only [ordR, orL_cons, orL_nil]
    exact (sy_cmp _ _).lex ((sy_list sy_sp _ _).lex ((sy_cmp _ _).lex ((sy_cmp _ _).lex ((sy_res a a').lex sy_zero))))
theorem sy_res : ∀ a b : List Re, Sy (ordRs a b) (ordRs b a)
  | x :: a, y :: b => by simp only [ordRs]; exact (sy_re x y).lex (sy_res a b)
  | [], [] => by simp only [ordRs]; exact sy_zero
  | [], _ :: _ => by simp only [ordRs]; unfold Sy; omega
  | _ :: _, [] => by simp only [ordRs]; unfold Sy; omega
end
mutual
theorem tr_re : ∀ a b c : Re, Tr3 (ordR a b) (ordR b c) (ordR a c)
  | .mk k s a m x g, .mk k' s' a' m' x' g', .mk k'' s'' a'' m'' x'' g'' => by
    simp only [ordR, orL_cons, orL_nil]
    exact (tr_cmp _ _ _).lex ((tr_list tr_sp _ _ _).lex ((tr_cmp _ _ _).lex ((tr_cmp _ _ _).lex ((tr_res a a' a'').lex tr_zero))))
theorem tr_res : ∀ a b c : List Re, Tr3 (ordRs a b) (ordRs b c) (ordRs a c)
  | x :: a, y :: b, z :: c => by simp only [ordRs]; exact (tr_re x y z).lex (tr_res a b c)
  | [], [], [] => by simp only [ordRs]; exact tr_zero
  | [], [], _ :: _ => by simp only [ordRs]; unfold Tr3; omega
  | [], _ :: _, [] => by simp only [ordRs]; unfold Tr3; omega
  | [], _ :: _, _ :: _ => by simp only [ordRs]; unfold Tr3; omega
  | _ :: _, [], [] => by simp only [ordRs]; unfold Tr3; omega
  | _ :: _, [], _ :: _ => by simp only [ordRs]; unfold Tr3; omega
  | _ :: _, _ :: _, [] => by simp only [ordRs]; unfold Tr3; omega
end
theorem ord_sym (a b : Re) : ordR b a < 0 ↔ 0 < ordR a b := (sy_re b a).1
theorem ord_le (a b : Re) : ordR a b ≤ 0 ∨ ordR b a ≤ 0 := by have := ord_sym a b; have := ord_sym b a; omega
theorem ord_tr {a b c : Re} (h : ordR a b ≤ 0) (k : ordR b c ≤ 0) : ordR a c ≤ 0 := (tr_re a b c).1 h k
theorem lexI_zero {p q : Int} : lexI p q = 0 ↔ p = 0 ∧ q = 0 := by unfold lexI; split <;> omega
theorem cmpI_zero {a b : Int} : cmpI a b = 0 ↔ a = b := by unfold cmpI; (repeat' split) <;> omega
theorem cmpSp_zero {a b : Int × Int} : cmpSp a b = 0 ↔ a = b := by
 simp only [cmpSp, orL_cons, orL_nil, lexI_zero, cmpI_zero, and_true, Prod.ext_iff]
theorem cmpL_zero {α : Type} {f : α → α → Int} (hf : ∀ a b, f a b = 0 ↔ a = b) : ∀ {a b : List α}, cmpL f a b = 0 ↔ a = b
  | [], [] => by simp [cmpL]
  | [], _ :: _ => by simp [cmpL]
  | _ :: _, [] => by simp [cmpL]
  | x :: l, y :: m => by simp only [cmpL, lexI_zero, hf, cmpL_zero hf, List.cons.injEq]
mutual
/-- No node is marked as the opposite. -/
def noNeg : Re → Bool
  | .mk _ _ a _ _ g => !g && noNegs a
def noNegs : List Re → Bool
  | [] => true
  | t :: ts => noNeg t && noNegs ts
end
mutual
theorem ord_zero : ∀ {a b : Re}, noNeg a = true → noNeg b = true → (ordR a b = 0 ↔ a = b)
  | .mk k s a m x g, .mk k' s' a' m' x' g', h, h' => by
    simp only [noNeg, Bool.and_eq_true, Bool.not_eq_true'] at h h'
    simp only [ordR, orL_cons, orL_nil, lexI_zero, cmpI_zero, cmpL_zero (f := cmpSp) fun _ _ => cmpSp_zero, ords_zero h.2 h'.2, and_true, Re.mk.injEq, h.1, h'.1]
    constructor
    · rintro ⟨h1, h2, h3, h4, h5⟩; exact ⟨h1, h2, h5, h3, h4⟩
    · rintro ⟨h1, h2, h5, h3, h4⟩; exact ⟨h1, h2, h3, h4, h5⟩
theorem ords_zero : ∀ {a b : List Re}, noNegs a = true → noNegs b = true → (ordRs a b = 0 ↔ a = b)
  | [], [], _, _ => by simp [ordRs]
  | [], _ :: _, _, _ => by simp [ordRs]
  | _ :: _, [], _, _ => by simp [ordRs]
  | t :: ts, u :: us, h, h' => by
    simp only [noNegs, Bool.and_eq_true] at h h'
    simp only [ordRs, lexI_zero, ord_zero h.1 h'.1, ords_zero h.2 h'.2, List.cons.injEq]
end
def allT : Re := .mk 8 [] [noneT] 0 0 false
def isAllB (t : Re) : Bool := decide (t.kind = 8) && decide ((t.args.headD noneT).kind = 0)
def isNoneB (t : Re) : Bool := decide (t.kind = 0)
def isEmptyB (t : Re) : Bool := decide (t.kind = 1)
def delT (p : Re → Bool) (l : List Re) : List Re := l.filter fun x => !p x
def wrapT (k : Int) (nothing : Re) : List Re → Re
  | [] => nothing
  | [x] => x
  | x :: y :: l => .mk k [] (x :: y :: l) 0 0 false
def catD (l : List Re) : Re := if ((delT isEmptyB (flatT 3 l)).any isNoneB) = true then noneT else wrapT 3 emptyT (delT isEmptyB (flatT 3 l))
/-- Of neighbours that are equal one stays. -/
def dedR : List Re → List Re
  | [] => []
  | [x] => [x]
  | x :: y :: l => if sameT x y = true then dedR (y :: l) else x :: dedR (y :: l)
def leR (a b : Re) : Bool := decide (ordR a b ≤ 0)
def sortR (l : List Re) : List Re := l.mergeSort leR
def choR (k : Int) (l : List Re) (strong weak : Re → Bool) (nothing : Re) : Re :=
  match l.find? strong with
  | some x => x
  | none => wrapT k nothing (dedR (sortR (delT weak (flatT k l))))
def nodeK (k : Int) (s : List (Int × Int)) (a : List Re) (m x : Int) (g : Bool) : Re :=
 let y := a.headD noneT
 if k = 3 then catD a else if k = 4 then choR 4 a isAllB isNoneB noneT else if k = 7 then choR 7 a isNoneB isAllB allT
 else if k = 5 then (if y.kind = 0 ∨ y.kind = 1 then emptyT else if y.kind = 5 then y else .mk k s a m x g)
 else if k = 6 then (if x = 0 ∨ y.kind = 1 ∨ (y.kind = 0 ∧ m = 0) then emptyT else if y.kind = 0 ∨ (m = 1 ∧ x = 1) then y else .mk k s a m x g)
 else if k = 8 then (if y.kind = 8 then y.args.headD noneT else .mk k s a m x g)
 else .mk k s a m x g
def nodeS : Re → Re
  | .mk k s a m x g => nodeK k s a m x g
mutual
def simR : Re → Re
  | .mk k s a m x g => nodeK k s (simRs a) m x g
def simRs : List Re → List Re
  | [] => []
  | t :: ts => simR t :: simRs ts
end
theorem simRs_map (ts : List Re) : simRs ts = ts.map simR := by
  induction ts with
  | nil => rfl
  | cons t ts ih => simp [simRs, ih]
theorem simR_eq (t : Re) : simR t = nodeK t.kind t.set (t.args.map simR) t.mn t.mx t.neg := by cases t; simp [simR, simRs_map, Re.kind, Re.set, Re.args, Re.mn, Re.mx, Re.neg]
mutual
/-- Whether an expression matches the empty text. -/
def emptR : Re → Bool
  | .mk k _ a m _ g => if k = 1 ∨ k = 5 then true else if k = 3 ∨ k = 7 ∨ k = 9 then emptRs a else if k = 4 then emptAny a else if k = 6 then (decide (m = 0) || emptRs a) else if k = 8 then !emptRs a else if k = 10 then (emptRs a != g) else false
def emptRs : List Re → Bool
  | [] => true
  | t :: ts => emptR t && emptRs ts
def emptAny : List Re → Bool
  | [] => false
  | t :: ts => emptR t || emptAny ts
end
mutual
/-- The derivative of an expression in similar form. -/
def stepR (c : Int) : Re → Re
  | .mk k s a m x g => if k = 2 then (if inS s c = true then emptyT else noneT) else if k = 3 then stepC c a
    else if k = 4 ∨ k = 7 ∨ k = 8 then nodeK k [] (stepRs c a) 0 0 false
    else if k = 5 then catD [(stepRs c a).headD noneT, .mk k s a m x g]
    else if k = 6 then catD [(stepRs c a).headD noneT, nodeK 6 [] [a.headD noneT] (max 0 (m - 1)) (x - 1) false]
    else noneT
def stepRs (c : Int) : List Re → List Re
  | [] => []
  | t :: ts => stepR c t :: stepRs c ts
/-- The derivative of a concatenation. -/
def stepC (c : Int) : List Re → Re
  | [] => noneT
  | t :: ts => if ts = [] then stepR c t else (let first := catD [stepR c t, wrapT 3 emptyT ts]; if emptR t = true then nodeK 4 [] [first, stepC c ts] 0 0 false else first)
end
end Go.Proofs
namespace Go.Proofs
open Go Go.Eng
set_option maxRecDepth 100000
theorem mkRe_c (w0 : World) (v : Value) (l : List Int) (hl : IntsAt w0 v l) : Ret Tryz.prog 22 #[v] w0 fun r w => ∃ t vs, r = .agg vs.toArray ∧ allRe (genP 8) t ∧ t.size ≤ 31 ∧ ReIn (fun b => w0.heap.size ≤ b) w t vs ∧ Ext w0 w := by
 obtain ⟨a, c, rfl⟩ := SlAt.form hl
 simp only [List.length_map] at hl ⊢
 refine Ret_of Tryz.func22 rfl Tryz.ntmps22 (Nat.le_of_ble_eq_true rfl) ?_
 have E : Chg none1 w0 w0 := Chg.refl _ _
 refine Wp_seq_region ?_
 refine s_alloc (c := #[(I6 0), (.slice none 0 0), (.slice none 0 0), (I6 0), (I6 0), (.bool false)]) (by decide) zer25 rfl ?_
 intro br wr Nr
 have Fr := Nr.ge E
 replace E := E.ext Nr.ext
 have Br := Nr.blk
 refine WpL_nil (Wp_seq_region ?_)
 refine qM (.slice a l.length c) rfl ?_
 refine qV (r_build (ps := [(0, (.slice a l.length c))]) (v := (.agg #[(.slice a l.length c)])) rfl (by kernel_rfl)) ?_
 refine s_box (v := (.agg #[(.slice a l.length c)])) (c := #[(.slice a l.length c)]) (by decide) rfl rfl ?_
 intro bs ws Ns
 have Fs := Ns.ge E
 have Os_br := Ns.lt Br
 replace Br := Ns.keep Br
 replace E := E.ext Ns.ext
 have Bs := Ns.blk
 have hne : br < bs := by omega
 have hz1 := Br.lt
 have hz2 := E.size
 refine WpL_enter rfl rfl (by decide) (r_callF (vs := [(P6 bs 0), (I6 4), (I6 8)]) Tryz.func78 nm78 bd78 rfl) (gen_c wr bs 8 (by omega) (by have := Ns.eq; omega) 4 (by decide) ws l Ns.ext ⟨a, c, Bs, hl.ext Nr.ext⟩) ?_
 rintro _ w9 ⟨t, us, l', rfl, hg, hs, ht, hS, C9⟩
 replace Br := C9.keep (by omega) Br
 replace E := E.step C9 (by intro x hx hm; omega)
 obtain ⟨sa, sc, aa, ac, rfl, _, _, _⟩ := ht.form
 refine s_storeAgg (b := br) (o := 0) (c' := (R6 t sa sc aa ac)) rfl rfl (by simp [Value.oneCell']) siz25 rfl Br (by first | (simp; done) | exact Nat.le_of_ble_eq_true rfl) rfl ?_
 intro w1 S1
 replace ht := ReIn.chg S1.chg (fun x hx hm => by have hx' := hx; have hm' : x = br := hm; omega) t ht
 replace E := S1.step E (by first | exact Or.inl (by omega) | exact Or.inr rfl | exact Or.inr (by assumption) | exact Or.inr (by simp) | exact Or.inr (by omega) | exact Or.inr (by dsimp only; omega))
 replace Br := S1.blk
 refine WpL_nil (Wp_ret ?_)
 refine fin_agg Tryz.results22 (vs := [(.int .i64 t.kind), (.slice sa t.set.length sc), (.slice aa t.args.length ac), (.int .i64 t.mn), (.int .i64 t.mx), (.bool t.neg)]) (b := br) rfl agg25 siz25 rfl (Br.cells rfl) ?_
 exact ⟨t, _, rfl, hg, by omega, ReIn.mono (fun b (h : _ ≤ b) => by omega) t ht, E⟩
theorem r_min2 {P : Program} {σ : Env} {w : World} {dst : Option Tmp} {ty : TypeId} {pos : String} {af : Array Edge} {g : Option (Nat × Bool)} {tys : Array TypeId} {x y : Operand} {k : IntKind} {a b c : Int} (hx : ev σ x = .int k a) (hy : ev σ y = .int k b) (hc : min a b = c) :
  (execOp (ev σ) ⟨dst, .call ⟨.builtin .min, #[x, y], tys⟩, ty, pos, af, g⟩).run P w = .ok (.value (.int k c)) w := by
 subst hc
 have : (if b < a then b else a) = min a b := by split <;> omega
 simp [execOp, resolve, invoke, builtin, Builtin.min_, Builtin.min2, hx, hy, this]
end Go.Proofs
namespace Go.Eng
open Go
abbrev TRe : Nat := 25
mutual
def Tree (Z : Nat → Prop) (w : World) : Re → List Value → (Nat → Prop) → Prop
  | .mk k set args mn mx ng, vs, L => ∃ sa sc aa ac, vs = [.int .i64 k, .slice sa set.length sc, .slice aa args.length ac, .int .i64 mn, .int .i64 mx, .bool ng] ∧ SlIn Z w 2 (.slice sa set.length sc) (set.map spanV) ∧ (args.length ≤ ac ∧ ac ≤ 9223372036854775807) ∧
      (args = [] ∨ ∃ b rows rest L', L b ∧ aa = some ⟨b, 0, none⟩ ∧ Blk w b (rows.flatten ++ rest).toArray TRe ∧ (∀ r ∈ rows, r.length = 6) ∧ Trees Z w args rows L' ∧ (∀ x, L' x → L x ∧ x ≠ b))
def Trees (Z : Nat → Prop) (w : World) : List Re → List (List Value) → (Nat → Prop) → Prop
  | [], rows, _ => rows = []
  | t :: ts, rows, L => ∃ vs rs L1 L2, rows = vs :: rs ∧ Tree Z w t vs L1 ∧ Trees Z w ts rs L2 ∧ (∀ x, L1 x → L x ∧ ¬ L2 x) ∧ (∀ x, L2 x → L x)
end
mutual
theorem Tree.chg {Z M : Nat → Prop} {w w' : World} (c : Chg M w w') (hz : ∀ b, Z b → ¬ M b) : ∀ (t : Re) {vs : List Value} {L : Nat → Prop}, (∀ b, L b → ¬ M b) → Tree Z w t vs L → Tree Z w' t vs L
  | .mk k set args mn mx ng, vs, L, hl, h => by
    simp only [Tree] at h ⊢
    obtain ⟨sa, sc, aa, ac, hv, hs, hn, ha⟩ := h
    refine ⟨sa, sc, aa, ac, hv, hs.chg c hz, hn, ?_⟩
    rcases ha with h | ⟨b, rows, rest, L', h1, h2, h3, h4, h5, h6⟩
    · exact .inl h
    · exact .inr ⟨b, rows, rest, L', h1, h2, c.keep (hl b h1) h3, h4, Trees.chg c hz args (fun x hx => hl x (h6 x hx).1) h5, h6⟩
theorem Trees.chg {Z M : Nat → Prop} {w w' : World} (c : Chg M w w') (hz : ∀ b, Z b → ¬ M b) : ∀ (ts : List Re) {rows : List (List Value)} {L : Nat → Prop}, (∀ b, L b → ¬ M b) → Trees Z w ts rows L → Trees Z w' ts rows L
  | [], _, _, _, h => by simp only [Trees] at h ⊢; exact h
  | t :: ts, rows, L, hl, h => by
    simp only [Trees] at h ⊢
    obtain ⟨vs, rs, L1, L2, h1, h2, h3, h4, h5⟩ := h
    exact ⟨vs, rs, L1, L2, h1, Tree.chg c hz t (fun x hx => hl x (h4 x hx).1) h2, Trees.chg c hz ts (fun x hx => hl x (h5 x hx)) h3, h4, h5⟩
end
theorem Tree.ext {Z : Nat → Prop} {w w' : World} (e : Ext w w') (t : Re) {vs : List Value} {L : Nat → Prop} (h : Tree Z w t vs L) : Tree Z w' t vs L := Tree.chg e (fun _ _ f => f) t (fun _ _ f => f) h
theorem Trees.ext {Z : Nat → Prop} {w w' : World} (e : Ext w w') (ts : List Re) {rows : List (List Value)} {L : Nat → Prop} (h : Trees Z w ts rows L) : Trees Z w' ts rows L := Trees.chg e (fun _ _ f => f) ts (fun _ _ f => f) h
mutual
theorem Tree.mono {Z Z' : Nat → Prop} {w : World} (hz : ∀ b, Z b → Z' b) : ∀ (t : Re) {vs : List Value} {L L' : Nat → Prop}, (∀ b, L b → L' b) → Tree Z w t vs L → Tree Z' w t vs L'
  | .mk k set args mn mx ng, vs, L, L', hl, h => by
    simp only [Tree] at h ⊢
    obtain ⟨sa, sc, aa, ac, hv, hs, hn, ha⟩ := h
    refine ⟨sa, sc, aa, ac, hv, hs.mono hz, hn, ?_⟩
    rcases ha with h | ⟨b, rows, rest, K, h1, h2, h3, h4, h5, h6⟩
    · exact .inl h
    · exact .inr ⟨b, rows, rest, K, hl b h1, h2, h3, h4, Trees.mono hz args (fun _ h => h) h5, fun x hx => ⟨hl x (h6 x hx).1, (h6 x hx).2⟩⟩
theorem Trees.mono {Z Z' : Nat → Prop} {w : World} (hz : ∀ b, Z b → Z' b) : ∀ (ts : List Re) {rows : List (List Value)} {L L' : Nat → Prop}, (∀ b, L b → L' b) → Trees Z w ts rows L → Trees Z' w ts rows L'
  | [], _, _, _, _, h => by simp only [Trees] at h ⊢; exact h
  | t :: ts, rows, L, L', hl, h => by
    simp only [Trees] at h ⊢
    obtain ⟨vs, rs, L1, L2, h1, h2, h3, h4, h5⟩ := h
    exact ⟨vs, rs, L1, L2, h1, Tree.mono hz t (fun _ h => h) h2, Trees.mono hz ts (fun _ h => h) h3, fun x hx => ⟨hl x (h4 x hx).1, (h4 x hx).2⟩, fun x hx => hl x (h5 x hx)⟩
end
theorem Tree.form {Z : Nat → Prop} {w : World} {t : Re} {vs : List Value} {L : Nat → Prop} (h : Tree Z w t vs L) : ∃ sa sc aa ac, vs = [.int .i64 t.kind, .slice sa t.set.length sc, .slice aa t.args.length ac, .int .i64 t.mn, .int .i64 t.mx, .bool t.neg] ∧ SlIn Z w 2 (.slice sa t.set.length sc) (t.set.map spanV) ∧ (t.args.length ≤ ac ∧ ac ≤ 9223372036854775807) ∧
   (t.args = [] ∨ ∃ b rows rest L', L b ∧ aa = some ⟨b, 0, none⟩ ∧ Blk w b (rows.flatten ++ rest).toArray TRe ∧ (∀ r ∈ rows, r.length = 6) ∧ Trees Z w t.args rows L' ∧ (∀ x, L' x → L x ∧ x ≠ b)) := by
 cases t; simp only [Tree] at h; exact h
theorem Tree.len {Z : Nat → Prop} {w : World} {t : Re} {vs : List Value} {L : Nat → Prop} (h : Tree Z w t vs L) : vs.length = 6 := by
 obtain ⟨_, _, _, _, rfl, _⟩ := h.form; rfl
theorem Tree.one {Z : Nat → Prop} {w : World} {t : Re} {vs : List Value} {L : Nat → Prop} (h : Tree Z w t vs L) : ∀ u ∈ vs, u.oneCell' = true := by
 obtain ⟨_, _, _, _, rfl, _⟩ := h.form
 simp [Value.oneCell']
theorem Trees.len {Z : Nat → Prop} {w : World} : ∀ {ts : List Re} {rows : List (List Value)} {L : Nat → Prop}, Trees Z w ts rows L → rows.length = ts.length
  | [], _, _, h => by simp only [Trees] at h; subst h; rfl
  | t :: ts, rows, L, h => by
    simp only [Trees] at h
    obtain ⟨vs, rs, L1, L2, rfl, _, h3, _⟩ := h
    simp [Trees.len h3]
theorem Trees.six {Z : Nat → Prop} {w : World} : ∀ {ts : List Re} {rows : List (List Value)} {L : Nat → Prop}, Trees Z w ts rows L → ∀ r ∈ rows, r.length = 6
  | [], _, _, h => by simp only [Trees] at h; subst h; simp
  | t :: ts, rows, L, h => by
    simp only [Trees] at h
    obtain ⟨vs, rs, L1, L2, rfl, h2, h3, _⟩ := h
    intro r hr
    rcases List.mem_cons.1 hr with rfl | hr
    · exact h2.len
    · exact Trees.six h3 r hr
theorem Trees.snoc {Z : Nat → Prop} {w : World} {t : Re} {vs : List Value} {K : Nat → Prop} (ht : Tree Z w t vs K) : ∀ {ts : List Re} {rows : List (List Value)} {L : Nat → Prop}, Trees Z w ts rows L → (∀ x, L x → ¬ K x) → Trees Z w (ts ++ [t]) (rows ++ [vs]) (fun x => L x ∨ K x)
  | [], rows, L, h, hd => by
    simp only [Trees] at h
    subst h
    simp only [List.nil_append, Trees]
    exact ⟨vs, [], K, fun _ => False, rfl, ht, rfl, fun x hx => ⟨.inr hx, fun f => f⟩, fun x f => f.elim⟩
  | u :: ts, rows, L, h, hd => by
    simp only [Trees] at h
    obtain ⟨us, rs, L1, L2, rfl, h2, h3, h4, h5⟩ := h
    have := Trees.snoc ht h3 fun x hx => hd x (h5 x hx)
    simp only [List.cons_append, Trees]
    exact ⟨us, rs ++ [vs], L1, _, rfl, h2, this, fun x hx => ⟨.inl (h4 x hx).1, fun hh => hh.elim (h4 x hx).2 (hd x (h4 x hx).1)⟩, fun x hx => hx.elim (fun h => .inl (h5 x h)) .inr⟩
theorem rows_cells {rows : List (List Value)} {rest : List Value} {k : Nat} (hk : ∀ r ∈ rows, r.length = k) : ∀ {i : Nat} {r : List Value}, rows[i]? = some r → ∀ (j : Nat) (u : Value), r[j]? = some u → (rows.flatten ++ rest)[i * k + j]? = some u := by
  induction rows with
  | nil => intro i r h; simp at h
  | cons x rs ih =>
    intro i r hr j u hu
    have hx : x.length = k := hk x (by simp)
    cases i with
    | zero =>
      simp at hr; subst hr
      have hj := lt_of_get hu
      simp only [List.flatten_cons, Nat.zero_mul, Nat.zero_add, List.append_assoc]
      rw [List.getElem?_append_left hj]; exact hu
    | succ i =>
      simp at hr
      simp only [List.flatten_cons, List.append_assoc]
      rw [List.getElem?_append_right (by rw [hx, Nat.succ_mul]; omega)]
      rw [show (i + 1) * k + j - x.length = i * k + j from by rw [hx, Nat.succ_mul]; omega]
      exact ih (fun r hr => hk r (by simp [hr])) hr j u hu
theorem rows_at {w : World} {b T k : Nat} {rows : List (List Value)} {rest : List Value} (h : Blk w b (rows.flatten ++ rest).toArray T) (hk : ∀ r ∈ rows, r.length = k) {i : Nat} {r : List Value} (hr : rows[i]? = some r) : CellsAt w b (i * k) r := by
 intro j u hu
 exact h.cell (by simpa using rows_cells hk hr j u hu)
theorem rows_set {k : Nat} {v : List Value} (hv : v.length = k) : ∀ {rows : List (List Value)} {rest : List Value} {i : Nat}, (∀ r ∈ rows, r.length = k) → i < rows.length → (rows.flatten ++ rest).take (i * k) ++ v ++ (rows.flatten ++ rest).drop (i * k + k) = (rows.set i v).flatten ++ rest
  | [], _, _, _, hi => by simp at hi
  | x :: rs, rest, 0, hk, hi => by
    have hx : x.length = k := hk x (by simp)
    simp only [List.flatten_cons, Nat.zero_mul, List.take_zero, Nat.zero_add, List.set_cons_zero, List.nil_append, List.append_assoc]
    rw [List.drop_append_of_le_length (by omega), List.drop_of_length_le (by omega)]; simp
  | x :: rs, rest, i + 1, hk, hi => by
    have hx : x.length = k := hk x (by simp)
    have ih := rows_set hv (rows := rs) (rest := rest) (i := i) (fun r hr => hk r (by simp [hr])) (by simpa using hi)
    simp only [List.flatten_cons, List.set_cons_succ, List.append_assoc] at ih ⊢
    rw [← ih, Nat.succ_mul]
    have e1 : ∀ (A : List Value) (m : Nat), (x ++ A).take (x.length + m) = x ++ A.take m := fun A m => by rw [List.take_append, List.take_of_length_le (by omega), Nat.add_sub_cancel_left]
    have e2 : ∀ (A : List Value) (m : Nat), (x ++ A).drop (x.length + m) = A.drop m := fun A m => by rw [List.drop_append, List.drop_of_length_le (by omega), Nat.add_sub_cancel_left, List.nil_append]
    rw [show i * k + k = x.length + i * k from by omega, e1, show x.length + i * k + k = x.length + (i * k + k) from by omega, e2]
    rw [List.append_assoc, show x.length + i * k = i * k + k from by omega]
theorem rows_len {k : Nat} : ∀ {rows : List (List Value)}, (∀ r ∈ rows, r.length = k) → rows.flatten.length = rows.length * k
  | [], _ => by simp
  | x :: rs, h => by
    have := rows_len (rows := rs) (fun r hr => h r (by simp [hr]))
    have hx : x.length = k := h x (by simp)
    simp only [List.flatten_cons, List.length_append, List.length_cons, this, hx, Nat.succ_mul]; omega
theorem resin_of {S : Nat → Prop} {w : World} {b : Nat} : ∀ {ts : List Re} {o : Nat}, (∀ i t, ts[i]? = some t → ∃ vs, CellsAt w b (o + i * 6) vs ∧ ReIn S w t vs) → ResIn S w b o ts
  | [], _, _ => by simp only [ResIn]
  | t :: ts, o, h => by
    simp only [ResIn]
    refine ⟨by simpa using h 0 t rfl, resin_of fun i u hu => ?_⟩
    have := h (i + 1) u (by simpa using hu)
    rwa [show o + (i + 1) * 6 = o + 6 + i * 6 from by omega] at this
end Go.Eng
namespace Go.Proofs
open Go Go.Eng
set_option maxRecDepth 100000
def RsAt (w : World) (v : Value) (ts : List Re) : Prop := ∃ aa ac, v = .slice aa ts.length ac ∧ (ts.length ≤ ac ∧ ac ≤ 9223372036854775807) ∧ (ts = [] ∨ ∃ b o, aa = some ⟨b, o, none⟩ ∧ ResAt w b o ts)
theorem RsAt.ext {w w' : World} {v : Value} {ts : List Re} (h : RsAt w v ts) (e : Ext w w') : RsAt w' v ts := by
 obtain ⟨aa, ac, h1, h2, h3⟩ := h
 refine ⟨aa, ac, h1, h2, ?_⟩
 rcases h3 with h | ⟨b, o, h4, h5⟩
 ·exact .inl h
 ·exact .inr ⟨b, o, h4, ResAt.ext e ts h5⟩
theorem RsAt.cells {w : World} {aa : Option Addr} {n ac : Nat} {ts : List Re} (h : RsAt w (.slice aa n ac) ts) (hn : 0 < n) : ∃ b o, aa = some ⟨b, o, none⟩ ∧ ∀ i t, ts[i]? = some t → ∃ vs, CellsAt w b (o + i * 6) vs ∧ ReAt w t vs := by
 obtain ⟨aa', ac', h1, h2, h3⟩ := h
 simp only [Value.slice.injEq] at h1
 obtain ⟨rfl, rfl, rfl⟩ := h1
 rcases h3 with rfl | ⟨b, o, h4, h5⟩
 ·simp at hn
 ·exact ⟨b, o, h4, fun i t ht => ResAt.get h5 ht⟩
theorem ReAt.rs {w : World} {t : Re} {sa aa : Option Addr} {k m x : Int} {n sc n' ac : Nat} {ng : Bool} (h : ReAt w t [.int .i64 k, .slice sa n sc, .slice aa n' ac, .int .i64 m, .int .i64 x, .bool ng]) : RsAt w (.slice aa n' ac) t.args := by
 obtain ⟨sa', sc', aa', ac', hv, _, h2, h3⟩ := h.form
 simp at hv
 obtain ⟨_, _, ⟨rfl, rfl, rfl⟩, _⟩ := hv
 exact ⟨_, _, rfl, h2, h3⟩
theorem sameT_eq (t u : Re) : sameT t u = (decide (t.kind = u.kind) && decide (t.set = u.set) && decide (t.mn = u.mn) && decide (t.mx = u.mx) && decide (t.neg = u.neg) && sameTs t.args u.args) := by
 cases t; cases u; simp only [sameT, Re.kind, Re.set, Re.args, Re.mn, Re.mx, Re.neg]; try rfl
set_option maxHeartbeats 1000000 in
theorem eqf_c (w0 : World) (v1 v2 fv : Value) (l1 l2 : List Re) (h1 : RsAt w0 v1 l1) (h2 : RsAt w0 v2 l2)
  (hf : ∀ (w : World) (x u : Re) (vs us : List Value), Ext w0 w → x ∈ l1 → ReAt w x vs → ReAt w u us → CallV Tryz.prog fv #[.agg vs.toArray, .agg us.toArray] w fun r w' => r = .bool (sameT x u) ∧ Ext w w') :
  Ret Tryz.prog 81 #[v1, v2, fv] w0 fun v w => v = .bool (sameTs l1 l2) ∧ Ext w0 w := by
 have g1 := h1
 have g2 := h2
 obtain ⟨a1, c1, rfl, hb1, _⟩ := h1
 obtain ⟨a2, c2, rfl, hb2, _⟩ := h2
 refine Ret_of Tryz.func81 rfl Tryz.ntmps81 (Nat.le_of_ble_eq_true rfl) ?_
 have E : Chg none1 w0 w0 := Chg.refl _ _
 refine Wp_seq_region ?_
 refine qA (.bool false) rfl ?_
 refine WpL_nil (Wp_seq (Wp_seq_region ?_))
 refine qM (.slice a1 l1.length c1) rfl ?_
 refine qV (r_lenSlice (ad := a1) (n := l1.length) (cap := c1) Tryz.underlying23 rfl) ?_
 refine qM (.slice a2 l2.length c2) rfl ?_
 refine qV (r_lenSlice (ad := a2) (n := l2.length) (cap := c2) Tryz.underlying23 rfl) ?_
 refine qV (r_neq (k := .i64) (a := (l1.length : Int)) (b := (l2.length : Int)) rfl rfl) ?_
 refine WpL_nil ?_
 refine Wp_cond (b := decide (((l1.length : Int) : Int) ≠ (l2.length : Int))) rfl (fun hl => ?_) (fun hl => ?_)
 ·have khl := hl
  replace hl := of_decide_eq_true hl
  refine Wp_seq_region ?_
  refine qA (.bool false) rfl ?_
  refine WpL_nil (Wp_ret (thn_ret ?_))
  refine fin_tmp Tryz.results81 (v := (.bool false)) rfl ?_
  exact ⟨bool_eq (by symm; rw [← Bool.not_eq_true, sameTs_iff]; intro h; rw [h] at hl; exact hl rfl), E⟩
 ·have khl := hl
  replace hl := of_decide_eq_false hl
  refine Wp_skip (thn_normal (Wp_seq (Wp_seq_region ?_)))
  refine qM (.slice a1 l1.length c1) rfl ?_
  refine qV (r_lenSlice (ad := a1) (n := l1.length) (cap := c1) Tryz.underlying23 rfl) ?_
  refine qM (I6 0) rfl ?_
  refine WpL_nil (Wp_block ?_)
  refine Wp_loop (fun nn_ σ W2 => ∃ (k : Nat), (∃ jj_, σ = upds jj_ [(1, (.slice a2 l2.length c2)), (2, fv), (15, (.slice a1 l1.length c1)), (16, (I6 (l1.length : Int))), (17, (I6 (k : Int)))]) ∧ Chg none1 w0 W2 ∧ (k ≤ l1.length) ∧ (∀ (i : Nat), i < k → l1[i]? = l2[i]?) ∧ nn_ = l1.length - k) (n := l1.length - 0) ?_ ?_
  ·exact ⟨0, Fits.out ⟨rfl, rfl, rfl, rfl, rfl, trivial⟩, E, Nat.zero_le _, (fun i h => absurd h (Nat.not_lt_zero _)), rfl⟩
  ·clear E
   rintro _ _ W2 ⟨k, ⟨j2, rfl⟩, E, hk, heq, rfl⟩
   refine Wp_seq_region ?_
   refine qV (r_lss (k := .i64) (a := (k : Int)) (b := (l1.length : Int)) rfl rfl) ?_
   refine WpL_nil (Wp_seq ?_)
   refine Wp_cond (b := decide (((k : Int) : Int) < (l1.length : Int))) rfl (fun hlt => ?_) (fun hlt => ?_)
   ·have khlt := hlt
    replace hlt := of_decide_eq_true hlt
    obtain ⟨p, hp⟩ := get_of_lt (l := l1) (i := k) (by omega)
    obtain ⟨q, hq⟩ := get_of_lt (l := l2) (i := k) (by omega)
    obtain ⟨b1, o1, rfl, hc1⟩ := g1.cells (by omega)
    obtain ⟨b2, o2, rfl, hc2⟩ := g2.cells (by omega)
    obtain ⟨vs, hcv, hpv⟩ := hc1 k p hp
    obtain ⟨us, hcu, hqu⟩ := hc2 k q hq
    have hpv0 := hpv
    have hqu0 := hqu
    obtain ⟨sa, sc, aa, ac, rfl, _, _, _⟩ := hpv.form
    obtain ⟨sa2, sc2, aa2, ac2, rfl, _, _, _⟩ := hqu.form
    refine Wp_skip (thn_normal (Wp_seq (Wp_block (Wp_seq_region ?_))))
    refine qM (I6 (k : Int)) rfl ?_
    refine qV (r_indexSlice (b := b1) (o := o1) (len := l1.length) (cap := c1) (i := k) (o' := o1 + k * 6) rfl rfl rfl Tryz.underlying23 siz25 (by omega) (by omega)) ?_
    refine qV (r_loadAgg (vs := [(I6 p.kind), (.slice sa p.set.length sc), (.slice aa p.args.length ac), (I6 p.mn), (I6 p.mx), (.bool p.neg)]) rfl agg25 siz25 rfl (hcv.ext E)) ?_
    refine s_alloc (c := #[(I6 0), (.slice none 0 0), (.slice none 0 0), (I6 0), (I6 0), (.bool false)]) (by decide) zer25 rfl ?_
    intro bp wp Np
    have Fp := Np.ge E
    replace E := E.ext Np.ext
    have Bp := Np.blk
    refine qA (I6 (k : Int)) rfl ?_
    refine s_storeAgg (b := bp) (o := 0) (c' := (R6 p sa sc aa ac)) rfl rfl (by simp [Value.oneCell']) siz25 rfl Bp (by first | (simp; done) | exact Nat.le_of_ble_eq_true rfl) rfl ?_
    intro w4 S4
    replace E := S4.step E (by first | exact Or.inl (by omega) | exact Or.inr rfl | exact Or.inr (by assumption) | exact Or.inr (by simp) | exact Or.inr (by omega) | exact Or.inr (by dsimp only; omega))
    replace Bp := S4.blk
    refine WpL_nil (Wp_seq_region ?_)
    refine qM (.slice (some ⟨b2, o2, none⟩) l2.length c2) rfl ?_
    refine qM (I6 (k : Int)) rfl ?_
    refine qV (r_indexSlice (b := b2) (o := o2) (len := l2.length) (cap := c2) (i := k) (o' := o2 + k * 6) rfl rfl rfl Tryz.underlying23 siz25 (by omega) (by omega)) ?_
    refine qV (r_loadAgg (vs := [(I6 q.kind), (.slice sa2 q.set.length sc2), (.slice aa2 q.args.length ac2), (I6 q.mn), (I6 q.mx), (.bool q.neg)]) rfl agg25 siz25 rfl (hcu.ext E)) ?_
    refine s_allocStore (v := (.agg (R6 q sa2 sc2 aa2 ac2))) (c := (R6 q sa2 sc2 aa2 ac2)) (n := 6) (by decide) zer25 rfl siz25 rfl rfl rfl (by simp [Value.oneCell']) ?_
    intro bq wq Nq
    have Fq := Nq.ge E
    have Oq_bp := Nq.lt Bp
    replace Bp := Nq.keep Bp
    replace E := E.ext Nq.ext
    have Bq := Nq.blk
    refine WpL_nil (Wp_seq_region ?_)
    refine qM fv rfl ?_
    refine qV (r_loadAgg (vs := [(I6 p.kind), (.slice sa p.set.length sc), (.slice aa p.args.length ac), (I6 p.mn), (I6 p.mx), (.bool p.neg)]) rfl agg25 siz25 rfl (Bp.cells rfl)) ?_
    refine qV (r_loadAgg (vs := [(I6 q.kind), (.slice sa2 q.set.length sc2), (.slice aa2 q.args.length ac2), (I6 q.mn), (I6 q.mx), (.bool q.neg)]) rfl agg25 siz25 rfl (Bq.cells rfl)) ?_
    refine WpL_callV (fv := fv) (vs := [(.agg (R6 p sa sc aa ac)), (.agg (R6 q sa2 sc2 aa2 ac2))]) (by decide) rfl rfl (hf _ p q _ _ E (List.mem_of_getElem? hp) (ReAt.ext E p hpv0) (ReAt.ext E q hqu0)) ?_
    rintro _ w9 ⟨rfl, X9⟩
    replace Bp := X9.keep Bp
    replace Bq := X9.keep Bq
    replace E := E.ext X9
    refine qV (r_not (b := sameT p q) rfl) ?_
    refine WpL_nil ?_
    refine Wp_cond (b := !(sameT p q)) rfl (fun hpq => ?_) (fun hpq => ?_)
    ·have khpq := hpq
     replace hpq := by simpa using hpq
     refine Wp_seq_region ?_
     refine qA (.bool false) rfl ?_
     refine WpL_nil (Wp_ret (inB_ret (thn_ret (thn_ret (inB_ret (thn_ret ?_))))))
     refine fin_tmp Tryz.results81 (v := (.bool false)) rfl ?_
     exact ⟨bool_eq (by symm; rw [← Bool.not_eq_true, sameTs_iff]; intro h; subst h; rw [hp] at hq; cases hq; rw [(sameT_iff p p).2 rfl] at hpq; cases hpq), E⟩
    ·have khpq := hpq
     replace hpq := by simpa using hpq
     have hpq2 : p = q := (sameT_iff p q).1 (by simpa using hpq)
     refine Wp_skip (inB_normal (thn_normal (Wp_region ?_)))
     refine qV (r_add (k := .i64) (a := (k : Int)) (b := 1) (c := (k : Int) + 1) rfl rfl (wI64 (by omega))) ?_
     refine qM (I6 ((k : Int) + 1)) rfl ?_
     refine WpL_nil (thn_normal ?_)
     exact ⟨l1.length - (k + 1), by omega, k + 1, Fits.out ⟨rfl, rfl, rfl, rfl, rfl, trivial⟩, E, (by omega), (fun i hi => by rcases Nat.lt_or_ge i k with h | h; exact heq i h; obtain rfl : i = k := (by omega); rw [hp, hq, hpq2]), rfl⟩
   ·have khlt := hlt
    replace hlt := of_decide_eq_false hlt
    have hkk : k = l1.length := by omega
    refine Wp_exit (thn_exit (thn_exit (inB_here (thn_normal (Wp_seq_region ?_)))))
    refine qA (.bool true) rfl ?_
    refine WpL_nil (Wp_ret ?_)
    refine fin_tmp Tryz.results81 (v := (.bool true)) rfl ?_
    exact ⟨bool_eq (by symm; rw [sameTs_iff]; exact get_ext (by omega) (fun i hi => heq i (by omega))), E⟩
set_option maxHeartbeats 1000000 in
theorem resame_c : ∀ (n : Nat) (t u : Re) (w0 : World) (vs us : List Value), t.size ≤ n → ReAt w0 t vs → ReAt w0 u us →
    Ret Tryz.prog 25 #[.agg vs.toArray, .agg us.toArray] w0 fun v w => v = .bool (sameT t u) ∧ Ext w0 w := by
  intro n
  induction n with
  | zero => intro t u w0 vs us hn; have := t.size_pos; omega
  | succ n ih =>
  intro t u w0 vs us hn ht hu
  have ht0 := ht
  have hu0 := hu
  obtain ⟨sa, sc, aa, ac, rfl, hts, _, _⟩ := ht.form
  obtain ⟨sa2, sc2, aa2, ac2, rfl, hus, _, _⟩ := hu.form
  have hF : sameT t u = (decide (t.kind = u.kind) && decide (t.set = u.set) && decide (t.mn = u.mn) && decide (t.mx = u.mx) && decide (t.neg = u.neg) && sameTs t.args u.args) := sameT_eq t u
  refine Ret_of Tryz.func25 rfl Tryz.ntmps25 (Nat.le_of_ble_eq_true rfl) ?_
  have E : Chg none1 w0 w0 := Chg.refl _ _
  refine Wp_seq_region ?_
  refine s_box (v := (.agg (R6 t sa sc aa ac))) (c := (R6 t sa sc aa ac)) (by decide) rfl rfl ?_
  intro b1 w1 N1
  have F1 := N1.ge E
  replace E := E.ext N1.ext
  have B1 := N1.blk
  refine s_box (v := (.agg (R6 u sa2 sc2 aa2 ac2))) (c := (R6 u sa2 sc2 aa2 ac2)) (by decide) rfl rfl ?_
  intro b2 w2 N2
  have F2 := N2.ge E
  have O2_b1 := N2.lt B1
  replace B1 := N2.keep B1
  replace E := E.ext N2.ext
  have B2 := N2.blk
  refine qA (.bool false) rfl ?_
  refine WpL_nil (Wp_seq_region ?_)
  refine qF b1 0 0 rfl Tryz.underlying25 rfl siz3 rfl ?_
  refine qV (r_load (v := (I6 t.kind)) rfl flat3 (B1.cell rfl)) ?_
  refine qF b2 0 0 rfl Tryz.underlying25 rfl siz3 rfl ?_
  refine qV (r_load (v := (I6 u.kind)) rfl flat3 (B2.cell rfl)) ?_
  refine qV (r_eql (k := .i64) (a := t.kind) (b := u.kind) rfl rfl) ?_
  refine qM (.bool (decide ((t.kind : Int) = u.kind))) rfl ?_
  rcases Bool.eq_false_or_eq_true (decide ((t.kind : Int) = u.kind)) with g1 | g1
  · have kg1 := g1
    replace kg1 := of_decide_eq_true kg1
    refine WpL_guard_yes (oj := _) rfl rfl (by decide) (congrArg Value.bool g1) ?_
    refine qF b1 0 1 rfl Tryz.underlying25 rfl siz22 rfl ?_
    refine WpL_guard_yes (oj := _) rfl rfl (by decide) (congrArg Value.bool g1) ?_
    refine qV (r_load (v := (.slice sa t.set.length sc)) rfl flat22 (B1.cell rfl)) ?_
    refine WpL_guard_yes (oj := _) rfl rfl (by decide) (congrArg Value.bool g1) ?_
    refine qF b2 0 1 rfl Tryz.underlying25 rfl siz22 rfl ?_
    refine WpL_guard_yes (oj := _) rfl rfl (by decide) (congrArg Value.bool g1) ?_
    refine qV (r_load (v := (.slice sa2 u.set.length sc2)) rfl flat22 (B2.cell rfl)) ?_
    refine WpL_guard_yes (oj := _) rfl rfl (by decide) (congrArg Value.bool g1) ?_
    refine WpL_enter rfl rfl (by decide) (r_callF (vs := [(.slice sa t.set.length sc), (.slice sa2 u.set.length sc2)]) Tryz.func80 nm80 bd80 rfl) (speq_c _ _ _ t.set u.set (SlAt.ext hts E) (SlAt.ext hus E)) ?_
    rintro _ w9 ⟨rfl, X9⟩
    replace B1 := X9.keep B1
    replace B2 := X9.keep B2
    replace E := E.ext X9
    refine qV (r_pick (b := decide ((t.kind : Int) = u.kind)) (v := (.bool (decide (t.set = u.set)))) rfl (by rw [g1]; rfl)) ?_
    refine qM (.bool (decide (t.set = u.set))) rfl ?_
    rcases Bool.eq_false_or_eq_true (decide (t.set = u.set)) with g2 | g2
    · have kg2 := g2
      replace kg2 := of_decide_eq_true kg2
      refine WpL_guard_yes (oj := _) rfl rfl (by decide) (congrArg Value.bool g2) ?_
      refine qF b1 0 3 rfl Tryz.underlying25 rfl siz3 rfl ?_
      refine WpL_guard_yes (oj := _) rfl rfl (by decide) (congrArg Value.bool g2) ?_
      refine qV (r_load (v := (I6 t.mn)) rfl flat3 (B1.cell rfl)) ?_
      refine WpL_guard_yes (oj := _) rfl rfl (by decide) (congrArg Value.bool g2) ?_
      refine qF b2 0 3 rfl Tryz.underlying25 rfl siz3 rfl ?_
      refine WpL_guard_yes (oj := _) rfl rfl (by decide) (congrArg Value.bool g2) ?_
      refine qV (r_load (v := (I6 u.mn)) rfl flat3 (B2.cell rfl)) ?_
      refine WpL_guard_yes (oj := _) rfl rfl (by decide) (congrArg Value.bool g2) ?_
      refine qV (r_eql (k := .i64) (a := t.mn) (b := u.mn) rfl rfl) ?_
      refine qV (r_pick (b := decide (t.set = u.set)) (v := (.bool (decide ((t.mn : Int) = u.mn)))) rfl (by rw [g2]; rfl)) ?_
      refine qM (.bool (decide ((t.mn : Int) = u.mn))) rfl ?_
      rcases Bool.eq_false_or_eq_true (decide ((t.mn : Int) = u.mn)) with g3 | g3
      · have kg3 := g3
        replace kg3 := of_decide_eq_true kg3
        refine WpL_guard_yes (oj := _) rfl rfl (by decide) (congrArg Value.bool g3) ?_
        refine qF b1 0 4 rfl Tryz.underlying25 rfl siz3 rfl ?_
        refine WpL_guard_yes (oj := _) rfl rfl (by decide) (congrArg Value.bool g3) ?_
        refine qV (r_load (v := (I6 t.mx)) rfl flat3 (B1.cell rfl)) ?_
        refine WpL_guard_yes (oj := _) rfl rfl (by decide) (congrArg Value.bool g3) ?_
        refine qF b2 0 4 rfl Tryz.underlying25 rfl siz3 rfl ?_
        refine WpL_guard_yes (oj := _) rfl rfl (by decide) (congrArg Value.bool g3) ?_
        refine qV (r_load (v := (I6 u.mx)) rfl flat3 (B2.cell rfl)) ?_
        refine WpL_guard_yes (oj := _) rfl rfl (by decide) (congrArg Value.bool g3) ?_
        refine qV (r_eql (k := .i64) (a := t.mx) (b := u.mx) rfl rfl) ?_
        refine qV (r_pick (b := decide ((t.mn : Int) = u.mn)) (v := (.bool (decide ((t.mx : Int) = u.mx)))) rfl (by rw [g3]; rfl)) ?_
        refine qM (.bool (decide ((t.mx : Int) = u.mx))) rfl ?_
        rcases Bool.eq_false_or_eq_true (decide ((t.mx : Int) = u.mx)) with g4 | g4
        · have kg4 := g4
          replace kg4 := of_decide_eq_true kg4
          refine WpL_guard_yes (oj := _) rfl rfl (by decide) (congrArg Value.bool g4) ?_
          refine qF b1 0 5 rfl Tryz.underlying25 rfl siz4 rfl ?_
          refine WpL_guard_yes (oj := _) rfl rfl (by decide) (congrArg Value.bool g4) ?_
          refine qV (r_load (v := (.bool t.neg)) rfl flat4 (B1.cell rfl)) ?_
          refine WpL_guard_yes (oj := _) rfl rfl (by decide) (congrArg Value.bool g4) ?_
          refine qF b2 0 5 rfl Tryz.underlying25 rfl siz4 rfl ?_
          refine WpL_guard_yes (oj := _) rfl rfl (by decide) (congrArg Value.bool g4) ?_
          refine qV (r_load (v := (.bool u.neg)) rfl flat4 (B2.cell rfl)) ?_
          refine WpL_guard_yes (oj := _) rfl rfl (by decide) (congrArg Value.bool g4) ?_
          refine qV (r_eqlB (p := t.neg) (q := u.neg) Tryz.underlying4 rfl rfl) ?_
          refine qV (r_pick (b := decide ((t.mx : Int) = u.mx)) (v := (.bool (t.neg == u.neg))) rfl (by rw [g4]; rfl)) ?_
          refine qM (.bool (t.neg == u.neg)) rfl ?_
          rcases Bool.eq_false_or_eq_true (t.neg == u.neg) with g5 | g5
          · have kg5 := g5
            refine WpL_guard_yes (oj := _) rfl rfl (by decide) (congrArg Value.bool g5) ?_
            refine qF b1 0 2 rfl Tryz.underlying25 rfl siz23 rfl ?_
            refine WpL_guard_yes (oj := _) rfl rfl (by decide) (congrArg Value.bool g5) ?_
            refine qV (r_load (v := (.slice aa t.args.length ac)) rfl flat23 (B1.cell rfl)) ?_
            refine WpL_guard_yes (oj := _) rfl rfl (by decide) (congrArg Value.bool g5) ?_
            refine qF b2 0 2 rfl Tryz.underlying25 rfl siz23 rfl ?_
            refine WpL_guard_yes (oj := _) rfl rfl (by decide) (congrArg Value.bool g5) ?_
            refine qV (r_load (v := (.slice aa2 u.args.length ac2)) rfl flat23 (B2.cell rfl)) ?_
            refine WpL_guard_yes (oj := _) rfl rfl (by decide) (congrArg Value.bool g5) ?_
            refine WpL_enter rfl rfl (by decide) (r_callF (vs := [(.slice aa t.args.length ac), (.slice aa2 u.args.length ac2), (.func (.func 25) #[] #[])]) Tryz.func81 nm81 bd81 rfl) (eqf_c _ _ _ _ t.args u.args ((ReAt.rs ht0).ext E) ((ReAt.rs hu0).ext E) (fun w x y vs us hE hx h1 h2 => CallV.mk (first := #[]) (cap := #[]) Tryz.func25 nm25 bd25 rfl (ih x y w vs us (by obtain ⟨i, hi⟩ := List.mem_iff_getElem?.1 hx; have := Re.size_arg hi; omega) h1 h2))) ?_
            rintro _ w19 ⟨rfl, X19⟩
            replace B1 := X19.keep B1
            replace B2 := X19.keep B2
            replace E := E.ext X19
            refine qV (r_pick (b := t.neg == u.neg) (v := (.bool (sameTs t.args u.args))) rfl (by rw [g5]; rfl)) ?_
            refine qA (.bool (sameTs t.args u.args)) rfl ?_
            refine WpL_nil (Wp_ret ?_)
            refine fin_tmp Tryz.results25 (v := (.bool (sameTs t.args u.args))) rfl ?_
            exact ⟨bool_eq (by rw [hF, g1, g2, g3, g4]; simp at g5; simp [g5]), E⟩
          · have kg5 := g5
            refine WpL_guard_no (oj := _) rfl rfl (by decide) (v := .bool false) (congrArg Value.bool g5) (Or.inl rfl) ?_
            refine WpL_guard_no (oj := _) rfl rfl (by decide) (v := .bool false) (congrArg Value.bool g5) (Or.inl rfl) ?_
            refine WpL_guard_no (oj := _) rfl rfl (by decide) (v := .bool false) (congrArg Value.bool g5) (Or.inl rfl) ?_
            refine WpL_guard_no (oj := _) rfl rfl (by decide) (v := .bool false) (congrArg Value.bool g5) (Or.inl rfl) ?_
            refine WpL_guard_no (oj := _) rfl rfl (by decide) (v := .bool false) (congrArg Value.bool g5) (Or.inl rfl) ?_
            refine qV (r_pick (b := t.neg == u.neg) (v := (.bool false)) rfl (by rw [g5]; rfl)) ?_
            refine qA (.bool false) rfl ?_
            refine WpL_nil (Wp_ret ?_)
            refine fin_tmp Tryz.results25 (v := (.bool false)) rfl ?_
            exact ⟨bool_eq (by rw [hF]; simp at g5; simp [g5]), E⟩
        · have kg4 := g4
          replace kg4 := of_decide_eq_false kg4
          refine WpL_guard_no (oj := _) rfl rfl (by decide) (v := .bool false) (congrArg Value.bool g4) (Or.inl rfl) ?_
          refine WpL_guard_no (oj := _) rfl rfl (by decide) (v := .bool false) (congrArg Value.bool g4) (Or.inl rfl) ?_
          refine WpL_guard_no (oj := _) rfl rfl (by decide) (v := .bool false) (congrArg Value.bool g4) (Or.inl rfl) ?_
          refine WpL_guard_no (oj := _) rfl rfl (by decide) (v := .bool false) (congrArg Value.bool g4) (Or.inl rfl) ?_
          refine WpL_guard_no (oj := _) rfl rfl (by decide) (v := .bool false) (congrArg Value.bool g4) (Or.inl rfl) ?_
          refine qV (r_pick (b := decide ((t.mx : Int) = u.mx)) (v := (.bool false)) rfl (by rw [g4]; rfl)) ?_
          refine qM (.bool false) rfl ?_
          refine WpL_guard_no (oj := _) rfl rfl (by decide) (v := .bool false) rfl (Or.inl rfl) ?_
          refine WpL_guard_no (oj := _) rfl rfl (by decide) (v := .bool false) rfl (Or.inl rfl) ?_
          refine WpL_guard_no (oj := _) rfl rfl (by decide) (v := .bool false) rfl (Or.inl rfl) ?_
          refine WpL_guard_no (oj := _) rfl rfl (by decide) (v := .bool false) rfl (Or.inl rfl) ?_
          refine WpL_guard_no (oj := _) rfl rfl (by decide) (v := .bool false) rfl (Or.inl rfl) ?_
          refine qV (r_pick (b := false) (v := (.bool false)) rfl rfl) ?_
          refine qA (.bool false) rfl ?_
          refine WpL_nil (Wp_ret ?_)
          refine fin_tmp Tryz.results25 (v := (.bool false)) rfl ?_
          exact ⟨bool_eq (by rw [hF]; simp at g4; simp [g4]), E⟩
      · have kg3 := g3
        replace kg3 := of_decide_eq_false kg3
        refine WpL_guard_no (oj := _) rfl rfl (by decide) (v := .bool false) (congrArg Value.bool g3) (Or.inl rfl) ?_
        refine WpL_guard_no (oj := _) rfl rfl (by decide) (v := .bool false) (congrArg Value.bool g3) (Or.inl rfl) ?_
        refine WpL_guard_no (oj := _) rfl rfl (by decide) (v := .bool false) (congrArg Value.bool g3) (Or.inl rfl) ?_
        refine WpL_guard_no (oj := _) rfl rfl (by decide) (v := .bool false) (congrArg Value.bool g3) (Or.inl rfl) ?_
        refine WpL_guard_no (oj := _) rfl rfl (by decide) (v := .bool false) (congrArg Value.bool g3) (Or.inl rfl) ?_
        refine qV (r_pick (b := decide ((t.mn : Int) = u.mn)) (v := (.bool false)) rfl (by rw [g3]; rfl)) ?_
        refine qM (.bool false) rfl ?_
        refine WpL_guard_no (oj := _) rfl rfl (by decide) (v := .bool false) rfl (Or.inl rfl) ?_
        refine WpL_guard_no (oj := _) rfl rfl (by decide) (v := .bool false) rfl (Or.inl rfl) ?_
        refine WpL_guard_no (oj := _) rfl rfl (by decide) (v := .bool false) rfl (Or.inl rfl) ?_
        refine WpL_guard_no (oj := _) rfl rfl (by decide) (v := .bool false) rfl (Or.inl rfl) ?_
        refine WpL_guard_no (oj := _) rfl rfl (by decide) (v := .bool false) rfl (Or.inl rfl) ?_
        refine qV (r_pick (b := false) (v := (.bool false)) rfl rfl) ?_
        refine qM (.bool false) rfl ?_
        refine WpL_guard_no (oj := _) rfl rfl (by decide) (v := .bool false) rfl (Or.inl rfl) ?_
        refine WpL_guard_no (oj := _) rfl rfl (by decide) (v := .bool false) rfl (Or.inl rfl) ?_
        refine WpL_guard_no (oj := _) rfl rfl (by decide) (v := .bool false) rfl (Or.inl rfl) ?_
        refine WpL_guard_no (oj := _) rfl rfl (by decide) (v := .bool false) rfl (Or.inl rfl) ?_
        refine WpL_guard_no (oj := _) rfl rfl (by decide) (v := .bool false) rfl (Or.inl rfl) ?_
        refine qV (r_pick (b := false) (v := (.bool false)) rfl rfl) ?_
        refine qA (.bool false) rfl ?_
        refine WpL_nil (Wp_ret ?_)
        refine fin_tmp Tryz.results25 (v := (.bool false)) rfl ?_
        exact ⟨bool_eq (by rw [hF]; simp at g3; simp [g3]), E⟩
    · have kg2 := g2
      replace kg2 := of_decide_eq_false kg2
      refine WpL_guard_no (oj := _) rfl rfl (by decide) (v := .bool false) (congrArg Value.bool g2) (Or.inl rfl) ?_
      refine WpL_guard_no (oj := _) rfl rfl (by decide) (v := .bool false) (congrArg Value.bool g2) (Or.inl rfl) ?_
      refine WpL_guard_no (oj := _) rfl rfl (by decide) (v := .bool false) (congrArg Value.bool g2) (Or.inl rfl) ?_
      refine WpL_guard_no (oj := _) rfl rfl (by decide) (v := .bool false) (congrArg Value.bool g2) (Or.inl rfl) ?_
      refine WpL_guard_no (oj := _) rfl rfl (by decide) (v := .bool false) (congrArg Value.bool g2) (Or.inl rfl) ?_
      refine qV (r_pick (b := decide (t.set = u.set)) (v := (.bool false)) rfl (by rw [g2]; rfl)) ?_
      refine qM (.bool false) rfl ?_
      refine WpL_guard_no (oj := _) rfl rfl (by decide) (v := .bool false) rfl (Or.inl rfl) ?_
      refine WpL_guard_no (oj := _) rfl rfl (by decide) (v := .bool false) rfl (Or.inl rfl) ?_
      refine WpL_guard_no (oj := _) rfl rfl (by decide) (v := .bool false) rfl (Or.inl rfl) ?_
      refine WpL_guard_no (oj := _) rfl rfl (by decide) (v := .bool false) rfl (Or.inl rfl) ?_
      refine WpL_guard_no (oj := _) rfl rfl (by decide) (v := .bool false) rfl (Or.inl rfl) ?_
      refine qV (r_pick (b := false) (v := (.bool false)) rfl rfl) ?_
      refine qM (.bool false) rfl ?_
      refine WpL_guard_no (oj := _) rfl rfl (by decide) (v := .bool false) rfl (Or.inl rfl) ?_
      refine WpL_guard_no (oj := _) rfl rfl (by decide) (v := .bool false) rfl (Or.inl rfl) ?_
      refine WpL_guard_no (oj := _) rfl rfl (by decide) (v := .bool false) rfl (Or.inl rfl) ?_
      refine WpL_guard_no (oj := _) rfl rfl (by decide) (v := .bool false) rfl (Or.inl rfl) ?_
      refine WpL_guard_no (oj := _) rfl rfl (by decide) (v := .bool false) rfl (Or.inl rfl) ?_
      refine qV (r_pick (b := false) (v := (.bool false)) rfl rfl) ?_
      refine qM (.bool false) rfl ?_
      refine WpL_guard_no (oj := _) rfl rfl (by decide) (v := .bool false) rfl (Or.inl rfl) ?_
      refine WpL_guard_no (oj := _) rfl rfl (by decide) (v := .bool false) rfl (Or.inl rfl) ?_
      refine WpL_guard_no (oj := _) rfl rfl (by decide) (v := .bool false) rfl (Or.inl rfl) ?_
      refine WpL_guard_no (oj := _) rfl rfl (by decide) (v := .bool false) rfl (Or.inl rfl) ?_
      refine WpL_guard_no (oj := _) rfl rfl (by decide) (v := .bool false) rfl (Or.inl rfl) ?_
      refine qV (r_pick (b := false) (v := (.bool false)) rfl rfl) ?_
      refine qA (.bool false) rfl ?_
      refine WpL_nil (Wp_ret ?_)
      refine fin_tmp Tryz.results25 (v := (.bool false)) rfl ?_
      exact ⟨bool_eq (by rw [hF]; simp at g2; simp [g2]), E⟩
  · have kg1 := g1
    replace kg1 := of_decide_eq_false kg1
    refine WpL_guard_no (oj := _) rfl rfl (by decide) (v := .bool false) (congrArg Value.bool g1) (Or.inl rfl) ?_
    refine WpL_guard_no (oj := _) rfl rfl (by decide) (v := .bool false) (congrArg Value.bool g1) (Or.inl rfl) ?_
    refine WpL_guard_no (oj := _) rfl rfl (by decide) (v := .bool false) (congrArg Value.bool g1) (Or.inl rfl) ?_
    refine WpL_guard_no (oj := _) rfl rfl (by decide) (v := .bool false) (congrArg Value.bool g1) (Or.inl rfl) ?_
    refine WpL_guard_no (oj := _) rfl rfl (by decide) (v := .bool false) (congrArg Value.bool g1) (Or.inl rfl) ?_
    refine qV (r_pick (b := decide ((t.kind : Int) = u.kind)) (v := (.bool false)) rfl (by rw [g1]; rfl)) ?_
    refine qM (.bool false) rfl ?_
    refine WpL_guard_no (oj := _) rfl rfl (by decide) (v := .bool false) rfl (Or.inl rfl) ?_
    refine WpL_guard_no (oj := _) rfl rfl (by decide) (v := .bool false) rfl (Or.inl rfl) ?_
    refine WpL_guard_no (oj := _) rfl rfl (by decide) (v := .bool false) rfl (Or.inl rfl) ?_
    refine WpL_guard_no (oj := _) rfl rfl (by decide) (v := .bool false) rfl (Or.inl rfl) ?_
    refine WpL_guard_no (oj := _) rfl rfl (by decide) (v := .bool false) rfl (Or.inl rfl) ?_
    refine qV (r_pick (b := false) (v := (.bool false)) rfl rfl) ?_
    refine qM (.bool false) rfl ?_
    refine WpL_guard_no (oj := _) rfl rfl (by decide) (v := .bool false) rfl (Or.inl rfl) ?_
    refine WpL_guard_no (oj := _) rfl rfl (by decide) (v := .bool false) rfl (Or.inl rfl) ?_
    refine WpL_guard_no (oj := _) rfl rfl (by decide) (v := .bool false) rfl (Or.inl rfl) ?_
    refine WpL_guard_no (oj := _) rfl rfl (by decide) (v := .bool false) rfl (Or.inl rfl) ?_
    refine WpL_guard_no (oj := _) rfl rfl (by decide) (v := .bool false) rfl (Or.inl rfl) ?_
    refine qV (r_pick (b := false) (v := (.bool false)) rfl rfl) ?_
    refine qM (.bool false) rfl ?_
    refine WpL_guard_no (oj := _) rfl rfl (by decide) (v := .bool false) rfl (Or.inl rfl) ?_
    refine WpL_guard_no (oj := _) rfl rfl (by decide) (v := .bool false) rfl (Or.inl rfl) ?_
    refine WpL_guard_no (oj := _) rfl rfl (by decide) (v := .bool false) rfl (Or.inl rfl) ?_
    refine WpL_guard_no (oj := _) rfl rfl (by decide) (v := .bool false) rfl (Or.inl rfl) ?_
    refine WpL_guard_no (oj := _) rfl rfl (by decide) (v := .bool false) rfl (Or.inl rfl) ?_
    refine qV (r_pick (b := false) (v := (.bool false)) rfl rfl) ?_
    refine qM (.bool false) rfl ?_
    refine WpL_guard_no (oj := _) rfl rfl (by decide) (v := .bool false) rfl (Or.inl rfl) ?_
    refine WpL_guard_no (oj := _) rfl rfl (by decide) (v := .bool false) rfl (Or.inl rfl) ?_
    refine WpL_guard_no (oj := _) rfl rfl (by decide) (v := .bool false) rfl (Or.inl rfl) ?_
    refine WpL_guard_no (oj := _) rfl rfl (by decide) (v := .bool false) rfl (Or.inl rfl) ?_
    refine WpL_guard_no (oj := _) rfl rfl (by decide) (v := .bool false) rfl (Or.inl rfl) ?_
    refine qV (r_pick (b := false) (v := (.bool false)) rfl rfl) ?_
    refine qA (.bool false) rfl ?_
    refine WpL_nil (Wp_ret ?_)
    refine fin_tmp Tryz.results25 (v := (.bool false)) rfl ?_
    exact ⟨bool_eq (by rw [hF]; simp at g1; simp [g1]), E⟩
theorem res_idx_c (w0 : World) (v fv : Value) (l : List Re) (p : Re → Bool) (hs : RsAt w0 v l) (hf : ∀ (w : World) (x : Re) (vs : List Value), Ext w0 w → x ∈ l → ReAt w x vs → CallV Tryz.prog fv #[.agg vs.toArray] w fun r w' => r = .bool (p x) ∧ Ext w w') :
  Ret Tryz.prog 82 #[v, fv] w0 fun r w => r = .int .i64 (idx p l) ∧ Ext w0 w := by
 have g1 := hs
 obtain ⟨a, c, rfl, hb1, _⟩ := hs
 refine Ret_of Tryz.func82 rfl Tryz.ntmps82 (Nat.le_of_ble_eq_true rfl) ?_
 have E : Chg none1 w0 w0 := Chg.refl _ _
 refine Wp_seq_region ?_
 refine qA (I6 0) rfl ?_
 refine WpL_nil (Wp_seq (Wp_seq_region ?_))
 refine qM (.slice a l.length c) rfl ?_
 refine qV (r_lenSlice (ad := a) (n := l.length) (cap := c) Tryz.underlying23 rfl) ?_
 refine qM (I6 0) rfl ?_
 refine WpL_nil (Wp_block ?_)
 refine Wp_loop (fun nn_ σ W1 => ∃ (k : Nat), (∃ jj_, σ = upds jj_ [(0, (.slice a l.length c)), (1, fv), (7, (I6 (l.length : Int))), (8, (I6 (k : Int)))]) ∧ Chg none1 w0 W1 ∧ (k ≤ l.length) ∧ (∀ (i : Nat) (y : Re), i < k → l[i]? = some y → p y = false) ∧ nn_ = l.length - k) (n := l.length - 0) ?_ ?_
 ·exact ⟨0, Fits.out ⟨rfl, rfl, rfl, rfl, trivial⟩, E, Nat.zero_le _, (fun i y h => absurd h (Nat.not_lt_zero _)), rfl⟩
 ·clear E
  rintro _ _ W1 ⟨k, ⟨j1, rfl⟩, E, hk, hno, rfl⟩
  refine Wp_seq_region ?_
  refine qV (r_lss (k := .i64) (a := (k : Int)) (b := (l.length : Int)) rfl rfl) ?_
  refine WpL_nil (Wp_seq ?_)
  refine Wp_cond (b := decide (((k : Int) : Int) < (l.length : Int))) rfl (fun hlt => ?_) (fun hlt => ?_)
  ·have khlt := hlt
   replace hlt := of_decide_eq_true hlt
   obtain ⟨x, hx⟩ := get_of_lt (l := l) (i := k) (by omega)
   obtain ⟨b, o, rfl, hc1⟩ := g1.cells (by omega)
   obtain ⟨vs, hcv, hpv⟩ := hc1 k x hx
   have hpv0 := hpv
   obtain ⟨sa, sc, aa, ac, rfl, _, _, _⟩ := hpv.form
   refine Wp_skip (thn_normal (Wp_seq (Wp_block (Wp_seq_region ?_))))
   refine qM (I6 (k : Int)) rfl ?_
   refine qA (I6 (k : Int)) rfl ?_
   refine WpL_nil (Wp_seq_region ?_)
   refine qM fv rfl ?_
   refine qM (.slice (some ⟨b, o, none⟩) l.length c) rfl ?_
   refine qM (I6 (k : Int)) rfl ?_
   refine qV (r_indexSlice (b := b) (o := o) (len := l.length) (cap := c) (i := k) (o' := o + k * 6) rfl rfl rfl Tryz.underlying23 siz25 (by omega) (by omega)) ?_
   refine qV (r_loadAgg (vs := [(I6 x.kind), (.slice sa x.set.length sc), (.slice aa x.args.length ac), (I6 x.mn), (I6 x.mx), (.bool x.neg)]) rfl agg25 siz25 rfl (hcv.ext E)) ?_
   refine WpL_callV (fv := fv) (vs := [(.agg (R6 x sa sc aa ac))]) (by decide) rfl rfl (hf _ x _ E (List.mem_of_getElem? hx) (ReAt.ext E x hpv0)) ?_
   rintro _ w9 ⟨rfl, X9⟩
   replace E := E.ext X9
   refine WpL_nil ?_
   refine Wp_cond (b := p x) rfl (fun hp => ?_) (fun hp => ?_)
   ·have khp := hp
    refine Wp_seq_region ?_
    refine qM (I6 (k : Int)) rfl ?_
    refine qA (I6 (k : Int)) rfl ?_
    refine WpL_nil (Wp_ret (inB_ret (thn_ret (thn_ret (inB_ret (thn_ret ?_))))))
    refine fin_tmp Tryz.results82 (v := (.int .i64 ((k : Nat) : Int))) rfl ?_
    exact ⟨int_eq (idx_hit hx hp hno).symm, E⟩
   ·have khp := hp
    refine Wp_skip (inB_normal (thn_normal (Wp_region ?_)))
    refine qV (r_add (k := .i64) (a := (k : Int)) (b := 1) (c := (k : Int) + 1) rfl rfl (wI64 (by omega))) ?_
    refine qM (I6 ((k : Int) + 1)) rfl ?_
    refine WpL_nil (thn_normal ?_)
    exact ⟨l.length - (k + 1), by omega, k + 1, Fits.out ⟨rfl, rfl, rfl, rfl, trivial⟩, E, (by omega), below_next hx hp hno, rfl⟩
  ·have khlt := hlt
   replace hlt := of_decide_eq_false hlt
   have hkk : k = l.length := by omega
   refine Wp_exit (thn_exit (thn_exit (inB_here (thn_normal (Wp_seq_region ?_)))))
   refine qA (I6 (-1)) rfl ?_
   refine WpL_nil (Wp_ret ?_)
   refine fin_tmp Tryz.results82 (v := (.int .i64 (-1))) rfl ?_
   exact ⟨int_eq (idx_miss fun i y hy => hno i y (by have := lt_of_get hy; omega) hy).symm, E⟩
theorem res_has_c (w0 : World) (v fv : Value) (l : List Re) (p : Re → Bool) (hs : RsAt w0 v l) (hf : ∀ (w : World) (x : Re) (vs : List Value), Ext w0 w → x ∈ l → ReAt w x vs → CallV Tryz.prog fv #[.agg vs.toArray] w fun r w' => r = .bool (p x) ∧ Ext w w') :
  Ret Tryz.prog 26 #[v, fv] w0 fun r w => r = .bool (l.any p) ∧ Ext w0 w := by
 refine Ret_of Tryz.func26 rfl Tryz.ntmps26 (Nat.le_of_ble_eq_true rfl) ?_
 have E : Chg none1 w0 w0 := Chg.refl _ _
 refine Wp_seq_region ?_
 refine qA (.bool false) rfl ?_
 refine WpL_nil (Wp_seq_region ?_)
 refine qM v rfl ?_
 refine qM fv rfl ?_
 refine WpL_enter rfl rfl (by decide) (r_callF (vs := [v, fv]) Tryz.func82 nm82 bd82 rfl) (res_idx_c _ v fv l p hs hf) ?_
 rintro _ w9 ⟨rfl, X9⟩
 replace E := E.ext X9
 refine qV (r_geq (k := .i64) (a := idx p l) (b := 0) rfl rfl) ?_
 refine qA (.bool (decide ((0 : Int) ≤ idx p l))) rfl ?_
 refine WpL_nil (Wp_ret ?_)
 refine fin_tmp Tryz.results26 (v := (.bool (decide ((0 : Int) ≤ idx p l)))) rfl ?_
 exact ⟨bool_eq (idx_any p l), E⟩
end Go.Proofs
