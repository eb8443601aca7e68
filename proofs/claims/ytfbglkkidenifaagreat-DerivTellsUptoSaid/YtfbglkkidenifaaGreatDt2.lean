/- Contracts and plain lemmas, part 2. -/
import Derived.Tactics
import Derived.Deep.Quiet
import Derived.Laws.AppendOwn
import Derived.KernelRfl
import Derived.Laws.Entries
import Derived.Laws.Build
import Derived.Below
import Derived.RowKit3
import Derived.StillTail
import Derived.Sort.Grow
import Derived.Deep.Draws
import Derived.Test.YtfbglkkidenifaaGreatChecked
import Derived.Laws.StructEq
import Derived.MapKept
import Derived.Laws.BytesArg
import Derived.Shelf.SlSortCmp.WholeK
import Derived.Shelf.Sort.Plain
import Derived.Shelf.Slices.CompactI
import Derived.Test.YtfbglkkidenifaaGreatProg
import Derived.OpenShut
import Derived.ChangeSlices
import Derived.Test.YtfbglkkidenifaaGreatRows
import Derived.Test.YtfbglkkidenifaaGreatDt1
namespace Go.Eng
open Go
inductive FactT (M : Nat → Prop) where
  | eq (v : Value)
  | gen (F : Fct) (h : ∀ v w w', Chg M w w' → F v w → F v w')
  | own (F : Fct) (h : ∀ v w w', Ext w w' → F v w → F v w')
  | till (F : Fct) (h : ∀ v w w', Ext w w' → F v w → F v w')
def FactT.In {M : Nat → Prop} : FactT M → Fct
  | .eq u, v, _ => v = u
  | .gen F _, v, w => F v w
  | .own F _, v, w => F v w
  | .till F _, v, w => F v w
/-- What a fact says, ahead of the operation that changes memory and behind it. -/
def FactT.At {M : Nat → Prop} (done : Bool) : FactT M → Fct
  | .till F _, v, w => done = false → F v w
  | F, v, w => F.In v w
theorem FactT.at_in {M : Nat → Prop} {F : FactT M} {v : Value} {w : World} (h : F.In v w) (done : Bool) : F.At done v w := by
 cases F <;> first | exact h | exact fun _ => h
theorem FactT.at_false {M : Nat → Prop} {F : FactT M} {v : Value} {w : World} (h : F.At false v w) : F.In v w := by
 cases F <;> first | exact h | exact h rfl
def FactT.isOwn {M : Nat → Prop} : FactT M → Bool
  | .own _ _ => true
  | _ => false
theorem FactT.chg {M : Nat → Prop} {F : FactT M} {v : Value} {w w' : World} {done : Bool} (h : F.At done v w) (e : Chg M w w') (ho : F.isOwn = false) : F.At true v w' := by
  cases F with
  | eq u => exact h
  | gen F hF => exact hF _ _ _ e h
  | own F hF => cases ho
  | till F hF => intro hd; cases hd
theorem FactT.ext {M : Nat → Prop} {F : FactT M} {v : Value} {w w' : World} {done : Bool} (h : F.At done v w) (e : Ext w w') : F.At done v w' := by
  cases F with
  | eq u => exact h
  | gen F hF => exact hF _ _ _ (Ext.chg e) h
  | own F hF => exact hF _ _ _ e h
  | till F hF => exact fun hd => hF _ _ _ e (h hd)
/-- Only the fact at one place is of the kind that holds behind that operation alone. -/
def ownB {M : Nat → Prop} (c : Nat) : Nat → List (FactT M) → Bool
  | _, [] => true
  | i, F :: l => (!F.isOwn || Nat.beq i c) && ownB c (i + 1) l
theorem zKI {M : Nat → Prop} {c : Nat} : ∀ {i : Nat} {l : List (FactT M)}, ownB c i l = true → ∀ {j : Nat} {F : FactT M}, l[j]? = some F → i + j ≠ c → F.isOwn = false
  | _, [], _, _, _, h, _ => by simp at h
  | i, G :: l, hB, 0, F, h, hne => by
    simp at h; subst h
    simp only [ownB, Bool.and_eq_true, Bool.or_eq_true, Bool.not_eq_true'] at hB
    rcases hB.1 with h | h
    · exact h
    · exact absurd (Nat.eq_of_beq_eq_true h) hne
  | i, G :: l, hB, j + 1, F, h, hne => by
    simp only [ownB, Bool.and_eq_true] at hB
    simp at h
    exact zKI hB.2 h (by omega)
def zJq (M : Nat → Prop) (P : Program) (N : Nat) (o : Oper) (R : Fct) (σ : Env) (w : World) : Prop :=
 ∀ a, Ok N a → env a = σ → ∀ (Q : Exit → Act → World → Prop) (K : Act → World → Prop), (∀ v w', Chg M w w' → R v w' → K (a.put o.dst v) w') → o.wp P a w K Q
def zJL {M : Nat → Prop} (ds : List Nat) (Fs : List (FactT M)) (done : Bool) (j : Nat) (σ : Env) (w : World) : Prop := ∀ d F, ds[j]? = some d → Fs[j]? = some F → F.At done (σ d) w
section
variable {M : Nat → Prop} {P : Program} {N : Nat} {o : Oper} {R : Fct} {σ : Env} {w : World}
theorem zCN {v : Value} {w' : World} (hr : (execOp (ev σ) o).run P w = .ok (.value v) w') (hx : Chg M w w') (h : R v w') : zJq M P N o R σ w := by
 intro a ha he Q K hK
 unfold Oper.wp
 rw [zCh, he, hr]
 simp only [Oper.upon]
 exact hK _ _ hx h
theorem zJp {f : FuncId} {args : Array Value} (hr : (execOp (ev σ) o).run P w = .ok (.enter f args) w) (hc : Ret P f args w fun v w' => R v w' ∧ Chg M w w') : zJq M P N o R σ w := by
 intro a ha he Q K hK
 unfold Oper.wp
 rw [zCh, he, hr]
 simp only [Oper.upon]
 refine Calls.mono hc ?_
 rintro e w' ⟨v, rfl, r, x⟩
 exact hK _ _ x r
end
def zGh (N i : Nat) (o : Oper) (d : Nat) (ws : List Nat) : Bool :=
 (match o.dst with | some d' => Nat.beq d' d && Nat.blt d N | none => Nat.ble N d) && (o.after.all fun e => !Region.binds .any e || Nat.blt e.on i) && (ws.all fun j => o.after.any fun e => Region.binds .any e && Nat.beq e.on j) && o.guard.isNone
def zFw (N : Nat) : Nat → List Oper → List Nat → List (List Nat) → Bool
  | _, [], [], [] => true
  | i, o :: l, d :: ds, ws :: wss => zGh N i o d ws && zFw N (i + 1) l ds wss
  | _, _, _, _ => false
theorem zFN {N : Nat} : ∀ {i : Nat} {l : List Oper} {ds : List Nat} {wss : List (List Nat)}, zFw N i l ds wss = true → ∀ {j : Nat} {o : Oper}, l[j]? = some o → ∃ d ws, ds[j]? = some d ∧ wss[j]? = some ws ∧ zGh N (i + j) o d ws = true
  | _, [], _, _, _, j, o, h => by simp at h
  | i, x :: l, [], _, hB, _, _, _ => by simp [zFw] at hB
  | i, x :: l, d :: ds, [], hB, _, _, _ => by simp [zFw] at hB
  | i, x :: l, d :: ds, ws :: wss, hB, j, o, h => by
    simp only [zFw, Bool.and_eq_true] at hB
    cases j with
    | zero => simp at h; subst h; exact ⟨d, ws, rfl, rfl, hB.1⟩
    | succ j =>
      simp at h
      obtain ⟨d', ws', h1, h2, h3⟩ := zFN hB.2 h
      exact ⟨d', ws', by simpa using h1, by simpa using h2, by rw [show i + (j + 1) = i + 1 + j from by omega]; exact h3⟩
theorem zIz {N : Nat} : ∀ {i : Nat} {l : List Oper} {ds : List Nat} {wss : List (List Nat)}, zFw N i l ds wss = true → ds.length = l.length
  | _, [], [], [], _ => rfl
  | _, [], [], _ :: _, hB => by simp [zFw] at hB
  | _, [], _ :: _, _, hB => by simp [zFw] at hB
  | i, x :: l, [], _, hB => by simp [zFw] at hB
  | i, x :: l, d :: ds, [], hB => by simp [zFw] at hB
  | i, x :: l, d :: ds, ws :: wss, hB => by
    simp only [zFw, Bool.and_eq_true] at hB
    simp [zIz hB.2]
/-- The operations that are sure to come ahead of the one that changes memory, and that one. -/
def zGy (c : Nat) (wss : List (List Nat)) (i : Nat) : Bool := Nat.beq i c || (wss.getD c []).contains i
def zKr (o : Oper) (v : Value) : Value := match o.dst with
  | some _ => v
  | none => undef
def zKp {M : Nat → Prop} (P : Program) (N : Nat) (ds : List Nat) (Fs : List (FactT M)) (σ : Env) (w : World) (own calm : Bool) (o : Oper) (ws : List Nat) (F : FactT M) : Prop :=
 ∀ σ' w', Chg (bif calm then zAh else M) w w' → (∀ t, ds.contains t = false → σ' t = σ t) → (∀ j, ws.contains j = true → zJL ds Fs (!calm) j σ' w') → zJq (bif own then M else zAh) P N o (fun v w => F.In (zKr o v) w) σ' w'
inductive DagStepsT {M : Nat → Prop} (P : Program) (N : Nat) (ds : List Nat) (Fs : List (FactT M)) (σ : Env) (w : World) (c : Nat) (all : List (List Nat)) : Nat → List Oper → List (List Nat) → List (FactT M) → Prop where
  | nil {i : Nat} : DagStepsT P N ds Fs σ w c all i [] [] []
  | cons {i : Nat} {o : Oper} {ws : List Nat} {F : FactT M} {l : List Oper} {wss : List (List Nat)} {Gs : List (FactT M)} : zKp P N ds Fs σ w (Nat.beq i c) (zGy c all i) o ws F → DagStepsT P N ds Fs σ w c all (i + 1) l wss Gs → DagStepsT P N ds Fs σ w c all i (o :: l) (ws :: wss) (F :: Gs)
theorem DagStepsT.get {M : Nat → Prop} {P : Program} {N : Nat} {ds : List Nat} {Fs : List (FactT M)} {σ : Env} {w : World} {c : Nat} {all : List (List Nat)} : ∀ {i : Nat} {l : List Oper} {wss : List (List Nat)} {Gs : List (FactT M)}, DagStepsT P N ds Fs σ w c all i l wss Gs → ∀ {j : Nat} {o : Oper}, l[j]? = some o → ∃ ws F, wss[j]? = some ws ∧ Gs[j]? = some F ∧ zKp P N ds Fs σ w (Nat.beq (i + j) c) (zGy c all (i + j)) o ws F
  | _, _, _, _, .nil, j, o, h => by simp at h
  | _, _, _, _, .cons h1 h2, 0, o, h => by simp at h; subst h; exact ⟨_, _, rfl, rfl, h1⟩
  | i, _, _, _, .cons h1 h2, j + 1, o, h => by
    obtain ⟨ws, F, a, b, c⟩ := h2.get (j := j) (by simpa using h)
    exact ⟨ws, F, by simpa using a, by simpa using b, by rw [show i + (j + 1) = i + 1 + j from by omega]; exact c⟩
def zGC (n m : Nat) : Array Bool := (List.replicate n true ++ List.replicate (m - n) false).toArray
theorem zGv {l : List Bool} {n i : Nat} (hi : i < n) (hl : n ≤ l.length) (hf : l[i]? = some false) : ((l.set i true).take n).count false + 1 = (l.take n).count false := by
 have hi' : i < (l.take n).length := by simp; omega
 rw [List.take_set, List.count_set hi']
 have : (l.take n)[i] = false := by
  have h2 : (l.take n)[i]? = some false := by rw [List.getElem?_take_of_lt hi]; exact hf
  rw [List.getElem?_eq_getElem hi'] at h2; simpa using h2
 rw [this, if_pos (by rfl), if_neg (by decide)]
 have : 0 < (l.take n).count false := by
  rw [List.count_pos_iff]
  rw [← this]; exact List.getElem_mem hi'
 omega
theorem zOV {l : List Bool} {n : Nat} (hl : n ≤ l.length) (h0 : (l.take n).count false = 0) (ht : ∀ t, n ≤ t → t < l.length → l[t]? = some false) : l = List.replicate n true ++ List.replicate (l.length - n) false := by
  apply List.ext_getElem?
  intro i
  rcases Nat.lt_or_ge i n with h | h
  · rw [List.getElem?_append_left (by simpa using h), List.getElem?_replicate, if_pos h]
    have hi : i < l.length := by omega
    rw [List.getElem?_eq_getElem hi]
    cases hv : l[i] with
    | true => rfl
    | false =>
      exfalso
      rw [List.count_eq_zero] at h0
      apply h0
      have : (l.take n)[i]? = some false := by rw [List.getElem?_take_of_lt h, List.getElem?_eq_getElem hi, hv]
      exact List.mem_of_getElem? this
  · rw [List.getElem?_append_right (by simpa using h), List.getElem?_replicate, List.length_replicate]
    rcases Nat.lt_or_ge i l.length with h2 | h2
    · rw [if_pos (by omega), ht i h h2]
    · rw [if_neg (by omega), List.getElem?_eq_none h2]
theorem zNb {P : Program} {N : Nat} {Q : zFl} {σ : Env} {w : World} {id : Nat} {l : List Oper} (M : Nat → Prop) (n c : Nat) (ds : List Nat) (wss : List (List Nat)) (Fs : List (FactT M)) {Gs : List (FactT M)} (hG : Fs = Gs) (hO : ownB c 0 Gs = true) (hm : P.follows .mixedOrders = true) (hB : zFw N 0 (l.take n) ds wss = true) (hn : zGU ds = true)
    (hT : (decide (n < l.length) && Region.sinkB .any l.toArray n && Region.chainB .any l.toArray n && Region.seqB .any l.toArray (l.length - n) n (zGC n l.length)) = true)
    (steps : ∀ w1, Ext w w1 → DagStepsT P N ds Fs σ w1 c wss 0 (l.take n) wss Gs)
    (k : ∀ σ' w1 w', Ext w w1 → Chg M w1 w' → (∀ t, ds.contains t = false → σ' t = σ t) → (∀ j, zJL ds Fs true j σ' w') → WpL P N l.toArray (Q .normal) Q (l.drop n) σ' w') : Wp P N (.region id l.toArray true) Q σ w := by
  intro a ha he
  have eQ : zFG N (thn (Q .normal) Q) = zFG N Q := by funext e a w; cases e <;> rfl
  refine wp_region_any hm ?_
  obtain ⟨w1, hw1⟩ : ∃ w1 : World, w1 = { w with drawn := w.drawn + 1 } := ⟨_, rfl⟩
  have hE1 : Ext w w1 := by rw [hw1]; exact zFL w
  rw [← hw1]
  have hst := steps w1 hE1
  rw [← hG] at hst
  simp only [Bool.and_eq_true, decide_eq_true_eq] at hT
  obtain ⟨⟨⟨hnl, hs⟩, hc⟩, hseq⟩ := hT
  have toM : ∀ {q : Bool} {u u' : World}, Chg (bif q then M else zAh) u u' → Chg M u u' := fun {q u u'} h => by cases q with | true => exact h | false => exact Ext.chg h
  have hlen : ds.length = n := by rw [zIz hB]; simp; omega
  have key : ∀ (m : Nat) (listed : Array Bool) (a : Act) (w' : World), (listed.toList.take n).count false = m → HeadInv .any l.toArray n listed → Ok N a → Chg (bif listed.getD c false then M else zAh) w1 w' → (∀ t, ds.contains t = false → env a t = σ t) → (∀ j, listed.getD j false = true → zJL ds Fs (listed.getD c false) j (env a) w') →
      wpAny P .any l.toArray (zFG N Q) (m + (l.length - n)) listed a w' := by
    intro m
    induction m with
    | zero =>
      intro listed a w' hc0 inv ha hx hu hh
      have hsz : listed.size = l.length := by simpa using inv.size
      have hl : listed = zGC n l.length := by
        apply Array.ext'
        rw [zGC]
        have := zOV (l := listed.toList) (n := n) (by simp; omega) hc0 (by
          intro t h1 h2
          have h2' : t < listed.size := by simpa using h2
          have := inv.tail t h1 (by simpa [hsz] using h2')
          simp only [Array.getD_eq_getD_getElem?, Array.getElem?_eq_getElem h2', Option.getD_some] at this
          simp [h2', this])
        rw [this]; simp [hsz]
      rw [Nat.zero_add]
      have h1 := k (env a) w1 w' hE1 (toM hx) hu (fun j d F hd hF => by
        have hj : j < n := by have := zAo hd; omega
        have h2 := hh j (by
          rw [hl, zGC]
          simp [Array.getD_eq_getD_getElem?, List.getElem?_append_left, hj]) d F hd hF
        cases F with
        | till F hF => intro hd; cases hd
        | eq u => exact h2
        | gen F hF => exact h2
        | own F hF => exact h2) a ha rfl
      rw [eQ] at h1
      have := wpAny_of_seq (P := P) (md := .any) (ops := l.toArray) (Q' := zFG N Q) (l.drop n) n listed a w' (fun j => by simp [List.getElem?_drop]) (by rw [List.length_drop, hl]; exact hseq) h1
      rwa [List.length_drop] at this
    | succ m ih =>
      intro listed a w' hcm inv ha hx hu hh
      have hsz : listed.size = l.length := by simpa using inv.size
      obtain ⟨i0, hi0n, hi0⟩ : ∃ i, i < n ∧ listed.getD i true = false := by
        have : 0 < (listed.toList.take n).count false := by omega
        rw [List.count_pos_iff] at this
        obtain ⟨i, hi, he⟩ := List.getElem_of_mem this
        have hin : i < n := by simp at hi; omega
        refine ⟨i, hin, ?_⟩
        have hil : i < listed.size := by simp at hi; omega
        simp only [Array.getD_eq_getD_getElem?, Array.getElem?_eq_getElem hil, Option.getD_some]
        simpa using he
      rw [show m + 1 + (l.length - n) = (m + (l.length - n)) + 1 by omega]
      refine ⟨fun hr => ?_, fun i hi => ?_⟩
      · exfalso
        have hall : ∀ i, i < n → listed.getD i true = true := by
          intro i
          induction i using Nat.strongRecOn with
          | _ i ihi =>
            intro hi
            cases hv : listed.getD i true with
            | true => rfl
            | false =>
              exfalso
              obtain ⟨o, ho⟩ := zAa (l := l) (i := i) (by omega)
              have ho' : (l.take n)[i]? = some o := by rw [List.getElem?_take_of_lt hi]; exact ho
              obtain ⟨d, ws, _, _, h3⟩ := zFN hB ho'
              have : i ∈ Region.ready .any l.toArray listed := by
                refine mem_ready.2 ⟨hv, o, by simpa using ho, fun e he hb => ?_⟩
                simp only [zGh, Bool.and_eq_true, Array.all_eq_true_iff_forall_mem, Bool.or_eq_true, Bool.not_eq_true', Nat.zero_add] at h3
                have := (h3.1.1.2 e he).resolve_left (by simp [hb])
                have hlt : e.on < i := by simpa [Nat.blt_eq] using this
                have h4 := ihi e.on hlt (by omega)
                have hj : e.on < listed.size := by omega
                simpa only [Array.getD_eq_getD_getElem?, Array.getElem?_eq_getElem hj, Option.getD_some] using h4
              rw [hr] at this
              cases this
        rw [hall i0 hi0n] at hi0
        cases hi0
      · have hin : i < n := by
          rcases Nat.lt_or_ge i n with h | h
          · exact h
          · exact absurd hi (tail_waits hs hc (by simpa using hnl) inv _ i0 rfl hi0n hi0 i h)
        obtain ⟨h1, o, h2, h3⟩ := mem_ready.1 hi
        have hil : i < listed.size := by omega
        have ho : l[i]? = some o := by simpa using h2
        have ho' : (l.take n)[i]? = some o := by rw [List.getElem?_take_of_lt hin]; exact ho
        obtain ⟨d, ws, hd, hws, h4⟩ := zFN hB ho'
        obtain ⟨ws', F, hws', hF, hstep⟩ := hst.get ho'
        rw [hws] at hws'
        cases hws'
        simp only [Nat.zero_add] at hstep
        simp only [zGh, Bool.and_eq_true, List.all_eq_true, Array.any_eq_true', Array.all_eq_true_iff_forall_mem, Bool.or_eq_true, Bool.not_eq_true', Nat.zero_add] at h4
        obtain ⟨⟨⟨hdst, _⟩, hwait⟩, hgd⟩ := h4
        have hgd : o.guard = none := by simpa using hgd
        -- what is sure to come ahead of the change
        have hcalm : zGy c wss i = true → listed.getD c false = false := by
          intro hcb
          simp only [zGy, Bool.or_eq_true] at hcb
          rcases hcb with hcb | hcb
          · have : i = c := Nat.eq_of_beq_eq_true hcb
            subst this; exact getD_both h1
          · cases hlc : listed.getD c false with
            | false => rfl
            | true =>
              exfalso
              have hcn : c < n := by
                rcases Nat.lt_or_ge c n with h | h
                · exact h
                · rcases Nat.lt_or_ge c l.length with h' | h'
                  · have := getD_both (inv.tail c h (by simpa using h')); rw [this] at hlc; cases hlc
                  · simp [Array.getElem?_eq_none (show listed.size ≤ c by omega)] at hlc
              obtain ⟨oc, hoc⟩ := zAa (l := l) (i := c) (by omega)
              have hoc' : (l.take n)[c]? = some oc := by rw [List.getElem?_take_of_lt hcn]; exact hoc
              obtain ⟨dc, wsc, _, hwsc, h5⟩ := zFN hB hoc'
              have hgc : wss.getD c [] = wsc := by simp [hwsc]
              rw [hgc] at hcb
              simp only [zGh, Bool.and_eq_true, List.all_eq_true, Array.any_eq_true', Nat.zero_add] at h5
              obtain ⟨e, he, hb1, hb2⟩ := h5.1.2 i (by simpa using hcb)
              have hei : e.on = i := Nat.eq_of_beq_eq_true hb2
              have := inv.closed c oc (by simpa using hoc) hlc e he hb1
              rw [hei, getD_both h1] at this
              cases this
        have hH : ∀ j, ws.contains j = true → zJL ds Fs (!zGy c wss i) j (env a) w' := by
          intro j hj d' F' hd' hF'
          have hj' : j ∈ ws := by simpa using hj
          obtain ⟨e, he, hb⟩ := hwait j hj'
          obtain ⟨hb1, hb2⟩ := hb
          have : e.on = j := Nat.eq_of_beq_eq_true hb2
          have h5 := hh j (this ▸ h3 e he hb1) d' F' hd' hF'
          cases hcb : zGy c wss i with
          | true => rw [hcalm hcb] at h5; exact h5
          | false =>
            cases F' with
            | till F hF => intro hd; cases hd
            | eq u => exact h5
            | gen F hF => exact h5
            | own F hF => exact h5
        have hstep2 : (∀ w2, Chg (bif Nat.beq i c then M else zAh) w' w2 → Chg (bif (listed.setIfInBounds i true).getD c false then M else zAh) w1 w2) := by
          intro w2 hx2
          by_cases hic : i = c
          · subst hic
            rw [Nat.beq_refl] at hx2
            have hg : (listed.setIfInBounds i true).getD i false = true := by simp [Array.getD_eq_getD_getElem?, hil]
            rw [hg]
            exact (toM hx).trans hx2
          · have hb : Nat.beq i c = false := by cases hb : Nat.beq i c; rfl; exact absurd (Nat.eq_of_beq_eq_true hb) hic
            rw [hb] at hx2
            rw [getD_set_ne _ hic]
            exact hx.ext hx2
        have cont : ∀ v w2, Chg (bif Nat.beq i c then M else zAh) w' w2 → F.In (zKr o v) w2 → wpAny P .any l.toArray (zFG N Q) (m + (l.length - n)) (listed.setIfInBounds i true) (a.put o.dst v) w2 := by
          intro v w2 hx2 hv
          have henv : (∀ t, t ≠ d → env (a.put o.dst v) t = env a t) ∧ env (a.put o.dst v) d = zKr o v := by
            cases hod : o.dst with
            | none =>
              rw [hod] at hdst
              have hNd : N ≤ d := Nat.le_of_ble_eq_true hdst
              refine ⟨fun t _ => rfl, ?_⟩
              simp only [zKr, hod]
              show a.tmps.getD d undef = undef
              have : a.tmps.size ≤ d := by rw [ha.size]; exact hNd
              simp [Array.getElem?_eq_none this]
            | some d' =>
              rw [hod] at hdst
              simp only [Bool.and_eq_true] at hdst
              have hd1 : d' = d := Nat.eq_of_beq_eq_true hdst.1
              have hd2 : d < N := by simpa [Nat.blt_eq] using hdst.2
              subst hd1
              rw [zEC ha hd2 v]
              refine ⟨fun t ht => ?_, ?_⟩
              · have : Nat.beq t d' = false := by cases hb : Nat.beq t d'; rfl; exact absurd (Nat.eq_of_beq_eq_true hb) ht
                simp [upd, this]
              · simp [upd, zKr, hod]
          refine ih _ _ _ ?_ (inv.set hi hin) (ha.put _ _) (hstep2 w2 hx2) ?_ ?_
          · have hl : listed.toList[i]? = some false := by
              simp only [Array.getD_eq_getD_getElem?, Array.getElem?_eq_getElem hil, Option.getD_some] at h1
              simp [hil, h1]
            have := zGv (l := listed.toList) hin (by simp; omega) hl
            rw [Array.toList_setIfInBounds]
            omega
          · intro t ht
            rw [henv.1 t (fun h => by
              subst h
              have := List.mem_of_getElem? hd
              simp [this] at ht), hu t ht]
          · intro j hj d' F' hd' hF'
            by_cases hij : j = i
            · subst hij
              rw [hd] at hd'; cases hd'
              rw [hF] at hF'; cases hF'
              rw [henv.2]
              exact FactT.at_in hv _
            · have hne : d' ≠ d := by
                intro h
                subst h
                exact hij (zDL hn hd' hd)
              rw [henv.1 d' hne]
              rw [getD_set_ne _ (Ne.symm hij)] at hj
              have h6 := hh j hj d' F' hd' hF'
              by_cases hic : i = c
              · have hg : (listed.setIfInBounds i true).getD c false = true := by rw [← hic]; simp [Array.getD_eq_getD_getElem?, hil]
                rw [hg]
                exact FactT.chg h6 (toM hx2) (zKI hO (by rw [← hG]; exact hF') (by omega))
              · have hb : Nat.beq i c = false := by
                  cases hb : Nat.beq i c
                  · rfl
                  · exact absurd (Nat.eq_of_beq_eq_true hb) hic
                rw [hb] at hx2
                rw [getD_set_ne _ hic]
                exact FactT.ext h6 hx2
        have hx0 : Chg (bif zGy c wss i then zAh else M) w1 w' := by
          cases hcb : zGy c wss i with
          | true => rw [hcalm hcb] at hx; exact hx
          | false => exact toM hx
        have hdo := hstep (env a) w' hx0 hu hH
        have hw : Region.wanted o (yielded l.toArray a.tmps) = true := by simp [Region.wanted, hgd]
        unfold wpOp
        simp only [h2, hw, if_true]
        exact Or.inl (hdo a ha rfl _ _ cont)
  have inv0 : HeadInv .any l.toArray n (Array.replicate l.toArray.size false) :=
    ⟨by simp, fun j oj _ hl => (by rw [getD_replicate_false] at hl; cases hl), fun t _ ht => getD_in (by simpa using ht) (getD_replicate_false _ _)⟩
  have h1 := key n (Array.replicate l.toArray.size false) a w1 (by simp; omega) inv0 ha (by rw [getD_replicate_false]; exact Chg.refl _ _) (fun t _ => by rw [he]) (fun j hj => by rw [getD_replicate_false] at hj; cases hj)
  have e3 : n + (l.length - n) = l.toArray.size := by simp; omega
  rw [e3] at h1
  exact h1
def zKq {M : Nat → Prop} (P : Program) (N : Nat) (ds : List Nat) (Fs : List (FactT M)) (σ : Env) (w : World) (own calm : Bool) (o : Oper) (ws : List Nat) (F : FactT M) (K : List Nat → Env → Prop) : Prop :=
 ∀ σ' w', Chg (bif calm then zAh else M) w w' → (∀ t, ds.contains t = false → σ' t = σ t) → (∀ j, ws.contains j = true → zJL ds Fs (!calm) j σ' w') → K ws σ' → zJq (bif own then M else zAh) P N o (fun v w => F.In (zKr o v) w) σ' w'
inductive DagStepsK {M : Nat → Prop} (P : Program) (N : Nat) (ds : List Nat) (Fs : List (FactT M)) (σ : Env) (w : World) (c : Nat) (all : List (List Nat)) (K : List Nat → Env → Prop) : Nat → List Oper → List (List Nat) → List (FactT M) → Prop where
  | nil {i : Nat} : DagStepsK P N ds Fs σ w c all K i [] [] []
  | cons {i : Nat} {o : Oper} {ws : List Nat} {F : FactT M} {l : List Oper} {wss : List (List Nat)} {Gs : List (FactT M)} : zKq P N ds Fs σ w (Nat.beq i c) (zGy c all i) o ws F K → DagStepsK P N ds Fs σ w c all K (i + 1) l wss Gs → DagStepsK P N ds Fs σ w c all K i (o :: l) (ws :: wss) (F :: Gs)
theorem DagStepsK.get {M : Nat → Prop} {P : Program} {N : Nat} {ds : List Nat} {Fs : List (FactT M)} {σ : Env} {w : World} {c : Nat} {all : List (List Nat)} {K : List Nat → Env → Prop} : ∀ {i : Nat} {l : List Oper} {wss : List (List Nat)} {Gs : List (FactT M)}, DagStepsK P N ds Fs σ w c all K i l wss Gs → ∀ {j : Nat} {o : Oper}, l[j]? = some o → ∃ ws F, wss[j]? = some ws ∧ Gs[j]? = some F ∧ zKq P N ds Fs σ w (Nat.beq (i + j) c) (zGy c all (i + j)) o ws F K
  | _, _, _, _, .nil, j, o, h => by simp at h
  | _, _, _, _, .cons h1 h2, 0, o, h => by simp at h; subst h; exact ⟨_, _, rfl, rfl, h1⟩
  | i, _, _, _, .cons h1 h2, j + 1, o, h => by
    obtain ⟨ws, F, a, b, c⟩ := h2.get (j := j) (by simpa using h)
    exact ⟨ws, F, by simpa using a, by simpa using b, by rw [show i + (j + 1) = i + 1 + j from by omega]; exact c⟩
end Go.Eng
namespace Go.Proofs
open Go Go.Eng
set_option maxRecDepth 100000
section
variable {P : Program} {σ : Env} {w : World} {dst : Option Tmp} {ty : TypeId} {pos : String} {af : Array Edge} {g : Option (Nat × Bool)} {t t' e : TypeId} {x y : Operand}
theorem zKE {a : Option Addr} {n c n' c' : Nat} (hu : P.underlying t = some (.slice e)) (hx : ev σ x = .slice a n c) (hy : ev σ y = .slice none n' c') :
  (execOp (ev σ) ⟨dst, .binOp .eql t x y t', ty, pos, af, g⟩).run P w = .ok (.value (.bool a.isNone)) w := by
 have h : (Op.equalIn 10000 t (.slice a n c) (.slice none n' c')).run P w = .ok a.isNone w := by
  rw [Op.equalIn]
  cases a <;> simp [run_underlying hu]
 cases a <;> simp_all [execOp, eqGuard, binOp, Op.equal, Op.maxDepth]
theorem zIf {s : Operand} {a a' : Option Addr} {n c c' size : Nat} (hu : P.underlying t = some (.slice e)) (hs : Siz P e size) (hx : ev σ s = .slice a n c) (hn : n ≤ c) (hy : ev σ x = .slice a' 0 c') :
  (execOp (ev σ) ⟨dst, .call ⟨.builtin .append, #[s, x], #[t, t]⟩, ty, pos, af, g⟩).run P w = .ok (.value (.slice a n c)) w := by
 have hz : size * 0 = 0 := Nat.mul_zero _
 cases a <;> cases a' <;> simp [execOp, resolve, invoke, builtin, Builtin.append_, hx, hy, run_underlying hu, hs.run, Builtin.lenOf, Builtin.firstCells, loadCells, loadCellsFrom, storeCells, hn]
theorem zHf {N : Nat} {Q : zFl} {K : Env → World → Prop} {ops : Array Oper} {rest : List Oper} {d size : Nat} (hN : d < N) (hu : P.underlying t = some (.slice e)) (hs : Siz P e size)
  (k : ∀ b w', New w w' b #[] e → WpL P N ops K Q rest (upd σ d (.slice (some ⟨b, 0, none⟩) 0 0)) w') : WpL P N ops K Q (⟨some d, .buildSlice t 0 #[], ty, pos, af, none⟩ :: rest) σ w := by
 refine zCi (v := .slice (some ⟨w.heap.size, 0, none⟩) 0 0) (w' := { w with heap := w.heap.push (.cells #[] e (0, 0)) }) rfl rfl hN ?_ (k _ _ (New.mk' w #[] e))
 have h0 : Array.range 0 = #[] := rfl
 simp [execOp, Instr.buildSlice, run_underlying hu, hs.run, Instr.fill, newRow, h0]
end
theorem zIi {w : World} {b e base size : Nat} (h : Blk w b #[] e) (hb : base ≤ b) : w.ownsRow base e size (.slice (some ⟨b, 0, none⟩) 0 0) 0 [] :=
 ⟨by simp, .inr ⟨b, 0, #[], rfl, hb, h, Nat.le_refl _, by simp [maxLen], by simp, by simp⟩⟩
theorem zNB (l : List Int) : (l.map intV).flatten = l.map (Value.int .i64) := by
  induction l with
  | nil => rfl
  | cons x l ih => simp only [List.map_cons, List.flatten_cons, ih]; rfl
theorem idxi_c (w0 : World) (v : Value) (x : Int) (l : List Int) (hs : zBr w0 v l) :
  Ret Tryz.prog 170 #[v, .int .i64 x] w0 fun r w => r = .int .i64 (idx (fun y => decide (x = y)) l) ∧ Ext w0 w := by
 obtain ⟨a, c, rfl⟩ := zCA.form hs
 have hlen : l.length ≤ 9223372036854775807 := by simpa using zCA.le hs
 simp only [List.length_map] at hs ⊢
 refine zAk Tryz.func170 rfl Tryz.ntmps170 (Nat.le_of_ble_eq_true rfl) ?_
 have E : Chg zAh w0 w0 := Chg.refl _ _
 refine zAA ?_
 refine qA (I6 0) rfl ?_
 refine zAB (zAP (zAA ?_))
 refine qM (.slice a l.length c) rfl ?_
 refine qV (zAV (ad := a) (n := l.length) (cap := c) Tryz.underlying26 rfl) ?_
 refine qM (I6 0) rfl ?_
 refine zAB (zAZ ?_)
 refine zBA (fun nn_ σ W1 => ∃ (k : Nat), (∃ jj_, σ = zCl jj_ [(0, (.slice a l.length c)), (1, (I6 x)), (7, (I6 (l.length : Int))), (8, (I6 (k : Int)))]) ∧ Chg zAh w0 W1 ∧ (k ≤ l.length) ∧ (∀ (i : Nat) (y : Int), i < k → l[i]? = some y → decide (x = y) = false) ∧ nn_ = l.length - k) (n := l.length - 0) ?_ ?_
 ·exact ⟨0, zBG.out ⟨rfl, rfl, rfl, rfl, trivial⟩, E, Nat.zero_le _, (fun i y h => absurd h (Nat.not_lt_zero _)), rfl⟩
 clear E
 rintro _ _ W1 ⟨k, ⟨j1, rfl⟩, E, hk, hno, rfl⟩
 refine zAA ?_
 refine qV (zBS (k := .i64) (a := (k : Int)) (b := (l.length : Int)) rfl rfl) ?_
 refine zAB (zAP ?_)
 refine zAM (b := decide (((k : Int) : Int) < (l.length : Int))) rfl (fun hlt => ?_) (fun hlt => ?_)
 ·have khlt := hlt
  replace hlt := of_decide_eq_true hlt
  obtain ⟨y, hy⟩ := zAa (l := l) (i := k) (by omega)
  obtain ⟨b, o, rfl, hcells⟩ := zBv hs (by omega)
  refine zAR (zAC (zAP (zAZ (zAA ?_))))
  refine qM (I6 (k : Int)) rfl ?_
  refine qA (I6 (k : Int)) rfl ?_
  refine zAB (zAA ?_)
  refine qM (I6 x) rfl ?_
  refine qM (.slice (some ⟨b, o, none⟩) l.length c) rfl ?_
  refine qM (I6 (k : Int)) rfl ?_
  refine qV (zAO (b := b) (o := o) (len := l.length) (cap := c) (i := k) (o' := o + k) rfl rfl rfl Tryz.underlying26 zAw (by omega) (by omega)) ?_
  refine qV (zAK (v := (I6 y)) rfl zAf (E.cell (fun f => f) (hcells k y hy))) ?_
  refine qV (zAg (k := .i64) (a := x) (b := y) rfl rfl) ?_
  refine zAB ?_
  refine zAM (b := decide ((x : Int) = y)) rfl (fun hp => ?_) (fun hp => ?_)
  ·have khp := hp
   replace hp := of_decide_eq_true hp
   refine zAA ?_
   refine qM (I6 (k : Int)) rfl ?_
   refine qA (I6 (k : Int)) rfl ?_
   refine zAB (zAQ (zAY (zAI (zAI (zAY (zAI ?_))))))
   refine zAS Tryz.results170 (v := (.int .i64 ((k : Nat) : Int))) rfl ?_
   exact ⟨zBF (zHr hy (by simpa using hp) hno).symm, E⟩
  have khp := hp
  replace hp := of_decide_eq_false hp
  refine zAR (zAU (zAC (zAW ?_)))
  refine qV (zBQ (k := .i64) (a := (k : Int)) (b := 1) (c := (k : Int) + 1) rfl rfl (zBs (by omega))) ?_
  refine qM (I6 ((k : Int) + 1)) rfl ?_
  refine zAB (zAC ?_)
  exact ⟨l.length - (k + 1), by omega, k + 1, zBG.out ⟨rfl, rfl, rfl, rfl, trivial⟩, E, (by omega), zEe hy (by simpa using hp) hno, rfl⟩
 have khlt := hlt
 replace hlt := of_decide_eq_false hlt
 have hkk : k = l.length := by omega
 refine zBB (zAe (zAe (zAr (zAC (zAA ?_)))))
 refine qA (I6 (-1)) rfl ?_
 refine zAB (zAQ ?_)
 refine zAS Tryz.results170 (v := (.int .i64 (-1))) rfl ?_
 exact ⟨zBF (zGB fun i y hy => hno i y (by have := zAo hy; omega) hy).symm, E⟩
theorem hasi_c (w0 : World) (v : Value) (x : Int) (l : List Int) (hs : zBr w0 v l) :
  Ret Tryz.prog 128 #[v, .int .i64 x] w0 fun r w => r = .bool (l.contains x) ∧ Ext w0 w := by
 refine zAk Tryz.func128 rfl Tryz.ntmps128 (Nat.le_of_ble_eq_true rfl) ?_
 have E : Chg zAh w0 w0 := Chg.refl _ _
 refine zAA ?_
 refine qA (.bool false) rfl ?_
 refine zAB (zAA ?_)
 refine qM v rfl ?_
 refine qM (I6 x) rfl ?_
 refine zAL rfl rfl (by decide) (zAT (vs := [v, (I6 x)]) Tryz.func170 nm170 bd170 rfl) (idxi_c _ v x l hs) ?_
 rintro _ w9 ⟨rfl, X9⟩
 replace E := E.ext X9
 refine qV (zFE (k := .i64) (a := idx (fun y => decide (x = y)) l) (b := 0) rfl rfl) ?_
 refine qA (.bool (decide ((0 : Int) ≤ idx (fun y => decide (x = y)) l))) rfl ?_
 refine zAB (zAQ ?_)
 refine zAS Tryz.results128 (v := (.bool (decide ((0 : Int) ≤ idx (fun y => decide (x = y)) l)))) rfl ?_
 exact ⟨zAt ((zGa _ l).trans (by rw [List.contains_eq_any_beq]; congr 1)), E⟩
end Go.Proofs
namespace Go.Proofs
open Go Go.Eng
set_option maxRecDepth 100000
theorem zKH {P : Program} {w : World} {e : TypeId} {cs : Array Value} {o : Nat} {v : Value} (hf : zEu P e = true) (hv : cs[o]? = some v) : (part e cs o).run P w = .ok v w := by
 simp [part, zEu.run hf, hv]
theorem zHt {α : Type} {l m : List α} (hl : l.length = m.length) (h : ∀ i, i < l.length → l[i]? = m[i]?) : l = m := by
 apply List.ext_getElem?
 intro i
 rcases Nat.lt_or_ge i l.length with h' | h'
 ·exact h i h'
 rw [List.getElem?_eq_none h', List.getElem?_eq_none (by omega)]
section
variable {P : Program} {σ : Env} {w : World} {dst : Option Tmp} {ty : TypeId} {pos : String} {af : Array Edge} {g : Option (Nat × Bool)} {t t' e : TypeId} {x y : Operand}
theorem zIv {f0 f1 : Field} (d : Nat) (a b c f : Int) (hp : P.stoodInHeld t = false) (ht : P.underlying t = some (.struct #[f0, f1])) (hn0 : f0.name ≠ "_") (hn1 : f1.name ≠ "_") (ho0 : f0.offset = 0) (ho1 : f1.offset = 1) (h0 : f0.type = e) (h1 : f1.type = e) (he : P.underlying e = some (.int .i64)) (hf : zEu P e = true) :
  (Op.equalIn (d + 2) t (.agg #[.int .i64 a, .int .i64 b]) (.agg #[.int .i64 c, .int .i64 f])).run P w = .ok (decide (a = c) && decide (b = f)) w := by
 have q1 : ∀ x y : Int, (Op.equalIn (d + 1) e (.int .i64 x) (.int .i64 y)).run P w = .ok (x == y) w := fun x y => run_equalIn_int w d e .i64 .i64 x y he
 have p0 : ∀ x y : Int, (part e #[.int .i64 x, .int .i64 y] 0).run P w = .ok (.int .i64 x) w := fun x y => zKH hf rfl
 have p1 : ∀ x y : Int, (part e #[.int .i64 x, .int .i64 y] 1).run P w = .ok (.int .i64 y) w := fun x y => zKH hf rfl
 have hpr : (program).run P w = .ok P w := rfl
 rw [Op.equalIn]
 simp only [Sem.run_bind, run_underlying ht, Result.andThen_ok, hpr, hp]
 by_cases hac : a = c
 ·by_cases hbf : b = f
  ·simp [hn0, hn1, ho0, ho1, h0, h1, p0, p1, q1, hac, hbf]
  simp [hn0, hn1, ho0, ho1, h0, h1, p0, p1, q1, hac, hbf]
 simp [hn0, hn1, ho0, ho1, h0, h1, p0, p1, q1, hac]
theorem zIe {f0 f1 : Field} {a b c f : Int} (hp : P.stoodInHeld t = false) (ht : P.underlying t = some (.struct #[f0, f1])) (hn0 : f0.name ≠ "_") (hn1 : f1.name ≠ "_") (ho0 : f0.offset = 0) (ho1 : f1.offset = 1) (h0 : f0.type = e) (h1 : f1.type = e) (he : P.underlying e = some (.int .i64)) (hf : zEu P e = true) (hm : P.eqGuardType P.depth t = false)
  (hx : ev σ x = .agg #[.int .i64 a, .int .i64 b]) (hy : ev σ y = .agg #[.int .i64 c, .int .i64 f]) :
  (execOp (ev σ) ⟨dst, .binOp .neq t x y t', ty, pos, af, g⟩).run P w = .ok (.value (.bool (!(decide (a = c) && decide (b = f))))) w := by
 have h := zIv (P := P) (w := w) 9998 a b c f hp ht hn0 hn1 ho0 ho1 h0 h1 he hf
 simp only [execOp, hx, hy, Sem.run_bind, run_eqGuard_agg w .neq t x y _ _ hm, Result.andThen_ok, run_neq_struct, h]
 rfl
end
theorem zNF : Tryz.prog.eqGuardType Tryz.prog.depth 103 = false := by kernel_rfl
theorem zIQ : Tryz.prog.stoodInHeld 103 = false := by kernel_rfl
set_option maxHeartbeats 400000 in
theorem zRP (w0 : World) (v1 v2 : Value) (l1 l2 : List (Int × Int)) (h1 : zBZ w0 v1 l1) (h2 : zBZ w0 v2 l2) :
  Ret Tryz.prog 80 #[v1, v2] w0 fun v w => v = .bool (decide (l1 = l2)) ∧ Ext w0 w := by
 obtain ⟨a1, c1, rfl⟩ := zCA.form h1
 obtain ⟨a2, c2, rfl⟩ := zCA.form h2
 have hb1 : l1.length ≤ 9223372036854775807 := by simpa using zCA.le h1
 simp only [List.length_map] at h1 h2 ⊢
 refine zAk Tryz.func80 rfl Tryz.ntmps80 (Nat.le_of_ble_eq_true rfl) ?_
 have E : Chg zAh w0 w0 := Chg.refl _ _
 refine zAA ?_
 refine qA (.bool false) rfl ?_
 refine zAB (zAP (zAA ?_))
 refine qM (.slice a1 l1.length c1) rfl ?_
 refine qV (zAV (ad := a1) (n := l1.length) (cap := c1) Tryz.underlying22 rfl) ?_
 refine qM (.slice a2 l2.length c2) rfl ?_
 refine qV (zAV (ad := a2) (n := l2.length) (cap := c2) Tryz.underlying22 rfl) ?_
 refine qV (zBz (k := .i64) (a := (l1.length : Int)) (b := (l2.length : Int)) rfl rfl) ?_
 refine zAB ?_
 refine zAM (b := decide (((l1.length : Int) : Int) ≠ (l2.length : Int))) rfl (fun hl => ?_) (fun hl => ?_)
 ·have khl := hl
  replace hl := of_decide_eq_true hl
  refine zAA ?_
  refine qA (.bool false) rfl ?_
  refine zAB (zAQ (zAI ?_))
  refine zAS Tryz.results80 (v := (.bool false)) rfl ?_
  exact ⟨zAt (by symm; rw [decide_eq_false_iff_not]; intro h; rw [h] at hl; exact hl rfl), E⟩
 have khl := hl
 replace hl := of_decide_eq_false hl
 refine zAR (zAC (zAP (zAA ?_)))
 refine qM (.slice a1 l1.length c1) rfl ?_
 refine qV (zAV (ad := a1) (n := l1.length) (cap := c1) Tryz.underlying22 rfl) ?_
 refine qM (I6 0) rfl ?_
 refine zAB (zAZ ?_)
 refine zBA (fun nn_ σ W2 => ∃ (k : Nat), (∃ jj_, σ = zCl jj_ [(0, (.slice a1 l1.length c1)), (1, (.slice a2 l2.length c2)), (12, (I6 (l1.length : Int))), (13, (I6 (k : Int)))]) ∧ Chg zAh w0 W2 ∧ (k ≤ l1.length) ∧ (∀ (i : Nat), i < k → l1[i]? = l2[i]?) ∧ nn_ = l1.length - k) (n := l1.length - 0) ?_ ?_
 ·exact ⟨0, zBG.out ⟨rfl, rfl, rfl, rfl, trivial⟩, E, Nat.zero_le _, (fun i h => absurd h (Nat.not_lt_zero _)), rfl⟩
 clear E
 rintro _ _ W2 ⟨k, ⟨j2, rfl⟩, E, hk, heq, rfl⟩
 refine zAA ?_
 refine qV (zBS (k := .i64) (a := (k : Int)) (b := (l1.length : Int)) rfl rfl) ?_
 refine zAB (zAP ?_)
 refine zAM (b := decide (((k : Int) : Int) < (l1.length : Int))) rfl (fun hlt => ?_) (fun hlt => ?_)
 ·have khlt := hlt
  replace hlt := of_decide_eq_true hlt
  obtain ⟨p, hp⟩ := zAa (l := l1) (i := k) (by omega)
  obtain ⟨q, hq⟩ := zAa (l := l2) (i := k) (by omega)
  obtain ⟨b1, o1, rfl, hc1⟩ := zBc h1 (by omega)
  obtain ⟨b2, o2, rfl, hc2⟩ := zBc h2 (by omega)
  refine zAR (zAC (zAP (zAZ (zAA ?_))))
  refine qM (I6 (k : Int)) rfl ?_
  refine qA (I6 (k : Int)) rfl ?_
  refine zAB ?_
  refine zEw 8 mixed (by kernel_rfl) ?_
  intro w4 X4 _
  replace E := E.ext X4
  refine qT (zAn (v := (.slice (some ⟨b1, o1, none⟩) l1.length c1)) rfl) ?_
  refine qT (zAn (v := (I6 (k : Int))) rfl) ?_
  refine qT (zAO (b := b1) (o := o1) (len := l1.length) (cap := c1) (i := k) (o' := o1 + k * 2) rfl rfl rfl Tryz.underlying22 zBX (by omega) (by omega)) ?_
  refine qT (zAG (vs := [(I6 p.1), (I6 p.2)]) rfl zDG zBX rfl ((hc1 k p hp).ext E)) ?_
  refine qT (zAn (v := (.slice (some ⟨b2, o2, none⟩) l2.length c2)) rfl) ?_
  refine qT (zAn (v := (I6 (k : Int))) rfl) ?_
  refine qT (zAO (b := b2) (o := o2) (len := l2.length) (cap := c2) (i := k) (o' := o2 + k * 2) rfl rfl rfl Tryz.underlying22 zBX (by omega) (by omega)) ?_
  refine qT (zAG (vs := [(I6 q.1), (I6 q.2)]) rfl zDG zBX rfl ((hc2 k q hq).ext E)) ?_
  refine zIC ?_
  refine zCi (v := (.bool (!(decide (p.1 = q.1) && decide (p.2 = q.2))))) rfl rfl (by decide) (zIe zIQ Tryz.underlying103 (by decide) (by decide) rfl rfl rfl rfl Tryz.underlying3 zAf zNF rfl rfl) ?_
  refine zAB ?_
  refine zAM (b := !(decide (p.1 = q.1) && decide (p.2 = q.2))) rfl (fun hpq => ?_) (fun hpq => ?_)
  ·have khpq := hpq
   replace hpq := by simpa using hpq
   refine zAA ?_
   refine qA (.bool false) rfl ?_
   refine zAB (zAQ (zAY (zAI (zAI (zAY (zAI ?_))))))
   refine zAS Tryz.results80 (v := (.bool false)) rfl ?_
   exact ⟨zAt (by symm; rw [decide_eq_false_iff_not]; intro h; subst h; rw [hp] at hq; cases hq; simp at hpq), E⟩
  have khpq := hpq
  replace hpq := by simpa using hpq
  have hpq2 : p = q := by obtain ⟨p1, p2⟩ := p; obtain ⟨q1, q2⟩ := q; simp at hpq; simp; exact hpq
  refine zAR (zAU (zAC (zAW ?_)))
  refine qV (zBQ (k := .i64) (a := (k : Int)) (b := 1) (c := (k : Int) + 1) rfl rfl (zBs (by omega))) ?_
  refine qM (I6 ((k : Int) + 1)) rfl ?_
  refine zAB (zAC ?_)
  exact ⟨l1.length - (k + 1), by omega, k + 1, zBG.out ⟨rfl, rfl, rfl, rfl, trivial⟩, E, (by omega), (fun i hi => by rcases Nat.lt_or_ge i k with h | h; exact heq i h; obtain rfl : i = k := (by omega); rw [hp, hq, hpq2]), rfl⟩
 have khlt := hlt
 replace hlt := of_decide_eq_false hlt
 have hkk : k = l1.length := by omega
 refine zBB (zAe (zAe (zAr (zAC (zAA ?_)))))
 refine qA (.bool true) rfl ?_
 refine zAB (zAQ ?_)
 refine zAS Tryz.results80 (v := (.bool true)) rfl ?_
 exact ⟨zAt (by symm; rw [decide_eq_true_eq]; exact zHt (by omega) (fun i hi => heq i (by omega))), E⟩
theorem zKw {w : World} {b o : Nat} {l : List (Int × Int)} (h : ∀ i s, l[i]? = some s → zAx w b (o + i * 2) [.int .i64 s.1, .int .i64 s.2]) : zAx w b o (l.map zDA).flatten := by
  induction l generalizing o with
  | nil => intro i v hv; simp at hv
  | cons s l ih =>
    have h0 := h 0 s rfl
    have h1 := ih (o := o + 2) (fun i u hu => by have := h (i + 1) u (by simpa using hu); rwa [show o + (i + 1) * 2 = o + 2 + i * 2 from by omega] at this)
    intro i v hv
    simp only [List.map_cons, List.flatten_cons] at hv
    have hl : (zDA s).length = 2 := rfl
    rcases Nat.lt_or_ge i 2 with hi | hi
    · rw [List.getElem?_append_left (by omega)] at hv
      have := h0 i v hv
      simpa using this
    · rw [List.getElem?_append_right (by omega)] at hv
      have := h1 (i - 2) v (by rw [hl] at hv; exact hv)
      rwa [show o + 2 + (i - 2) = o + i from by omega] at this
theorem zLt (l : List (Int × Int)) : (l.map zDA).flatten.length = l.length * 2 := by
  induction l with
  | nil => rfl
  | cons s l ih => simp only [List.map_cons, List.flatten_cons, List.length_append, ih, List.length_cons]; have : (zDA s).length = 2 := rfl; omega
theorem zLu (l : List (Int × Int)) : ∀ u ∈ (l.map zDA).flatten, u.oneCell' = true := by
 intro u hu
 simp only [List.mem_flatten, List.mem_map] at hu
 obtain ⟨r, ⟨s, _, rfl⟩, hu⟩ := hu
 simp [zDA] at hu
 rcases hu with rfl | rfl <;> rfl
def zBx (x y : Int) : Int := if x < y then -1 else if y < x then 1 else 0
theorem nan_c (w0 : World) (x : Int) : Ret Tryz.prog 180 #[.int .i64 x] w0 fun v w => v = .bool false ∧ Ext w0 w := by
 refine zAk Tryz.func180 rfl Tryz.ntmps180 (Nat.le_of_ble_eq_true rfl) ?_
 have E : Chg zAh w0 w0 := Chg.refl _ _
 refine zAA ?_
 refine qA (.bool false) rfl ?_
 refine zAB (zAA ?_)
 refine qM (I6 x) rfl ?_
 refine qM (I6 x) rfl ?_
 refine qV (zBz (k := .i64) (a := x) (b := x) rfl rfl) ?_
 refine qA (.bool (decide ((x : Int) ≠ x))) rfl ?_
 refine zAB (zAQ ?_)
 refine zAS Tryz.results180 (v := (.bool (decide ((x : Int) ≠ x)))) rfl ?_
 exact ⟨zAt (by simp), E⟩
theorem zER (w0 : World) (x y : Int) : Ret Tryz.prog 158 #[.int .i64 x, .int .i64 y] w0 fun v w => v = .int .i64 (zBx x y) ∧ Ext w0 w := by
 refine zAk Tryz.func158 rfl Tryz.ntmps158 (Nat.le_of_ble_eq_true rfl) ?_
 have E : Chg zAh w0 w0 := Chg.refl _ _
 refine zAA ?_
 refine qA (I6 0) rfl ?_
 refine zAB (zAA ?_)
 refine qM (I6 x) rfl ?_
 refine zAL rfl rfl (by decide) (zAT (vs := [(I6 x)]) Tryz.func180 nm180 bd180 rfl) (nan_c _ x) ?_
 rintro _ w9 ⟨rfl, X9⟩
 replace E := E.ext X9
 refine qA (.bool false) rfl ?_
 refine zAB (zAA ?_)
 refine qM (I6 y) rfl ?_
 refine zAL rfl rfl (by decide) (zAT (vs := [(I6 y)]) Tryz.func180 nm180 bd180 rfl) (nan_c _ y) ?_
 rintro _ w19 ⟨rfl, X19⟩
 replace E := E.ext X19
 refine qA (.bool false) rfl ?_
 refine zAB (zAP (zAA ?_))
 refine qM (.bool false) rfl ?_
 refine zAB ?_
 refine zAX rfl ?_
 refine zAR (zAC (zAP (zAA ?_)))
 refine qM (.bool false) rfl ?_
 refine zAB ?_
 refine zAX rfl ?_
 refine zAR (zAC (zAP (zAA ?_)))
 refine qM (I6 x) rfl ?_
 refine qM (I6 y) rfl ?_
 refine qV (zBS (k := .i64) (a := x) (b := y) rfl rfl) ?_
 refine zAB ?_
 refine zAM (b := decide ((x : Int) < y)) rfl (fun h1 => ?_) (fun h1 => ?_)
 ·have kh1 := h1
  replace h1 := of_decide_eq_true h1
  refine zAA ?_
  refine qA (I6 (-1)) rfl ?_
  refine zAB (zAQ (zAI ?_))
  refine zAS Tryz.results158 (v := (.int .i64 (-1))) rfl ?_
  exact ⟨zBF (by unfold zBx; rw [if_pos h1]), E⟩
 have kh1 := h1
 replace h1 := of_decide_eq_false h1
 refine zAR (zAC (zAP (zAA ?_)))
 refine qM (I6 x) rfl ?_
 refine qM (I6 y) rfl ?_
 refine qV (zCM (k := .i64) (a := x) (b := y) rfl rfl) ?_
 refine zAB ?_
 refine zAM (b := decide ((y : Int) < x)) rfl (fun h2 => ?_) (fun h2 => ?_)
 ·have kh2 := h2
  replace h2 := of_decide_eq_true h2
  refine zAA ?_
  refine qA (I6 1) rfl ?_
  refine zAB (zAQ (zAI ?_))
  refine zAS Tryz.results158 (v := (.int .i64 1)) rfl ?_
  exact ⟨zBF (by unfold zBx; rw [if_neg h1, if_pos h2]), E⟩
 have kh2 := h2
 replace h2 := of_decide_eq_false h2
 refine zAR (zAC (zAA ?_))
 refine qA (I6 0) rfl ?_
 refine zAB (zAQ ?_)
 refine zAS Tryz.results158 (v := (.int .i64 0)) rfl ?_
 exact ⟨zBF (by unfold zBx; rw [if_neg h1, if_neg h2]), E⟩
section
variable {P : Program} {σ : Env} {w : World} {dst : Option Tmp} {ty : TypeId} {pos : String} {af : Array Edge} {g : Option (Nat × Bool)} {tys : Array TypeId} {x y : Operand} {k : IntKind} {a b c : Int}
theorem zPC (hx : ev σ x = .int k a) (hy : ev σ y = .int k b) (hc : max a b = c) :
  (execOp (ev σ) ⟨dst, .call ⟨.builtin .max, #[x, y], tys⟩, ty, pos, af, g⟩).run P w = .ok (.value (.int k c)) w := by
 subst hc
 have : (if a < b then b else a) = max a b := by split <;> omega
 simp [execOp, resolve, invoke, builtin, Builtin.max_, Builtin.max2, hx, hy, this]
end
end Go.Proofs
namespace Go.Proofs
open Go Go.Eng
set_option maxRecDepth 100000
theorem zJn.ext {w w' : World} {v : Value} {l : List (Nat × Nat)} (h : zJn w v l) (e : Ext w w') : zJn w' v l := zCA.ext h e
end Go.Proofs
namespace Go.Eng
open Go
def zDE (S : Nat → Prop) (w : World) (k : Nat) (v : Value) (rows : List (List Value)) : Prop :=
 ∃ a cap, v = .slice a rows.length cap ∧ rows.length ≤ 9223372036854775807 ∧ rows.length ≤ cap ∧ (rows = [] ∨ ∃ b o, S b ∧ a = some ⟨b, o, none⟩ ∧ ∀ i r, rows[i]? = some r → zAx w b (o + i * k) r)
theorem zDE.at {S : Nat → Prop} {w : World} {k : Nat} {v : Value} {rows : List (List Value)} (h : zDE S w k v rows) : zCA w k v rows := by
 obtain ⟨a, cap, h1, h2, h3, h4⟩ := h
 refine ⟨a, cap, h1, h2, h3, ?_⟩
 rcases h4 with h | ⟨b, o, _, h5, h6⟩
 ·exact .inl h
 exact .inr ⟨b, o, h5, h6⟩
theorem zDE.of {w : World} {k : Nat} {v : Value} {rows : List (List Value)} (h : zCA w k v rows) : zDE (fun _ => True) w k v rows := by
 obtain ⟨a, cap, h1, h2, h3, h4⟩ := h
 refine ⟨a, cap, h1, h2, h3, ?_⟩
 rcases h4 with h | ⟨b, o, h5, h6⟩
 ·exact .inl h
 exact .inr ⟨b, o, trivial, h5, h6⟩
theorem zDE.chg {S M : Nat → Prop} {w w' : World} {k : Nat} {v : Value} {rows : List (List Value)} (h : zDE S w k v rows) (c : Chg M w w') (hm : ∀ b, S b → ¬ M b) : zDE S w' k v rows := by
 obtain ⟨a, cap, h1, h2, h3, h4⟩ := h
 refine ⟨a, cap, h1, h2, h3, ?_⟩
 rcases h4 with h | ⟨b, o, hb, h5, h6⟩
 ·exact .inl h
 exact .inr ⟨b, o, hb, h5, fun i r hr => (h6 i r hr).chg c (hm b hb)⟩
theorem zDE.mono {S S' : Nat → Prop} {w : World} {k : Nat} {v : Value} {rows : List (List Value)} (h : zDE S w k v rows) (hs : ∀ b, S b → S' b) : zDE S' w k v rows := by
 obtain ⟨a, cap, h1, h2, h3, h4⟩ := h
 refine ⟨a, cap, h1, h2, h3, ?_⟩
 rcases h4 with h | ⟨b, o, hb, h5⟩
 ·exact .inl h
 exact .inr ⟨b, o, hs b hb, h5⟩
theorem zDE.nil (S : Nat → Prop) (w : World) (k : Nat) (a : Option Addr) (cap : Nat) : zDE S w k (.slice a 0 cap) [] := ⟨a, cap, rfl, by simp, by simp, .inl rfl⟩
theorem zDE.mk {S : Nat → Prop} {w : World} {k : Nat} {b o n c : Nat} {rows : List (List Value)} (h : zCA w k (.slice (some ⟨b, o, none⟩) n c) rows) (hs : S b) : zDE S w k (.slice (some ⟨b, o, none⟩) n c) rows := by
 obtain ⟨a, cap, h1, h2, h3, h4⟩ := h
 refine ⟨a, cap, h1, h2, h3, ?_⟩
 rcases h4 with h | ⟨b', o', h5, h6⟩
 ·exact .inl h
 simp only [Value.slice.injEq] at h1
 have : b' = b := by rw [← h1.1] at h5; simp at h5; exact h5.1.symm
 exact .inr ⟨b', o', this ▸ hs, h5, h6⟩
mutual
def zAc (S : Nat → Prop) (w : World) : Re → List Value → Prop
  | .mk k set args mn mx ng, vs => ∃ sa sc aa ac, vs = [.int .i64 k, .slice sa set.length sc, .slice aa args.length ac, .int .i64 mn, .int .i64 mx, .bool ng] ∧ zDE S w 2 (.slice sa set.length sc) (set.map zDA) ∧ (args.length ≤ ac ∧ ac ≤ 9223372036854775807) ∧
      (args = [] ∨ ∃ b o, S b ∧ aa = some ⟨b, o, none⟩ ∧ zBM S w b o args)
def zBM (S : Nat → Prop) (w : World) (b : Nat) : Nat → List Re → Prop
  | _, [] => True
  | o, t :: ts => (∃ vs, zAx w b o vs ∧ zAc S w t vs) ∧ zBM S w b (o + 6) ts
end
mutual
theorem zAc.at {S : Nat → Prop} {w : World} : ∀ (t : Re) {vs : List Value}, zAc S w t vs → zBC w t vs
  | .mk k set args mn mx ng, vs, h => by
    simp only [zAc] at h
    simp only [zBC]
    obtain ⟨sa, sc, aa, ac, hv, hs, hl, ha⟩ := h
    refine ⟨sa, sc, aa, ac, hv, hs.at, hl, ?_⟩
    rcases ha with h | ⟨b, o, _, h1, h2⟩
    · exact .inl h
    · exact .inr ⟨b, o, h1, zBM.at args h2⟩
theorem zBM.at {S : Nat → Prop} {w : World} {b : Nat} : ∀ (ts : List Re) {o : Nat}, zBM S w b o ts → zBw w b o ts
  | [], _, _ => by simp only [zBw]
  | t :: ts, o, h => by
    simp only [zBM] at h
    simp only [zBw]
    obtain ⟨⟨vs, h1, h2⟩, h3⟩ := h
    exact ⟨⟨vs, h1, zAc.at t h2⟩, zBM.at ts h3⟩
end
mutual
theorem zAc.chg {S M : Nat → Prop} {w w' : World} (c : Chg M w w') (hm : ∀ b, S b → ¬ M b) : ∀ (t : Re) {vs : List Value}, zAc S w t vs → zAc S w' t vs
  | .mk k set args mn mx ng, vs, h => by
    simp only [zAc] at h ⊢
    obtain ⟨sa, sc, aa, ac, hv, hs, hl, ha⟩ := h
    refine ⟨sa, sc, aa, ac, hv, hs.chg c hm, hl, ?_⟩
    rcases ha with h | ⟨b, o, hb, h1, h2⟩
    · exact .inl h
    · exact .inr ⟨b, o, hb, h1, zBM.chg c hm args hb h2⟩
theorem zBM.chg {S M : Nat → Prop} {w w' : World} (c : Chg M w w') (hm : ∀ b, S b → ¬ M b) {b : Nat} : ∀ (ts : List Re) {o : Nat}, S b → zBM S w b o ts → zBM S w' b o ts
  | [], _, _, _ => by simp only [zBM]
  | t :: ts, o, hb, h => by
    simp only [zBM] at h ⊢
    obtain ⟨⟨vs, h1, h2⟩, h3⟩ := h
    exact ⟨⟨vs, h1.chg c (hm b hb), zAc.chg c hm t h2⟩, zBM.chg c hm ts hb h3⟩
end
mutual
theorem zAc.mono {S S' : Nat → Prop} {w : World} (hs : ∀ b, S b → S' b) : ∀ (t : Re) {vs : List Value}, zAc S w t vs → zAc S' w t vs
  | .mk k set args mn mx ng, vs, h => by
    simp only [zAc] at h ⊢
    obtain ⟨sa, sc, aa, ac, hv, h0, hl, ha⟩ := h
    refine ⟨sa, sc, aa, ac, hv, h0.mono hs, hl, ?_⟩
    rcases ha with h | ⟨b, o, hb, h1, h2⟩
    · exact .inl h
    · exact .inr ⟨b, o, hs b hb, h1, zBM.mono hs args h2⟩
theorem zBM.mono {S S' : Nat → Prop} {w : World} (hs : ∀ b, S b → S' b) {b : Nat} : ∀ (ts : List Re) {o : Nat}, zBM S w b o ts → zBM S' w b o ts
  | [], _, _ => by simp only [zBM]
  | t :: ts, o, h => by
    simp only [zBM] at h ⊢
    obtain ⟨⟨vs, h1, h2⟩, h3⟩ := h
    exact ⟨⟨vs, h1, zAc.mono hs t h2⟩, zBM.mono hs ts h3⟩
end
theorem zAc.ext {S : Nat → Prop} {w w' : World} (e : Ext w w') (t : Re) {vs : List Value} (h : zAc S w t vs) : zAc S w' t vs := zAc.chg e (fun _ _ f => f) t h
theorem zAc.form {S : Nat → Prop} {w : World} {t : Re} {vs : List Value} (h : zAc S w t vs) : ∃ sa sc aa ac, vs = [.int .i64 t.kind, .slice sa t.set.length sc, .slice aa t.args.length ac, .int .i64 t.mn, .int .i64 t.mx, .bool t.neg] ∧ zDE S w 2 (.slice sa t.set.length sc) (t.set.map zDA) ∧ (t.args.length ≤ ac ∧ ac ≤ 9223372036854775807) ∧
  (t.args = [] ∨ ∃ b o, S b ∧ aa = some ⟨b, o, none⟩ ∧ zBM S w b o t.args) := by
 cases t; simp only [zAc] at h; exact h
theorem zAc.of {S : Nat → Prop} {w : World} {k : Int} {set : List (Int × Int)} {args : List Re} {mn mx : Int} {ng : Bool} {sa aa : Option Addr} {sc ac : Nat} (hs : zDE S w 2 (.slice sa set.length sc) (set.map zDA)) (hl : (args.length ≤ ac ∧ ac ≤ 9223372036854775807)) (ha : args = [] ∨ ∃ b o, S b ∧ aa = some ⟨b, o, none⟩ ∧ zBM S w b o args) :
  zAc S w (.mk k set args mn mx ng) [.int .i64 k, .slice sa set.length sc, .slice aa args.length ac, .int .i64 mn, .int .i64 mx, .bool ng] := by
 simp only [zAc]; exact ⟨sa, sc, aa, ac, rfl, hs, hl, ha⟩
theorem zBM.one {S : Nat → Prop} {w : World} {b o : Nat} {t : Re} {vs : List Value} (hc : zAx w b o vs) (h : zAc S w t vs) : zBM S w b o [t] := by
 simp only [zBM]; exact ⟨⟨vs, hc, h⟩, trivial⟩
theorem zBM.two {S : Nat → Prop} {w : World} {b o : Nat} {t u : Re} {vs us : List Value} (hc : zAx w b o vs) (h : zAc S w t vs) (hc' : zAx w b (o + 6) us) (h' : zAc S w u us) : zBM S w b o [t, u] := by
 simp only [zBM]; exact ⟨⟨vs, hc, h⟩, ⟨us, hc', h'⟩, trivial⟩
theorem zBM.get {S : Nat → Prop} {w : World} {b : Nat} : ∀ {ts : List Re} {o i : Nat} {t : Re}, zBM S w b o ts → ts[i]? = some t → ∃ vs, zAx w b (o + i * 6) vs ∧ zAc S w t vs
  | [], _, _, _, _, h => by simp at h
  | x :: ts, o, 0, t, h, hi => by
    simp only [zBM] at h
    simp at hi
    subst hi
    simpa using h.1
  | x :: ts, o, i + 1, t, h, hi => by
    simp only [zBM] at h
    have := zBM.get h.2 (i := i) (by simpa using hi)
    rwa [show o + (i + 1) * 6 = o + 6 + i * 6 from by omega]
theorem zAc.len {S : Nat → Prop} {w : World} {t : Re} {vs : List Value} (h : zAc S w t vs) : vs.length = 6 := (zAc.at t h).len
theorem zAc.of_at {w : World} : ∀ (t : Re) {vs : List Value}, zBC w t vs → zAc (fun b => b < w.heap.size) w t vs := by
  intro t
  have key : ∀ n, (∀ t : Re, t.size ≤ n → ∀ vs, zBC w t vs → zAc (fun b => b < w.heap.size) w t vs) := by
    intro n
    induction n with
    | zero => intro t ht; have := t.size_pos; omega
    | succ n ih =>
      intro t hn vs h
      obtain ⟨sa, sc, aa, ac, rfl, hs, hl, ha⟩ := h.form
      have hsz := t.size_eq
      cases t with
      | mk k set args mn mx ng =>
      simp only [Re.kind, Re.set, Re.args, Re.mn, Re.mx, Re.neg] at *
      refine zAc.of ?_ hl ?_
      · obtain ⟨a, cap, h1, h2, h3, h4⟩ := hs
        refine ⟨a, cap, h1, h2, h3, ?_⟩
        rcases h4 with h | ⟨b, o, h5, h6⟩
        · exact .inl h
        · cases set with
          | nil => exact .inl rfl
          | cons s r =>
            have := h6 0 (zDA s) rfl 0 _ rfl
            exact .inr ⟨b, o, World.block_lt_of_cell? w _ this, h5, h6⟩
      · rcases ha with h | ⟨b, o, h1, h2⟩
        · exact .inl h
        · have key2 : ∀ (ts : List Re) (o : Nat), Re.sizes ts ≤ n → zBw w b o ts → zBM (fun b => b < w.heap.size) w b o ts := by
            intro ts
            induction ts with
            | nil => intro _ _ _; simp only [zBM]
            | cons t ts ih2 =>
              intro o hz h
              simp only [Re.sizes] at hz
              simp only [zBw] at h
              simp only [zBM]
              obtain ⟨⟨vs, h3, h4⟩, h5⟩ := h
              exact ⟨⟨vs, h3, ih t (by omega) vs h4⟩, ih2 _ (by omega) h5⟩
          cases args with
          | nil => exact .inl rfl
          | cons t ts =>
            have h3 := h2
            simp only [zBw] at h3
            obtain ⟨⟨vs, h4, h5⟩, _⟩ := h3
            obtain ⟨_, _, _, _, rfl, _⟩ := h5.form
            have := h4 0 _ rfl
            exact .inr ⟨b, o, World.block_lt_of_cell? w _ this, h1, key2 _ o (by omega) h2⟩
  exact fun {vs} h => key t.size t (Nat.le_refl _) vs h
end Go.Eng
namespace Go.Proofs
open Go Go.Eng
set_option maxRecDepth 100000
abbrev TS : Nat := 99
def zJI (wb w : World) (bs : Nat) (l : List Int) : Prop := ∃ a c, Blk w bs #[.slice a l.length c] TS ∧ zBr wb (.slice a l.length c) l
theorem zJI.ext {wb w w' : World} {bs : Nat} {l : List Int} (h : zJI wb w bs l) (e : Ext w w') : zJI wb w' bs l := let ⟨a, c, h1, h2⟩ := h; ⟨a, c, e.keep h1, h2⟩
theorem zJI.lt {wb w : World} {bs : Nat} {l : List Int} (h : zJI wb w bs l) : bs < w.heap.size := let ⟨_, _, h1, _⟩ := h; h1.lt
end Go.Proofs
namespace Go.Proofs
open Go Go.Eng
set_option maxRecDepth 100000
def zKM (r : Int) : Re := .mk 2 [(r, r)] [] 0 0 false
theorem one_at {w : World} {b : Nat} {r : Int} (h : zBZ w (.slice (some ⟨b, 0, none⟩) 1 1) [(r, r)]) : zBC w (zKM r) [.int .i64 2, .slice (some ⟨b, 0, none⟩) 1 1, .slice none 0 0, .int .i64 0, .int .i64 0, .bool false] :=
 zBC.of (set := [(r, r)]) (args := []) h (by simp) (.inl rfl)
end Go.Proofs
namespace Go.Proofs
open Go Go.Eng
set_option maxRecDepth 100000
theorem zJI.put {wb w w' : World} {bs b : Nat} {l : List Int} {c : Array Value} {t : TypeId} (h : zJI wb w bs l) (s : Put w w' b c t) (hne : bs ≠ b) : zJI wb w' bs l :=
 let ⟨a, c, h1, h2⟩ := h; ⟨a, c, s.keep hne h1, h2⟩
theorem zOA {k : Int} (h : k = 3 ∨ k = 4 ∨ k = 7) (t u : Re) : zBj (.mk k [] [t, u] 0 0 false) = 0 := by
 rcases h with rfl | rfl | rfl <;> simp [zBj, zCu, okB, Re.kind, Re.set, Re.args, Re.mn, Re.mx, Re.neg]
theorem zOB {mn mx : Int} (h0 : 0 ≤ mn) (h1 : mn ≤ mx) (h2 : mx ≤ 8) (t : Re) : zBj (.mk 6 [] [t] mn mx false) = 0 := by
 simp [zBj, zCu, okB, Re.kind, Re.set, Re.args, Re.mn, Re.mx, Re.neg]; omega
end Go.Proofs
namespace Go.Proofs
open Go Go.Eng
def Wf (n : Nat) (R : Rl) : Prop := ∀ i j, R i j = true → i ≤ j ∧ j ≤ n
theorem zNk (n : Nat) : Wf n noR := fun i j h => by simp [noR] at h
theorem zJP (n : Nat) : Wf n (idR n) := fun i j h => by simp [idR] at h; omega
theorem zPW {n : Nat} {A B : Rl} (a : Wf n A) (b : Wf n B) : Wf n (orR A B) := fun i j h => by
 simp only [orR, Bool.or_eq_true] at h; rcases h with h | h; exact a i j h; exact b i j h
theorem zRI {n : Nat} {A B : Rl} (a : Wf n A) : Wf n (zRE A B) := fun i j h => by
 simp only [zRE, Bool.and_eq_true] at h; exact a i j h.1
theorem zGD {n : Nat} {A B : Rl} (a : Wf n A) (b : Wf n B) : Wf n (zCm A B n) := fun i k h => by
 simp only [zCm, Bool.and_eq_true, List.any_eq_true] at h
 obtain ⟨_, j, _, h1, h2⟩ := h
 have := a i j h1; have := b j k h2; omega
theorem zEJ {n : Nat} {A : Rl} (a : Wf n A) : ∀ m, Wf n (zEM n A m)
  | 0 => zJP n
  | m + 1 => zPW (zEJ a m) (zGD (zEJ a m) a)
theorem zIJ {n : Nat} {A : Rl} (a : Wf n A) : ∀ m, Wf n (zLE n A m)
  | 0 => zJP n
  | m + 1 => zGD (zIJ a m) a
theorem zLk {n : Nat} {A : Rl} (a : Wf n A) (mn : Int) : ∀ m, Wf n (zNi n A mn m)
  | 0 => zNk n
  | m + 1 => by
    simp only [zNi]
    split
    · exact zPW (zLk a mn m) (zIJ a m)
    · exact zLk a mn m
theorem zRH (n : Nat) (A : Rl) : Wf n (notR n A) := fun i j h => by simp [notR] at h; omega
theorem zPX (n : Nat) (A : Rl) (ng : Bool) : Wf n (zMk n A ng) := fun i j h => by simp [zMk] at h; omega
theorem zRG (text : List Int) (set : List (Int × Int)) : Wf text.length (setR text set) := fun i j h => by
  simp only [setR, Bool.and_eq_true, decide_eq_true_eq] at h
  obtain ⟨h1, rfl⟩ := h
  cases hx : text[i]? with
  | none => simp [hx] at h1
  | some c => have := zAo hx; omega
theorem zHZ {n : Nat} {L : List Rl} (h : ∀ x ∈ L, Wf n x) : Wf n (L.headD noR) := by
  cases L with
  | nil => exact zNk n
  | cons x r => exact h x (by simp)
theorem zEo {n : Nat} : ∀ (L : List Rl) (A : Rl), Wf n A → (∀ x ∈ L, Wf n x) → Wf n (L.foldl (fun a x => zCm a x n) A)
  | [], _, h, _ => h
  | x :: L, A, h, hl => zEo L _ (zGD h (hl x (by simp))) fun y hy => hl y (by simp [hy])
theorem zIK {n : Nat} : ∀ (L : List Rl) (A : Rl), Wf n A → (∀ x ∈ L, Wf n x) → Wf n (L.foldl orR A)
  | [], _, h, _ => h
  | x :: L, A, h, hl => zIK L _ (zPW h (hl x (by simp))) fun y hy => hl y (by simp [hy])
theorem zGz {n : Nat} : ∀ (L : List Rl) (A : Rl), Wf n A → Wf n (L.foldl zRE A)
  | [], _, h => h
  | x :: L, A, h => zGz L _ (zRI h)
theorem zPV (text : List Int) (k : Int) (set : List (Int × Int)) (L : List Rl) (mn mx : Int) (ng : Bool) (h : ∀ x ∈ L, Wf text.length x) : Wf text.length (zHK text k set L mn mx ng) := by
 unfold zHK
 repeat' split
 ·exact zJP _
 ·exact zRG _ _
 ·exact zEo _ _ (zJP _) h
 ·exact zIK _ _ (zNk _) h
 ·exact zGz _ _ (zHZ h)
 ·exact zRH _ _
 ·exact zEJ (zHZ h) _
 ·exact zLk (zHZ h) _ _
 ·exact zHZ h
 ·exact zPX _ _ _
 exact zNk _
mutual
theorem zEK (text : List Int) : ∀ (t : Re), Wf text.length (zAz text t)
  | .mk k set args mn mx ng => by simp only [zAz]; exact zPV _ _ _ _ _ _ _ (zLl text args)
theorem zLl (text : List Int) : ∀ (ts : List Re), ∀ x ∈ zFp text ts, Wf text.length x
  | [], _, h => by simp [zFp] at h
  | t :: ts, x, h => by
    simp only [zFp, List.mem_cons] at h
    rcases h with rfl | h
    · exact zEK text t
    · exact zLl text ts x h
end
theorem zJz {A B : Rl} (h : ∀ i j, A i j = true ↔ B i j = true) : A = B := by
 funext i j; exact Bool.eq_iff_iff.2 (h i j)
theorem zCR {n : Nat} (hn : n ≤ 24) {A B : Rl} (a : Wf n A) (i k : Nat) : zCm A B n i k = true ↔ ∃ j, A i j = true ∧ B j k = true := by
 simp only [zCm, Bool.and_eq_true, List.any_eq_true, List.mem_range, decide_eq_true_eq]
 constructor
 ·rintro ⟨_, j, _, h⟩; exact ⟨j, h⟩
 rintro ⟨j, h1, h2⟩; have := a i j h1; exact ⟨by omega, j, by omega, h1, h2⟩
theorem zKL (A B : Rl) (i j : Nat) : orR A B i j = true ↔ A i j = true ∨ B i j = true := by simp [orR]
theorem zEl (n i j : Nat) : idR n i j = true ↔ i ≤ n ∧ j = i := by simp [idR]
theorem zHs {n : Nat} (hn : n ≤ 24) {A : Rl} (a : Wf n A) : zCm (idR n) A n = A := zJz fun i k => by
 rw [zCR hn (zJP n)]
 constructor
 ·rintro ⟨j, h1, h2⟩; rw [zEl] at h1; obtain ⟨_, rfl⟩ := h1; exact h2
 intro h; have := a i k h; exact ⟨i, (zEl n i i).2 ⟨by omega, rfl⟩, h⟩
theorem zFS {n : Nat} (hn : n ≤ 24) {A B C : Rl} (a : Wf n A) (b : Wf n B) : zCm A (zCm B C n) n = zCm (zCm A B n) C n := zJz fun i k => by
 rw [zCR hn a, zCR hn (zGD a b)]
 constructor
 ·rintro ⟨j, h1, h2⟩; rw [zCR hn b] at h2; obtain ⟨m, h3, h4⟩ := h2; exact ⟨m, (zCR hn a i m).2 ⟨j, h1, h3⟩, h4⟩
 rintro ⟨j, h1, h2⟩; rw [zCR hn a] at h1; obtain ⟨m, h3, h4⟩ := h1; exact ⟨m, h3, (zCR hn b m k).2 ⟨j, h4, h2⟩⟩
/-- Repetition. -/
inductive St (n : Nat) (A : Rl) (i : Nat) : Nat → Prop where
  | refl : i ≤ n → St n A i i
  | step {j k : Nat} : St n A i j → A j k = true → St n A i k
theorem zIS {n : Nat} {A : Rl} {m m' : Nat} (h : m ≤ m') {i j : Nat} (hs : zEM n A m i j = true) : zEM n A m' i j = true := by
  induction m' with
  | zero => obtain rfl : m = 0 := by omega
            exact hs
  | succ m' ih =>
    rcases Nat.lt_or_ge m (m' + 1) with h1 | h1
    · simp only [zEM, zKL]; exact .inl (ih (by omega))
    · obtain rfl : m = m' + 1 := by omega
      exact hs
theorem zFV {n : Nat} (hn : n ≤ 24) {A : Rl} (a : Wf n A) : ∀ {m i j : Nat}, zEM n A m i j = true → St n A i j
  | 0, i, j, h => by simp only [zEM, zEl] at h; obtain ⟨h, rfl⟩ := h; exact .refl h
  | m + 1, i, j, h => by
    simp only [zEM, zKL] at h
    rcases h with h | h
    · exact zFV hn a h
    · rw [zCR hn (zEJ a m)] at h
      obtain ⟨k, h1, h2⟩ := h
      exact .step (zFV hn a h1) h2
theorem zKu {n : Nat} (hn : n ≤ 24) {A : Rl} (a : Wf n A) {i j : Nat} (h : St n A i j) : zEM n A (j - i) i j = true := by
  induction h with
  | refl h => simp only [Nat.sub_self, zEM, zEl]; exact ⟨h, trivial⟩
  | @step j k h1 h2 ih =>
    have h3 := a j k h2
    have h4 := zEJ a _ _ _ ih
    rcases Nat.lt_or_ge j k with h | h
    · refine zIS (m := j - i + 1) (by omega) ?_
      simp only [zEM, zKL]
      exact .inr ((zCR hn (zEJ a _) i k).2 ⟨j, ih, h2⟩)
    · obtain rfl : j = k := by omega
      exact ih
theorem zFx {n : Nat} (hn : n ≤ 24) {A : Rl} (a : Wf n A) (i j : Nat) : zEM n A (n + 1) i j = true ↔ St n A i j :=
 ⟨zFV hn a, fun h => by
  have h1 := zKu hn a h
  have := zEJ a _ _ _ h1
  exact zIS (by omega) h1⟩
theorem St.trans {n : Nat} {A : Rl} {i j k : Nat} (h : St n A i j) (h' : St n A j k) : St n A i k := by
  induction h' with
  | refl _ => exact h
  | step _ h2 ih => exact .step ih h2
theorem St.one {n : Nat} {A : Rl} (a : Wf n A) {i j : Nat} (h : A i j = true) : St n A i j := .step (.refl (by have := a i j h; omega)) h
theorem St.le {n : Nat} {A : Rl} (a : Wf n A) {i j : Nat} (h : St n A i j) : i ≤ n ∧ j ≤ n := by
  induction h with
  | refl h => exact ⟨h, h⟩
  | step _ h2 ih => exact ⟨ih.1, (a _ _ h2).2⟩
abbrev catT (s t : Re) : Re := .mk 3 [] [s, t] 0 0 false
abbrev zBJ : Re := .mk 1 [] [] 0 0 false
abbrev zBH : Re := .mk 0 [] [] 0 0 false
section
variable (text : List Int)
theorem zPv (hn : text.length ≤ 24) (s t : Re) : zAz text (catT s t) = zCm (zAz text s) (zAz text t) text.length := by
 simp only [zAz, zFp, zHK, List.foldl]
 simp [zHs hn (zEK text s)]
end
theorem zKN {k : Int} (h : k = 3 ∨ k = 4 ∨ k = 7) {s t : Re} (a : zDh s) (b : zDh t) : zDh (.mk k [] [s, t] 0 0 false) := by simp only [zDh, zDB]; exact ⟨zOA h s t, a, b, trivial⟩
def Txt (text : List Int) : Prop := text.length ≤ 24 ∧ ∀ x ∈ text, zCe x = true
theorem zHW {t : Re} {text : List Int} (ht : zDh t) (hs : t.size ≤ 40) (h : Txt text) : zKm t text = 0 := by
 have h1 : zCW t 40 = 0 := (zFg (by decide) (by decide)).2 ⟨ht, by omega⟩
 unfold zKm
 rw [if_neg (by simp [h1]), if_neg (by have := h.1; omega), if_neg]
 simp only [List.any_eq_true, Bool.not_eq_true', not_exists, not_and]
 intro x hx
 simp [h.2 x hx]
/-- Two expressions of which the program says that they match the same parts of a text. -/
def Sm (s t : Re) (text : List Int) : Prop := zKm s text = 0 ∧ zKm t text = 0 ∧ zPF (zAz text s) (text.length + 1) = zPF (zAz text t) (text.length + 1)
theorem sm_mk {s t : Re} {text : List Int} (h : Txt text) (a : zDh s) (b : zDh t) (ha : s.size ≤ 40) (hb : t.size ≤ 40) (he : zAz text s = zAz text t) : Sm s t text :=
 ⟨zHW a ha h, zHW b hb h, by rw [he]⟩
section
variable {text : List Int} (h : Txt text) {a b c : Re} (oa : zDh a) (ob : zDh b) (oc : zDh c)
include h oa
theorem kl1 (ob : zDh b) (oc : zDh c) (hs : a.size + b.size + c.size ≤ 18) : Sm (catT a (catT b c)) (catT (catT a b) c) text :=
 sm_mk h (zKN (by simp) oa (zKN (by simp) ob oc)) (zKN (by simp) (zKN (by simp) oa ob) oc) (by simp [Re.size, Re.sizes]; omega) (by simp [Re.size, Re.sizes]; omega)
  (by simp only [zPv text h.1]; exact zFS h.1 (zEK text a) (zEK text b))
end
end Go.Proofs
namespace Go.Proofs
open Go Go.Eng
section
variable {n : Nat} (hn : n ≤ 24)
include hn
theorem zMy {A B : Rl} (a : Wf n A) (b : Wf n B) : ∀ (L : List Rl), (∀ x ∈ L, Wf n x) → L.foldl (fun a x => zCm a x n) (zCm A B n) = zCm A (L.foldl (fun a x => zCm a x n) B) n
  := by
  intro L
  induction L generalizing B with
  | nil => intro _; rfl
  | cons x L ih =>
    intro h
    simp only [List.foldl_cons]
    rw [← zFS hn a b]
    exact ih (zGD b (h x (by simp))) fun y hy => h y (by simp [hy])
theorem zOl {A : Rl} (a : Wf n A) (L : List Rl) (h : ∀ x ∈ L, Wf n x) : (A :: L).foldl (fun a x => zCm a x n) (idR n) = zCm A (L.foldl (fun a x => zCm a x n) (idR n)) n := by
 rw [List.foldl_cons, zHs hn a]
 have h1 := zMy hn a (zJP n) L h
 have h2 : zCm A (idR n) n = A := zJz fun i k => by
  rw [zCR hn a]
  constructor
  ·rintro ⟨j, h1, h2⟩
   rw [zEl] at h2
   rw [h2.2]; exact h1
  intro h; exact ⟨k, h, by rw [zEl]; have := a i k h; omega⟩
 rw [h2] at h1
 exact h1
theorem zFR {A B : Rl} (a : Wf n A) (b : Wf n B) (i j : Nat) : zCm A B n i j = true ↔ ∃ k, i ≤ k ∧ k ≤ j ∧ A i k = true ∧ B k j = true := by
 rw [zCR hn a]
 constructor
 ·rintro ⟨k, h1, h2⟩; have := a i k h1; have := b k j h2; exact ⟨k, by omega, by omega, h1, h2⟩
 rintro ⟨k, _, _, h1, h2⟩; exact ⟨k, h1, h2⟩
omit hn in
theorem zNn {A : Rl} (a : Wf n A) {i j : Nat} (h : St n A i j) : i = j ∨ ∃ k, i < k ∧ A i k = true ∧ St n A k j := by
  induction h with
  | refl => exact .inl rfl
  | @step j k hs hA ih =>
    have hw := a _ _ hA
    rcases ih with rfl | ⟨m, h1, h2, h3⟩
    · by_cases hk : i = k
      · exact .inl hk
      · exact .inr ⟨k, by omega, hA, .refl (by omega)⟩
    · exact .inr ⟨m, h1, h2, .step h3 hA⟩
theorem zKv {A : Rl} (a : Wf n A) {i j : Nat} (hi : i ≤ n) : zEM n A (n + 1) i j = true ↔ i = j ∨ ∃ k, i + 1 ≤ k ∧ k ≤ j ∧ A i k = true ∧ zEM n A (n + 1) k j = true := by
 rw [zFx hn a]
 constructor
 ·intro h
  rcases zNn a h with h | ⟨k, h1, h2, h3⟩
  ·exact .inl h
  have := zEJ a (n + 1) k j ((zFx hn a _ _).2 h3)
  exact .inr ⟨k, by omega, this.1, h2, (zFx hn a _ _).2 h3⟩
 rintro (rfl | ⟨k, _, _, h2, h3⟩)
 ·exact .refl hi
 exact (St.one a h2).trans ((zFx hn a _ _).1 h3)
theorem zHk {A : Rl} (a : Wf n A) : ∀ p, zLE n A (p + 1) = zCm A (zLE n A p) n
  | 0 => by
    simp only [zLE]
    rw [zHs hn a]
    exact zJz fun i k => by
      rw [zCR hn a]
      constructor
      · intro h; exact ⟨k, h, by rw [zEl]; have := a i k h; omega⟩
      · rintro ⟨j, h1, h2⟩; rw [zEl] at h2; rw [h2.2]; exact h1
  | p + 1 => by
    have h := zHk a p
    have h2 : zCm (zLE n A (p + 1)) A n = zCm (zCm A (zLE n A p) n) A n := by rw [h]
    have h3 : zLE n A (p + 1 + 1) = zCm (zLE n A (p + 1)) A n := rfl
    rw [h3, h2, ← zFS hn a (zIJ a p)]
    rfl
omit hn in
theorem zGP (A : Rl) (mn : Int) (i j : Nat) : ∀ m, zNi n A mn m i j = true ↔ ∃ p, p < m ∧ mn ≤ (p : Int) ∧ zLE n A p i j = true
  | 0 => by simp [zNi, noR]
  | m + 1 => by
    simp only [zNi]
    by_cases h : mn ≤ (m : Int)
    · rw [if_pos h, zKL, zGP A mn i j m]
      constructor
      · rintro (⟨p, h1, h2, h3⟩ | h1)
        · exact ⟨p, by omega, h2, h3⟩
        · exact ⟨m, by omega, h, h1⟩
      · rintro ⟨p, h1, h2, h3⟩
        by_cases hp : p = m
        · subst hp; exact .inr h3
        · exact .inl ⟨p, by omega, h2, h3⟩
    · rw [if_neg h, zGP A mn i j m]
      constructor
      · rintro ⟨p, h1, h2, h3⟩; exact ⟨p, by omega, h2, h3⟩
      · rintro ⟨p, h1, h2, h3⟩
        exact ⟨p, by omega, h2, h3⟩
/-- From mn to mx times: one time, and then the others. -/
theorem zMJ {A : Rl} (a : Wf n A) {mn mx : Int} (h0 : 0 ≤ mn) (h1 : mn ≤ mx) {i j : Nat} (hi : i ≤ n) :
    zNi n A mn (mx + 1).toNat i j = true ↔ (mn = 0 ∧ i = j) ∨ (mx ≠ 0 ∧ ∃ k, i ≤ k ∧ k ≤ j ∧ A i k = true ∧ zNi n A (max 0 (mn - 1)) (mx - 1 + 1).toNat k j = true) := by
  rw [zGP]
  constructor
  · rintro ⟨p, hp, hm, hpow⟩
    cases p with
    | zero =>
      simp only [zLE] at hpow
      rw [zEl] at hpow
      by_cases hmn : mn = 0
      · exact .inl ⟨hmn, hpow.2.symm⟩
      · omega
    | succ p =>
      rw [zHk hn a, zFR hn a (zIJ a p)] at hpow
      obtain ⟨k, h2, h3, h4, h5⟩ := hpow
      refine .inr ⟨by omega, k, h2, h3, h4, ?_⟩
      rw [zGP]
      exact ⟨p, by omega, by omega, h5⟩
  · rintro (⟨rfl, rfl⟩ | ⟨hx, k, h2, h3, h4, h5⟩)
    · exact ⟨0, by omega, by simp, by simp only [zLE]; rw [zEl]; exact ⟨hi, rfl⟩⟩
    · rw [zGP] at h5
      obtain ⟨p, hp, hm, hpow⟩ := h5
      refine ⟨p + 1, by omega, by omega, ?_⟩
      rw [zHk hn a, zFR hn a (zIJ a p)]
      exact ⟨k, h2, h3, h4, hpow⟩
end
theorem zHQ (i j : Nat) : ∀ (L : List Rl) (A : Rl), L.foldl orR A i j = (A i j || L.any fun R => R i j)
  | [], A => by simp
  | x :: L, A => by rw [List.foldl_cons, zHQ i j L]; simp [orR, Bool.or_assoc]
theorem zGb (i j : Nat) : ∀ (L : List Rl) (A : Rl), L.foldl zRE A i j = (A i j && L.all fun R => R i j)
  | [], A => by simp
  | x :: L, A => by rw [List.foldl_cons, zGb i j L]; simp [zRE, Bool.and_assoc]
theorem not_in {n : Nat} {A : Rl} {i j : Nat} (h1 : i ≤ j) (h2 : j ≤ n) : notR n A i j = !A i j := by
 have : i ≤ n := by omega
 simp [notR, h1, h2, this]
theorem zQS {n : Nat} (hn : n ≤ 24) {A : Rl} (a : Wf n A) {ng : Bool} {i j : Nat} (hi : i ≤ n) : zMk n A ng i j = (decide (i = j) && (((List.range (n + 1)).any fun k => decide (i ≤ k) && A i k) != ng)) := by
  have h1 : decide (zEG 25 (A i) ≠ 0) = (List.range (n + 1)).any fun k => decide (i ≤ k) && A i k := by
    rw [Bool.eq_iff_iff, decide_eq_true_eq, List.any_eq_true]
    constructor
    · intro h
      apply Classical.byContradiction
      intro h2
      apply h
      rw [zFr]
      intro k hk
      cases hA : A i k with
      | false => rfl
      | true => have := a i k hA; exact absurd ⟨k, by simp; omega, by simp [hA]; omega⟩ h2
    · rintro ⟨k, h1, h2⟩ h
      rw [zFr] at h
      simp at h1 h2
      have := h k (by omega)
      rw [h2.2] at this; cases this
  unfold zMk
  rw [h1]
  have h2 : (decide (i ≤ n) && decide (j = i)) = decide (i = j) := by rw [Bool.eq_iff_iff]; simp; omega
  rw [h2]
end Go.Proofs
namespace Go.Proofs
open Go Go.Eng
mutual
def zBT : Re → Re → Bool
  | .mk k s a m x g, .mk k' s' a' m' x' g' => decide (k = k') && decide (s = s') && decide (m = m') && decide (x = x') && decide (g = g') && zDe a a'
def zDe : List Re → List Re → Bool
  | [], [] => true
  | t :: ts, u :: us => zBT t u && zDe ts us
  | _, _ => false
end
mutual
theorem zBb : ∀ (t u : Re), zBT t u = true ↔ t = u
  | .mk k s a m x g, .mk k' s' a' m' x' g' => by
    simp only [zBT, Bool.and_eq_true, decide_eq_true_eq, zDK a a', Re.mk.injEq]
    constructor
    · rintro ⟨⟨⟨⟨⟨h1, h2⟩, h3⟩, h4⟩, h5⟩, h6⟩; exact ⟨h1, h2, h6, h3, h4, h5⟩
    · rintro ⟨h1, h2, h6, h3, h4, h5⟩; exact ⟨⟨⟨⟨⟨h1, h2⟩, h3⟩, h4⟩, h5⟩, h6⟩
theorem zDK : ∀ (ts us : List Re), zDe ts us = true ↔ ts = us
  | [], [] => by simp [zDe]
  | t :: ts, u :: us => by simp only [zDe, Bool.and_eq_true, zBb t u, zDK ts us, List.cons.injEq]
  | [], _ :: _ => by simp [zDe]
  | _ :: _, [] => by simp [zDe]
end
/-- Arguments of a kind replaced by their arguments. -/
def zBO (k : Int) (l : List Re) : List Re := l.flatMap fun x => if x.kind = k then x.args else [x]
/-- Each once, the first stays. -/
def zQI : List Re → List Re → List Re
  | out, [] => out
  | out, x :: l => if (out.any fun y => zBT x y) = true then zQI out l else zQI (out ++ [x]) l
def listT (k : Int) (l : List Re) : Re :=
  let l1 := zBO k l
  let l2 := if k = 3 then l1.filter fun x => !decide (x.kind = 1) else if k = 4 then l1.filter fun x => !decide (x.kind = 0) else l1
  if k ≠ 4 ∧ (l2.any fun x => decide (x.kind = 0)) = true then zBH
  else
    match (if k = 3 then l2 else zQI [] l2) with
    | [x] => x
    | [] => if k = 3 then zBJ else zBH
    | out => .mk k [] out 0 0 false
def normN (k : Int) (set : List (Int × Int)) (a : List Re) (mn mx : Int) (ng : Bool) : Re :=
  if k = 3 ∨ k = 4 ∨ k = 7 then listT k a
  else if k = 5 ∨ k = 6 then
    match a with
    | x :: _ =>
      if x.kind = 1 ∨ (k = 6 ∧ mx = 0) then zBJ
      else if x.kind = 0 ∧ (k = 5 ∨ mn = 0) then zBJ
      else if x.kind = 0 then zBH
      else if x.kind = 5 ∨ (k = 6 ∧ mn = 1 ∧ mx = 1) then x
      else .mk k set a mn mx ng
    | [] => .mk k set a mn mx ng
  else if k = 8 then
    match a with
    | x :: _ => if x.kind = 8 then x.args.headD zBH else .mk k set a mn mx ng
    | [] => .mk k set a mn mx ng
  else if k = 10 then
    match a with
    | x :: _ =>
      if (x.kind = 1 ∧ ng = true) ∨ (x.kind = 0 ∧ ng = false) then zBH
      else if x.kind = 1 ∨ x.kind = 0 then zBJ
      else .mk k set a mn mx ng
    | [] => .mk k set a mn mx ng
  else .mk k set a mn mx ng
theorem zEX (k : Int) : ∀ (l : List Re), Re.sizes (zBO k l) ≤ Re.sizes l
  | [] => by simp [zBO, Re.sizes]
  | x :: l => by
    have ih := zEX k l
    show Re.sizes ((if x.kind = k then x.args else [x]) ++ zBO k l) ≤ _
    rw [Re.sizes_append]
    have := x.size_eq
    simp only [Re.sizes]
    split
    · omega
    · simp only [Re.sizes]; omega
def isL (k : Int) : Prop := k = 3 ∨ k = 4 ∨ k = 7
mutual
def Nf : Re → Prop
  | .mk k set args mn mx ng => Nfs args ∧ (isL k → set = [] ∧ mn = 0 ∧ mx = 0 ∧ ng = false ∧ 2 ≤ args.length ∧ (∀ x ∈ args, x.kind ≠ k) ∧ (k = 3 → ∀ x ∈ args, x.kind ≠ 1) ∧ (∀ x ∈ args, x.kind ≠ 0) ∧ (k ≠ 3 → args.Nodup)) ∧
      (¬ isL k → normN k set args mn mx ng = .mk k set args mn mx ng)
def Nfs : List Re → Prop
  | [] => True
  | t :: ts => Nf t ∧ Nfs ts
end
end Go.Proofs
namespace Go.Proofs
open Go Go.Eng
set_option maxRecDepth 100000
abbrev Sp := Int × Int
def vSp (s : Sp) : Prop := 0 ≤ s.1 ∧ s.1 ≤ s.2 ∧ s.2 ≤ 1114111
structure Canon (l : List Sp) : Prop where
 ok : ∀ s ∈ l, vSp s
 gap : l.Pairwise fun s t => s.2 + 2 ≤ t.1
theorem zMx {l : List Sp} {r : Int} : inS l r = true ↔ ∃ s ∈ l, s.1 ≤ r ∧ r ≤ s.2 := by
 unfold inS
 simp [List.any_eq_true]
theorem zOS (s : Sp) (l : List Sp) (r : Int) : inS (s :: l) r = ((decide (s.1 ≤ r) && decide (r ≤ s.2)) || inS l r) := rfl
theorem zDM (a b : List Sp) (r : Int) : inS (a ++ b) r = (inS a r || inS b r) := by
 unfold inS; rw [List.any_append]
theorem zQX (r : Int) : inS [] r = false := rfl
theorem zOR {a b : List Sp} (h : a.Perm b) (r : Int) : inS a r = inS b r := by
 rw [Bool.eq_iff_iff, zMx, zMx]
 exact ⟨fun ⟨s, hs, q⟩ => ⟨s, h.mem_iff.1 hs, q⟩, fun ⟨s, hs, q⟩ => ⟨s, h.mem_iff.2 hs, q⟩⟩
theorem Canon.nil : Canon [] := ⟨fun _ h => (by cases h), List.Pairwise.nil⟩
theorem Canon.one {s : Sp} (h : vSp s) : Canon [s] := ⟨fun t ht => by rw [List.mem_singleton] at ht; subst ht; exact h, List.pairwise_singleton _ _⟩
theorem Canon.tail {s : Sp} {l : List Sp} (h : Canon (s :: l)) : Canon l := ⟨fun t ht => h.ok t (List.mem_cons_of_mem _ ht), (List.pairwise_cons.1 h.gap).2⟩
theorem Canon.head {s : Sp} {l : List Sp} (h : Canon (s :: l)) : vSp s := h.ok s List.mem_cons_self
theorem Canon.cons {s : Sp} {l : List Sp} (h1 : vSp s) (h2 : ∀ t ∈ l, s.2 + 2 ≤ t.1) (h3 : Canon l) : Canon (s :: l) :=
 ⟨fun t ht => by rcases List.mem_cons.1 ht with rfl | ht; exact h1; exact h3.ok t ht, List.pairwise_cons.2 ⟨h2, h3.gap⟩⟩
def zLP (out : List Sp) (s : Sp) : List Sp := match out.getLast? with
  | some c => if s.1 ≤ c.2 + 1 then out.dropLast ++ [(c.1, max c.2 s.2)] else out ++ [s]
  | none => [s]
def zOM (l : List Sp) : List Sp := l.foldl zLP []
theorem zLO (o : List Sp) (c s : Sp) : zLP (o ++ [c]) s = if s.1 ≤ c.2 + 1 then o ++ [(c.1, max c.2 s.2)] else o ++ [c] ++ [s] := by
 unfold zLP; simp
theorem zMo (s : Sp) : zLP [] s = [s] := rfl
structure JInv (out l : List Sp) (m : Int) : Prop where
 can : Canon out
 low : ∀ s ∈ out, s.1 ≤ m
 mem : ∀ r, inS out r = inS l r
 len : out.length ≤ l.length
theorem zKx {α : Type} (l : List α) : l = [] ∨ ∃ o c, l = o ++ [c] := by
 rcases List.eq_nil_or_concat l with h | ⟨o, c, h⟩
 ·exact .inl h
 exact .inr ⟨o, c, by simpa using h⟩
theorem zFj {o : List Sp} {c : Sp} : Canon (o ++ [c]) ↔ Canon o ∧ vSp c ∧ ∀ t ∈ o, t.2 + 2 ≤ c.1 := by
 constructor
 ·intro h
  have h1 := List.pairwise_append.1 h.gap
  exact ⟨⟨fun t ht => h.ok t (by simp [ht]), h1.1⟩, h.ok c (by simp), fun t ht => h1.2.2 t ht c (by simp)⟩
 rintro ⟨h1, h2, h3⟩
 refine ⟨fun t ht => ?_, List.pairwise_append.2 ⟨h1.gap, List.pairwise_singleton _ _, fun t ht u hu => ?_⟩⟩
 ·rcases List.mem_append.1 ht with ht | ht
  ·exact h1.ok t ht
  rw [List.mem_singleton] at ht; subst ht; exact h2
 rw [List.mem_singleton] at hu; subst hu; exact h3 t ht
theorem zMp {out l : List Sp} {m : Int} {s : Sp} (h : JInv out l m) (hs : vSp s) (hm : m ≤ s.1) : JInv (zLP out s) (l ++ [s]) s.1 := by
 rcases zKx out with rfl | ⟨o, c, rfl⟩
 ·rw [zMo]
  refine ⟨Canon.one hs, fun t ht => by rw [List.mem_singleton] at ht; subst ht; exact Int.le_refl _, fun r => ?_, by simp⟩
  rw [zDM, ← h.mem r]; rfl
 ·obtain ⟨h1, h2, h3⟩ := zFj.1 h.can
  have hc := h.low c (by simp)
  unfold vSp at h2 hs
  rw [zLO]
  split
  ·rename_i h4
   have hmx : max c.2 s.2 = c.2 ∨ max c.2 s.2 = s.2 := by omega
   have hge : c.2 ≤ max c.2 s.2 ∧ s.2 ≤ max c.2 s.2 := by omega
   refine ⟨zFj.2 ⟨h1, ⟨h2.1, by simp only; omega, by simp only; omega⟩, h3⟩, fun t ht => ?_, fun r => ?_, ?_⟩
   ·rcases List.mem_append.1 ht with ht | ht
    ·have := h.low t (by simp [ht]); omega
    ·rw [List.mem_singleton] at ht; subst ht; simp only; omega
   ·have hr := h.mem r
    rw [zDM] at hr
    rw [zDM, zDM, ← hr]
    have e : inS [(c.1, max c.2 s.2)] r = (inS [c] r || inS [s] r) := by
     rw [Bool.eq_iff_iff]
     simp only [zOS, zQX, Bool.or_false, Bool.or_eq_true, Bool.and_eq_true, decide_eq_true_eq]
     constructor
     ·intro ⟨q1, q2⟩; omega
     ·rintro (⟨q1, q2⟩ | ⟨q1, q2⟩) <;> omega
    rw [e, Bool.or_assoc]
   ·have := h.len; simp at this ⊢; omega
  ·rename_i h4
   refine ⟨zFj.2 ⟨h.can, hs, fun t ht => ?_⟩, fun t ht => ?_, fun r => ?_, ?_⟩
   ·rcases List.mem_append.1 ht with ht | ht
    ·have := h3 t ht; omega
    ·rw [List.mem_singleton] at ht; subst ht; omega
   ·rcases List.mem_append.1 ht with ht | ht
    ·have := h.low t ht; omega
    ·rw [List.mem_singleton] at ht; subst ht; exact Int.le_refl _
   ·rw [zDM _ [s], zDM l, h.mem r]
   ·have := h.len; simp at this ⊢; omega
theorem zIp : ∀ (r : List Sp) {out l : List Sp} {m : Int}, JInv out l m → (∀ s ∈ r, vSp s ∧ m ≤ s.1) → r.Pairwise (fun s t => s.1 ≤ t.1) → ∃ m', JInv (r.foldl zLP out) (l ++ r) m'
  | [], out, l, m, h, _, _ => ⟨m, by simpa using h⟩
  | s :: r, out, l, m, h, hv, hp => by
    have h1 := hv s List.mem_cons_self
    have h2 := List.pairwise_cons.1 hp
    obtain ⟨m', h3⟩ := zIp r (zMp h h1.1 h1.2) (fun t ht => ⟨(hv t (List.mem_cons_of_mem _ ht)).1, h2.1 t ht⟩) h2.2
    exact ⟨m', by simpa using h3⟩
theorem zMq {l : List Sp} (hv : ∀ s ∈ l, vSp s) (hp : l.Pairwise (fun s t => s.1 ≤ t.1)) : Canon (zOM l) ∧ (∀ r, inS (zOM l) r = inS l r) ∧ (zOM l).length ≤ l.length := by
 obtain ⟨m, h⟩ := zIp l (out := []) (l := []) (m := 0) ⟨Canon.nil, fun _ h => by (cases h), fun _ => rfl, Nat.le_refl _⟩ (fun s hs => ⟨hv s hs, (hv s hs).1⟩) hp
 exact ⟨h.can, h.mem, h.len⟩
/-- What joining makes of a list, in whatever order the spans come: by sorting. -/
def zPU (l out : List Sp) : Prop := ∃ l', l'.Perm l ∧ l'.Pairwise (fun s t => s.1 ≤ t.1) ∧ out = zOM l'
theorem zPU.all {l out : List Sp} (h : zPU l out) (hv : ∀ s ∈ l, vSp s) : Canon out ∧ (∀ r, inS out r = inS l r) ∧ out.length ≤ l.length := by
 obtain ⟨l', h1, h2, rfl⟩ := h
 have h3 := zMq (fun s hs => hv s (h1.mem_iff.1 hs)) h2
 exact ⟨h3.1, fun r => (h3.2.1 r).trans (zOR h1 r), by rw [← h1.length_eq]; exact h3.2.2⟩
end Go.Proofs
namespace Go.Proofs
open Go Go.Eng
set_option maxRecDepth 100000
abbrev TSp : Nat := 103
theorem zQE {w : World} {base base' e size n : Nat} {v : Value} {xs : List Value} (h : w.ownsRow base e size v n xs) (hb : base' ≤ base) : w.ownsRow base' e size v n xs := by
 obtain ⟨h1, h2⟩ := h
 refine ⟨h1, h2.imp id ?_⟩
 rintro ⟨g, cap, cur, a, b, r⟩
 exact ⟨g, cap, cur, a, Nat.le_trans hb b, r⟩
theorem own_le {w : World} {base e size n c : Nat} {a : Option Addr} {xs : List Value} (h : w.ownsRow base e size (.slice a n c) n xs) : n ≤ c := by
 rcases h.2 with ⟨h1, h2⟩ | ⟨g, cap, cur, hv, _, _, hnc, _⟩
 ·omega
 simp only [Value.slice.injEq] at hv
 obtain ⟨_, _, rfl⟩ := hv
 exact hnc
/-- A list of spans that lies in memory of one's own. -/
def OwnS (w : World) (base : Nat) (r : Value) (l : List Sp) : Prop := (∃ a c, r = .slice a l.length c) ∧ w.ownsRow base TSp 2 r l.length (l.map zDA).flatten
theorem OwnS.at {w : World} {base : Nat} {r : Value} {l : List Sp} (h : OwnS w base r l) : zBZ w r l :=
 zFz h.2 (by intro x hx; simp only [List.mem_map] at hx; obtain ⟨p, _, rfl⟩ := hx; rfl) (by simp) (by decide)
theorem OwnS.ext {w w' : World} {base : Nat} {r : Value} {l : List Sp} (h : OwnS w base r l) (e : Ext w w') : OwnS w' base r l := ⟨h.1, zBE h.2 e⟩
/-- One append of whatever slice, an empty one too. -/
theorem zJX {P : Program} {N : Nat} {Q : zFl} {σ : Env} {w : World} {K : Env → World → Prop} {ops : Array Oper} {rest : List Oper} {d : Nat} {ty : TypeId} {pos : String} {af : Array Edge} {t : TypeId} {s x : Operand}
  {base e size bytes n m c : Nat} {ax : Option Addr} {z v : Value} {xs news : List Value} (hN : d < N) (hu : P.underlying t = some (.slice e)) (hsz : Siz P e size) (hby : Byt P e bytes) (hz : Zer P e z) (hzs : z.cells.size = size) (h0 : 0 < size)
  (hs : ev σ s = v) (hown : w.ownsRow base e size v n xs) (hx : ev σ x = .slice ax m c) (hl : news.length = m * size) (hany : (m = 0 ∧ news = []) ∨ ∃ bx ox, ax = some ⟨bx, ox, none⟩ ∧ zAx w bx ox news) (h1 : ∀ u ∈ news, u.oneCell' = true)
  (h63 : n + m ≤ maxLen) (hbytes : (n + m) * bytes ≤ 140737488355328) (hbase : base ≤ w.heap.size)
  (k : ∀ v' w', w'.ownsRow base e size v' (n + m) (xs ++ news) → Chg (fun x => v.ownBlock = some x) w w' → (∀ k, v'.ownBlock = some k → v.ownBlock = some k ∨ w.heap.size ≤ k) → WpL P N ops K Q rest (upd σ d v') w') :
  WpL P N ops K Q (⟨some d, .call ⟨.builtin .append, #[s, x], #[t, t]⟩, ty, pos, af, none⟩ :: rest) σ w := by
 rcases hany with ⟨rfl, rfl⟩ | ⟨bx, ox, rfl, hc⟩
 ·obtain ⟨a, c', rfl⟩ := zBY hown
  refine zCi rfl rfl hN (zIf hu hsz hs (own_le hown) hx) (k _ w (by simpa using hown) (Chg.refl _ _) fun _ h => .inl h)
 exact zBh hN hu hsz hby hz hzs h0 hs hown hx hl hc h1 h63 hbytes hbase k
theorem zON {w : World} {a : Option Addr} {n c : Nat} {l : List Int} (h : zBr w (.slice a n c) l) : (n = 0 ∧ l.map (Value.int .i64) = []) ∨ ∃ b o, a = some ⟨b, o, none⟩ ∧ zAx w b o (l.map (Value.int .i64)) := by
 have hn : n = l.length := by have := (zCA.cap h).2; simpa using this.symm
 rcases Nat.eq_zero_or_pos n with h0 | h0
 ·left; exact ⟨h0, by rw [List.eq_nil_of_length_eq_zero (show l.length = 0 by omega)]; rfl⟩
 right
 obtain ⟨b, o, ha, hc⟩ := zBv h h0
 exact ⟨b, o, ha, fun i u hu => by rw [List.getElem?_map, Option.map_eq_some_iff] at hu; obtain ⟨x, hx, rfl⟩ := hu; exact hc i x hx⟩
def zJJ (w : World) (v : Value) (ll : List (List Sp)) : Prop := ∃ vs : List Value, zCA w 1 v (vs.map fun x => [x]) ∧ vs.length = ll.length ∧ ∀ (i : Nat) (u : Value) (l : List Sp), vs[i]? = some u → ll[i]? = some l → zBZ w u l
theorem zJJ.ext {w w' : World} {v : Value} {ll : List (List Sp)} (h : zJJ w v ll) (e : Ext w w') : zJJ w' v ll := by
 obtain ⟨vs, h1, h2, h3⟩ := h
 exact ⟨vs, h1.ext e, h2, fun i u l hu hl => (h3 i u l hu hl).ext e⟩
theorem zJJ.form {w : World} {v : Value} {ll : List (List Sp)} (h : zJJ w v ll) : ∃ a c, v = .slice a ll.length c ∧ ll.length ≤ c ∧ ll.length ≤ 9223372036854775807 := by
 obtain ⟨vs, h1, h2, _⟩ := h
 obtain ⟨a, c, rfl⟩ := h1.form
 have := h1.cap
 have := h1.le
 simp only [List.length_map] at *
 rw [h2] at *
 exact ⟨a, c, rfl, by omega, by omega⟩
end Go.Proofs
namespace Go.Proofs
open Go Go.Eng Go.Sort
set_option maxRecDepth 100000
def orL : List Int → Int
  | [] => 0
  | x :: r => if x ≠ 0 then x else orL r
theorem sor_c (w0 : World) (v : Value) (l : List Int) (h : zBr w0 v l) : Ret Tryz.prog 206 #[v] w0 fun r w => r = .int .i64 (orL l) ∧ Ext w0 w := by
 obtain ⟨a, c, rfl⟩ := zCA.form h
 have hlen : l.length ≤ 9223372036854775807 := by simpa using zCA.le h
 simp only [List.length_map] at h ⊢
 refine zAk Tryz.func206 rfl Tryz.ntmps206 (Nat.le_of_ble_eq_true rfl) ?_
 have E : Chg zAh w0 w0 := Chg.refl _ _
 refine zAA ?_
 refine qA (I6 0) rfl ?_
 refine zAB (zAA ?_)
 refine qA (I6 0) rfl ?_
 refine zAB (zAP (zAA ?_))
 refine qM (.slice a l.length c) rfl ?_
 refine qV (zAV (ad := a) (n := l.length) (cap := c) Tryz.underlying26 rfl) ?_
 refine qM (I6 0) rfl ?_
 refine zAB (zAZ ?_)
 refine zBA (fun nn_ σ W1 => ∃ (k : Nat), (∃ jj_, σ = zCl jj_ [(3, (I6 0)), (6, (.slice a l.length c)), (7, (I6 (l.length : Int))), (8, (I6 (k : Int)))]) ∧ Chg zAh w0 W1 ∧ (k ≤ l.length) ∧ (orL (l.drop k) = orL l) ∧ nn_ = l.length - k) (n := l.length - 0) ?_ ?_
 ·exact ⟨0, zBG.out ⟨rfl, rfl, rfl, rfl, trivial⟩, E, Nat.zero_le _, rfl, rfl⟩
 clear E
 rintro _ _ W1 ⟨k, ⟨j1, rfl⟩, E, hk, ho, rfl⟩
 refine zAA ?_
 refine qV (zBS (k := .i64) (a := (k : Int)) (b := (l.length : Int)) rfl rfl) ?_
 refine zAB (zAP ?_)
 refine zAM (b := decide (((k : Int) : Int) < (l.length : Int))) rfl (fun hlt => ?_) (fun hlt => ?_)
 ·have khlt := hlt
  replace hlt := of_decide_eq_true hlt
  obtain ⟨x, hx⟩ := zAa (l := l) (i := k) (by omega)
  obtain ⟨b, o, rfl, hcl⟩ := zBv h (by omega)
  rw [zBP hx] at ho
  refine zAR (zAC (zAP (zAZ (zAA ?_))))
  refine qV (zAO (b := b) (o := o) (len := l.length) (cap := c) (i := k) (o' := o + k) rfl rfl rfl Tryz.underlying26 zAw (by omega) (by omega)) ?_
  refine qV (zAK (v := (I6 x)) rfl zAf (E.cell (fun f => f) (hcl k x hx))) ?_
  refine qA (I6 x) rfl ?_
  refine zAB (zAA ?_)
  refine qM (I6 x) rfl ?_
  refine qM (I6 0) rfl ?_
  refine qV (zBz (k := .i64) (a := x) (b := 0) rfl rfl) ?_
  refine zAB ?_
  refine zAM (b := decide ((x : Int) ≠ 0)) rfl (fun hne => ?_) (fun hne => ?_)
  ·have khne := hne
   replace hne := of_decide_eq_true hne
   refine zAA ?_
   refine qM (I6 x) rfl ?_
   refine qA (I6 x) rfl ?_
   refine zAB (zAQ (zAY (zAI (zAI (zAY (zAI ?_))))))
   refine zAS Tryz.results206 (v := (.int .i64 x)) rfl ?_
   exact ⟨zBF (by rw [← ho, orL, if_pos hne]), E⟩
  have khne := hne
  replace hne := of_decide_eq_false hne
  refine zAR (zAU (zAC (zAW ?_)))
  refine qV (zBQ (k := .i64) (a := (k : Int)) (b := 1) (c := (k : Int) + 1) rfl rfl (zBs (by omega))) ?_
  refine qM (I6 ((k : Int) + 1)) rfl ?_
  refine zAB (zAC ?_)
  exact ⟨l.length - (k + 1), by omega, k + 1, zBG.out ⟨rfl, rfl, rfl, rfl, trivial⟩, E, (by omega), (by rw [← ho, orL, if_neg hne]), rfl⟩
 have khlt := hlt
 replace hlt := of_decide_eq_false hlt
 have hkk : k = l.length := by omega
 refine zBB (zAe (zAe (zAr (zAC (zAA ?_)))))
 refine qM (I6 0) rfl ?_
 refine qA (I6 0) rfl ?_
 refine zAB (zAQ ?_)
 refine zAS Tryz.results206 (v := (.int .i64 0)) rfl ?_
 exact ⟨zBF (by rw [← ho, hkk, List.drop_length]; rfl), E⟩
def zKU (a b : Int) : Fct := fun v w => ∃ bb, v = .slice (some ⟨bb, 0, none⟩) 2 2 ∧ zBr w v [a, b]
theorem zHO (a b : Int) : zGn (zKU a b) := by
 rintro v w w' e ⟨bb, h1, h2⟩
 exact ⟨bb, h1, h2.ext e⟩
theorem zLe {N : Nat} {σ : Env} {w : World} {dst : Option Tmp} {ty : TypeId} {pos : String} {af : Array Edge} {g : Option (Nat × Bool)} {x y : Operand} {a b : Int} (hx : ev σ x = .int .i64 a) (hy : ev σ y = .int .i64 b) :
  zLf Tryz.prog N ⟨dst, .buildSlice 26 2 #[(0, x), (1, y)], ty, pos, af, g⟩ (zKU a b) σ w := by
 have hn := New.mk' w #[.int .i64 a, .int .i64 b] 3
 refine zAJ (zCG (parts := [(0, x), (1, y)]) (ps := [(0, .int .i64 a), (1, .int .i64 b)]) (by simp only [List.map, hx, hy]) Tryz.underlying26 zAw zJN (by decide) (by decide) (by kernel_rfl)) hn.ext ?_
 exact ⟨_, rfl, zDV [a, b] hn.blk (by simp) (by simp)⟩
end Go.Proofs
namespace Go.Proofs
open Go Go.Eng Go.Sort
set_option maxRecDepth 100000
def zEk (p q : Int) : Int := if p ≠ 0 then p else q
/-- Two comparisons, there and back. -/
def Sy (p p' : Int) : Prop := (p < 0 ↔ 0 < p') ∧ (0 < p ↔ p' < 0)
/-- Comparisons of one with another, of this with a third, and of the first with the third. -/
def Tr3 (p q r : Int) : Prop := (p ≤ 0 → q ≤ 0 → r ≤ 0) ∧ (p < 0 → q ≤ 0 → r < 0) ∧ (p ≤ 0 → q < 0 → r < 0)
theorem zGX (p q : Int) : (zEk p q < 0 ↔ p < 0 ∨ (p = 0 ∧ q < 0)) ∧ (0 < zEk p q ↔ 0 < p ∨ (p = 0 ∧ 0 < q)) := by unfold zEk; split <;> omega
theorem Sy.lex {p p' P P' : Int} (h : Sy p p') (k : Sy P P') : Sy (zEk p P) (zEk p' P') := by
 unfold Sy at *
 have h1 := zGX p P
 have h2 := zGX p' P'
 omega
theorem Tr3.lex {p q r P Q R : Int} (h : Tr3 p q r) (k : Tr3 P Q R) : Tr3 (zEk p P) (zEk q Q) (zEk r R) := by
 unfold Tr3 at *
 have h1 := zGX p P
 have h2 := zGX q Q
 have h3 := zGX r R
 refine ⟨fun a b => ?_, fun a b => ?_, fun a b => ?_⟩ <;> omega
theorem zGk (a b : Int) : (zBx a b < 0 ↔ a < b) ∧ (0 < zBx a b ↔ b < a) := by unfold zBx; (repeat' split) <;> omega
theorem zIP (a b : Int) : Sy (zBx a b) (zBx b a) := by
 have h1 := zGk a b
 have h2 := zGk b a
 unfold Sy
 omega
theorem zIO (a b c : Int) : Tr3 (zBx a b) (zBx b c) (zBx a c) := by
 have h1 := zGk a b
 have h2 := zGk b c
 have h3 := zGk a c
 unfold Tr3
 omega
theorem zHb : Sy 0 0 := by unfold Sy; omega
theorem zHa : Tr3 0 0 0 := by unfold Tr3; omega
def zBt (s t : Int × Int) : Int := orL [zBx s.1 t.1, zBx s.2 t.2]
theorem zDg (x : Int) (r : List Int) : orL (x :: r) = zEk x (orL r) := rfl
theorem zEN : orL [] = 0 := rfl
theorem sy_sp (a b : Int × Int) : Sy (zBt a b) (zBt b a) := by
 simp only [zBt, zDg, zEN]
 exact (zIP _ _).lex ((zIP _ _).lex zHb)
theorem tr_sp (a b c : Int × Int) : Tr3 (zBt a b) (zBt b c) (zBt a c) := by
 simp only [zBt, zDg, zEN]
 exact (zIO _ _ _).lex ((zIO _ _ _).lex zHa)
/-- Lists compared one by one; what ends earlier is less. -/
def zCz {α : Type} (f : α → α → Int) : List α → List α → Int
  | [], [] => 0
  | [], _ :: _ => -1
  | _ :: _, [] => 1
  | x :: l, y :: m => zEk (f x y) (zCz f l m)
theorem zLq {α : Type} {f : α → α → Int} (hf : ∀ a b, Sy (f a b) (f b a)) : ∀ a b : List α, Sy (zCz f a b) (zCz f b a)
  | x :: a, y :: b => (hf x y).lex (zLq hf a b)
  | [], [] => zHb
  | [], _ :: _ => by simp only [zCz]; unfold Sy; omega
  | _ :: _, [] => by simp only [zCz]; unfold Sy; omega
theorem zLp {α : Type} {f : α → α → Int} (hf : ∀ a b c, Tr3 (f a b) (f b c) (f a c)) : ∀ a b c : List α, Tr3 (zCz f a b) (zCz f b c) (zCz f a c)
  | x :: a, y :: b, z :: c => (hf x y z).lex (zLp hf a b c)
  | [], [], [] => zHa
  | [], [], _ :: _ => by simp only [zCz]; unfold Tr3; omega
  | [], _ :: _, [] => by simp only [zCz]; unfold Tr3; omega
  | [], _ :: _, _ :: _ => by simp only [zCz]; unfold Tr3; omega
  | _ :: _, [], [] => by simp only [zCz]; unfold Tr3; omega
  | _ :: _, [], _ :: _ => by simp only [zCz]; unfold Tr3; omega
  | _ :: _, _ :: _, [] => by simp only [zCz]; unfold Tr3; omega
mutual
def zCB : Re → Re → Int
  | .mk k s a m x _, .mk k' s' a' m' x' _ => orL [zBx k k', zCz zBt s s', zBx m m', zBx x x', zBl a a']
def zBl : List Re → List Re → Int
  | [], [] => 0
  | [], _ :: _ => -1
  | _ :: _, [] => 1
  | t :: ts, u :: us => zEk (zCB t u) (zBl ts us)
end
mutual
theorem zRO : ∀ a b : Re, Sy (zCB a b) (zCB b a)
  | .mk k s a m x g, .mk k' s' a' m' x' g' => by
    simp only [zCB, zDg, zEN]
    exact (zIP _ _).lex ((zLq sy_sp _ _).lex ((zIP _ _).lex ((zIP _ _).lex ((zOw a a').lex zHb))))
theorem zOw : ∀ a b : List Re, Sy (zBl a b) (zBl b a)
  | x :: a, y :: b => by simp only [zBl]; exact (zRO x y).lex (zOw a b)
  | [], [] => by simp only [zBl]; exact zHb
  | [], _ :: _ => by simp only [zBl]; unfold Sy; omega
  | _ :: _, [] => by simp only [zBl]; unfold Sy; omega
end
mutual
theorem zJR : ∀ a b c : Re, Tr3 (zCB a b) (zCB b c) (zCB a c)
  | .mk k s a m x g, .mk k' s' a' m' x' g', .mk k'' s'' a'' m'' x'' g'' => by
    simp only [zCB, zDg, zEN]
    exact (zIO _ _ _).lex ((zLp tr_sp _ _ _).lex ((zIO _ _ _).lex ((zIO _ _ _).lex ((zOv a a' a'').lex zHa))))
theorem zOv : ∀ a b c : List Re, Tr3 (zBl a b) (zBl b c) (zBl a c)
  | x :: a, y :: b, z :: c => by simp only [zBl]; exact (zJR x y z).lex (zOv a b c)
  | [], [], [] => by simp only [zBl]; exact zHa
  | [], [], _ :: _ => by simp only [zBl]; unfold Tr3; omega
  | [], _ :: _, [] => by simp only [zBl]; unfold Tr3; omega
  | [], _ :: _, _ :: _ => by simp only [zBl]; unfold Tr3; omega
  | _ :: _, [], [] => by simp only [zBl]; unfold Tr3; omega
  | _ :: _, [], _ :: _ => by simp only [zBl]; unfold Tr3; omega
  | _ :: _, _ :: _, [] => by simp only [zBl]; unfold Tr3; omega
end
theorem zBf (a b : Re) : zCB b a < 0 ↔ 0 < zCB a b := (zRO b a).1
theorem ord_le (a b : Re) : zCB a b ≤ 0 ∨ zCB b a ≤ 0 := by have := zBf a b; have := zBf b a; omega
theorem zPH {a b c : Re} (h : zCB a b ≤ 0) (k : zCB b c ≤ 0) : zCB a c ≤ 0 := (zJR a b c).1 h k
theorem zFH {p q : Int} : zEk p q = 0 ↔ p = 0 ∧ q = 0 := by unfold zEk; split <;> omega
theorem zJF {a b : Int} : zBx a b = 0 ↔ a = b := by unfold zBx; (repeat' split) <;> omega
theorem zLX {a b : Int × Int} : zBt a b = 0 ↔ a = b := by
 simp only [zBt, zDg, zEN, zFH, zJF, and_true, Prod.ext_iff]
theorem zJE {α : Type} {f : α → α → Int} (hf : ∀ a b, f a b = 0 ↔ a = b) : ∀ {a b : List α}, zCz f a b = 0 ↔ a = b
  | [], [] => by simp [zCz]
  | [], _ :: _ => by simp [zCz]
  | _ :: _, [] => by simp [zCz]
  | x :: l, y :: m => by simp only [zCz, zFH, hf, zJE hf, List.cons.injEq]
mutual
/-- No node is marked as the opposite. -/
def zEA : Re → Bool
  | .mk _ _ a _ _ g => !g && zGV a
def zGV : List Re → Bool
  | [] => true
  | t :: ts => zEA t && zGV ts
end
mutual
theorem zGA : ∀ {a b : Re}, zEA a = true → zEA b = true → (zCB a b = 0 ↔ a = b)
  | .mk k s a m x g, .mk k' s' a' m' x' g', h, h' => by
    simp only [zEA, Bool.and_eq_true, Bool.not_eq_true'] at h h'
    simp only [zCB, zDg, zEN, zFH, zJF, zJE (f := zBt) fun _ _ => zLX, zIk h.2 h'.2, and_true, Re.mk.injEq, h.1, h'.1]
    constructor
    · rintro ⟨h1, h2, h3, h4, h5⟩; exact ⟨h1, h2, h5, h3, h4⟩
    · rintro ⟨h1, h2, h5, h3, h4⟩; exact ⟨h1, h2, h3, h4, h5⟩
theorem zIk : ∀ {a b : List Re}, zGV a = true → zGV b = true → (zBl a b = 0 ↔ a = b)
  | [], [], _, _ => by simp [zBl]
  | [], _ :: _, _, _ => by simp [zBl]
  | _ :: _, [], _, _ => by simp [zBl]
  | t :: ts, u :: us, h, h' => by
    simp only [zGV, Bool.and_eq_true] at h h'
    simp only [zBl, zFH, zGA h.1 h'.1, zIk h.2 h'.2, List.cons.injEq]
end
def zEy : Re := .mk 8 [] [zBH] 0 0 false
def zCb (t : Re) : Bool := decide (t.kind = 8) && decide ((t.args.headD zBH).kind = 0)
def zBU (t : Re) : Bool := decide (t.kind = 0)
def zBo (t : Re) : Bool := decide (t.kind = 1)
def zEm (p : Re → Bool) (l : List Re) : List Re := l.filter fun x => !p x
def zBy (k : Int) (nothing : Re) : List Re → Re
  | [] => nothing
  | [x] => x
  | x :: y :: l => .mk k [] (x :: y :: l) 0 0 false
def zEd (l : List Re) : Re := if ((zEm zBo (zBO 3 l)).any zBU) = true then zBH else zBy 3 zBJ (zEm zBo (zBO 3 l))
/-- Of neighbours that are equal one stays. -/
def zFQ : List Re → List Re
  | [] => []
  | [x] => [x]
  | x :: y :: l => if zBT x y = true then zFQ (y :: l) else x :: zFQ (y :: l)
def leR (a b : Re) : Bool := decide (zCB a b ≤ 0)
def zDO (l : List Re) : List Re := l.mergeSort leR
def zHz (k : Int) (l : List Re) (strong weak : Re → Bool) (nothing : Re) : Re :=
  match l.find? strong with
  | some x => x
  | none => zBy k nothing (zFQ (zDO (zEm weak (zBO k l))))
def zCf (k : Int) (s : List (Int × Int)) (a : List Re) (m x : Int) (g : Bool) : Re :=
 let y := a.headD zBH
 if k = 3 then zEd a else if k = 4 then zHz 4 a zCb zBU zBH else if k = 7 then zHz 7 a zBU zCb zEy
 else if k = 5 then (if y.kind = 0 ∨ y.kind = 1 then zBJ else if y.kind = 5 then y else .mk k s a m x g)
 else if k = 6 then (if x = 0 ∨ y.kind = 1 ∨ (y.kind = 0 ∧ m = 0) then zBJ else if y.kind = 0 ∨ (m = 1 ∧ x = 1) then y else .mk k s a m x g)
 else if k = 8 then (if y.kind = 8 then y.args.headD zBH else .mk k s a m x g)
 else .mk k s a m x g
def zCt : Re → Re
  | .mk k s a m x g => zCf k s a m x g
mutual
def zCU : Re → Re
  | .mk k s a m x g => zCf k s (zCq a) m x g
def zCq : List Re → List Re
  | [] => []
  | t :: ts => zCU t :: zCq ts
end
theorem zCL (ts : List Re) : zCq ts = ts.map zCU := by
  induction ts with
  | nil => rfl
  | cons t ts ih => simp [zCq, ih]
theorem zLz (t : Re) : zCU t = zCf t.kind t.set (t.args.map zCU) t.mn t.mx t.neg := by cases t; simp [zCU, zCL, Re.kind, Re.set, Re.args, Re.mn, Re.mx, Re.neg]
mutual
/-- Whether an expression matches the empty text. -/
def zBg : Re → Bool
  | .mk k _ a m _ g => if k = 1 ∨ k = 5 then true else if k = 3 ∨ k = 7 ∨ k = 9 then zCp a else if k = 4 then zDn a else if k = 6 then (decide (m = 0) || zCp a) else if k = 8 then !zCp a else if k = 10 then (zCp a != g) else false
def zCp : List Re → Bool
  | [] => true
  | t :: ts => zBg t && zCp ts
def zDn : List Re → Bool
  | [] => false
  | t :: ts => zBg t || zDn ts
end
mutual
/-- The derivative of an expression in similar form. -/
def zBK (c : Int) : Re → Re
  | .mk k s a m x g => if k = 2 then (if inS s c = true then zBJ else zBH) else if k = 3 then zEg c a
    else if k = 4 ∨ k = 7 ∨ k = 8 then zCf k [] (zBq c a) 0 0 false
    else if k = 5 then zEd [(zBq c a).headD zBH, .mk k s a m x g]
    else if k = 6 then zEd [(zBq c a).headD zBH, zCf 6 [] [a.headD zBH] (max 0 (m - 1)) (x - 1) false]
    else zBH
def zBq (c : Int) : List Re → List Re
  | [] => []
  | t :: ts => zBK c t :: zBq c ts
/-- The derivative of a concatenation. -/
def zEg (c : Int) : List Re → Re
  | [] => zBH
  | t :: ts => if ts = [] then zBK c t else (let first := zEd [zBK c t, zBy 3 zBJ ts]; if zBg t = true then zCf 4 [] [first, zEg c ts] 0 0 false else first)
end
end Go.Proofs
namespace Go.Proofs
open Go Go.Eng
set_option maxRecDepth 100000
theorem zPB {P : Program} {σ : Env} {w : World} {dst : Option Tmp} {ty : TypeId} {pos : String} {af : Array Edge} {g : Option (Nat × Bool)} {tys : Array TypeId} {x y : Operand} {k : IntKind} {a b c : Int} (hx : ev σ x = .int k a) (hy : ev σ y = .int k b) (hc : min a b = c) :
  (execOp (ev σ) ⟨dst, .call ⟨.builtin .min, #[x, y], tys⟩, ty, pos, af, g⟩).run P w = .ok (.value (.int k c)) w := by
 subst hc
 have : (if b < a then b else a) = min a b := by split <;> omega
 simp [execOp, resolve, invoke, builtin, Builtin.min_, Builtin.min2, hx, hy, this]
end Go.Proofs
namespace Go.Eng
open Go
abbrev TRe : Nat := 25
mutual
def zEI (Z : Nat → Prop) (w : World) : Re → List Value → (Nat → Prop) → Prop
  | .mk k set args mn mx ng, vs, L => ∃ sa sc aa ac, vs = [.int .i64 k, .slice sa set.length sc, .slice aa args.length ac, .int .i64 mn, .int .i64 mx, .bool ng] ∧ zDE Z w 2 (.slice sa set.length sc) (set.map zDA) ∧ (args.length ≤ ac ∧ ac ≤ 9223372036854775807) ∧
      (args = [] ∨ ∃ b rows rest L', L b ∧ aa = some ⟨b, 0, none⟩ ∧ Blk w b (rows.flatten ++ rest).toArray TRe ∧ (∀ r ∈ rows, r.length = 6) ∧ zBa Z w args rows L' ∧ (∀ x, L' x → L x ∧ x ≠ b))
def zBa (Z : Nat → Prop) (w : World) : List Re → List (List Value) → (Nat → Prop) → Prop
  | [], rows, _ => rows = []
  | t :: ts, rows, L => ∃ vs rs L1 L2, rows = vs :: rs ∧ zEI Z w t vs L1 ∧ zBa Z w ts rs L2 ∧ (∀ x, L1 x → L x ∧ ¬ L2 x) ∧ (∀ x, L2 x → L x)
end
mutual
theorem zEI.chg {Z M : Nat → Prop} {w w' : World} (c : Chg M w w') (hz : ∀ b, Z b → ¬ M b) : ∀ (t : Re) {vs : List Value} {L : Nat → Prop}, (∀ b, L b → ¬ M b) → zEI Z w t vs L → zEI Z w' t vs L
  | .mk k set args mn mx ng, vs, L, hl, h => by
    simp only [zEI] at h ⊢
    obtain ⟨sa, sc, aa, ac, hv, hs, hn, ha⟩ := h
    refine ⟨sa, sc, aa, ac, hv, hs.chg c hz, hn, ?_⟩
    rcases ha with h | ⟨b, rows, rest, L', h1, h2, h3, h4, h5, h6⟩
    · exact .inl h
    · exact .inr ⟨b, rows, rest, L', h1, h2, c.keep (hl b h1) h3, h4, zBa.chg c hz args (fun x hx => hl x (h6 x hx).1) h5, h6⟩
theorem zBa.chg {Z M : Nat → Prop} {w w' : World} (c : Chg M w w') (hz : ∀ b, Z b → ¬ M b) : ∀ (ts : List Re) {rows : List (List Value)} {L : Nat → Prop}, (∀ b, L b → ¬ M b) → zBa Z w ts rows L → zBa Z w' ts rows L
  | [], _, _, _, h => by simp only [zBa] at h ⊢; exact h
  | t :: ts, rows, L, hl, h => by
    simp only [zBa] at h ⊢
    obtain ⟨vs, rs, L1, L2, h1, h2, h3, h4, h5⟩ := h
    exact ⟨vs, rs, L1, L2, h1, zEI.chg c hz t (fun x hx => hl x (h4 x hx).1) h2, zBa.chg c hz ts (fun x hx => hl x (h5 x hx)) h3, h4, h5⟩
end
theorem zEI.ext {Z : Nat → Prop} {w w' : World} (e : Ext w w') (t : Re) {vs : List Value} {L : Nat → Prop} (h : zEI Z w t vs L) : zEI Z w' t vs L := zEI.chg e (fun _ _ f => f) t (fun _ _ f => f) h
theorem zBa.ext {Z : Nat → Prop} {w w' : World} (e : Ext w w') (ts : List Re) {rows : List (List Value)} {L : Nat → Prop} (h : zBa Z w ts rows L) : zBa Z w' ts rows L := zBa.chg e (fun _ _ f => f) ts (fun _ _ f => f) h
mutual
theorem zEI.mono {Z Z' : Nat → Prop} {w : World} (hz : ∀ b, Z b → Z' b) : ∀ (t : Re) {vs : List Value} {L L' : Nat → Prop}, (∀ b, L b → L' b) → zEI Z w t vs L → zEI Z' w t vs L'
  | .mk k set args mn mx ng, vs, L, L', hl, h => by
    simp only [zEI] at h ⊢
    obtain ⟨sa, sc, aa, ac, hv, hs, hn, ha⟩ := h
    refine ⟨sa, sc, aa, ac, hv, hs.mono hz, hn, ?_⟩
    rcases ha with h | ⟨b, rows, rest, K, h1, h2, h3, h4, h5, h6⟩
    · exact .inl h
    · exact .inr ⟨b, rows, rest, K, hl b h1, h2, h3, h4, zBa.mono hz args (fun _ h => h) h5, fun x hx => ⟨hl x (h6 x hx).1, (h6 x hx).2⟩⟩
theorem zBa.mono {Z Z' : Nat → Prop} {w : World} (hz : ∀ b, Z b → Z' b) : ∀ (ts : List Re) {rows : List (List Value)} {L L' : Nat → Prop}, (∀ b, L b → L' b) → zBa Z w ts rows L → zBa Z' w ts rows L'
  | [], _, _, _, _, h => by simp only [zBa] at h ⊢; exact h
  | t :: ts, rows, L, L', hl, h => by
    simp only [zBa] at h ⊢
    obtain ⟨vs, rs, L1, L2, h1, h2, h3, h4, h5⟩ := h
    exact ⟨vs, rs, L1, L2, h1, zEI.mono hz t (fun _ h => h) h2, zBa.mono hz ts (fun _ h => h) h3, fun x hx => ⟨hl x (h4 x hx).1, (h4 x hx).2⟩, fun x hx => hl x (h5 x hx)⟩
end
theorem zEI.form {Z : Nat → Prop} {w : World} {t : Re} {vs : List Value} {L : Nat → Prop} (h : zEI Z w t vs L) : ∃ sa sc aa ac, vs = [.int .i64 t.kind, .slice sa t.set.length sc, .slice aa t.args.length ac, .int .i64 t.mn, .int .i64 t.mx, .bool t.neg] ∧ zDE Z w 2 (.slice sa t.set.length sc) (t.set.map zDA) ∧ (t.args.length ≤ ac ∧ ac ≤ 9223372036854775807) ∧
   (t.args = [] ∨ ∃ b rows rest L', L b ∧ aa = some ⟨b, 0, none⟩ ∧ Blk w b (rows.flatten ++ rest).toArray TRe ∧ (∀ r ∈ rows, r.length = 6) ∧ zBa Z w t.args rows L' ∧ (∀ x, L' x → L x ∧ x ≠ b)) := by
 cases t; simp only [zEI] at h; exact h
theorem zEI.len {Z : Nat → Prop} {w : World} {t : Re} {vs : List Value} {L : Nat → Prop} (h : zEI Z w t vs L) : vs.length = 6 := by
 obtain ⟨_, _, _, _, rfl, _⟩ := h.form; rfl
theorem zEI.one {Z : Nat → Prop} {w : World} {t : Re} {vs : List Value} {L : Nat → Prop} (h : zEI Z w t vs L) : ∀ u ∈ vs, u.oneCell' = true := by
 obtain ⟨_, _, _, _, rfl, _⟩ := h.form
 simp [Value.oneCell']
theorem zBa.len {Z : Nat → Prop} {w : World} : ∀ {ts : List Re} {rows : List (List Value)} {L : Nat → Prop}, zBa Z w ts rows L → rows.length = ts.length
  | [], _, _, h => by simp only [zBa] at h; subst h; rfl
  | t :: ts, rows, L, h => by
    simp only [zBa] at h
    obtain ⟨vs, rs, L1, L2, rfl, _, h3, _⟩ := h
    simp [zBa.len h3]
theorem zBa.six {Z : Nat → Prop} {w : World} : ∀ {ts : List Re} {rows : List (List Value)} {L : Nat → Prop}, zBa Z w ts rows L → ∀ r ∈ rows, r.length = 6
  | [], _, _, h => by simp only [zBa] at h; subst h; simp
  | t :: ts, rows, L, h => by
    simp only [zBa] at h
    obtain ⟨vs, rs, L1, L2, rfl, h2, h3, _⟩ := h
    intro r hr
    rcases List.mem_cons.1 hr with rfl | hr
    · exact h2.len
    · exact zBa.six h3 r hr
theorem zBa.snoc {Z : Nat → Prop} {w : World} {t : Re} {vs : List Value} {K : Nat → Prop} (ht : zEI Z w t vs K) : ∀ {ts : List Re} {rows : List (List Value)} {L : Nat → Prop}, zBa Z w ts rows L → (∀ x, L x → ¬ K x) → zBa Z w (ts ++ [t]) (rows ++ [vs]) (fun x => L x ∨ K x)
  | [], rows, L, h, hd => by
    simp only [zBa] at h
    subst h
    simp only [List.nil_append, zBa]
    exact ⟨vs, [], K, fun _ => False, rfl, ht, rfl, fun x hx => ⟨.inr hx, fun f => f⟩, fun x f => f.elim⟩
  | u :: ts, rows, L, h, hd => by
    simp only [zBa] at h
    obtain ⟨us, rs, L1, L2, rfl, h2, h3, h4, h5⟩ := h
    have := zBa.snoc ht h3 fun x hx => hd x (h5 x hx)
    simp only [List.cons_append, zBa]
    exact ⟨us, rs ++ [vs], L1, _, rfl, h2, this, fun x hx => ⟨.inl (h4 x hx).1, fun hh => hh.elim (h4 x hx).2 (hd x (h4 x hx).1)⟩, fun x hx => hx.elim (fun h => .inl (h5 x h)) .inr⟩
theorem zHJ {rows : List (List Value)} {rest : List Value} {k : Nat} (hk : ∀ r ∈ rows, r.length = k) : ∀ {i : Nat} {r : List Value}, rows[i]? = some r → ∀ (j : Nat) (u : Value), r[j]? = some u → (rows.flatten ++ rest)[i * k + j]? = some u := by
  induction rows with
  | nil => intro i r h; simp at h
  | cons x rs ih =>
    intro i r hr j u hu
    have hx : x.length = k := hk x (by simp)
    cases i with
    | zero =>
      simp at hr; subst hr
      have hj := zAo hu
      simp only [List.flatten_cons, Nat.zero_mul, Nat.zero_add, List.append_assoc]
      rw [List.getElem?_append_left hj]; exact hu
    | succ i =>
      simp at hr
      simp only [List.flatten_cons, List.append_assoc]
      rw [List.getElem?_append_right (by rw [hx, Nat.succ_mul]; omega)]
      rw [show (i + 1) * k + j - x.length = i * k + j from by rw [hx, Nat.succ_mul]; omega]
      exact ih (fun r hr => hk r (by simp [hr])) hr j u hu
theorem zEt {w : World} {b T k : Nat} {rows : List (List Value)} {rest : List Value} (h : Blk w b (rows.flatten ++ rest).toArray T) (hk : ∀ r ∈ rows, r.length = k) {i : Nat} {r : List Value} (hr : rows[i]? = some r) : zAx w b (i * k) r := by
 intro j u hu
 exact h.cell (by simpa using zHJ hk hr j u hu)
theorem zHg {k : Nat} {v : List Value} (hv : v.length = k) : ∀ {rows : List (List Value)} {rest : List Value} {i : Nat}, (∀ r ∈ rows, r.length = k) → i < rows.length → (rows.flatten ++ rest).take (i * k) ++ v ++ (rows.flatten ++ rest).drop (i * k + k) = (rows.set i v).flatten ++ rest
  | [], _, _, _, hi => by simp at hi
  | x :: rs, rest, 0, hk, hi => by
    have hx : x.length = k := hk x (by simp)
    simp only [List.flatten_cons, Nat.zero_mul, List.take_zero, Nat.zero_add, List.set_cons_zero, List.nil_append, List.append_assoc]
    rw [List.drop_append_of_le_length (by omega), List.drop_of_length_le (by omega)]; simp
  | x :: rs, rest, i + 1, hk, hi => by
    have hx : x.length = k := hk x (by simp)
    have ih := zHg hv (rows := rs) (rest := rest) (i := i) (fun r hr => hk r (by simp [hr])) (by simpa using hi)
    simp only [List.flatten_cons, List.set_cons_succ, List.append_assoc] at ih ⊢
    rw [← ih, Nat.succ_mul]
    have e1 : ∀ (A : List Value) (m : Nat), (x ++ A).take (x.length + m) = x ++ A.take m := fun A m => by rw [List.take_append, List.take_of_length_le (by omega), Nat.add_sub_cancel_left]
    have e2 : ∀ (A : List Value) (m : Nat), (x ++ A).drop (x.length + m) = A.drop m := fun A m => by rw [List.drop_append, List.drop_of_length_le (by omega), Nat.add_sub_cancel_left, List.nil_append]
    rw [show i * k + k = x.length + i * k from by omega, e1, show x.length + i * k + k = x.length + (i * k + k) from by omega, e2]
    rw [List.append_assoc, show x.length + i * k = i * k + k from by omega]
theorem zBn {k : Nat} : ∀ {rows : List (List Value)}, (∀ r ∈ rows, r.length = k) → rows.flatten.length = rows.length * k
  | [], _ => by simp
  | x :: rs, h => by
    have := zBn (rows := rs) (fun r hr => h r (by simp [hr]))
    have hx : x.length = k := h x (by simp)
    simp only [List.flatten_cons, List.length_append, List.length_cons, this, hx, Nat.succ_mul]; omega
theorem zCx {S : Nat → Prop} {w : World} {b : Nat} : ∀ {ts : List Re} {o : Nat}, (∀ i t, ts[i]? = some t → ∃ vs, zAx w b (o + i * 6) vs ∧ zAc S w t vs) → zBM S w b o ts
  | [], _, _ => by simp only [zBM]
  | t :: ts, o, h => by
    simp only [zBM]
    refine ⟨by simpa using h 0 t rfl, zCx fun i u hu => ?_⟩
    have := h (i + 1) u (by simpa using hu)
    rwa [show o + (i + 1) * 6 = o + 6 + i * 6 from by omega] at this
end Go.Eng
namespace Go.Proofs
open Go Go.Eng
set_option maxRecDepth 100000
def zIH (w : World) (v : Value) (ts : List Re) : Prop := ∃ aa ac, v = .slice aa ts.length ac ∧ (ts.length ≤ ac ∧ ac ≤ 9223372036854775807) ∧ (ts = [] ∨ ∃ b o, aa = some ⟨b, o, none⟩ ∧ zBw w b o ts)
theorem zIH.ext {w w' : World} {v : Value} {ts : List Re} (h : zIH w v ts) (e : Ext w w') : zIH w' v ts := by
 obtain ⟨aa, ac, h1, h2, h3⟩ := h
 refine ⟨aa, ac, h1, h2, ?_⟩
 rcases h3 with h | ⟨b, o, h4, h5⟩
 ·exact .inl h
 exact .inr ⟨b, o, h4, zBw.ext e ts h5⟩
theorem zIH.cells {w : World} {aa : Option Addr} {n ac : Nat} {ts : List Re} (h : zIH w (.slice aa n ac) ts) (hn : 0 < n) : ∃ b o, aa = some ⟨b, o, none⟩ ∧ ∀ i t, ts[i]? = some t → ∃ vs, zAx w b (o + i * 6) vs ∧ zBC w t vs := by
 obtain ⟨aa', ac', h1, h2, h3⟩ := h
 simp only [Value.slice.injEq] at h1
 obtain ⟨rfl, rfl, rfl⟩ := h1
 rcases h3 with rfl | ⟨b, o, h4, h5⟩
 ·simp at hn
 exact ⟨b, o, h4, fun i t ht => zBw.get h5 ht⟩
theorem zBC.rs {w : World} {t : Re} {sa aa : Option Addr} {k m x : Int} {n sc n' ac : Nat} {ng : Bool} (h : zBC w t [.int .i64 k, .slice sa n sc, .slice aa n' ac, .int .i64 m, .int .i64 x, .bool ng]) : zIH w (.slice aa n' ac) t.args := by
 obtain ⟨sa', sc', aa', ac', hv, _, h2, h3⟩ := h.form
 simp at hv
 obtain ⟨_, _, ⟨rfl, rfl, rfl⟩, _⟩ := hv
 exact ⟨_, _, rfl, h2, h3⟩
theorem zJy (t u : Re) : zBT t u = (decide (t.kind = u.kind) && decide (t.set = u.set) && decide (t.mn = u.mn) && decide (t.mx = u.mx) && decide (t.neg = u.neg) && zDe t.args u.args) := by
 cases t; cases u; simp only [zBT, Re.kind, Re.set, Re.args, Re.mn, Re.mx, Re.neg]; try rfl
set_option maxHeartbeats 1000000 in
theorem eqf_c (w0 : World) (v1 v2 fv : Value) (l1 l2 : List Re) (h1 : zIH w0 v1 l1) (h2 : zIH w0 v2 l2)
  (hf : ∀ (w : World) (x u : Re) (vs us : List Value), Ext w0 w → x ∈ l1 → zBC w x vs → zBC w u us → zBu Tryz.prog fv #[.agg vs.toArray, .agg us.toArray] w fun r w' => r = .bool (zBT x u) ∧ Ext w w') :
  Ret Tryz.prog 81 #[v1, v2, fv] w0 fun v w => v = .bool (zDe l1 l2) ∧ Ext w0 w := by
 have g1 := h1
 have g2 := h2
 obtain ⟨a1, c1, rfl, hb1, _⟩ := h1
 obtain ⟨a2, c2, rfl, hb2, _⟩ := h2
 refine zAk Tryz.func81 rfl Tryz.ntmps81 (Nat.le_of_ble_eq_true rfl) ?_
 have E : Chg zAh w0 w0 := Chg.refl _ _
 refine zAA ?_
 refine qA (.bool false) rfl ?_
 refine zAB (zAP (zAA ?_))
 refine qM (.slice a1 l1.length c1) rfl ?_
 refine qV (zAV (ad := a1) (n := l1.length) (cap := c1) Tryz.underlying23 rfl) ?_
 refine qM (.slice a2 l2.length c2) rfl ?_
 refine qV (zAV (ad := a2) (n := l2.length) (cap := c2) Tryz.underlying23 rfl) ?_
 refine qV (zBz (k := .i64) (a := (l1.length : Int)) (b := (l2.length : Int)) rfl rfl) ?_
 refine zAB ?_
 refine zAM (b := decide (((l1.length : Int) : Int) ≠ (l2.length : Int))) rfl (fun hl => ?_) (fun hl => ?_)
 ·have khl := hl
  replace hl := of_decide_eq_true hl
  refine zAA ?_
  refine qA (.bool false) rfl ?_
  refine zAB (zAQ (zAI ?_))
  refine zAS Tryz.results81 (v := (.bool false)) rfl ?_
  exact ⟨zAt (by symm; rw [← Bool.not_eq_true, zDK]; intro h; rw [h] at hl; exact hl rfl), E⟩
 have khl := hl
 replace hl := of_decide_eq_false hl
 refine zAR (zAC (zAP (zAA ?_)))
 refine qM (.slice a1 l1.length c1) rfl ?_
 refine qV (zAV (ad := a1) (n := l1.length) (cap := c1) Tryz.underlying23 rfl) ?_
 refine qM (I6 0) rfl ?_
 refine zAB (zAZ ?_)
 refine zBA (fun nn_ σ W2 => ∃ (k : Nat), (∃ jj_, σ = zCl jj_ [(1, (.slice a2 l2.length c2)), (2, fv), (15, (.slice a1 l1.length c1)), (16, (I6 (l1.length : Int))), (17, (I6 (k : Int)))]) ∧ Chg zAh w0 W2 ∧ (k ≤ l1.length) ∧ (∀ (i : Nat), i < k → l1[i]? = l2[i]?) ∧ nn_ = l1.length - k) (n := l1.length - 0) ?_ ?_
 ·exact ⟨0, zBG.out ⟨rfl, rfl, rfl, rfl, rfl, trivial⟩, E, Nat.zero_le _, (fun i h => absurd h (Nat.not_lt_zero _)), rfl⟩
 clear E
 rintro _ _ W2 ⟨k, ⟨j2, rfl⟩, E, hk, heq, rfl⟩
 refine zAA ?_
 refine qV (zBS (k := .i64) (a := (k : Int)) (b := (l1.length : Int)) rfl rfl) ?_
 refine zAB (zAP ?_)
 refine zAM (b := decide (((k : Int) : Int) < (l1.length : Int))) rfl (fun hlt => ?_) (fun hlt => ?_)
 ·have khlt := hlt
  replace hlt := of_decide_eq_true hlt
  obtain ⟨p, hp⟩ := zAa (l := l1) (i := k) (by omega)
  obtain ⟨q, hq⟩ := zAa (l := l2) (i := k) (by omega)
  obtain ⟨b1, o1, rfl, hc1⟩ := g1.cells (by omega)
  obtain ⟨b2, o2, rfl, hc2⟩ := g2.cells (by omega)
  obtain ⟨vs, hcv, hpv⟩ := hc1 k p hp
  obtain ⟨us, hcu, hqu⟩ := hc2 k q hq
  have hpv0 := hpv
  have hqu0 := hqu
  obtain ⟨sa, sc, aa, ac, rfl, _, _, _⟩ := hpv.form
  obtain ⟨sa2, sc2, aa2, ac2, rfl, _, _, _⟩ := hqu.form
  refine zAR (zAC (zAP (zAZ (zAA ?_))))
  refine qM (I6 (k : Int)) rfl ?_
  refine qV (zAO (b := b1) (o := o1) (len := l1.length) (cap := c1) (i := k) (o' := o1 + k * 6) rfl rfl rfl Tryz.underlying23 zAH (by omega) (by omega)) ?_
  refine qV (zAG (vs := [(I6 p.kind), (.slice sa p.set.length sc), (.slice aa p.args.length ac), (I6 p.mn), (I6 p.mx), (.bool p.neg)]) rfl zAb zAH rfl (hcv.ext E)) ?_
  refine zBD (c := #[(I6 0), (.slice none 0 0), (.slice none 0 0), (I6 0), (I6 0), (.bool false)]) (by decide) zAs rfl ?_
  intro bp wp Np
  have Fp := Np.ge E
  replace E := E.ext Np.ext
  have Bp := Np.blk
  refine qA (I6 (k : Int)) rfl ?_
  refine qW (R6 p sa sc aa ac) rfl rfl zAH Bp ?_
  intro w4 S4
  replace E := S4.stp E
  replace Bp := S4.blk
  refine zAB (zAA ?_)
  refine qM (.slice (some ⟨b2, o2, none⟩) l2.length c2) rfl ?_
  refine qM (I6 (k : Int)) rfl ?_
  refine qV (zAO (b := b2) (o := o2) (len := l2.length) (cap := c2) (i := k) (o' := o2 + k * 6) rfl rfl rfl Tryz.underlying23 zAH (by omega) (by omega)) ?_
  refine qV (zAG (vs := [(I6 q.kind), (.slice sa2 q.set.length sc2), (.slice aa2 q.args.length ac2), (I6 q.mn), (I6 q.mx), (.bool q.neg)]) rfl zAb zAH rfl (hcu.ext E)) ?_
  refine zAi (v := (.agg (R6 q sa2 sc2 aa2 ac2))) (c := (R6 q sa2 sc2 aa2 ac2)) (n := 6) (by decide) zAs rfl zAH rfl rfl rfl (by simp [Value.oneCell']) ?_
  intro bq wq Nq
  have Fq := Nq.ge E
  have Oq_bp := Nq.lt Bp
  replace Bp := Nq.keep Bp
  replace E := E.ext Nq.ext
  have Bq := Nq.blk
  refine zAB (zAA ?_)
  refine qM fv rfl ?_
  refine qV (zAG (vs := [(I6 p.kind), (.slice sa p.set.length sc), (.slice aa p.args.length ac), (I6 p.mn), (I6 p.mx), (.bool p.neg)]) rfl zAb zAH rfl (Bp.cells rfl)) ?_
  refine qV (zAG (vs := [(I6 q.kind), (.slice sa2 q.set.length sc2), (.slice aa2 q.args.length ac2), (I6 q.mn), (I6 q.mx), (.bool q.neg)]) rfl zAb zAH rfl (Bq.cells rfl)) ?_
  refine zCj (fv := fv) (vs := [(.agg (R6 p sa sc aa ac)), (.agg (R6 q sa2 sc2 aa2 ac2))]) (by decide) rfl rfl (hf _ p q _ _ E (List.mem_of_getElem? hp) (zBC.ext E p hpv0) (zBC.ext E q hqu0)) ?_
  rintro _ w9 ⟨rfl, X9⟩
  replace Bp := X9.keep Bp
  replace Bq := X9.keep Bq
  replace E := E.ext X9
  refine qV (zCV (b := zBT p q) rfl) ?_
  refine zAB ?_
  refine zAM (b := !(zBT p q)) rfl (fun hpq => ?_) (fun hpq => ?_)
  ·have khpq := hpq
   replace hpq := by simpa using hpq
   refine zAA ?_
   refine qA (.bool false) rfl ?_
   refine zAB (zAQ (zAY (zAI (zAI (zAY (zAI ?_))))))
   refine zAS Tryz.results81 (v := (.bool false)) rfl ?_
   exact ⟨zAt (by symm; rw [← Bool.not_eq_true, zDK]; intro h; subst h; rw [hp] at hq; cases hq; rw [(zBb p p).2 rfl] at hpq; cases hpq), E⟩
  have khpq := hpq
  replace hpq := by simpa using hpq
  have hpq2 : p = q := (zBb p q).1 (by simpa using hpq)
  refine zAR (zAU (zAC (zAW ?_)))
  refine qV (zBQ (k := .i64) (a := (k : Int)) (b := 1) (c := (k : Int) + 1) rfl rfl (zBs (by omega))) ?_
  refine qM (I6 ((k : Int) + 1)) rfl ?_
  refine zAB (zAC ?_)
  exact ⟨l1.length - (k + 1), by omega, k + 1, zBG.out ⟨rfl, rfl, rfl, rfl, rfl, trivial⟩, E, (by omega), (fun i hi => by rcases Nat.lt_or_ge i k with h | h; exact heq i h; obtain rfl : i = k := (by omega); rw [hp, hq, hpq2]), rfl⟩
 have khlt := hlt
 replace hlt := of_decide_eq_false hlt
 have hkk : k = l1.length := by omega
 refine zBB (zAe (zAe (zAr (zAC (zAA ?_)))))
 refine qA (.bool true) rfl ?_
 refine zAB (zAQ ?_)
 refine zAS Tryz.results81 (v := (.bool true)) rfl ?_
 exact ⟨zAt (by symm; rw [zDK]; exact zHt (by omega) (fun i hi => heq i (by omega))), E⟩
set_option maxHeartbeats 1000000 in
theorem zNs : ∀ (n : Nat) (t u : Re) (w0 : World) (vs us : List Value), t.size ≤ n → zBC w0 t vs → zBC w0 u us →
    Ret Tryz.prog 25 #[.agg vs.toArray, .agg us.toArray] w0 fun v w => v = .bool (zBT t u) ∧ Ext w0 w := by
  intro n
  induction n with
  | zero => intro t u w0 vs us hn; have := t.size_pos; omega
  | succ n ih =>
  intro t u w0 vs us hn ht hu
  have ht0 := ht
  have hu0 := hu
  obtain ⟨sa, sc, aa, ac, rfl, hts, _, _⟩ := ht.form
  obtain ⟨sa2, sc2, aa2, ac2, rfl, hus, _, _⟩ := hu.form
  have hF : zBT t u = (decide (t.kind = u.kind) && decide (t.set = u.set) && decide (t.mn = u.mn) && decide (t.mx = u.mx) && decide (t.neg = u.neg) && zDe t.args u.args) := zJy t u
  refine zAk Tryz.func25 rfl Tryz.ntmps25 (Nat.le_of_ble_eq_true rfl) ?_
  have E : Chg zAh w0 w0 := Chg.refl _ _
  refine zAA ?_
  refine zBL (v := (.agg (R6 t sa sc aa ac))) (c := (R6 t sa sc aa ac)) (by decide) rfl rfl ?_
  intro b1 w1 N1
  have F1 := N1.ge E
  replace E := E.ext N1.ext
  have B1 := N1.blk
  refine zBL (v := (.agg (R6 u sa2 sc2 aa2 ac2))) (c := (R6 u sa2 sc2 aa2 ac2)) (by decide) rfl rfl ?_
  intro b2 w2 N2
  have F2 := N2.ge E
  have O2_b1 := N2.lt B1
  replace B1 := N2.keep B1
  replace E := E.ext N2.ext
  have B2 := N2.blk
  refine qA (.bool false) rfl ?_
  refine zAB (zAA ?_)
  refine qF b1 0 0 rfl Tryz.underlying25 rfl zAw rfl ?_
  refine qV (zAK (v := (I6 t.kind)) rfl zAf (B1.cell rfl)) ?_
  refine qF b2 0 0 rfl Tryz.underlying25 rfl zAw rfl ?_
  refine qV (zAK (v := (I6 u.kind)) rfl zAf (B2.cell rfl)) ?_
  refine qV (zAg (k := .i64) (a := t.kind) (b := u.kind) rfl rfl) ?_
  refine qM (.bool (decide ((t.kind : Int) = u.kind))) rfl ?_
  rcases Bool.eq_false_or_eq_true (decide ((t.kind : Int) = u.kind)) with g1 | g1
  · have kg1 := g1
    replace kg1 := of_decide_eq_true kg1
    refine zAF (oj := _) rfl rfl (by decide) (congrArg Value.bool g1) ?_
    refine qF b1 0 1 rfl Tryz.underlying25 rfl zDb rfl ?_
    refine zAF (oj := _) rfl rfl (by decide) (congrArg Value.bool g1) ?_
    refine qV (zAK (v := (.slice sa t.set.length sc)) rfl zCc (B1.cell rfl)) ?_
    refine zAF (oj := _) rfl rfl (by decide) (congrArg Value.bool g1) ?_
    refine qF b2 0 1 rfl Tryz.underlying25 rfl zDb rfl ?_
    refine zAF (oj := _) rfl rfl (by decide) (congrArg Value.bool g1) ?_
    refine qV (zAK (v := (.slice sa2 u.set.length sc2)) rfl zCc (B2.cell rfl)) ?_
    refine zAF (oj := _) rfl rfl (by decide) (congrArg Value.bool g1) ?_
    refine zAL rfl rfl (by decide) (zAT (vs := [(.slice sa t.set.length sc), (.slice sa2 u.set.length sc2)]) Tryz.func80 nm80 bd80 rfl) (zRP _ _ _ t.set u.set (zCA.ext hts E) (zCA.ext hus E)) ?_
    rintro _ w9 ⟨rfl, X9⟩
    replace B1 := X9.keep B1
    replace B2 := X9.keep B2
    replace E := E.ext X9
    refine qV (zAd (b := decide ((t.kind : Int) = u.kind)) (v := (.bool (decide (t.set = u.set)))) rfl (by rw [g1]; rfl)) ?_
    refine qM (.bool (decide (t.set = u.set))) rfl ?_
    rcases Bool.eq_false_or_eq_true (decide (t.set = u.set)) with g2 | g2
    · have kg2 := g2
      replace kg2 := of_decide_eq_true kg2
      refine zAF (oj := _) rfl rfl (by decide) (congrArg Value.bool g2) ?_
      refine qF b1 0 3 rfl Tryz.underlying25 rfl zAw rfl ?_
      refine zAF (oj := _) rfl rfl (by decide) (congrArg Value.bool g2) ?_
      refine qV (zAK (v := (I6 t.mn)) rfl zAf (B1.cell rfl)) ?_
      refine zAF (oj := _) rfl rfl (by decide) (congrArg Value.bool g2) ?_
      refine qF b2 0 3 rfl Tryz.underlying25 rfl zAw rfl ?_
      refine zAF (oj := _) rfl rfl (by decide) (congrArg Value.bool g2) ?_
      refine qV (zAK (v := (I6 u.mn)) rfl zAf (B2.cell rfl)) ?_
      refine zAF (oj := _) rfl rfl (by decide) (congrArg Value.bool g2) ?_
      refine qV (zAg (k := .i64) (a := t.mn) (b := u.mn) rfl rfl) ?_
      refine qV (zAd (b := decide (t.set = u.set)) (v := (.bool (decide ((t.mn : Int) = u.mn)))) rfl (by rw [g2]; rfl)) ?_
      refine qM (.bool (decide ((t.mn : Int) = u.mn))) rfl ?_
      rcases Bool.eq_false_or_eq_true (decide ((t.mn : Int) = u.mn)) with g3 | g3
      · have kg3 := g3
        replace kg3 := of_decide_eq_true kg3
        refine zAF (oj := _) rfl rfl (by decide) (congrArg Value.bool g3) ?_
        refine qF b1 0 4 rfl Tryz.underlying25 rfl zAw rfl ?_
        refine zAF (oj := _) rfl rfl (by decide) (congrArg Value.bool g3) ?_
        refine qV (zAK (v := (I6 t.mx)) rfl zAf (B1.cell rfl)) ?_
        refine zAF (oj := _) rfl rfl (by decide) (congrArg Value.bool g3) ?_
        refine qF b2 0 4 rfl Tryz.underlying25 rfl zAw rfl ?_
        refine zAF (oj := _) rfl rfl (by decide) (congrArg Value.bool g3) ?_
        refine qV (zAK (v := (I6 u.mx)) rfl zAf (B2.cell rfl)) ?_
        refine zAF (oj := _) rfl rfl (by decide) (congrArg Value.bool g3) ?_
        refine qV (zAg (k := .i64) (a := t.mx) (b := u.mx) rfl rfl) ?_
        refine qV (zAd (b := decide ((t.mn : Int) = u.mn)) (v := (.bool (decide ((t.mx : Int) = u.mx)))) rfl (by rw [g3]; rfl)) ?_
        refine qM (.bool (decide ((t.mx : Int) = u.mx))) rfl ?_
        rcases Bool.eq_false_or_eq_true (decide ((t.mx : Int) = u.mx)) with g4 | g4
        · have kg4 := g4
          replace kg4 := of_decide_eq_true kg4
          refine zAF (oj := _) rfl rfl (by decide) (congrArg Value.bool g4) ?_
          refine qF b1 0 5 rfl Tryz.underlying25 rfl zNq rfl ?_
          refine zAF (oj := _) rfl rfl (by decide) (congrArg Value.bool g4) ?_
          refine qV (zAK (v := (.bool t.neg)) rfl zHv (B1.cell rfl)) ?_
          refine zAF (oj := _) rfl rfl (by decide) (congrArg Value.bool g4) ?_
          refine qF b2 0 5 rfl Tryz.underlying25 rfl zNq rfl ?_
          refine zAF (oj := _) rfl rfl (by decide) (congrArg Value.bool g4) ?_
          refine qV (zAK (v := (.bool u.neg)) rfl zHv (B2.cell rfl)) ?_
          refine zAF (oj := _) rfl rfl (by decide) (congrArg Value.bool g4) ?_
          refine qV (zPE (p := t.neg) (q := u.neg) Tryz.underlying4 rfl rfl) ?_
          refine qV (zAd (b := decide ((t.mx : Int) = u.mx)) (v := (.bool (t.neg == u.neg))) rfl (by rw [g4]; rfl)) ?_
          refine qM (.bool (t.neg == u.neg)) rfl ?_
          rcases Bool.eq_false_or_eq_true (t.neg == u.neg) with g5 | g5
          · have kg5 := g5
            refine zAF (oj := _) rfl rfl (by decide) (congrArg Value.bool g5) ?_
            refine qF b1 0 2 rfl Tryz.underlying25 rfl zBI rfl ?_
            refine zAF (oj := _) rfl rfl (by decide) (congrArg Value.bool g5) ?_
            refine qV (zAK (v := (.slice aa t.args.length ac)) rfl zAv (B1.cell rfl)) ?_
            refine zAF (oj := _) rfl rfl (by decide) (congrArg Value.bool g5) ?_
            refine qF b2 0 2 rfl Tryz.underlying25 rfl zBI rfl ?_
            refine zAF (oj := _) rfl rfl (by decide) (congrArg Value.bool g5) ?_
            refine qV (zAK (v := (.slice aa2 u.args.length ac2)) rfl zAv (B2.cell rfl)) ?_
            refine zAF (oj := _) rfl rfl (by decide) (congrArg Value.bool g5) ?_
            refine zAL rfl rfl (by decide) (zAT (vs := [(.slice aa t.args.length ac), (.slice aa2 u.args.length ac2), (.func (.func 25) #[] #[])]) Tryz.func81 nm81 bd81 rfl) (eqf_c _ _ _ _ t.args u.args ((zBC.rs ht0).ext E) ((zBC.rs hu0).ext E) (fun w x y vs us hE hx h1 h2 => zBu.mk (first := #[]) (cap := #[]) Tryz.func25 nm25 bd25 rfl (ih x y w vs us (by obtain ⟨i, hi⟩ := List.mem_iff_getElem?.1 hx; have := Re.size_arg hi; omega) h1 h2))) ?_
            rintro _ w19 ⟨rfl, X19⟩
            replace B1 := X19.keep B1
            replace B2 := X19.keep B2
            replace E := E.ext X19
            refine qV (zAd (b := t.neg == u.neg) (v := (.bool (zDe t.args u.args))) rfl (by rw [g5]; rfl)) ?_
            refine qA (.bool (zDe t.args u.args)) rfl ?_
            refine zAB (zAQ ?_)
            refine zAS Tryz.results25 (v := (.bool (zDe t.args u.args))) rfl ?_
            exact ⟨zAt (by rw [hF, g1, g2, g3, g4]; simp at g5; simp [g5]), E⟩
          · have kg5 := g5
            refine zAD (oj := _) rfl rfl (by decide) (v := .bool false) (congrArg Value.bool g5) (Or.inl rfl) ?_
            refine zAD (oj := _) rfl rfl (by decide) (v := .bool false) (congrArg Value.bool g5) (Or.inl rfl) ?_
            refine zAD (oj := _) rfl rfl (by decide) (v := .bool false) (congrArg Value.bool g5) (Or.inl rfl) ?_
            refine zAD (oj := _) rfl rfl (by decide) (v := .bool false) (congrArg Value.bool g5) (Or.inl rfl) ?_
            refine zAD (oj := _) rfl rfl (by decide) (v := .bool false) (congrArg Value.bool g5) (Or.inl rfl) ?_
            refine qV (zAd (b := t.neg == u.neg) (v := (.bool false)) rfl (by rw [g5]; rfl)) ?_
            refine qA (.bool false) rfl ?_
            refine zAB (zAQ ?_)
            refine zAS Tryz.results25 (v := (.bool false)) rfl ?_
            exact ⟨zAt (by rw [hF]; simp at g5; simp [g5]), E⟩
        · have kg4 := g4
          replace kg4 := of_decide_eq_false kg4
          refine zAD (oj := _) rfl rfl (by decide) (v := .bool false) (congrArg Value.bool g4) (Or.inl rfl) ?_
          refine zAD (oj := _) rfl rfl (by decide) (v := .bool false) (congrArg Value.bool g4) (Or.inl rfl) ?_
          refine zAD (oj := _) rfl rfl (by decide) (v := .bool false) (congrArg Value.bool g4) (Or.inl rfl) ?_
          refine zAD (oj := _) rfl rfl (by decide) (v := .bool false) (congrArg Value.bool g4) (Or.inl rfl) ?_
          refine zAD (oj := _) rfl rfl (by decide) (v := .bool false) (congrArg Value.bool g4) (Or.inl rfl) ?_
          refine qV (zAd (b := decide ((t.mx : Int) = u.mx)) (v := (.bool false)) rfl (by rw [g4]; rfl)) ?_
          refine qM (.bool false) rfl ?_
          refine zAD (oj := _) rfl rfl (by decide) (v := .bool false) rfl (Or.inl rfl) ?_
          refine zAD (oj := _) rfl rfl (by decide) (v := .bool false) rfl (Or.inl rfl) ?_
          refine zAD (oj := _) rfl rfl (by decide) (v := .bool false) rfl (Or.inl rfl) ?_
          refine zAD (oj := _) rfl rfl (by decide) (v := .bool false) rfl (Or.inl rfl) ?_
          refine zAD (oj := _) rfl rfl (by decide) (v := .bool false) rfl (Or.inl rfl) ?_
          refine qV (zAd (b := false) (v := (.bool false)) rfl rfl) ?_
          refine qA (.bool false) rfl ?_
          refine zAB (zAQ ?_)
          refine zAS Tryz.results25 (v := (.bool false)) rfl ?_
          exact ⟨zAt (by rw [hF]; simp at g4; simp [g4]), E⟩
      · have kg3 := g3
        replace kg3 := of_decide_eq_false kg3
        refine zAD (oj := _) rfl rfl (by decide) (v := .bool false) (congrArg Value.bool g3) (Or.inl rfl) ?_
        refine zAD (oj := _) rfl rfl (by decide) (v := .bool false) (congrArg Value.bool g3) (Or.inl rfl) ?_
        refine zAD (oj := _) rfl rfl (by decide) (v := .bool false) (congrArg Value.bool g3) (Or.inl rfl) ?_
        refine zAD (oj := _) rfl rfl (by decide) (v := .bool false) (congrArg Value.bool g3) (Or.inl rfl) ?_
        refine zAD (oj := _) rfl rfl (by decide) (v := .bool false) (congrArg Value.bool g3) (Or.inl rfl) ?_
        refine qV (zAd (b := decide ((t.mn : Int) = u.mn)) (v := (.bool false)) rfl (by rw [g3]; rfl)) ?_
        refine qM (.bool false) rfl ?_
        refine zAD (oj := _) rfl rfl (by decide) (v := .bool false) rfl (Or.inl rfl) ?_
        refine zAD (oj := _) rfl rfl (by decide) (v := .bool false) rfl (Or.inl rfl) ?_
        refine zAD (oj := _) rfl rfl (by decide) (v := .bool false) rfl (Or.inl rfl) ?_
        refine zAD (oj := _) rfl rfl (by decide) (v := .bool false) rfl (Or.inl rfl) ?_
        refine zAD (oj := _) rfl rfl (by decide) (v := .bool false) rfl (Or.inl rfl) ?_
        refine qV (zAd (b := false) (v := (.bool false)) rfl rfl) ?_
        refine qM (.bool false) rfl ?_
        refine zAD (oj := _) rfl rfl (by decide) (v := .bool false) rfl (Or.inl rfl) ?_
        refine zAD (oj := _) rfl rfl (by decide) (v := .bool false) rfl (Or.inl rfl) ?_
        refine zAD (oj := _) rfl rfl (by decide) (v := .bool false) rfl (Or.inl rfl) ?_
        refine zAD (oj := _) rfl rfl (by decide) (v := .bool false) rfl (Or.inl rfl) ?_
        refine zAD (oj := _) rfl rfl (by decide) (v := .bool false) rfl (Or.inl rfl) ?_
        refine qV (zAd (b := false) (v := (.bool false)) rfl rfl) ?_
        refine qA (.bool false) rfl ?_
        refine zAB (zAQ ?_)
        refine zAS Tryz.results25 (v := (.bool false)) rfl ?_
        exact ⟨zAt (by rw [hF]; simp at g3; simp [g3]), E⟩
    · have kg2 := g2
      replace kg2 := of_decide_eq_false kg2
      refine zAD (oj := _) rfl rfl (by decide) (v := .bool false) (congrArg Value.bool g2) (Or.inl rfl) ?_
      refine zAD (oj := _) rfl rfl (by decide) (v := .bool false) (congrArg Value.bool g2) (Or.inl rfl) ?_
      refine zAD (oj := _) rfl rfl (by decide) (v := .bool false) (congrArg Value.bool g2) (Or.inl rfl) ?_
      refine zAD (oj := _) rfl rfl (by decide) (v := .bool false) (congrArg Value.bool g2) (Or.inl rfl) ?_
      refine zAD (oj := _) rfl rfl (by decide) (v := .bool false) (congrArg Value.bool g2) (Or.inl rfl) ?_
      refine qV (zAd (b := decide (t.set = u.set)) (v := (.bool false)) rfl (by rw [g2]; rfl)) ?_
      refine qM (.bool false) rfl ?_
      refine zAD (oj := _) rfl rfl (by decide) (v := .bool false) rfl (Or.inl rfl) ?_
      refine zAD (oj := _) rfl rfl (by decide) (v := .bool false) rfl (Or.inl rfl) ?_
      refine zAD (oj := _) rfl rfl (by decide) (v := .bool false) rfl (Or.inl rfl) ?_
      refine zAD (oj := _) rfl rfl (by decide) (v := .bool false) rfl (Or.inl rfl) ?_
      refine zAD (oj := _) rfl rfl (by decide) (v := .bool false) rfl (Or.inl rfl) ?_
      refine qV (zAd (b := false) (v := (.bool false)) rfl rfl) ?_
      refine qM (.bool false) rfl ?_
      refine zAD (oj := _) rfl rfl (by decide) (v := .bool false) rfl (Or.inl rfl) ?_
      refine zAD (oj := _) rfl rfl (by decide) (v := .bool false) rfl (Or.inl rfl) ?_
      refine zAD (oj := _) rfl rfl (by decide) (v := .bool false) rfl (Or.inl rfl) ?_
      refine zAD (oj := _) rfl rfl (by decide) (v := .bool false) rfl (Or.inl rfl) ?_
      refine zAD (oj := _) rfl rfl (by decide) (v := .bool false) rfl (Or.inl rfl) ?_
      refine qV (zAd (b := false) (v := (.bool false)) rfl rfl) ?_
      refine qM (.bool false) rfl ?_
      refine zAD (oj := _) rfl rfl (by decide) (v := .bool false) rfl (Or.inl rfl) ?_
      refine zAD (oj := _) rfl rfl (by decide) (v := .bool false) rfl (Or.inl rfl) ?_
      refine zAD (oj := _) rfl rfl (by decide) (v := .bool false) rfl (Or.inl rfl) ?_
      refine zAD (oj := _) rfl rfl (by decide) (v := .bool false) rfl (Or.inl rfl) ?_
      refine zAD (oj := _) rfl rfl (by decide) (v := .bool false) rfl (Or.inl rfl) ?_
      refine qV (zAd (b := false) (v := (.bool false)) rfl rfl) ?_
      refine qA (.bool false) rfl ?_
      refine zAB (zAQ ?_)
      refine zAS Tryz.results25 (v := (.bool false)) rfl ?_
      exact ⟨zAt (by rw [hF]; simp at g2; simp [g2]), E⟩
  · have kg1 := g1
    replace kg1 := of_decide_eq_false kg1
    refine zAD (oj := _) rfl rfl (by decide) (v := .bool false) (congrArg Value.bool g1) (Or.inl rfl) ?_
    refine zAD (oj := _) rfl rfl (by decide) (v := .bool false) (congrArg Value.bool g1) (Or.inl rfl) ?_
    refine zAD (oj := _) rfl rfl (by decide) (v := .bool false) (congrArg Value.bool g1) (Or.inl rfl) ?_
    refine zAD (oj := _) rfl rfl (by decide) (v := .bool false) (congrArg Value.bool g1) (Or.inl rfl) ?_
    refine zAD (oj := _) rfl rfl (by decide) (v := .bool false) (congrArg Value.bool g1) (Or.inl rfl) ?_
    refine qV (zAd (b := decide ((t.kind : Int) = u.kind)) (v := (.bool false)) rfl (by rw [g1]; rfl)) ?_
    refine qM (.bool false) rfl ?_
    refine zAD (oj := _) rfl rfl (by decide) (v := .bool false) rfl (Or.inl rfl) ?_
    refine zAD (oj := _) rfl rfl (by decide) (v := .bool false) rfl (Or.inl rfl) ?_
    refine zAD (oj := _) rfl rfl (by decide) (v := .bool false) rfl (Or.inl rfl) ?_
    refine zAD (oj := _) rfl rfl (by decide) (v := .bool false) rfl (Or.inl rfl) ?_
    refine zAD (oj := _) rfl rfl (by decide) (v := .bool false) rfl (Or.inl rfl) ?_
    refine qV (zAd (b := false) (v := (.bool false)) rfl rfl) ?_
    refine qM (.bool false) rfl ?_
    refine zAD (oj := _) rfl rfl (by decide) (v := .bool false) rfl (Or.inl rfl) ?_
    refine zAD (oj := _) rfl rfl (by decide) (v := .bool false) rfl (Or.inl rfl) ?_
    refine zAD (oj := _) rfl rfl (by decide) (v := .bool false) rfl (Or.inl rfl) ?_
    refine zAD (oj := _) rfl rfl (by decide) (v := .bool false) rfl (Or.inl rfl) ?_
    refine zAD (oj := _) rfl rfl (by decide) (v := .bool false) rfl (Or.inl rfl) ?_
    refine qV (zAd (b := false) (v := (.bool false)) rfl rfl) ?_
    refine qM (.bool false) rfl ?_
    refine zAD (oj := _) rfl rfl (by decide) (v := .bool false) rfl (Or.inl rfl) ?_
    refine zAD (oj := _) rfl rfl (by decide) (v := .bool false) rfl (Or.inl rfl) ?_
    refine zAD (oj := _) rfl rfl (by decide) (v := .bool false) rfl (Or.inl rfl) ?_
    refine zAD (oj := _) rfl rfl (by decide) (v := .bool false) rfl (Or.inl rfl) ?_
    refine zAD (oj := _) rfl rfl (by decide) (v := .bool false) rfl (Or.inl rfl) ?_
    refine qV (zAd (b := false) (v := (.bool false)) rfl rfl) ?_
    refine qM (.bool false) rfl ?_
    refine zAD (oj := _) rfl rfl (by decide) (v := .bool false) rfl (Or.inl rfl) ?_
    refine zAD (oj := _) rfl rfl (by decide) (v := .bool false) rfl (Or.inl rfl) ?_
    refine zAD (oj := _) rfl rfl (by decide) (v := .bool false) rfl (Or.inl rfl) ?_
    refine zAD (oj := _) rfl rfl (by decide) (v := .bool false) rfl (Or.inl rfl) ?_
    refine zAD (oj := _) rfl rfl (by decide) (v := .bool false) rfl (Or.inl rfl) ?_
    refine qV (zAd (b := false) (v := (.bool false)) rfl rfl) ?_
    refine qA (.bool false) rfl ?_
    refine zAB (zAQ ?_)
    refine zAS Tryz.results25 (v := (.bool false)) rfl ?_
    exact ⟨zAt (by rw [hF]; simp at g1; simp [g1]), E⟩
theorem zGO (w0 : World) (v fv : Value) (l : List Re) (p : Re → Bool) (hs : zIH w0 v l) (hf : ∀ (w : World) (x : Re) (vs : List Value), Ext w0 w → x ∈ l → zBC w x vs → zBu Tryz.prog fv #[.agg vs.toArray] w fun r w' => r = .bool (p x) ∧ Ext w w') :
  Ret Tryz.prog 82 #[v, fv] w0 fun r w => r = .int .i64 (idx p l) ∧ Ext w0 w := by
 have g1 := hs
 obtain ⟨a, c, rfl, hb1, _⟩ := hs
 refine zAk Tryz.func82 rfl Tryz.ntmps82 (Nat.le_of_ble_eq_true rfl) ?_
 have E : Chg zAh w0 w0 := Chg.refl _ _
 refine zAA ?_
 refine qA (I6 0) rfl ?_
 refine zAB (zAP (zAA ?_))
 refine qM (.slice a l.length c) rfl ?_
 refine qV (zAV (ad := a) (n := l.length) (cap := c) Tryz.underlying23 rfl) ?_
 refine qM (I6 0) rfl ?_
 refine zAB (zAZ ?_)
 refine zBA (fun nn_ σ W1 => ∃ (k : Nat), (∃ jj_, σ = zCl jj_ [(0, (.slice a l.length c)), (1, fv), (7, (I6 (l.length : Int))), (8, (I6 (k : Int)))]) ∧ Chg zAh w0 W1 ∧ (k ≤ l.length) ∧ (∀ (i : Nat) (y : Re), i < k → l[i]? = some y → p y = false) ∧ nn_ = l.length - k) (n := l.length - 0) ?_ ?_
 ·exact ⟨0, zBG.out ⟨rfl, rfl, rfl, rfl, trivial⟩, E, Nat.zero_le _, (fun i y h => absurd h (Nat.not_lt_zero _)), rfl⟩
 clear E
 rintro _ _ W1 ⟨k, ⟨j1, rfl⟩, E, hk, hno, rfl⟩
 refine zAA ?_
 refine qV (zBS (k := .i64) (a := (k : Int)) (b := (l.length : Int)) rfl rfl) ?_
 refine zAB (zAP ?_)
 refine zAM (b := decide (((k : Int) : Int) < (l.length : Int))) rfl (fun hlt => ?_) (fun hlt => ?_)
 ·have khlt := hlt
  replace hlt := of_decide_eq_true hlt
  obtain ⟨x, hx⟩ := zAa (l := l) (i := k) (by omega)
  obtain ⟨b, o, rfl, hc1⟩ := g1.cells (by omega)
  obtain ⟨vs, hcv, hpv⟩ := hc1 k x hx
  have hpv0 := hpv
  obtain ⟨sa, sc, aa, ac, rfl, _, _, _⟩ := hpv.form
  refine zAR (zAC (zAP (zAZ (zAA ?_))))
  refine qM (I6 (k : Int)) rfl ?_
  refine qA (I6 (k : Int)) rfl ?_
  refine zAB (zAA ?_)
  refine qM fv rfl ?_
  refine qM (.slice (some ⟨b, o, none⟩) l.length c) rfl ?_
  refine qM (I6 (k : Int)) rfl ?_
  refine qV (zAO (b := b) (o := o) (len := l.length) (cap := c) (i := k) (o' := o + k * 6) rfl rfl rfl Tryz.underlying23 zAH (by omega) (by omega)) ?_
  refine qV (zAG (vs := [(I6 x.kind), (.slice sa x.set.length sc), (.slice aa x.args.length ac), (I6 x.mn), (I6 x.mx), (.bool x.neg)]) rfl zAb zAH rfl (hcv.ext E)) ?_
  refine zCj (fv := fv) (vs := [(.agg (R6 x sa sc aa ac))]) (by decide) rfl rfl (hf _ x _ E (List.mem_of_getElem? hx) (zBC.ext E x hpv0)) ?_
  rintro _ w9 ⟨rfl, X9⟩
  replace E := E.ext X9
  refine zAB ?_
  refine zAM (b := p x) rfl (fun hp => ?_) (fun hp => ?_)
  ·have khp := hp
   refine zAA ?_
   refine qM (I6 (k : Int)) rfl ?_
   refine qA (I6 (k : Int)) rfl ?_
   refine zAB (zAQ (zAY (zAI (zAI (zAY (zAI ?_))))))
   refine zAS Tryz.results82 (v := (.int .i64 ((k : Nat) : Int))) rfl ?_
   exact ⟨zBF (zHr hx hp hno).symm, E⟩
  have khp := hp
  refine zAR (zAU (zAC (zAW ?_)))
  refine qV (zBQ (k := .i64) (a := (k : Int)) (b := 1) (c := (k : Int) + 1) rfl rfl (zBs (by omega))) ?_
  refine qM (I6 ((k : Int) + 1)) rfl ?_
  refine zAB (zAC ?_)
  exact ⟨l.length - (k + 1), by omega, k + 1, zBG.out ⟨rfl, rfl, rfl, rfl, trivial⟩, E, (by omega), zEe hx hp hno, rfl⟩
 have khlt := hlt
 replace hlt := of_decide_eq_false hlt
 have hkk : k = l.length := by omega
 refine zBB (zAe (zAe (zAr (zAC (zAA ?_)))))
 refine qA (I6 (-1)) rfl ?_
 refine zAB (zAQ ?_)
 refine zAS Tryz.results82 (v := (.int .i64 (-1))) rfl ?_
 exact ⟨zBF (zGB fun i y hy => hno i y (by have := zAo hy; omega) hy).symm, E⟩
theorem zMH (w0 : World) (v fv : Value) (l : List Re) (p : Re → Bool) (hs : zIH w0 v l) (hf : ∀ (w : World) (x : Re) (vs : List Value), Ext w0 w → x ∈ l → zBC w x vs → zBu Tryz.prog fv #[.agg vs.toArray] w fun r w' => r = .bool (p x) ∧ Ext w w') :
  Ret Tryz.prog 26 #[v, fv] w0 fun r w => r = .bool (l.any p) ∧ Ext w0 w := by
 refine zAk Tryz.func26 rfl Tryz.ntmps26 (Nat.le_of_ble_eq_true rfl) ?_
 have E : Chg zAh w0 w0 := Chg.refl _ _
 refine zAA ?_
 refine qA (.bool false) rfl ?_
 refine zAB (zAA ?_)
 refine qM v rfl ?_
 refine qM fv rfl ?_
 refine zAL rfl rfl (by decide) (zAT (vs := [v, fv]) Tryz.func82 nm82 bd82 rfl) (zGO _ v fv l p hs hf) ?_
 rintro _ w9 ⟨rfl, X9⟩
 replace E := E.ext X9
 refine qV (zFE (k := .i64) (a := idx p l) (b := 0) rfl rfl) ?_
 refine qA (.bool (decide ((0 : Int) ≤ idx p l))) rfl ?_
 refine zAB (zAQ ?_)
 refine zAS Tryz.results26 (v := (.bool (decide ((0 : Int) ≤ idx p l)))) rfl ?_
 exact ⟨zAt (zGa p l), E⟩
end Go.Proofs
namespace Go.Proofs
open Go Go.Eng
set_option maxRecDepth 100000
set_option maxHeartbeats 400000 in
theorem zQl (w0 : World) (v : Value) (l : List (Int × Int)) (h : zBZ w0 v l) (hl : l.length ≤ 2000000) :
  Ret Tryz.prog 114 #[v] w0 fun r w => ∃ a c, r = .slice a l.length c ∧ zDE (fun b => w0.heap.size ≤ b ∧ b < w.heap.size) w 2 r (l.map zDA) ∧ Ext w0 w := by
 obtain ⟨a, c, rfl⟩ := zCA.form h
 simp only [List.length_map] at h ⊢
 obtain ⟨base, hbase⟩ : ∃ base, base = w0.heap.size := ⟨_, rfl⟩
 refine zAk Tryz.func114 rfl Tryz.ntmps114 (Nat.le_of_ble_eq_true rfl) ?_
 have E : Chg zAh w0 w0 := Chg.refl _ _
 refine zAA ?_
 refine qA (.slice none 0 0) rfl ?_
 refine zAB (zAP (zAA ?_))
 refine qM (.slice a l.length c) rfl ?_
 refine zCi (v := (.bool a.isNone)) rfl rfl (by decide) (zKE Tryz.underlying22 rfl rfl) ?_
 refine zAB ?_
 refine zAM (b := a.isNone) rfl (fun hn => ?_) (fun hn => ?_)
 ·have khn := hn
  have hl0 : l.length = 0 := by rcases Nat.eq_zero_or_pos l.length with h0 | h0; exact h0; obtain ⟨b, o, rfl, _⟩ := zBc h h0; simp at hn
  have hl1 : l = [] := List.eq_nil_of_length_eq_zero hl0
  refine zAA ?_
  refine qA (.slice none 0 0) rfl ?_
  refine zAB (zAQ (zAI ?_))
  refine zAS Tryz.results114 (v := (.slice none 0 0)) rfl ?_
  exact ⟨none, 0, by rw [hl0], by subst hl1; exact zDE.nil _ _ _ _ _, E⟩
 have khn := hn
 rcases Bool.eq_false_or_eq_true (decide (l.length = 0)) with hz | hz
 ·have khz := hz
  replace khz := of_decide_eq_true khz
  refine zAR (zAC (zAA ?_))
  refine zHf (by decide) Tryz.underlying22 zBX ?_
  intro bq wq Nq
  have Fq := Nq.ge E
  replace E := E.ext Nq.ext
  have Bq := Nq.blk
  refine qM (.slice a l.length c) rfl ?_
  refine qV (zIf Tryz.underlying22 zBX (a' := a) (c' := c) rfl (Nat.le_refl _) (by show Value.slice a l.length c = _; rw [khz])) ?_
  refine qA (.slice (some ⟨bq, 0, none⟩) 0 0) rfl ?_
  refine zAB (zAQ ?_)
  refine zAS Tryz.results114 (v := (.slice (some ⟨bq, 0, none⟩) 0 0)) rfl ?_
  have hl1 : l = [] := List.eq_nil_of_length_eq_zero khz
  exact ⟨some ⟨bq, 0, none⟩, 0, by rw [khz], by subst hl1; exact zDE.nil _ _ _ _ _, E⟩
 have khz := hz
 replace khz := of_decide_eq_false khz
 obtain ⟨b, o, rfl, hcl⟩ := zBc h (by omega)
 refine zAR (zAC (zAA ?_))
 refine zHf (by decide) Tryz.underlying22 zBX ?_
 intro bq wq Nq
 have Fq := Nq.ge E
 replace E := E.ext Nq.ext
 have Bq := Nq.blk
 refine qM (.slice (some ⟨b, o, none⟩) l.length c) rfl ?_
 have hown := zIi (base := base) (size := 2) Bq (by omega)
 have hbs : base ≤ wq.heap.size := by have := Nq.ext.size; omega
 refine zBh (base := base) (n := 0) (m := l.length) (xs := []) (news := (l.map zDA).flatten) (size := 2) (bytes := 16) (v := (.slice (some ⟨bq, 0, none⟩) 0 0)) (by decide) Tryz.underlying22 zBX byt103 zEz rfl (by decide) rfl hown rfl (zLt l) ((zKw hcl).ext Nq.ext) (zLu l) (by unfold maxLen; omega) (by omega) (hbs) ?_
 intro v9 w29 Ov9 Cv9 Dv9
 replace E := E.step Cv9 (fun x hx h => absurd (hown.lt x h).1 (by omega))
 obtain ⟨la, lc, rfl⟩ := zBY Ov9
 refine qA (.slice la (0 + l.length) lc) rfl ?_
 refine zAB (zAQ ?_)
 refine zAS Tryz.results114 (v := (.slice la (0 + l.length) lc)) rfl ?_
 simp only [Nat.zero_add, List.nil_append] at Ov9
 have hsl := zFz Ov9 (by intro r hr; simp only [List.mem_map] at hr; obtain ⟨p, _, rfl⟩ := hr; rfl) (by simp) (by decide)
 obtain ⟨gq, rfl, hgq, _⟩ := zMY Ov9 (by omega)
 simp only [Nat.zero_add]
 exact ⟨some ⟨gq, 0, none⟩, lc, rfl, zDE.mk hsl ⟨by omega, (Ov9.lt gq rfl).2⟩, E⟩
mutual
def zFC : Re → Prop
  | .mk _ set args _ _ _ => set.length ≤ 2000000 ∧ zFY args
def zFY : List Re → Prop
  | [] => True
  | t :: ts => zFC t ∧ zFY ts
end
theorem zLA {t : Re} (h : zFC t) : t.set.length ≤ 2000000 := by cases t; simp only [zFC] at h; exact h.1
theorem zLB {t : Re} (h : zFC t) {i : Nat} {x : Re} (hx : t.args[i]? = some x) : zFC x := by
  cases t with
  | mk k set args mn mx ng =>
  simp only [zFC] at h
  replace h := h.2
  simp only [Re.args] at hx
  induction args generalizing i with
  | nil => simp at hx
  | cons u us ih =>
    simp only [zFY] at h
    cases i with
    | zero => simp at hx; subst hx; exact h.1
    | succ i => simp at hx; exact ih hx h.2
def zFh (n0 : Nat) (t : Re) : Fct := fun v w => ∃ vs Z L, v = .agg vs.toArray ∧ zEI Z w t vs L ∧ (∀ x, Z x → ¬ L x) ∧ (∀ x, Z x ∨ L x → n0 ≤ x ∧ x < w.heap.size)
theorem zEQ (n0 : Nat) (t : Re) : ∀ v w w', Chg zAh w w' → zFh n0 t v w → zFh n0 t v w' := by
 rintro v w w' e ⟨vs, Z, L, h1, h2, h3, h4⟩
 exact ⟨vs, Z, L, h1, zEI.ext e t h2, h3, fun x hx => ⟨(h4 x hx).1, Nat.lt_of_lt_of_le (h4 x hx).2 e.size⟩⟩
def zLV (n0 : Nat) (t : Re) : Fct := fun v w => ∃ b vs Z L, v = .slice (some ⟨b, 0, none⟩) 1 1 ∧ Blk w b vs.toArray TRe ∧ zEI Z w t vs L ∧ (∀ x, Z x → ¬ L x) ∧ (∀ x, Z x ∨ L x → n0 ≤ x ∧ x < w.heap.size)
theorem zGi (n0 : Nat) (t : Re) : ∀ v w w', Chg zAh w w' → zLV n0 t v w → zLV n0 t v w' := by
 rintro v w w' e ⟨b, vs, Z, L, h0, h1, h2, h3, h4⟩
 exact ⟨b, vs, Z, L, h0, Ext.keep e h1, zEI.ext e t h2, h3, fun x hx => ⟨(h4 x hx).1, Nat.lt_of_lt_of_le (h4 x hx).2 e.size⟩⟩
theorem zNe {N n0 : Nat} {σ : Env} {w : World} {dst : Option Tmp} {ty : TypeId} {pos : String} {af : Array Edge} {g : Option (Nat × Bool)} {x : Operand} {t : Re} {vs : List Value} {Z L : Nat → Prop} (hx : ev σ x = .agg vs.toArray) (h2 : zEI Z w t vs L) (h3 : ∀ x, Z x → ¬ L x) (h4 : ∀ x, Z x ∨ L x → n0 ≤ x ∧ x < w.heap.size) :
  zJq zAh Tryz.prog N ⟨dst, .buildSlice 23 1 #[(0, x)], ty, pos, af, g⟩ (zLV n0 t) σ w := by
 have h2' := h2
 obtain ⟨sa, sc, aa, ac, rfl, _⟩ := h2.form
 have hn := New.mk' w #[.int .i64 t.kind, .slice sa t.set.length sc, .slice aa t.args.length ac, .int .i64 t.mn, .int .i64 t.mx, .bool t.neg] TRe
 refine zCN (zCG (parts := [(0, x)]) (ps := [(0, .agg #[.int .i64 t.kind, .slice sa t.set.length sc, .slice aa t.args.length ac, .int .i64 t.mn, .int .i64 t.mx, .bool t.neg])]) (by simp only [List.map, hx]) Tryz.underlying23 zAH zAs (by decide) (by decide) (by kernel_rfl)) hn.ext ?_
 exact ⟨_, _, Z, L, rfl, hn.blk, zEI.ext hn.ext t h2', h3, fun x hx => ⟨(h4 x hx).1, Nat.lt_of_lt_of_le (h4 x hx).2 hn.ext.size⟩⟩
theorem zNL {w1 w2 w3 : World} {base n1 b3 : Nat} {v v' : Value} {x : Re} {vs : List Value} {ts : List Re} {rows : List (List Value)} {Z L Z1 L1 : Nat → Prop}
  (hTs : zBa Z w1 ts rows L) (hT : zEI Z1 w1 x vs L1) (hd1 : ∀ y, Z y → ¬ L y) (hd2 : ∀ y, Z y ∨ L y → base ≤ y ∧ y < n1) (hd3 : ∀ q, v.ownBlock = some q → (¬ Z q ∧ ¬ L q) ∧ (base ≤ q ∧ q < n1)) (he1 : ∀ y, Z1 y → ¬ L1 y) (he2 : ∀ y, Z1 y ∨ L1 y → n1 ≤ y ∧ y < w1.heap.size)
  (C : Chg (fun y => v.ownBlock = some y) w1 w2) (hD : ∀ q, v'.ownBlock = some q → v.ownBlock = some q ∨ w1.heap.size ≤ q) (C3 : Chg (fun y => y = b3) w2 w3) (hb3 : b3 < base) (hbn : base ≤ n1) (hnw : n1 ≤ w1.heap.size) :
  zBa (fun y => Z y ∨ Z1 y) w3 (ts ++ [x]) (rows ++ [vs]) (fun y => L y ∨ L1 y) ∧ (∀ y, (Z y ∨ Z1 y) → ¬ (L y ∨ L1 y)) ∧ (∀ y, (Z y ∨ Z1 y) ∨ (L y ∨ L1 y) → base ≤ y ∧ y < w3.heap.size) ∧ (∀ q, v'.ownBlock = some q → ¬ (Z q ∨ Z1 q) ∧ ¬ (L q ∨ L1 q)) := by
 have hs2 := C.size
 have hs3 := C3.size
 have kz : ∀ y, Z y → ¬ v.ownBlock = some y := fun y hy h => (hd3 y h).1.1 hy
 have kl : ∀ y, L y → ¬ v.ownBlock = some y := fun y hy h => (hd3 y h).1.2 hy
 have kz1 : ∀ y, Z1 y → ¬ v.ownBlock = some y := fun y hy h => by have := (hd3 y h).2; have := he2 y (.inl hy); omega
 have kl1 : ∀ y, L1 y → ¬ v.ownBlock = some y := fun y hy h => by have := (hd3 y h).2; have := he2 y (.inr hy); omega
 have mz : ∀ y, Z y → ¬ y = b3 := fun y hy h => by have := hd2 y (.inl hy); omega
 have ml : ∀ y, L y → ¬ y = b3 := fun y hy h => by have := hd2 y (.inr hy); omega
 have mz1 : ∀ y, Z1 y → ¬ y = b3 := fun y hy h => by have := he2 y (.inl hy); omega
 have ml1 : ∀ y, L1 y → ¬ y = b3 := fun y hy h => by have := he2 y (.inr hy); omega
 have h1 := zBa.chg C3 mz ts ml (zBa.chg C kz ts kl hTs)
 have h2 := zEI.chg C3 mz1 x ml1 (zEI.chg C kz1 x kl1 hT)
 refine ⟨zBa.snoc (zEI.mono (fun _ h => .inr h) x (fun _ h => h) h2) (zBa.mono (fun _ h => .inl h) ts (fun _ h => h) h1) (fun y a b => by have := hd2 y (.inr a); have := he2 y (.inr b); omega), ?_, ?_, ?_⟩
 ·rintro y (a | a) (b | b)
  ·exact hd1 y a b
  ·have := hd2 y (.inl a); have := he2 y (.inr b); omega
  ·have := hd2 y (.inr b); have := he2 y (.inl a); omega
  exact he1 y a b
 ·rintro y ((a | a) | (a | a))
  ·have := hd2 y (.inl a); omega
  ·have := he2 y (.inl a); omega
  ·have := hd2 y (.inr a); omega
  have := he2 y (.inr a); omega
 intro q hq
 rcases hD q hq with h | h
 ·refine ⟨?_, ?_⟩
  ·rintro (a | a); exact kz q a h; exact kz1 q a h
  rintro (a | a); exact kl q a h; exact kl1 q a h
 refine ⟨?_, ?_⟩
 ·rintro (a | a); have := hd2 q (.inl a); omega; have := he2 q (.inl a); omega
 rintro (a | a); have := hd2 q (.inr a); omega; have := he2 q (.inr a); omega
theorem zNM {w : World} {base n0 sc lc : Nat} {t : Re} {sa la : Option Addr} {rows : List (List Value)} {Z L Z0 : Nat → Prop} (hown : w.ownsRow base TRe 6 (.slice la t.args.length lc) t.args.length rows.flatten) (hTs : zBa Z w t.args rows L)
    (hset : zDE Z0 w 2 (.slice sa t.set.length sc) (t.set.map zDA)) (hd1 : ∀ x, Z x → ¬ L x) (hd2 : ∀ x, Z x ∨ L x → base ≤ x ∧ x < w.heap.size) (hd3 : ∀ q, (Value.slice la t.args.length lc).ownBlock = some q → ¬ Z q ∧ ¬ L q) (hz0 : ∀ x, Z0 x → n0 ≤ x ∧ x < base) (hn0 : n0 ≤ base) (hbs : base ≤ w.heap.size) :
    zFh n0 t (.agg #[.int .i64 t.kind, .slice sa t.set.length sc, .slice la t.args.length lc, .int .i64 t.mn, .int .i64 t.mx, .bool t.neg]) w := by
  refine ⟨[.int .i64 t.kind, .slice sa t.set.length sc, .slice la t.args.length lc, .int .i64 t.mn, .int .i64 t.mx, .bool t.neg], fun x => Z x ∨ Z0 x, fun x => L x ∨ (Value.slice la t.args.length lc).ownBlock = some x, rfl, ?_, ?_, ?_⟩
  · have hlt := hown.lt
    cases t with
    | mk k set args mn mx ng =>
    simp only [Re.kind, Re.set, Re.args, Re.mn, Re.mx, Re.neg] at *
    simp only [zEI]
    refine ⟨sa, sc, la, lc, rfl, hset.mono fun _ h => .inr h, ?_, ?_⟩
    · rcases hown.2 with ⟨h1, h2⟩ | ⟨q, cap, cur, h1, h2, h3, h4, h5, h6, h7⟩
      · simp at h1; omega
      · simp only [Value.slice.injEq] at h1
        obtain ⟨_, _, rfl⟩ := h1
        simp only [maxLen] at h5
        exact ⟨h4, by omega⟩
    · rcases hown.2 with ⟨h1, h2⟩ | ⟨q, cap, cur, h1, h2, h3, h4, h5, h6, h7⟩
      · exact .inl (List.eq_nil_of_length_eq_zero h2)
      · simp only [Value.slice.injEq] at h1
        obtain ⟨rfl, _, rfl⟩ := h1
        refine .inr ⟨q, rows, cur.toList.drop (args.length * 6), L, .inr rfl, rfl, ?_, zBa.six hTs, zBa.mono (fun _ h => .inl h) args (fun _ h => h) hTs, fun x hx => ⟨.inl hx, fun h => ?_⟩⟩
        · have : (rows.flatten ++ cur.toList.drop (args.length * 6)).toArray = cur := by rw [← h7, List.take_append_drop]
          rw [this]; exact h3
        · subst h; exact (hd3 x rfl).2 hx
  · rintro x (a | a) (b | b)
    · exact hd1 x a b
    · exact (hd3 x b).1 a
    · have := hz0 x a; have := hd2 x (.inr b); omega
    · have := hz0 x a; have := hown.lt x b; omega
  · rintro x ((a | a) | (a | a))
    · have := hd2 x (.inl a); omega
    · have := hz0 x a; omega
    · have := hd2 x (.inr a); omega
    · have := hown.lt x a; omega
theorem zKh {n0 n1 : Nat} (h : n1 ≤ n0) {t : Re} {v : Value} {w : World} (hc : zFh n0 t v w) : zFh n1 t v w := by
 obtain ⟨vs, Z, L, h1, h2, h3, h4⟩ := hc
 exact ⟨vs, Z, L, h1, h2, h3, fun x hx => ⟨Nat.le_trans h (h4 x hx).1, (h4 x hx).2⟩⟩
theorem zNN {n0 b : Nat} {t : Re} {v : Value} {w w' : World} (c : Chg (fun y => y = b) w w') (hb : b < n0) (hc : zFh n0 t v w) : zFh n0 t v w' := by
 obtain ⟨vs, Z, L, h1, h2, h3, h4⟩ := hc
 exact ⟨vs, Z, L, h1, zEI.chg c (fun x hx h => by have := h4 x (.inl hx); omega) t (fun x hx h => by have := h4 x (.inr hx); omega) h2, h3, fun x hx => ⟨(h4 x hx).1, Nat.lt_of_lt_of_le (h4 x hx).2 c.size⟩⟩
set_option maxHeartbeats 2000000 in
theorem zPQ : ∀ (n : Nat) (t : Re) (w0 : World) (vs : List Value), t.size ≤ n → t.size ≤ 1000000 → zFC t → zBC w0 t vs →
    Ret Tryz.prog 57 #[.agg vs.toArray] w0 fun v w => zFh w0.heap.size t v w ∧ Ext w0 w := by
  intro n
  induction n with
  | zero => intro t w0 vs hn; have := t.size_pos; omega
  | succ n ih =>
  intro t w0 vs hn hM hso ht
  have ht0 := ht
  obtain ⟨sa, sc, aa, ac, rfl, hts, hac, _⟩ := ht.form
  have hal : t.args.length ≤ t.size := by
    have h1 := t.size_eq
    have : ∀ ts : List Re, ts.length ≤ Re.sizes ts := by
      intro ts
      induction ts with
      | nil => simp
      | cons x xs ih => have := x.size_pos; simp only [List.length_cons, Re.sizes]; omega
    have := this t.args
    omega
  refine zAk Tryz.func57 rfl Tryz.ntmps57 (Nat.le_of_ble_eq_true rfl) ?_
  have E : Chg zAh w0 w0 := Chg.refl _ _
  refine zAA ?_
  refine zBL (v := (.agg (R6 t sa sc aa ac))) (c := (R6 t sa sc aa ac)) (by decide) rfl rfl ?_
  intro br wr Nr
  have Fr := Nr.ge E
  replace E := E.ext Nr.ext
  have Br := Nr.blk
  refine zBD (c := #[(I6 0), (.slice none 0 0), (.slice none 0 0), (I6 0), (I6 0), (.bool false)]) (by decide) zAs rfl ?_
  intro bp wp Np
  have Fp := Np.ge E
  have Op_br := Np.lt Br
  replace Br := Np.keep Br
  replace E := E.ext Np.ext
  have Bp := Np.blk
  refine zAB (zAA ?_)
  refine qV (zAG (vs := [(I6 t.kind), (.slice sa t.set.length sc), (.slice aa t.args.length ac), (I6 t.mn), (I6 t.mx), (.bool t.neg)]) rfl zAb zAH rfl (Br.cells rfl)) ?_
  refine zAi (v := (.agg (R6 t sa sc aa ac))) (c := (R6 t sa sc aa ac)) (n := 6) (by decide) zAs rfl zAH rfl rfl rfl (by simp [Value.oneCell']) ?_
  intro bq wq Nq
  have Fq := Nq.ge E
  have Oq_br := Nq.lt Br
  have Oq_bp := Nq.lt Bp
  replace Br := Nq.keep Br
  replace Bp := Nq.keep Bp
  replace E := E.ext Nq.ext
  have Bq := Nq.blk
  refine zAB (zAA ?_)
  refine qF br 0 1 rfl Tryz.underlying25 rfl zDb rfl ?_
  refine qV (zAK (v := (.slice sa t.set.length sc)) rfl zCc (Br.cell rfl)) ?_
  obtain ⟨n3, hn3⟩ : ∃ n3, n3 = wq.heap.size := ⟨_, rfl⟩
  have hq3 := Bq.lt
  refine zAL rfl rfl (by decide) (zAT (vs := [(.slice sa t.set.length sc)]) Tryz.func114 nm114 bd114 rfl) (zQl _ _ t.set (zCA.ext hts E) (zLA hso)) ?_
  rintro _ w9 ⟨sa3, sc3, rfl, hset, X9⟩
  replace Br := X9.keep Br
  replace Bp := X9.keep Bp
  replace Bq := X9.keep Bq
  replace E := E.ext X9
  obtain ⟨base, hbase⟩ : ∃ base, base = w9.heap.size := ⟨_, rfl⟩
  have hs9 := X9.size
  rw [← hbase, ← hn3] at hset
  have hbs : base ≤ w9.heap.size := by omega
  refine qF bq 0 1 rfl Tryz.underlying25 rfl zDb rfl ?_
  refine zDQ (b := bq) (o := 1) (c' := (R6 t sa3 sc3 aa ac)) (v := (.slice sa3 t.set.length sc3)) rfl rfl rfl zDb Bq (by simp) rfl ?_
  intro w1 S1
  replace hbs := Nat.le_trans hbs S1.chg.size
  replace hset := zDE.chg hset S1.chg (fun x hx hm => by have hx' := hx; have hm' : x = bq := hm; omega)
  replace Br := S1.keep (by omega) Br
  replace Bp := S1.keep (by omega) Bp
  replace E := S1.stp E
  replace Bq := S1.blk
  refine qF bq 0 2 rfl Tryz.underlying25 rfl zBI rfl ?_
  refine zDQ (b := bq) (o := 2) (c' := #[(I6 t.kind), (.slice sa3 t.set.length sc3), (.slice none 0 0), (I6 t.mn), (I6 t.mx), (.bool t.neg)]) (v := (.slice none 0 0)) rfl rfl rfl zBI Bq (by simp) rfl ?_
  intro w2 S2
  replace hbs := Nat.le_trans hbs S2.chg.size
  replace hset := zDE.chg hset S2.chg (fun x hx hm => by have hx' := hx; have hm' : x = bq := hm; omega)
  replace Br := S2.keep (by omega) Br
  replace Bp := S2.keep (by omega) Bp
  replace E := S2.stp E
  replace Bq := S2.blk
  refine zAB (zAP (zAA ?_))
  refine qF br 0 2 rfl Tryz.underlying25 rfl zBI rfl ?_
  refine qV (zAK (v := (.slice aa t.args.length ac)) rfl zAv (Br.cell rfl)) ?_
  refine qV (zAV (ad := aa) (n := t.args.length) (cap := ac) Tryz.underlying23 rfl) ?_
  refine qM (I6 0) rfl ?_
  refine zAB (zAZ ?_)
  refine zBA (fun nn_ σ W3 => ∃ (k : Nat) (la : Option Addr) (lc : Nat) (rows : List (List Value)) (Z : Nat → Prop) (L : Nat → Prop), (∃ jj_, σ = zCl jj_ [(2, (P6 bp 0)), (3, (P6 bq 0)), (13, (.slice aa t.args.length ac)), (14, (I6 (t.args.length : Int))), (15, (I6 (k : Int)))]) ∧ Chg zAh w0 W3 ∧ Blk W3 br (R6 t sa sc aa ac) 25 ∧ Blk W3 bp #[(I6 0), (.slice none 0 0), (.slice none 0 0), (I6 0), (I6 0), (.bool false)] 25 ∧ Blk W3 bq (#[(I6 t.kind), (.slice sa3 t.set.length sc3), (.slice la k lc), (I6 t.mn), (I6 t.mx), (.bool t.neg)]) 25 ∧ (k ≤ t.args.length) ∧ (W3.ownsRow base TRe 6 (.slice la k lc) k rows.flatten) ∧ (zBa Z W3 (t.args.take k) rows L) ∧ (∀ x, Z x → ¬ L x) ∧ (∀ x, Z x ∨ L x → base ≤ x ∧ x < W3.heap.size) ∧ (∀ x, (Value.slice la k lc).ownBlock = some x → ¬ Z x ∧ ¬ L x) ∧ (base ≤ W3.heap.size) ∧ (zDE (fun b => n3 ≤ b ∧ b < base) W3 2 (.slice sa3 t.set.length sc3) (t.set.map zDA)) ∧ nn_ = t.args.length - k) (n := t.args.length - 0) ?_ ?_
  · exact ⟨0, none, 0, [], (fun _ => False), (fun _ => False), zBG.out ⟨rfl, rfl, rfl, rfl, rfl, trivial⟩, E, Br, Bp, Bq, Nat.zero_le _, World.ownsRow_nil _ _ _ _, (by simp only [List.take_zero, zBa]), (fun _ f _ => f), (by rintro x (f | f) <;> exact f.elim), (by simp [Value.ownBlock]), hbs, hset, rfl⟩
  · clear E Br Bp Bq
    rintro _ _ W3 ⟨k, la, lc, rows, Z, L, ⟨j3, rfl⟩, E, Br, Bp, Bq, hk, hown, hTs, hd1, hd2, hd3, hbs, hset, rfl⟩
    refine zAA ?_
    refine qV (zBS (k := .i64) (a := (k : Int)) (b := (t.args.length : Int)) rfl rfl) ?_
    refine zAB (zAP ?_)
    refine zAM (b := decide (((k : Int) : Int) < (t.args.length : Int))) rfl (fun hlt => ?_) (fun hlt => ?_)
    · have khlt := hlt
      replace hlt := of_decide_eq_true hlt
      obtain ⟨x, hx⟩ := zAa (l := t.args) (i := k) (by omega)
      obtain ⟨b, o, rfl, hcl⟩ := (zBC.rs ht0).cells (by omega)
      obtain ⟨xs, hcx, hrx⟩ := hcl k x hx
      have hrx0 := hrx
      obtain ⟨xsa, xsc, xaa, xac, rfl, _, _, _⟩ := hrx.form
      obtain ⟨nk, hnk⟩ : ∃ nk, nk = (W3).heap.size := ⟨_, rfl⟩
      have hnkle : nk ≤ (W3).heap.size := by omega
      have hlt3 := hown.lt
      rw [← hnk] at hd2 hlt3
      refine zAR (zAC (zAP (zAZ (zAA ?_))))
      refine qV (zAO (b := b) (o := o) (len := t.args.length) (cap := ac) (i := k) (o' := o + k * 6) rfl rfl rfl Tryz.underlying23 zAH (by omega) (by omega)) ?_
      refine qV (zAG (vs := [(I6 x.kind), (.slice xsa x.set.length xsc), (.slice xaa x.args.length xac), (I6 x.mn), (I6 x.mx), (.bool x.neg)]) rfl zAb zAH rfl (hcx.ext E)) ?_
      refine zAi (v := (.agg (R6 x xsa xsc xaa xac))) (c := (R6 x xsa xsc xaa xac)) (n := 6) (by decide) zAs rfl zAH rfl rfl rfl (by simp [Value.oneCell']) ?_
      intro bs ws Ns
      have Fs := Ns.ge E
      have Os_br := Ns.lt Br
      have Os_bp := Ns.lt Bp
      have Os_bq := Ns.lt Bq
      replace Br := Ns.keep Br
      replace Bp := Ns.keep Bp
      replace Bq := Ns.keep Bq
      replace hset := zDE.chg hset Ns.ext (fun _ _ f => f)
      replace hbs := Nat.le_trans hbs Ns.ext.size
      replace hnkle := Nat.le_trans hnkle Ns.ext.size
      replace hown := zBE hown Ns.ext
      replace hTs := zBa.ext Ns.ext _ hTs
      replace E := E.ext Ns.ext
      have Bs := Ns.blk
      refine zAB ?_
      obtain ⟨n1, hn1⟩ : ∃ n1, n1 = ws.heap.size := ⟨_, rfl⟩
      have hnk1 : nk ≤ n1 := by rw [hn1]; exact hnkle
      have hn1le : n1 ≤ ws.heap.size := by omega
      have hbn1 : base ≤ n1 := by rw [hn1]; exact hbs
      obtain ⟨Fs5, hFs5⟩ : ∃ Fs : List (FactT (zAh)), Fs = [.eq (P6 bq 2), .eq (.slice la k lc), .eq (.agg (R6 x xsa xsc xaa xac)), .gen (zFh n1 x) (zEQ n1 x), .gen (zLV n1 x) (zGi n1 x)] := ⟨_, rfl⟩
      refine zNb (zAh) 5 3 [19, 20, 21, 22, 23] [[], [0], [], [2], [3]] Fs5 hFs5 rfl mixed (by kernel_rfl) (by kernel_rfl) (by kernel_rfl) ?_ ?_
      · intro wd X0
        refine DagStepsT.cons (fun s' w' X U H => ?_) ?_
        · exact zCN (zAN (b := bq) (o := 0) (o' := 2) (U 3 rfl) Tryz.underlying25 rfl zBI rfl) (Chg.refl _ _) rfl
        refine DagStepsT.cons (fun s' w' X U H => ?_) ?_
        · have e19 : s' 19 = (.pointer (some ⟨bq, 2, none⟩)) := H 0 rfl 19 (.eq (.pointer (some ⟨bq, 2, none⟩))) rfl (by rw [hFs5]; rfl)
          exact zCN (zAK (v := (.slice la k lc)) e19 zAv ((Chg.keep X (fun f => f) (X0.keep Bq)).cell rfl)) (Chg.refl _ _) rfl
        refine DagStepsT.cons (fun s' w' X U H => ?_) ?_
        · exact zCN (zAG (vs := [(I6 x.kind), (.slice xsa x.set.length xsc), (.slice xaa x.args.length xac), (I6 x.mn), (I6 x.mx), (.bool x.neg)]) (U 5 rfl) zAb zAH rfl ((Chg.keep X (fun f => f) (X0.keep Bs)).cells rfl)) (Chg.refl _ _) rfl
        refine DagStepsT.cons (fun s' w' X U H => ?_) ?_
        · have e21 : s' 21 = (.agg #[(.int .i64 x.kind), (.slice xsa x.set.length xsc), (.slice xaa x.args.length xac), (.int .i64 x.mn), (.int .i64 x.mx), (.bool x.neg)]) := H 2 rfl 21 (.eq (.agg #[(.int .i64 x.kind), (.slice xsa x.set.length xsc), (.slice xaa x.args.length xac), (.int .i64 x.mn), (.int .i64 x.mx), (.bool x.neg)])) rfl (by rw [hFs5]; rfl)
          exact zJp (zAT (vs := [(.agg (R6 x xsa xsc xaa xac))]) Tryz.func57 nm57 bd57 (zLg e21)) ((ih x _ _ (by have := Re.size_arg hx; omega) (by have := Re.size_arg hx; omega) (zLB hso hx) (zBC.ext ((Ext.trans E X0).trans X) x hrx0)).mono (fun v w2 h => ⟨zKh (by have := X0.size; have := X.size; omega) h.1, h.2⟩))
        refine DagStepsT.cons (fun s' w' X U H => ?_) ?_
        · obtain ⟨v22, Z22, L22, e22, T22, D22, R22⟩ := (show (.gen (zFh n1 x) (zEQ n1 x) : FactT (zAh)).In (s' 22) w' from H 3 rfl 22 (.gen (zFh n1 x) (zEQ n1 x)) rfl (by rw [hFs5]; rfl))
          exact (zNe e22 T22 D22 R22)
        exact DagStepsT.nil
      · intro s' wd5 w5 X0 X5 U H
        have e20 : s' 20 = (.slice la k lc) := H 1 20 (.eq (.slice la k lc)) rfl (by rw [hFs5]; rfl)
        obtain ⟨v22, Z22, L22, e22, T22, D22, R22⟩ := (show (.gen (zFh n1 x) (zEQ n1 x) : FactT (zAh)).In (s' 22) w5 from H 3 22 (.gen (zFh n1 x) (zEQ n1 x)) rfl (by rw [hFs5]; rfl))
        obtain ⟨b23, v23, Z23, L23, e23, B23, T23, D23, R23⟩ := (show (.gen (zLV n1 x) (zGi n1 x) : FactT (zAh)).In (s' 23) w5 from H 4 23 (.gen (zLV n1 x) (zGi n1 x)) rfl (by rw [hFs5]; rfl))
        obtain ⟨j5, rfl⟩ := zBG.out (σ := s') (l := [(2, (.pointer (some ⟨bp, 0, none⟩))), (3, (.pointer (some ⟨bq, 0, none⟩))), (13, (.slice (some ⟨b, o, none⟩) t.args.length ac)), (14, (.int .i64 ((t.args.length : Nat) : Int))), (15, (.int .i64 ((k : Nat) : Int))), (20, (.slice la k lc)), (23, (.slice (some ⟨b23, 0, none⟩) 1 1))]) ⟨U 2 rfl, U 3 rfl, U 13 rfl, U 14 rfl, U 15 rfl, e20, e23, trivial⟩
        clear U H
        replace Br := Chg.keep X5 (fun f => f) (X0.keep Br)
        replace Bp := Chg.keep X5 (fun f => f) (X0.keep Bp)
        replace Bq := Chg.keep X5 (fun f => f) (X0.keep Bq)
        replace Bs := Chg.keep X5 (fun f => f) (X0.keep Bs)
        replace hset := zDE.chg hset X0 (fun _ _ f => f)
        replace hset := zDE.chg hset X5 (fun _ _ f => f)
        replace hbs := Nat.le_trans hbs X0.size
        replace hbs := Nat.le_trans hbs X5.size
        replace hnkle := Nat.le_trans hnkle X0.size
        replace hnkle := Nat.le_trans hnkle X5.size
        replace hown := zBE hown X0
        replace hown := zBE hown X5
        replace hTs := zBa.ext X0 _ hTs
        replace hTs := zBa.ext X5 _ hTs
        replace hn1le := Nat.le_trans hn1le X0.size
        replace hn1le := Nat.le_trans hn1le X5.size
        replace E := (E.ext X0).step X5 (fun _ _ f => f.elim)
        refine zBh (base := base) (n := k) (m := 1) (xs := rows.flatten) (news := v23) (size := 6) (bytes := 80) (v := (.slice la k lc)) (by decide) Tryz.underlying23 zAH zEj zAs rfl (by decide) rfl hown rfl (by rw [T23.len]) (B23.cells (by simp)) (T23.one) (by unfold maxLen; omega) (by omega) (hbs) ?_
        intro v9 w29 Ov9 Cv9 Dv9
        replace Br := Cv9.keep (fun h => by have := (hown.lt _ h).1; omega) Br
        replace Bp := Cv9.keep (fun h => by have := (hown.lt _ h).1; omega) Bp
        replace Bq := Cv9.keep (fun h => by have := (hown.lt _ h).1; omega) Bq
        replace E := E.step Cv9 (fun x hx h => absurd (hown.lt x h).1 (by omega))
        obtain ⟨la2, lc2, rfl⟩ := zBY Ov9
        have hC3 : Chg (fun y => y = bq) w29 w29 := Chg.refl _ _
        replace hset := zDE.chg hset Cv9 (fun y hy hm => by have := (hown.lt y hm).1; have hy' := hy; omega)
        replace hbs := Nat.le_trans hbs Cv9.size
        refine qF bq 0 2 rfl Tryz.underlying25 rfl zBI rfl ?_
        refine zDQ (b := bq) (o := 2) (c' := #[(I6 t.kind), (.slice sa3 t.set.length sc3), (.slice la2 (k + 1) lc2), (I6 t.mn), (I6 t.mx), (.bool t.neg)]) (v := (.slice la2 (k + 1) lc2)) rfl rfl rfl zBI Bq (by simp) rfl ?_
        intro w6 S6
        replace hbs := Nat.le_trans hbs S6.chg.size
        replace hset := zDE.chg hset S6.chg (fun x hx hm => by have hx' := hx; have hm' : x = bq := hm; omega)
        replace hC3 := S6.chg
        replace Br := S6.keep (by omega) Br
        replace Bp := S6.keep (by omega) Bp
        replace E := S6.stp E
        replace Bq := S6.blk
        refine zAB (zAU (zAC (zAW ?_)))
        refine qV (zBQ (k := .i64) (a := (k : Int)) (b := 1) (c := (k : Int) + 1) rfl rfl (zBs (by omega))) ?_
        refine qM (I6 ((k : Int) + 1)) rfl ?_
        refine zAB (zAC ?_)
        have hstep := zNL (base := base) (n1 := n1) (b3 := bq) hTs T23 hd1 (fun y hy => by have := hd2 y hy; omega) (fun q hq => ⟨hd3 q hq, by have := hlt3 q hq; omega⟩) D23 R23 Cv9 Dv9 hC3 (by omega) hbn1 hn1le
        exact ⟨t.args.length - (k + 1), by omega, k + 1, la2, lc2, rows ++ [v23], (fun y => Z y ∨ Z23 y), (fun y => L y ∨ L23 y), zBG.out ⟨rfl, rfl, rfl, rfl, rfl, trivial⟩, E, Br, Bp, Bq, (by omega), (by have h := zCs Ov9 hC3 (fun q hq hm => by have := (Ov9.lt q hq).1; have hm' : q = bq := hm; omega); simpa using h), (by rw [List.take_add_one, hx]; exact hstep.1), hstep.2.1, hstep.2.2.1, hstep.2.2.2, hbs, hset, rfl⟩
    · have khlt := hlt
      replace hlt := of_decide_eq_false hlt
      have hkk : k = t.args.length := by omega
      subst hkk
      rw [List.take_length] at hTs
      have hcf := zNM (n0 := n3) hown hTs hset hd1 hd2 hd3 (fun x h => h) (by omega) hbs
      refine zBB (zAe (zAe (zAr (zAC (zAA ?_)))))
      refine qV (zAG (vs := [(I6 t.kind), (.slice sa3 t.set.length sc3), (.slice la t.args.length lc), (I6 t.mn), (I6 t.mx), (.bool t.neg)]) rfl zAb zAH rfl (Bq.cells rfl)) ?_
      refine qW (R6 t sa3 sc3 la lc) rfl rfl zAH Bp ?_
      intro w7 S7
      replace hcf := zNN S7.chg (by omega) hcf
      replace Br := S7.keep (by omega) Br
      replace Bq := S7.keep (by omega) Bq
      replace E := S7.stp E
      replace Bp := S7.blk
      refine zAB (zAQ ?_)
      refine zAm Tryz.results57 (vs := [(.int .i64 t.kind), (.slice sa3 t.set.length sc3), (.slice la t.args.length lc), (.int .i64 t.mn), (.int .i64 t.mx), (.bool t.neg)]) (b := bp) rfl zAb zAH rfl (Bp.cells rfl) ?_
      exact ⟨zKh (by omega) hcf, E⟩
end Go.Proofs
namespace Go.Proofs
open Go Go.Eng
set_option maxRecDepth 100000
def zAj (S : Nat → Prop) (w : World) : List Re → List (List Value) → Prop
  | [], rows => rows = []
  | t :: ts, rows => ∃ r rs, rows = r :: rs ∧ zAc S w t r ∧ zAj S w ts rs
theorem zAj.ext {S : Nat → Prop} {w w' : World} (e : Ext w w') : ∀ {ts : List Re} {rows : List (List Value)}, zAj S w ts rows → zAj S w' ts rows
  | [], _, h => h
  | t :: ts, rows, h => by
    obtain ⟨r, rs, h1, h2, h3⟩ := h
    exact ⟨r, rs, h1, zAc.ext e t h2, zAj.ext e h3⟩
theorem zAj.len {S : Nat → Prop} {w : World} : ∀ {ts : List Re} {rows : List (List Value)}, zAj S w ts rows → rows.length = ts.length
  | [], _, h => by simp only [zAj] at h; subst h; rfl
  | t :: ts, rows, h => by
    obtain ⟨r, rs, rfl, _, h3⟩ := h
    simp [zAj.len h3]
theorem zAj.six {S : Nat → Prop} {w : World} : ∀ {ts : List Re} {rows : List (List Value)}, zAj S w ts rows → ∀ r ∈ rows, r.length = 6
  | [], _, h => by simp only [zAj] at h; subst h; simp
  | t :: ts, rows, h => by
    obtain ⟨r, rs, rfl, h2, h3⟩ := h
    intro q hq
    rcases List.mem_cons.1 hq with rfl | hq
    · exact h2.len
    · exact zAj.six h3 q hq
theorem zAj.one {S : Nat → Prop} {w : World} : ∀ {ts : List Re} {rows : List (List Value)}, zAj S w ts rows → ∀ u ∈ rows.flatten, u.oneCell' = true
  | [], _, h => by simp only [zAj] at h; subst h; simp
  | t :: ts, rows, h => by
    obtain ⟨r, rs, rfl, h2, h3⟩ := h
    intro u hu
    rw [List.flatten_cons, List.mem_append] at hu
    rcases hu with hu | hu
    · exact zBC.one (zAc.at t h2) u hu
    · exact zAj.one h3 u hu
theorem zAj.get {S : Nat → Prop} {w : World} : ∀ {ts : List Re} {rows : List (List Value)}, zAj S w ts rows → ∀ {i : Nat} {t : Re}, ts[i]? = some t → ∃ r, rows[i]? = some r ∧ zAc S w t r
  | [], _, _, i, t, hi => by simp at hi
  | t :: ts, rows, h, i, u, hi => by
    obtain ⟨r, rs, rfl, h2, h3⟩ := h
    cases i with
    | zero => simp at hi; subst hi; exact ⟨r, rfl, h2⟩
    | succ i => simp at hi; obtain ⟨q, h4, h5⟩ := zAj.get h3 hi; exact ⟨q, by simpa using h4, h5⟩
theorem zAj.append {S : Nat → Prop} {w : World} {us : List Re} {qs : List (List Value)} (hu : zAj S w us qs) : ∀ {ts : List Re} {rows : List (List Value)}, zAj S w ts rows → zAj S w (ts ++ us) (rows ++ qs)
  | [], _, h => by simp only [zAj] at h; subst h; simpa using hu
  | t :: ts, rows, h => by
    obtain ⟨r, rs, rfl, h2, h3⟩ := h
    exact ⟨r, rs ++ qs, rfl, h2, zAj.append hu h3⟩
theorem zAj.single {S : Nat → Prop} {w : World} {t : Re} {r : List Value} (h : zAc S w t r) : zAj S w [t] [r] := ⟨r, [], rfl, h, rfl⟩
theorem zBM.rows {S : Nat → Prop} {w : World} {b : Nat} : ∀ {ts : List Re} {o : Nat}, zBM S w b o ts → ∃ rows, zAj S w ts rows ∧ zAx w b o rows.flatten
  | [], _, _ => ⟨[], rfl, fun i v hv => by simp at hv⟩
  | t :: ts, o, h => by
    simp only [zBM] at h
    obtain ⟨⟨vs, h1, h2⟩, h3⟩ := h
    obtain ⟨rows, h4, h5⟩ := zBM.rows h3
    refine ⟨vs :: rows, ⟨vs, rows, rfl, h2, h4⟩, fun i v hv => ?_⟩
    have hl := h2.len
    rw [List.flatten_cons] at hv
    rcases Nat.lt_or_ge i 6 with hi | hi
    · rw [List.getElem?_append_left (by omega)] at hv
      exact h1 i v hv
    · rw [List.getElem?_append_right (by omega)] at hv
      have := h5 (i - vs.length) v hv
      rwa [show o + 6 + (i - vs.length) = o + i from by omega] at this
def zCJ (S : Nat → Prop) (w : World) (v : Value) (ts : List Re) : Prop := ∃ aa ac, v = .slice aa ts.length ac ∧ (ts.length ≤ ac ∧ ac ≤ 9223372036854775807) ∧ (ts = [] ∨ ∃ b o, S b ∧ aa = some ⟨b, o, none⟩ ∧ zBM S w b o ts)
theorem zCJ.cells {S : Nat → Prop} {w : World} {aa : Option Addr} {n ac : Nat} {ts : List Re} (h : zCJ S w (.slice aa n ac) ts) (hn : 0 < n) : ∃ b o, aa = some ⟨b, o, none⟩ ∧ ∀ i t, ts[i]? = some t → ∃ vs, zAx w b (o + i * 6) vs ∧ zAc S w t vs := by
 obtain ⟨aa', ac', h1, h2, h3⟩ := h
 simp only [Value.slice.injEq] at h1
 obtain ⟨rfl, rfl, rfl⟩ := h1
 rcases h3 with rfl | ⟨b, o, _, h4, h5⟩
 ·simp at hn
 exact ⟨b, o, h4, fun i t ht => zBM.get h5 ht⟩
/-- Rows of one's own, read as expressions. -/
theorem zDz {S : Nat → Prop} {w : World} {base n : Nat} {a : Option Addr} {c : Nat} {ts : List Re} {rows : List (List Value)} (h : w.ownsRow base TRe 6 (.slice a n c) n rows.flatten) (hr : zAj S w ts rows) (hn : ts.length = n) : (n ≤ c ∧ c ≤ 9223372036854775807) ∧ (ts = [] ∨ ∃ b, base ≤ b ∧ b < w.heap.size ∧ a = some ⟨b, 0, none⟩ ∧ ∀ i t, ts[i]? = some t → ∃ vs, zAx w b (0 + i * 6) vs ∧ zAc S w t vs) := by
 rcases h.2 with ⟨h1, h2⟩ | ⟨g, cap, cur, h1, h2, h3, h4, h5, h6, h7⟩
 ·simp only [Value.slice.injEq] at h1
  obtain ⟨rfl, rfl, rfl⟩ := h1
  exact ⟨by simp, .inl (List.eq_nil_of_length_eq_zero hn)⟩
 simp only [Value.slice.injEq] at h1
 obtain ⟨rfl, _, rfl⟩ := h1
 simp only [maxLen] at h5
 refine ⟨⟨h4, by omega⟩, .inr ⟨g, h2, (h.lt g rfl).2, rfl, fun i t ht => ?_⟩⟩
 obtain ⟨r, h8, h9⟩ := hr.get ht
 have hb : Blk w g (rows.flatten ++ cur.toList.drop (n * 6)).toArray TRe := by
  have : (rows.flatten ++ cur.toList.drop (n * 6)).toArray = cur := by rw [← h7, List.take_append_drop]
  rw [this]; exact h3
 exact ⟨r, by rw [Nat.zero_add]; exact zEt hb hr.six h8, h9⟩
theorem zPG {S : Nat → Prop} {w : World} {base n : Nat} {a : Option Addr} {c : Nat} {ts : List Re} {rows : List (List Value)} (h : w.ownsRow base TRe 6 (.slice a n c) n rows.flatten) (hr : zAj S w ts rows) (hn : ts.length = n) : zIH w (.slice a n c) ts := by
 obtain ⟨h1, h2⟩ := zDz h hr hn
 refine ⟨a, c, by rw [hn], by rw [hn]; exact h1, ?_⟩
 rcases h2 with h | ⟨b, _, _, h4, h5⟩
 ·exact .inl h
 exact .inr ⟨b, 0, h4, zBw.mk fun i t ht => by obtain ⟨vs, h6, h7⟩ := h5 i t ht; exact ⟨vs, h6, zAc.at t h7⟩⟩
theorem zCg : ∀ ts : List Re, ts.length ≤ Re.sizes ts
  | [] => by simp
  | x :: xs => by have := x.size_pos; have := zCg xs; simp only [List.length_cons, Re.sizes]; omega
theorem zNA (k : Int) (ts : List Re) (x : Re) : zBO k (ts ++ [x]) = zBO k ts ++ (if x.kind = k then x.args else [x]) := by simp [zBO]
theorem zMz {k : Int} {ts : List Re} {j : Nat} {x : Re} (hx : ts[j]? = some x) : zBO k (ts.take (j + 1)) = zBO k (ts.take j) ++ (if x.kind = k then x.args else [x]) := by
 rw [List.take_add_one, hx]; exact zNA k _ x
theorem zHu (k : Int) (ts : List Re) (j : Nat) : (zBO k (ts.take j)).length ≤ Re.sizes ts := by
 have h1 := zCg (zBO k (ts.take j))
 have h2 := zEX k (ts.take j)
 have h3 : Re.sizes ts = Re.sizes (ts.take j) + Re.sizes (ts.drop j) := by rw [← Re.sizes_append, List.take_append_drop]
 omega
set_option maxHeartbeats 1000000 in
theorem zPL (w0 : World) (S : Nat → Prop) (k : Int) (v : Value) (ts : List Re) (h : zCJ S w0 v ts) (hne : ∀ x ∈ ts, x.kind = k → x.args ≠ []) (hsz : Re.sizes ts ≤ 1000000) :
  Ret Tryz.prog 167 #[.int .i64 k, v] w0 fun r w => ∃ la lc rows, r = .slice la (zBO k ts).length lc ∧ w.ownsRow w0.heap.size TRe 6 r (zBO k ts).length rows.flatten ∧ zAj S w0 (zBO k ts) rows ∧ Ext w0 w := by
 have h0 := h
 obtain ⟨aa, ac, rfl, hac, _⟩ := h
 have hls := zCg ts
 obtain ⟨base, hbase⟩ : ∃ base, base = w0.heap.size := ⟨_, rfl⟩
 refine zAk Tryz.func167 rfl Tryz.ntmps167 (Nat.le_of_ble_eq_true rfl) ?_
 have E : Chg zAh w0 w0 := Chg.refl _ _
 refine zAA ?_
 refine qA (.slice none 0 0) rfl ?_
 refine zAB (zAA ?_)
 refine qA (.slice none 0 0) rfl ?_
 refine zAB (zAP (zAA ?_))
 refine qM (.slice aa ts.length ac) rfl ?_
 refine qV (zAV (ad := aa) (n := ts.length) (cap := ac) Tryz.underlying23 rfl) ?_
 refine qM (I6 0) rfl ?_
 refine zAB (zAZ ?_)
 refine zBA (fun nn_ σ W1 => ∃ (j : Nat) (la : Option Addr) (lc : Nat) (m : Nat) (rows : List (List Value)), (∃ jj_, σ = zCl jj_ [(0, (I6 k)), (8, (.slice aa ts.length ac)), (9, (I6 (ts.length : Int))), (10, (I6 (j : Int))), (5, (.slice la m lc))]) ∧ Chg zAh w0 W1 ∧ (j ≤ ts.length) ∧ (W1.ownsRow base TRe 6 (.slice la m lc) m rows.flatten) ∧ (m = (zBO k (ts.take j)).length) ∧ (zAj S w0 (zBO k (ts.take j)) rows) ∧ (base ≤ W1.heap.size) ∧ nn_ = ts.length - j) (n := ts.length - 0) ?_ ?_
 ·exact ⟨0, none, 0, 0, [], zBG.out ⟨rfl, rfl, rfl, rfl, rfl, trivial⟩, E, Nat.zero_le _, World.ownsRow_nil _ _ _ _, rfl, rfl, (by omega), rfl⟩
 clear E
 rintro _ _ W1 ⟨j, la, lc, m, rows, ⟨j1, rfl⟩, E, hj, hown, hm, hrs, hbs, rfl⟩
 refine zAA ?_
 refine qV (zBS (k := .i64) (a := (j : Int)) (b := (ts.length : Int)) rfl rfl) ?_
 refine zAB (zAP ?_)
 refine zAM (b := decide (((j : Int) : Int) < (ts.length : Int))) rfl (fun hlt => ?_) (fun hlt => ?_)
 ·have khlt := hlt
  replace hlt := of_decide_eq_true hlt
  obtain ⟨x, hx⟩ := zAa (l := ts) (i := j) (by omega)
  obtain ⟨b, o, rfl, hcl⟩ := h0.cells (by omega)
  obtain ⟨xs, hcx, hrx⟩ := hcl j x hx
  have hrx0 := hrx
  obtain ⟨xsa, xsc, xaa, xac, rfl, _, _, hxa⟩ := hrx.form
  have hft := zMz (k := k) hx
  have hfl := zHu k ts (j + 1)
  rcases Bool.eq_false_or_eq_true (decide ((x.kind : Int) = k)) with hxk | hxk
  ·have khxk := hxk
   replace khxk := of_decide_eq_true khxk
   rw [if_pos khxk] at hft
   obtain ⟨xb, xo, _, rfl, hxr⟩ := hxa.resolve_left (hne x (List.mem_of_getElem? hx) khxk)
   obtain ⟨qs, hqs, hqc⟩ := zBM.rows hxr
   rw [hft, List.length_append] at hfl
   refine zAR (zAC (zAP (zAZ (zAA ?_))))
   refine qV (zAO (b := b) (o := o) (len := ts.length) (cap := ac) (i := j) (o' := o + j * 6) rfl rfl rfl Tryz.underlying23 zAH (by omega) (by omega)) ?_
   refine qV (zAG (vs := [(I6 x.kind), (.slice xsa x.set.length xsc), (.slice (some ⟨xb, xo, none⟩) x.args.length xac), (I6 x.mn), (I6 x.mx), (.bool x.neg)]) rfl zAb zAH rfl (hcx.ext E)) ?_
   refine zAi (v := (.agg (R6 x xsa xsc (some ⟨xb, xo, none⟩) xac))) (c := (R6 x xsa xsc (some ⟨xb, xo, none⟩) xac)) (n := 6) (by decide) zAs rfl zAH rfl rfl rfl (by simp [Value.oneCell']) ?_
   intro b3 w3 N3
   have F3 := N3.ge E
   replace hown := zBE hown N3.ext
   replace hbs := Nat.le_trans hbs N3.ext.size
   replace E := E.ext N3.ext
   have B3 := N3.blk
   refine zAB (zAA ?_)
   refine qF b3 0 0 rfl Tryz.underlying25 rfl zAw rfl ?_
   refine qV (zAK (v := (I6 x.kind)) rfl zAf (B3.cell rfl)) ?_
   refine qM (I6 k) rfl ?_
   refine qV (zAg (k := .i64) (a := x.kind) (b := k) rfl rfl) ?_
   refine zAB ?_
   refine zAl (congrArg Value.bool hxk) ?_
   refine zAW ?_
   refine qM (.slice la m lc) rfl ?_
   refine qF b3 0 2 rfl Tryz.underlying25 rfl zBI rfl ?_
   refine qV (zAK (v := (.slice (some ⟨xb, xo, none⟩) x.args.length xac)) rfl zAv (B3.cell rfl)) ?_
   refine zBh (base := base) (n := m) (m := x.args.length) (xs := rows.flatten) (news := qs.flatten) (size := 6) (bytes := 80) (v := (.slice la m lc)) (by decide) Tryz.underlying23 zAH zEj zAs rfl (by decide) rfl hown rfl (by rw [zBn hqs.six, hqs.len]) (hqc.ext E) (hqs.one) (by unfold maxLen; omega) (by omega) (hbs) ?_
   intro v9 w29 Ov9 Cv9 Dv9
   replace E := E.step Cv9 (fun x hx h => absurd (hown.lt x h).1 (by omega))
   obtain ⟨la2, lc2, rfl⟩ := zBY Ov9
   refine qA (.slice la2 (m + x.args.length) lc2) rfl ?_
   refine zAB (zAU (zAC (zAW ?_)))
   refine qV (zBQ (k := .i64) (a := (j : Int)) (b := 1) (c := (j : Int) + 1) rfl rfl (zBs (by omega))) ?_
   refine qM (I6 ((j : Int) + 1)) rfl ?_
   refine zAB (zAC ?_)
   exact ⟨ts.length - (j + 1), by omega, j + 1, la2, lc2, m + x.args.length, rows ++ qs, zBG.out ⟨rfl, rfl, rfl, rfl, rfl, trivial⟩, E, (by omega), (by simpa using Ov9), (by rw [hft, List.length_append, hm]), (by rw [hft]; exact zAj.append hqs hrs), Nat.le_trans hbs Cv9.size, rfl⟩
  have khxk := hxk
  replace khxk := of_decide_eq_false khxk
  rw [if_neg khxk] at hft
  rw [hft, List.length_append] at hfl
  refine zAR (zAC (zAP (zAZ (zAA ?_))))
  refine qV (zAO (b := b) (o := o) (len := ts.length) (cap := ac) (i := j) (o' := o + j * 6) rfl rfl rfl Tryz.underlying23 zAH (by omega) (by omega)) ?_
  refine qV (zAG (vs := [(I6 x.kind), (.slice xsa x.set.length xsc), (.slice xaa x.args.length xac), (I6 x.mn), (I6 x.mx), (.bool x.neg)]) rfl zAb zAH rfl (hcx.ext E)) ?_
  refine zAi (v := (.agg (R6 x xsa xsc xaa xac))) (c := (R6 x xsa xsc xaa xac)) (n := 6) (by decide) zAs rfl zAH rfl rfl rfl (by simp [Value.oneCell']) ?_
  intro b4 w4 N4
  have F4 := N4.ge E
  replace hown := zBE hown N4.ext
  replace hbs := Nat.le_trans hbs N4.ext.size
  replace E := E.ext N4.ext
  have B4 := N4.blk
  refine zAB (zAA ?_)
  refine qF b4 0 0 rfl Tryz.underlying25 rfl zAw rfl ?_
  refine qV (zAK (v := (I6 x.kind)) rfl zAf (B4.cell rfl)) ?_
  refine qM (I6 k) rfl ?_
  refine qV (zAg (k := .i64) (a := x.kind) (b := k) rfl rfl) ?_
  refine zAB ?_
  refine zAX (congrArg Value.bool hxk) ?_
  refine zAW ?_
  refine qM (.slice la m lc) rfl ?_
  refine qV (zAG (vs := [(I6 x.kind), (.slice xsa x.set.length xsc), (.slice xaa x.args.length xac), (I6 x.mn), (I6 x.mx), (.bool x.neg)]) rfl zAb zAH rfl (B4.cells rfl)) ?_
  refine zAu (ps := [(0, (.agg (R6 x xsa xsc xaa xac)))]) (c := (R6 x xsa xsc xaa xac)) (by decide) rfl Tryz.underlying23 zAH zAs (by decide) (by decide) (by kernel_rfl) ?_
  intro b5 w5 N5
  have F5 := N5.ge E
  have O5_b4 := N5.lt B4
  replace B4 := N5.keep B4
  replace hown := zBE hown N5.ext
  replace hbs := Nat.le_trans hbs N5.ext.size
  replace E := E.ext N5.ext
  have B5 := N5.blk
  refine zBh (base := base) (n := m) (m := 1) (xs := rows.flatten) (news := [(I6 x.kind), (.slice xsa x.set.length xsc), (.slice xaa x.args.length xac), (I6 x.mn), (I6 x.mx), (.bool x.neg)]) (size := 6) (bytes := 80) (v := (.slice la m lc)) (by decide) Tryz.underlying23 zAH zEj zAs rfl (by decide) rfl hown rfl (rfl) (B5.cells rfl) (by simp [Value.oneCell']) (by simp at hfl; unfold maxLen; omega) (by simp at hfl; omega) (hbs) ?_
  intro v9 w29 Ov9 Cv9 Dv9
  replace E := E.step Cv9 (fun x hx h => absurd (hown.lt x h).1 (by omega))
  obtain ⟨la2, lc2, rfl⟩ := zBY Ov9
  refine qA (.slice la2 (m + 1) lc2) rfl ?_
  refine zAB (zAU (zAC (zAW ?_)))
  refine qV (zBQ (k := .i64) (a := (j : Int)) (b := 1) (c := (j : Int) + 1) rfl rfl (zBs (by omega))) ?_
  refine qM (I6 ((j : Int) + 1)) rfl ?_
  refine zAB (zAC ?_)
  exact ⟨ts.length - (j + 1), by omega, j + 1, la2, lc2, m + 1, rows ++ [[.int .i64 x.kind, .slice xsa x.set.length xsc, .slice xaa x.args.length xac, .int .i64 x.mn, .int .i64 x.mx, .bool x.neg]], zBG.out ⟨rfl, rfl, rfl, rfl, rfl, trivial⟩, E, (by omega), (by simpa using Ov9), (by rw [hft, List.length_append, hm]; rfl), (by rw [hft]; exact zAj.append (zAj.single hrx0) hrs), Nat.le_trans hbs Cv9.size, rfl⟩
 have khlt := hlt
 replace hlt := of_decide_eq_false hlt
 have hjj : j = ts.length := by omega
 refine zBB (zAe (zAe (zAr (zAC (zAA ?_)))))
 refine qM (.slice la m lc) rfl ?_
 refine qA (.slice la m lc) rfl ?_
 refine zAB (zAQ ?_)
 refine zAS Tryz.results167 (v := (.slice la m lc)) rfl ?_
 rw [hjj, List.take_length] at hrs hm
 subst hm
 subst hbase
 exact ⟨la, lc, rows, rfl, hown, hrs, E⟩
end Go.Proofs
namespace Go.Proofs
open Go Go.Eng
set_option maxRecDepth 100000
theorem zJr {m : Nat} : ∀ v ∈ (Builtin.zeroCells (Value.cells (.agg #[(.int .i64 0), (.slice none 0 0), (.slice none 0 0), (.int .i64 0), (.int .i64 0), (.bool false)])) m).toList, v.oneCell' = true := by
  intro v hv
  simp only [Builtin.zeroCells, Value.cells, Array.toList_map, List.mem_map] at hv
  obtain ⟨i, _, rfl⟩ := hv
  have h : i % 6 < 6 := Nat.mod_lt _ (by decide)
  show (#[(Value.int .i64 0), (.slice none 0 0), (.slice none 0 0), (.int .i64 0), (.int .i64 0), (.bool false)][i % 6]!).oneCell' = true
  generalize i % 6 = q at h
  match q, h with
  | 0, _ => rfl
  | 1, _ => rfl
  | 2, _ => rfl
  | 3, _ => rfl
  | 4, _ => rfl
  | 5, _ => rfl
theorem zOs {P : Program} {N : Nat} {Q : zFl} {σ : Env} {w : World} {K : Env → World → Prop} {ops : Array Oper} {rest : List Oper} {o : Oper} (hg : o.guard = none) (hd : o.dst = none) {v : Value} {w' : World}
  (hr : (execOp (ev σ) o).run P w = .ok (.value v) w') (k : WpL P N ops K Q rest σ w') : WpL P N ops K Q (o :: rest) σ w := by
 intro a ha he
 refine wpList_plain hg fun K' hK => ?_
 unfold Oper.wp
 rw [zCh, he, hr]
 simp only [Oper.upon, hd]
 exact hK _ _ (k a ha he)
theorem zMD {P : Program} {N : Nat} {Q : zFl} {σ : Env} {w : World} {K : Env → World → Prop} {ops : Array Oper} {rest : List Oper} {ty : TypeId} {pos : String} {af : Array Edge} {t e : TypeId} {x : Operand} {b o m cc : Nat} {c c' : Array Value} {z : Value} (hu : P.underlying t = some (.slice e)) (hz : Zer P e z) (hx : ev σ x = .slice (some ⟨b, o, none⟩) m cc) (hm : 0 < m) (hB : Blk w b c e) (h1 : ∀ v ∈ (Builtin.zeroCells z.cells m).toList, v.oneCell' = true)
  (ho : o + m * z.cells.size ≤ c.size) (hc : (c.toList.take o ++ (Builtin.zeroCells z.cells m).toList ++ c.toList.drop (o + m * z.cells.size)).toArray = c')
  (k : ∀ w', Put w w' b c' e → WpL P N ops K Q rest σ w') : WpL P N ops K Q (⟨none, .call ⟨.builtin .clear, #[x], #[t]⟩, ty, pos, af, none⟩ :: rest) σ w := by
 subst hc
 have hl : (Builtin.zeroCells z.cells m).toList.length = m * z.cells.size := by simp [Builtin.zeroCells]
 have hst := run_storeCells_at P b o e (Builtin.zeroCells z.cells m).toList 0 c w hB (by rw [hl]; simpa using ho) h1
 simp only [Nat.add_zero, hl] at hst
 refine zOs (v := .tuple #[]) (w' := w.setRow b _) rfl rfl ?_ (k _ (Put.of_setRow hB _))
 obtain ⟨m', rfl⟩ : ∃ m', m = m' + 1 := ⟨m - 1, by omega⟩
 simp [execOp, resolve, invoke, builtin, Builtin.clear_, hx, run_underlying hu, hz.run, hst]
theorem zOU {α : Type} {p : α → Bool} {l : List α} (h : idx p l = -1) : l.filter (fun x => !p x) = l := by
 have h1 := zGa p l
 rw [h] at h1
 have h2 : l.any p = false := by rw [← h1]; decide
 rw [List.filter_eq_self]
 rw [List.any_eq_false] at h2
 intro x hx; simp [h2 x hx]
theorem zOT {α : Type} {p : α → Bool} {l : List α} (h : idx p l ≠ -1) : ∃ i : Nat, idx p l = (i : Int) ∧ i < l.length ∧ (l.take (i + 1)).filter (fun x => !p x) = l.take i := by
  unfold idx at h ⊢
  cases hf : l.findIdx? p with
  | none => rw [hf] at h; exact absurd rfl h
  | some i =>
    rw [List.findIdx?_eq_some_iff_getElem] at hf
    obtain ⟨hi, hp, hno⟩ := hf
    refine ⟨i, rfl, hi, ?_⟩
    have e1 : (l.take i).filter (fun x => !p x) = l.take i := by
      rw [List.filter_eq_self]
      intro x hx
      obtain ⟨j, hj, rfl⟩ := List.getElem_of_mem hx
      simp at hj
      have := hno j (by omega)
      simpa using this
    rw [List.take_add_one, List.getElem?_eq_getElem hi, List.filter_append, e1]
    simp [hp]
theorem zJi {α : Type} {p : α → Bool} {l : List α} {j : Nat} {x : α} (hx : l[j]? = some x) : (l.take (j + 1)).filter (fun x => !p x) = (l.take j).filter (fun x => !p x) ++ (if p x then [] else [x]) := by
 rw [List.take_add_one, hx, List.filter_append]
 congr 1
 cases hp : p x <;> simp [hp]
theorem zHw {α : Type} {l m : List α} {j : Nat} (h : l.drop j = m.drop j) {i : Nat} (hi : j ≤ i) : l[i]? = m[i]? := by
 have := congrArg (fun q => q[i - j]?) h
 simp only [List.getElem?_drop] at this
 rwa [show j + (i - j) = i from by omega] at this
theorem zAj.take {S : Nat → Prop} {w : World} : ∀ {ts : List Re} {rows : List (List Value)} (i : Nat), zAj S w ts rows → zAj S w (ts.take i) (rows.take i)
  | [], _, i, h => by simp only [zAj] at h; subst h; cases i <;> rfl
  | t :: ts, rows, 0, h => rfl
  | t :: ts, rows, i + 1, h => by
    obtain ⟨r, rs, rfl, h2, h3⟩ := h
    exact ⟨r, rs.take i, rfl, h2, zAj.take i h3⟩
set_option maxHeartbeats 2000000 in
theorem del_c (wb w0 : World) (base : Nat) (S : Nat → Prop) (v fv : Value) (ts : List Re) (rows : List (List Value)) (p : Re → Bool) (hE : Ext wb w0) (hown : w0.ownsRow base TRe 6 v ts.length rows.flatten) (hr : zAj S wb ts rows) (hS : ∀ x, S x → x < base) (hlen : ts.length ≤ 1000000)
  (hf : ∀ (w : World) (x : Re) (vs : List Value), x ∈ ts → zBC w x vs → zBu Tryz.prog fv #[.agg vs.toArray] w fun r w' => r = .bool (p x) ∧ Ext w w') :
  Ret Tryz.prog 166 #[v, fv] w0 fun r w => ∃ la lc rows', r = .slice la (ts.filter fun x => !p x).length lc ∧ w.ownsRow base TRe 6 r (ts.filter fun x => !p x).length rows'.flatten ∧ zAj S wb (ts.filter fun x => !p x) rows' ∧ Chg (fun x => base ≤ x) w0 w := by
 have hown0 := hown
 obtain ⟨a, c, rfl⟩ := zBY hown
 obtain ⟨q, hq⟩ : ∃ q : Int, q = idx p ts := ⟨_, rfl⟩
 have hrs : zIH w0 (.slice a ts.length c) ts := zPG hown0 (hr.ext hE) rfl
 refine zAk Tryz.func166 rfl Tryz.ntmps166 (Nat.le_of_ble_eq_true rfl) ?_
 have E : Chg (fun x => base ≤ x) w0 w0 := Chg.refl _ _
 refine zAA ?_
 refine qA (.slice none 0 0) rfl ?_
 refine zAB (zAA ?_)
 refine qM (.slice a ts.length c) rfl ?_
 refine qM fv rfl ?_
 refine zAL rfl rfl (by decide) (zAT (vs := [(.slice a ts.length c), fv]) Tryz.func82 nm82 bd82 rfl) ((zGO _ _ fv ts p hrs (fun w x vs _ hm hx => hf w x vs hm hx)).mono (R' := fun r w => r = .int .i64 q ∧ Ext w0 w) (by rintro v w ⟨rfl, h⟩; exact ⟨by rw [hq], h⟩)) ?_
 rintro _ w9 ⟨rfl, X9⟩
 replace E := E.ext X9
 refine qA (I6 q) rfl ?_
 refine zAB (zAP (zAA ?_))
 refine qM (I6 q) rfl ?_
 refine qV (zAg (k := .i64) (a := q) (b := (-1)) rfl rfl) ?_
 refine zAB ?_
 refine zAM (b := decide ((q : Int) = (-1))) rfl (fun h1 => ?_) (fun h1 => ?_)
 ·have kh1 := h1
  replace h1 := of_decide_eq_true h1
  have hfi : (ts.filter fun x => !p x) = ts := zOU (by rw [← hq]; exact h1)
  refine zAA ?_
  refine qM (.slice a ts.length c) rfl ?_
  refine qA (.slice a ts.length c) rfl ?_
  refine zAB (zAQ (zAI ?_))
  refine zAS Tryz.results166 (v := (.slice a ts.length c)) rfl ?_
  rw [hfi]; exact ⟨a, c, rows, rfl, zBE hown0 X9, hr, E⟩
 ·have kh1 := h1
  replace h1 := of_decide_eq_false h1
  obtain ⟨i0, hi0, hi0l, hi0f⟩ := zOT (p := p) (l := ts) (by rw [← hq]; exact h1)
  obtain rfl : q = ((i0 : Nat) : Int) := by rw [hq, hi0]
  rcases hown0.2 with ⟨_, hbad⟩ | ⟨g, cap, cur0, hv0, hgb, hgB, hcap1, hcap2, hcap3, hcap4⟩
  ·omega
  simp only [Value.slice.injEq] at hv0
  obtain ⟨rfl, _, rfl⟩ := hv0
  obtain ⟨rest, hrest⟩ : ∃ rest, rest = cur0.toList.drop (ts.length * 6) := ⟨_, rfl⟩
  have hgB2 : Blk w9 g (rows.flatten ++ rest).toArray TRe := X9.keep (by rw [hrest, ← hcap4, List.take_append_drop]; exact hgB)
  have hszz : (rows.flatten ++ rest).length = c * 6 := by rw [hrest, ← hcap4, List.take_append_drop]; simpa using hcap3
  have hrl := hr.len
  have hr6 := hr.six
  have hrestl : rest.length = c * 6 - ts.length * 6 := by rw [List.length_append, zBn hr6, hrl] at hszz; omega
  refine zAR (zAC (zAP (zAA ?_)))
  refine qM (I6 (i0 : Int)) rfl ?_
  refine qV (zBQ (k := .i64) (a := (i0 : Int)) (b := 1) (c := (i0 : Int) + 1) rfl rfl (zBs (by omega))) ?_
  refine qA (I6 ((i0 : Int) + 1)) rfl ?_
  refine zAB (zAZ ?_)
  refine zBA (fun nn_ σ W2 => ∃ (j : Nat) (i : Nat) (cur : List (List Value)), (∃ jj_, σ = zCl jj_ [(0, (.slice (some ⟨g, 0, none⟩) ts.length c)), (1, fv), (6, (I6 (j : Int))), (5, (I6 (i : Int)))]) ∧ Chg (fun x => base ≤ x) w0 W2 ∧ Blk W2 g ((cur.flatten ++ rest).toArray) TRe ∧ (i < j ∧ j ≤ ts.length) ∧ (cur.length = ts.length) ∧ (∀ r ∈ cur, r.length = 6) ∧ (cur.drop j = rows.drop j) ∧ (zAj S wb ((ts.take j).filter fun x => !p x) (cur.take i)) ∧ (i = ((ts.take j).filter fun x => !p x).length) ∧ nn_ = ts.length - j) (n := ts.length - (i0 + 1)) ?_ ?_
  ·exact ⟨i0 + 1, i0, rows, zBG.out ⟨rfl, rfl, rfl, rfl, trivial⟩, E, hgB2, ⟨by omega, by omega⟩, hrl, hr6, rfl, (by rw [hi0f]; exact hr.take i0), (by rw [hi0f]; simp; omega), rfl⟩
  ·clear E hgB2
   rintro _ _ W2 ⟨j, i, cur, ⟨j2, rfl⟩, E, hgB2, hij, hcl, hc6, hdr, hin, hil, rfl⟩
   refine zAP (zAA ?_)
   refine qM (I6 (j : Int)) rfl ?_
   refine qM (.slice (some ⟨g, 0, none⟩) ts.length c) rfl ?_
   refine qV (zAV (ad := some ⟨g, 0, none⟩) (n := ts.length) (cap := c) Tryz.underlying23 rfl) ?_
   refine qV (zBS (k := .i64) (a := (j : Int)) (b := (ts.length : Int)) rfl rfl) ?_
   refine zAB ?_
   refine zAM (b := decide (((j : Int) : Int) < (ts.length : Int))) rfl (fun hlt => ?_) (fun hlt => ?_)
   ·have khlt := hlt
    replace hlt := of_decide_eq_true hlt
    obtain ⟨x, hx⟩ := zAa (l := ts) (i := j) (by omega)
    obtain ⟨r, hrr, hrx⟩ := hr.get hx
    have hcr : cur[j]? = some r := by rw [zHw hdr (Nat.le_refl _)]; exact hrr
    have hfs := zJi (p := p) hx
    have hdr2 : cur.drop (j + 1) = rows.drop (j + 1) := by rw [← List.drop_drop, ← List.drop_drop, hdr]
    have hrx2 : zBC (W2) x r := zAc.at x (zAc.chg E (fun y hy hb => by have := hS y hy; have hb' : base ≤ y := hb; omega) x (zAc.ext hE x hrx))
    have hrl6 := hrx.len
    obtain ⟨sa, sc, aa, ac, rfl, _, _, _⟩ := hrx2.form
    refine zAR (zAC (zAP (zAZ (zAA ?_))))
    refine qM (.slice (some ⟨g, 0, none⟩) ts.length c) rfl ?_
    refine qM (I6 (j : Int)) rfl ?_
    refine qV (zAO (b := g) (o := 0) (len := ts.length) (cap := c) (i := j) (o' := 0 + j * 6) rfl rfl rfl Tryz.underlying23 zAH (by omega) (by omega)) ?_
    refine qV (zAG (vs := [(I6 x.kind), (.slice sa x.set.length sc), (.slice aa x.args.length ac), (I6 x.mn), (I6 x.mx), (.bool x.neg)]) rfl zAb zAH rfl (by rw [Nat.zero_add]; exact zEt hgB2 hc6 hcr)) ?_
    refine zAi (v := (.agg (R6 x sa sc aa ac))) (c := (R6 x sa sc aa ac)) (n := 6) (by decide) zAs rfl zAH rfl rfl rfl (by simp [Value.oneCell']) ?_
    intro bs ws Ns
    have Fs := Ns.ge E
    have Os_g := Ns.lt hgB2
    replace hgB2 := Ns.keep hgB2
    replace hrx2 := zBC.ext Ns.ext x hrx2
    replace E := E.ext Ns.ext
    have Bs := Ns.blk
    refine zAB (zAA ?_)
    refine qM fv rfl ?_
    refine qV (zAG (vs := [(I6 x.kind), (.slice sa x.set.length sc), (.slice aa x.args.length ac), (I6 x.mn), (I6 x.mx), (.bool x.neg)]) rfl zAb zAH rfl (Bs.cells rfl)) ?_
    refine zCj (fv := fv) (vs := [(.agg (R6 x sa sc aa ac))]) (by decide) rfl rfl (hf _ x _ (List.mem_of_getElem? hx) hrx2) ?_
    rintro _ w19 ⟨rfl, X19⟩
    replace hgB2 := X19.keep hgB2
    replace Bs := X19.keep Bs
    replace hrx2 := zBC.ext X19 x hrx2
    replace E := E.ext X19
    refine qV (zCV (b := p x) rfl) ?_
    refine zAB ?_
    refine zAM (b := !(p x)) rfl (fun hp => ?_) (fun hp => ?_)
    ·have khp := hp
     replace hp := by simpa using hp
     refine zAA ?_
     refine qM (.slice (some ⟨g, 0, none⟩) ts.length c) rfl ?_
     refine qM (I6 (i : Int)) rfl ?_
     refine qV (zAG (vs := [(I6 x.kind), (.slice sa x.set.length sc), (.slice aa x.args.length ac), (I6 x.mn), (I6 x.mx), (.bool x.neg)]) rfl zAb zAH rfl (Bs.cells rfl)) ?_
     refine qV (zAO (b := g) (o := 0) (len := ts.length) (cap := c) (i := i) (o' := 0 + i * 6) rfl rfl rfl Tryz.underlying23 zAH (by omega) (by omega)) ?_
     refine zFZ (b := g) (o := 0 + i * 6) (n := 6) (c' := ((cur.set i [.int .i64 x.kind, .slice sa x.set.length sc, .slice aa x.args.length ac, .int .i64 x.mn, .int .i64 x.mx, .bool x.neg]).flatten ++ rest).toArray) (vs := (R6 x sa sc aa ac)) rfl rfl (by simp [Value.oneCell']) zAH (rfl) hgB2 (by have := zBn hc6; simp only [List.size_toArray, List.length_append]; omega) (by rw [Nat.zero_add]; exact congrArg List.toArray (zHg (k := 6) (v := [.int .i64 x.kind, .slice sa x.set.length sc, .slice aa x.args.length ac, .int .i64 x.mn, .int .i64 x.mx, .bool x.neg]) (rows := cur) (i := i) (rest := rest) rfl hc6 (by omega))) ?_
     intro w5 S5
     replace Bs := S5.keep (by omega) Bs
     replace E := S5.stp E
     replace hgB2 := S5.blk
     refine zAB (zAW ?_)
     refine qM (I6 (i : Int)) rfl ?_
     refine qV (zBQ (k := .i64) (a := (i : Int)) (b := 1) (c := (i : Int) + 1) rfl rfl (zBs (by omega))) ?_
     refine qA (I6 ((i : Int) + 1)) rfl ?_
     refine zAB (zAU (zAC (zAW ?_)))
     refine qM (I6 (j : Int)) rfl ?_
     refine qV (zBQ (k := .i64) (a := (j : Int)) (b := 1) (c := (j : Int) + 1) rfl rfl (zBs (by omega))) ?_
     refine qA (I6 ((j : Int) + 1)) rfl ?_
     refine zAB (zAC ?_)
     exact ⟨ts.length - (j + 1), by omega, j + 1, i + 1, cur.set i [.int .i64 x.kind, .slice sa x.set.length sc, .slice aa x.args.length ac, .int .i64 x.mn, .int .i64 x.mx, .bool x.neg], zBG.out ⟨rfl, rfl, rfl, rfl, trivial⟩, E, hgB2, ⟨by omega, by omega⟩, (by simpa using hcl), (fun r hr => by rcases List.mem_or_eq_of_mem_set hr with h | h; exact hc6 r h; rw [h]; rfl), (by rw [List.drop_set_of_lt (by omega)]; exact hdr2), (by rw [hfs, hp, List.take_add_one, List.take_set_of_le (Nat.le_refl _), List.getElem?_set_self (by omega)]; exact zAj.append (zAj.single hrx) hin), (by rw [hfs, hp, List.length_append, ← hil]; rfl), rfl⟩
    ·have khp := hp
     replace hp := by simpa using hp
     refine zAR (zAU (zAC (zAW ?_)))
     refine qM (I6 (j : Int)) rfl ?_
     refine qV (zBQ (k := .i64) (a := (j : Int)) (b := 1) (c := (j : Int) + 1) rfl rfl (zBs (by omega))) ?_
     refine qA (I6 ((j : Int) + 1)) rfl ?_
     refine zAB (zAC ?_)
     exact ⟨ts.length - (j + 1), by omega, j + 1, i, cur, zBG.out ⟨rfl, rfl, rfl, rfl, trivial⟩, E, hgB2, ⟨by omega, by omega⟩, hcl, hc6, hdr2, (by rw [hfs, hp]; simpa using hin), (by rw [hfs, hp]; simpa using hil), rfl⟩
   ·have khlt := hlt
    replace hlt := of_decide_eq_false hlt
    have hjj : j = ts.length := by omega
    rw [hjj, List.take_length] at hin hil
    refine zBB (zAe (zAe (zAr (zAC (zAA ?_)))))
    refine qM (.slice (some ⟨g, 0, none⟩) ts.length c) rfl ?_
    refine qM (I6 (i : Int)) rfl ?_
    obtain ⟨sl, hsl⟩ : ∃ a' : Option Addr, (if c = i then (some ⟨g, 0, none⟩) else Option.map (fun q : Addr => q.add (i * 6)) (some ⟨g, 0, none⟩)) = a' := ⟨_, rfl⟩
    refine qV (zDR (a := (some ⟨g, 0, none⟩)) (len := ts.length) (cap := c) (lo := i) (l := (i : Int)) (n' := (ts.length - i)) (c' := (c - i)) Tryz.underlying23 zAH rfl rfl (by omega) (by omega) hsl (by omega) (by omega)) ?_
    have hsl2 : sl = some ⟨g, i * 6, none⟩ := by rw [← hsl, if_neg (by omega)]; simp [Addr.add]; omega
    subst hsl2
    obtain ⟨cz, hcz⟩ : ∃ cz, cz = ((cur.flatten ++ rest).toArray.toList.take (i * 6) ++ (Builtin.zeroCells (Value.cells (.agg #[(.int .i64 0), (.slice none 0 0), (.slice none 0 0), (.int .i64 0), (.int .i64 0), (.bool false)])) (ts.length - i)).toList ++ (cur.flatten ++ rest).toArray.toList.drop (i * 6 + (ts.length - i) * 6)).toArray := ⟨_, rfl⟩
    refine zMD (b := g) (o := i * 6) (m := (ts.length - i)) (cc := (c - i)) (c' := cz) Tryz.underlying23 zAs rfl (by omega) hgB2 zJr (by show i * 6 + (ts.length - i) * 6 ≤ _; simp only [List.size_toArray, List.length_append, zBn hc6, hcl]; omega) (hcz.symm) ?_
    intro w6 S6
    replace E := S6.stp E
    replace hgB2 := S6.blk
    refine zAB (zAA ?_)
    refine qM (.slice (some ⟨g, 0, none⟩) ts.length c) rfl ?_
    refine qM (I6 (i : Int)) rfl ?_
    obtain ⟨sm, hsm⟩ : ∃ a' : Option Addr, (if c = 0 then (some ⟨g, 0, none⟩) else Option.map (fun q : Addr => q.add (0 * 6)) (some ⟨g, 0, none⟩)) = a' := ⟨_, rfl⟩
    refine qV (zGQ (a := (some ⟨g, 0, none⟩)) (len := ts.length) (cap := c) (hi := i) (l := (i : Int)) Tryz.underlying23 zAH rfl rfl (by omega) (by omega) hsm) ?_
    refine qA (.slice sm i c) rfl ?_
    refine zAB (zAQ ?_)
    refine zAS Tryz.results166 (v := (.slice sm i c)) rfl ?_
    have hsm2 : sm = some ⟨g, 0, none⟩ := by rw [← hsm]; split <;> simp [Addr.add]
    subst hsm2
    have hfl : (cur.take i).flatten.length = i * 6 := by rw [zBn (fun r hr => hc6 r (List.mem_of_mem_take hr))]; simp; omega
    have htk : (cur.flatten ++ rest).take (i * 6) = (cur.take i).flatten := by
     have : cur.flatten = (cur.take i).flatten ++ (cur.drop i).flatten := by rw [← List.flatten_append, List.take_append_drop]
     rw [this, List.append_assoc, List.take_append_of_le_length (by omega), List.take_of_length_le (by omega)]
    have hz : (Builtin.zeroCells (Value.cells (.agg #[(.int .i64 0), (.slice none 0 0), (.slice none 0 0), (.int .i64 0), (.int .i64 0), (.bool false)])) (ts.length - i)).toList.length = (ts.length - i) * 6 := by simp [Builtin.zeroCells, Value.cells]
    have hcl6 : (cur.flatten ++ rest).length = c * 6 := by rw [List.length_append, zBn hc6, hcl]; omega
    refine ⟨some ⟨g, 0, none⟩, c, cur.take i, by rw [← hil], ⟨by rw [hfl, ← hil], .inr ⟨g, c, cz, by rw [← hil], hgb, hgB2, by omega, hcap2, ?_, ?_⟩⟩, hin, E⟩
    ·rw [hcz]
     simp only [List.size_toArray, List.length_append, List.length_take, List.length_drop, hz]
     simp only [List.length_append] at hcl6
     omega
    ·rw [hcz, ← hil]
     show List.take (i * 6) (List.take (i * 6) (cur.flatten ++ rest) ++ _ ++ _) = _
     rw [htk, List.append_assoc, List.take_append_of_le_length (by omega), List.take_of_length_le (by omega)]
end Go.Proofs
namespace Go.Proofs
open Go Go.Eng
set_option maxRecDepth 100000
theorem zCJ.ext {S : Nat → Prop} {w w' : World} {v : Value} {ts : List Re} (h : zCJ S w v ts) (e : Ext w w') : zCJ S w' v ts := by
 obtain ⟨aa, ac, h1, h2, h3⟩ := h
 refine ⟨aa, ac, h1, h2, ?_⟩
 rcases h3 with h | ⟨b, o, hb, h4, h5⟩
 ·exact .inl h
 exact .inr ⟨b, o, hb, h4, zBM.chg e (fun _ _ f => f) ts hb h5⟩
theorem zBN (S : Nat → Prop) (w : World) (k : Int) : zAc S w (.mk k [] [] 0 0 false) [.int .i64 k, .slice none 0 0, .slice none 0 0, .int .i64 0, .int .i64 0, .bool false] :=
 zAc.of (zDE.nil _ _ _ _ _) (by simp) (.inl rfl)
theorem zKW {α : Type} {l : List α} (h : l.length = 1) {x : α} (hx : l[0]? = some x) : l = [x] := by
  match l, h with
  | [y], _ => simp at hx; rw [hx]
end Go.Proofs
namespace Go.Proofs
open Go Go.Eng
set_option maxRecDepth 100000
theorem zAj.chg {S M : Nat → Prop} {w w' : World} (c : Chg M w w') (hm : ∀ b, S b → ¬ M b) : ∀ {ts : List Re} {rows : List (List Value)}, zAj S w ts rows → zAj S w' ts rows
  | [], _, h => h
  | t :: ts, rows, h => by
    obtain ⟨r, rs, h1, h2, h3⟩ := h
    exact ⟨r, rs, h1, zAc.chg c hm t h2, zAj.chg c hm h3⟩
theorem zAj.mono {S S' : Nat → Prop} {w : World} (hs : ∀ b, S b → S' b) : ∀ {ts : List Re} {rows : List (List Value)}, zAj S w ts rows → zAj S' w ts rows
  | [], _, h => h
  | t :: ts, rows, h => by
    obtain ⟨r, rs, h1, h2, h3⟩ := h
    exact ⟨r, rs, h1, zAc.mono hs t h2, zAj.mono hs h3⟩
theorem zDE.lt {S : Nat → Prop} {w : World} {v : Value} {l : List (Int × Int)} (h : zDE S w 2 v (l.map zDA)) : zDE (fun b => S b ∧ b < w.heap.size) w 2 v (l.map zDA) := by
  obtain ⟨a, cap, h1, h2, h3, h4⟩ := h
  refine ⟨a, cap, h1, h2, h3, ?_⟩
  rcases h4 with h | ⟨b, o, hb, h5, h6⟩
  · exact .inl h
  · cases l with
    | nil => exact .inl rfl
    | cons s r =>
      have := h6 0 (zDA s) rfl 0 _ rfl
      exact .inr ⟨b, o, ⟨hb, World.block_lt_of_cell? w _ this⟩, h5, h6⟩
mutual
theorem zAc.lt {S : Nat → Prop} {w : World} : ∀ (t : Re) {vs : List Value}, zAc S w t vs → zAc (fun b => S b ∧ b < w.heap.size) w t vs
  | .mk k set args mn mx ng, vs, h => by
    simp only [zAc] at h ⊢
    obtain ⟨sa, sc, aa, ac, hv, hs, hl, ha⟩ := h
    refine ⟨sa, sc, aa, ac, hv, zDE.lt hs, hl, ?_⟩
    rcases ha with h | ⟨b, o, hb, h1, h2⟩
    · exact .inl h
    · match args, h2 with
      | [], _ => exact .inl rfl
      | t :: ts, h2 =>
        have h3 := h2
        simp only [zBM] at h3
        obtain ⟨⟨us, h4, h5⟩, _⟩ := h3
        obtain ⟨_, _, _, _, rfl, _⟩ := h5.form
        have := h4 0 _ rfl
        exact .inr ⟨b, o, ⟨hb, World.block_lt_of_cell? w _ this⟩, h1, zBM.lt (t :: ts) h2⟩
theorem zBM.lt {S : Nat → Prop} {w : World} {b : Nat} : ∀ (ts : List Re) {o : Nat}, zBM S w b o ts → zBM (fun b => S b ∧ b < w.heap.size) w b o ts
  | [], _, _ => by simp only [zBM]
  | t :: ts, o, h => by
    simp only [zBM] at h ⊢
    obtain ⟨⟨vs, h1, h2⟩, h3⟩ := h
    exact ⟨⟨vs, h1, zAc.lt t h2⟩, zBM.lt ts h3⟩
end
theorem zCJ.lt {S : Nat → Prop} {w : World} {v : Value} {ts : List Re} (h : zCJ S w v ts) : zCJ (fun b => S b ∧ b < w.heap.size) w v ts := by
  obtain ⟨aa, ac, h1, h2, h3⟩ := h
  refine ⟨aa, ac, h1, h2, ?_⟩
  rcases h3 with h | ⟨b, o, hb, h4, h5⟩
  · exact .inl h
  · match ts, h5 with
    | [], _ => exact .inl rfl
    | t :: ts, h5 =>
      have h6 := h5
      simp only [zBM] at h6
      obtain ⟨⟨us, h7, h8⟩, _⟩ := h6
      obtain ⟨_, _, _, _, rfl, _⟩ := h8.form
      have := h7 0 _ rfl
      exact .inr ⟨b, o, ⟨hb, World.block_lt_of_cell? w _ this⟩, h4, zBM.lt (t :: ts) h5⟩
/-- The arguments while they are made normal one by one. -/
def NSt (f : Re → Re) (Z L : Nat → Prop) (n0 : Nat) (w : World) (aa : Option Addr) (args : List Re) (k : Nat) : Prop :=
 args = [] ∨ ∃ (b : Nat) (rows : List (List Value)) (rest : List Value) (D K : Nat → Prop), aa = some ⟨b, 0, none⟩ ∧ L b ∧ Blk w b (rows.flatten ++ rest).toArray TRe ∧ zAj (fun y => Z y ∨ D y ∨ n0 ≤ y) w ((args.take k).map f) (rows.take k) ∧ zBa Z w (args.drop k) (rows.drop k) K ∧ rows.length = args.length ∧ (∀ r ∈ rows, r.length = 6) ∧ (∀ y, D y → L y ∧ y ≠ b ∧ ¬ K y) ∧ (∀ y, K y → L y ∧ y ≠ b)
theorem NSt.ext {f : Re → Re} {Z L : Nat → Prop} {n0 : Nat} {w w' : World} {aa : Option Addr} {args : List Re} {k : Nat} (h : NSt f Z L n0 w aa args k) (e : Ext w w') : NSt f Z L n0 w' aa args k := by
 rcases h with h | ⟨b, rows, rest, D, K, h1, h2, h3, h4, h5, h6⟩
 ·exact .inl h
 exact .inr ⟨b, rows, rest, D, K, h1, h2, e.keep h3, h4.ext e, zBa.ext e _ h5, h6⟩
theorem zCE {α : Type} {l : List α} {x d : α} (h : l[0]? = some x) : l.headD d = x := by
  cases l with
  | nil => simp at h
  | cons y r => simpa using h
theorem zAj.lt {S : Nat → Prop} {w : World} : ∀ {ts : List Re} {rows : List (List Value)}, zAj S w ts rows → zAj (fun b => S b ∧ b < w.heap.size) w ts rows
  | [], _, h => h
  | t :: ts, rows, h => by
    obtain ⟨r, rs, h1, h2, h3⟩ := h
    exact ⟨r, rs, h1, zAc.lt t h2, zAj.lt h3⟩
end Go.Proofs
