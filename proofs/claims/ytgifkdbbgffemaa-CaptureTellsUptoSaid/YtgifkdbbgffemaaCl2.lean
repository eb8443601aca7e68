/- Contracts and plain lemmas, part 2. -/
import Derived.Tactics
import Derived.Deep.Quiet
import Derived.Laws.AppendOwn
import Derived.KernelRfl
import Derived.Laws.Entries
import Derived.Laws.Build
import Derived.Below
import Derived.RowKit3
import Derived.StillTail
import Derived.Sort.Grow
import Derived.Deep.Draws
import Derived.Test.YtgifkdbbgffemaaChecked
import Derived.Laws.StructEq
import Derived.MapKept
import Derived.Laws.BytesArg
import Derived.DeepKeys3
import Derived.OpenShut
import Derived.ChangeSlices
import Derived.Test.YtgifkdbbgffemaaRows
import Derived.Test.YtgifkdbbgffemaaCl1
namespace Go.Eng
open Go
abbrev FctS := (Nat → Bool) → Env → Fct
def HoldsS (ds : List Nat) (Fs : List FctS) (S : Nat → Bool) (j : Nat) (σ : Env) (w : World) : Prop := ∀ d F, ds[j]? = some d → Fs[j]? = some F → F S σ (σ d) w
def insS (S : Nat → Bool) (i : Nat) : Nat → Bool := fun j => bif Nat.beq j i then true else S j
theorem insS_self (S : Nat → Bool) (i : Nat) : insS S i i = true := by simp [insS]
theorem insS_ne {S : Nat → Bool} {i j : Nat} (h : j ≠ i) : insS S i j = S j := by
 have : Nat.beq j i = false := by cases hb : Nat.beq j i; rfl; exact absurd (Nat.eq_of_beq_eq_true hb) h
 simp [insS, this]
/-- The blocks that the operations change. -/
def MsL : List (Nat × (Nat → Prop)) → Nat → Nat → Prop
  | [], _, _ => False
  | p :: r, j, y => (j = p.1 ∧ p.2 y) ∨ MsL r j y
theorem MsL_or {c : Nat} {M : Nat → Prop} {r : List (Nat × (Nat → Prop))} {j y : Nat} (h : MsL ((c, M) :: r) j y) : (j = c ∧ M y) ∨ MsL r j y := h
def dagOneS (N i : Nat) (hd : List Bool) (o : Oper) (d : Nat) (ws : List Nat) : Bool :=
 (match o.dst with | some d' => Nat.beq d' d && Nat.blt d N | none => Nat.ble N d) && (o.after.all fun e => !Region.binds .any e || (Nat.blt e.on i && hd.getD e.on false)) && (ws.all fun j => o.after.any fun e => Region.binds .any e && Nat.beq e.on j) && guardB hd o
def dagSB (N : Nat) (hd : List Bool) : Nat → List Oper → List Nat → List (List Nat) → List Bool → Bool
  | _, [], [], [], [] => true
  | i, o :: l, d :: ds, ws :: wss, h :: hs => (bif h then dagOneS N i hd o d ws else Nat.ble N d) && dagSB N hd (i + 1) l ds wss hs
  | _, _, _, _, _ => false
theorem dagSB_get {N : Nat} {hd : List Bool} : ∀ {i : Nat} {l : List Oper} {ds : List Nat} {wss : List (List Nat)} {hs : List Bool}, dagSB N hd i l ds wss hs = true → ∀ {j : Nat} {o : Oper}, l[j]? = some o → ∃ d ws h, ds[j]? = some d ∧ wss[j]? = some ws ∧ hs[j]? = some h ∧ (bif h then dagOneS N (i + j) hd o d ws else Nat.ble N d) = true
  | _, [], _, _, _, _, j, o, h => by simp at h
  | i, x :: l, [], _, _, hB, _, _, _ => by simp [dagSB] at hB
  | i, x :: l, d :: ds, [], _, hB, _, _, _ => by simp [dagSB] at hB
  | i, x :: l, d :: ds, ws :: wss, [], hB, _, _, _ => by simp [dagSB] at hB
  | i, x :: l, d :: ds, ws :: wss, h0 :: hs, hB, j, o, h => by
    simp only [dagSB, Bool.and_eq_true] at hB
    cases j with
    | zero => simp at h; subst h; exact ⟨d, ws, h0, rfl, rfl, rfl, hB.1⟩
    | succ j =>
      simp at h
      obtain ⟨d', ws', h', h1, h2, h3, h4⟩ := dagSB_get hB.2 h
      exact ⟨d', ws', h', by simpa using h1, by simpa using h2, by simpa using h3, by rw [show i + (j + 1) = i + 1 + j from by omega]; exact h4⟩
theorem dagSB_len {N : Nat} {hd : List Bool} : ∀ {i : Nat} {l : List Oper} {ds : List Nat} {wss : List (List Nat)} {hs : List Bool}, dagSB N hd i l ds wss hs = true → ds.length = l.length ∧ hs.length = l.length ∧ wss.length = l.length
  | _, [], [], [], [], _ => ⟨rfl, rfl, rfl⟩
  | _, [], [], [], _ :: _, hB => by simp [dagSB] at hB
  | _, [], [], _ :: _, _, hB => by simp [dagSB] at hB
  | _, [], _ :: _, _, _, hB => by simp [dagSB] at hB
  | i, x :: l, [], _, _, hB => by simp [dagSB] at hB
  | i, x :: l, d :: ds, [], _, hB => by simp [dagSB] at hB
  | i, x :: l, d :: ds, ws :: wss, [], hB => by simp [dagSB] at hB
  | i, x :: l, d :: ds, ws :: wss, h0 :: hs, hB => by
    simp only [dagSB, Bool.and_eq_true] at hB
    have := dagSB_len hB.2
    simp [this.1, this.2.1, this.2.2]
def DagStepS (P : Program) (N : Nat) (ds : List Nat) (Fs : List FctS) (σ : Env) (w : World) (Ms : Nat → Nat → Prop) (cl : List (List Nat)) (i : Nat) (o : Oper) (ws : List Nat) (F : FctS) : Prop :=
 ∀ (S : Nat → Bool) σ' w', S i = false → (∀ j, (cl.getD j []).contains i = true → S j = false) → Chg (fun y => ∃ j, S j = true ∧ Ms j y) w w' → (∀ t, ds.contains t = false → σ' t = σ t) → (∀ j d, ds[j]? = some d → S j = false → σ' d = σ d) → (∀ j, ws.contains j = true → S j = true ∧ HoldsS ds Fs S j σ' w') →
  (Guarded ds o σ' ∧ DoesT (Ms i) P N o (fun v w => F (insS S i) σ' (Go.Eng.valOf o v) w) σ' w') ∨ (Unmet ds o σ' ∧ F (insS S i) σ' undef w')
/-- A fact lasts while other operations are done. -/
def StabS (Ms : Nat → Nat → Prop) (i : Nat) (ws : List Nat) (F : FctS) : Prop := ∀ p, p ≠ i → ws.contains p = false → ∀ S σ v w w', S i = true → S p = false → Chg (Ms p) w w' → F S σ v w → F (insS S p) σ v w'
/-- A fact speaks of the values of the operations that it waits for alone. -/
def LocS (ds : List Nat) (ws : List Nat) (F : FctS) : Prop := ∀ S (σ1 σ2 : Env), (∀ j d, ws.contains j = true → ds[j]? = some d → σ2 d = σ1 d) → ∀ v w, F S σ1 v w → F S σ2 v w
inductive DagStepsS (P : Program) (N : Nat) (ds : List Nat) (Fs : List FctS) (σ : Env) (w : World) (Ms : Nat → Nat → Prop) (cl : List (List Nat)) : Nat → List Oper → List (List Nat) → List Bool → List FctS → Prop where
  | nil {i : Nat} : DagStepsS P N ds Fs σ w Ms cl i [] [] [] []
  | cons {i : Nat} {o : Oper} {ws : List Nat} {F : FctS} {l : List Oper} {wss : List (List Nat)} {hs : List Bool} {Gs : List FctS} (s : StabS Ms i ws F) (lc : LocS ds ws F) (h : DagStepS P N ds Fs σ w Ms cl i o ws F) (t : DagStepsS P N ds Fs σ w Ms cl (i + 1) l wss hs Gs) : DagStepsS P N ds Fs σ w Ms cl i (o :: l) (ws :: wss) (true :: hs) (F :: Gs)
  | tail {i : Nat} {o : Oper} {ws : List Nat} {F : FctS} {l : List Oper} {wss : List (List Nat)} {hs : List Bool} {Gs : List FctS} (t : DagStepsS P N ds Fs σ w Ms cl (i + 1) l wss hs Gs) : DagStepsS P N ds Fs σ w Ms cl i (o :: l) (ws :: wss) (false :: hs) (F :: Gs)
theorem DagStepsS.get {P : Program} {N : Nat} {ds : List Nat} {Fs : List FctS} {σ : Env} {w : World} {Ms : Nat → Nat → Prop} {cl : List (List Nat)} : ∀ {i : Nat} {l : List Oper} {wss : List (List Nat)} {hs : List Bool} {Gs : List FctS}, DagStepsS P N ds Fs σ w Ms cl i l wss hs Gs → ∀ {j : Nat} {o : Oper}, l[j]? = some o → hs[j]? = some true → ∃ ws F, wss[j]? = some ws ∧ Gs[j]? = some F ∧ StabS Ms (i + j) ws F ∧ LocS ds ws F ∧ DagStepS P N ds Fs σ w Ms cl (i + j) o ws F
  | _, _, _, _, _, .nil, j, o, h, _ => by simp at h
  | i, _, _, _, _, .cons s lc h t, 0, o, ho, _ => by
    simp at ho; subst ho
    exact ⟨_, _, rfl, rfl, s, lc, h⟩
  | _, _, _, _, _, .tail t, 0, o, h, ht => by simp at ht
  | i, _, _, _, _, .cons s lc h t, j + 1, o, ho, ht => by
    obtain ⟨ws, F, h1, h2, h3, h5, h4⟩ := t.get (j := j) (by simpa using ho) (by simpa using ht)
    exact ⟨ws, F, by simpa using h1, by simpa using h2, by rw [show i + (j + 1) = i + 1 + j from by omega]; exact h3, h5, by rw [show i + (j + 1) = i + 1 + j from by omega]; exact h4⟩
  | i, _, _, _, _, .tail t, j + 1, o, ho, ht => by
    obtain ⟨ws, F, h1, h2, h3, h5, h4⟩ := t.get (j := j) (by simpa using ho) (by simpa using ht)
    exact ⟨ws, F, by simpa using h1, by simpa using h2, by rw [show i + (j + 1) = i + 1 + j from by omega]; exact h3, h5, by rw [show i + (j + 1) = i + 1 + j from by omega]; exact h4⟩
def allS (hd : List Bool) : Nat → Bool := fun j => hd.getD j false
theorem Wp_dagS {P : Program} {N : Nat} {Q : Post} {σ : Env} {w : World} {id : Nat} {l : List Oper} (Ms : Nat → Nat → Prop) (hd : List Bool) (ts : List Nat) (ds : List Nat) (wss cl : List (List Nat)) (Fs : List FctS) {Gs : List FctS} (hG : Fs = Gs) (hC : closB wss cl = true) (hm : P.follows .mixedOrders = true) (hB : dagSB N hd 0 l ds wss hd = true) (hn : nodupB ds = true)
    (hT : (tailPB l hd ts && permB l.toArray ts hd.toArray) = true) (hN : Nat.beq (leftH hd (List.replicate l.length false) + ts.length) l.length = true)
    (steps : ∀ w1, Ext w w1 → DagStepsS P N ds Fs σ w1 Ms cl 0 l cl hd Gs)
    (k : ∀ σ' w1 w', Ext w w1 → Chg (fun y => ∃ j, hd.getD j false = true ∧ Ms j y) w1 w' → (∀ t, ds.contains t = false → σ' t = σ t) → (∀ j, hd[j]? = some true → HoldsS ds Fs (allS hd) j σ' w') → WpL P N l.toArray (Q .normal) Q (ts.filterMap fun k => l[k]?) σ' w') : Wp P N (.region id l.toArray true) Q σ w := by
  intro a ha he
  have eQ : lift N (thn (Q .normal) Q) = lift N Q := by funext e a w; cases e <;> rfl
  refine wp_region_any hm ?_
  obtain ⟨w1, hw1⟩ : ∃ w1 : World, w1 = { w with drawn := w.drawn + 1 } := ⟨_, rfl⟩
  have hE1 : Ext w w1 := by rw [hw1]; exact drew_ext w
  rw [← hw1]
  have hst := steps w1 hE1
  rw [← hG] at hst
  rw [Bool.and_eq_true] at hT
  obtain ⟨hT1, hT2⟩ := hT
  obtain ⟨hlen, hlen2, hlen3⟩ := dagSB_len hB
  let Lf : Array Bool → Nat → Bool := fun listed j => listed.getD j false
  have key : ∀ (m : Nat) (listed : Array Bool) (a : Act) (w' : World), leftH hd listed.toList = m → listed.size = l.length → (∀ (t : Nat), hd[t]? = some false → listed.toList[t]? = some false) → (∀ (j : Nat) oj, l[j]? = some oj → listed.getD j false = true → ∀ e ∈ oj.after, Region.binds .any e = true → listed.getD e.on false = true) → Ok N a → Chg (fun y => ∃ j, listed.getD j false = true ∧ Ms j y) w1 w' → (∀ t, ds.contains t = false → env a t = σ t) → (∀ j d, ds[j]? = some d → listed.getD j false = false → env a d = σ d) → (∀ j, hd[j]? = some true → listed.getD j false = true → HoldsS ds Fs (Lf listed) j (env a) w') →
      wpAny P .any l.toArray (lift N Q) (m + ts.length) listed a w' := by
    intro m
    induction m with
    | zero =>
      intro listed a w' hc0 hsz htl hcd ha hx hu hv0 hh
      have hl : listed = hd.toArray := by
        apply Array.ext'
        exact leftH_zero (by simp; omega) hc0 htl
      have hLf : Lf listed = allS hd := by
        funext j
        show listed.getD j false = hd.getD j false
        rw [hl]; simp [List.getD_eq_getElem?_getD]
      rw [Nat.zero_add]
      have h1 := k (env a) w1 w' hE1 (hx.mono fun y _ h => by
        obtain ⟨j, h1, h2⟩ := h
        have : allS hd j = true := by rw [← hLf]; exact h1
        exact ⟨j, this, h2⟩) hu (fun j hj => by rw [← hLf]; exact hh j hj (getD_arr (by rw [hl]; exact hj))) a ha rfl
      rw [eQ] at h1
      exact wpAny_of_perm ts listed a w' (by rw [hl]; exact hT2) (by simpa using h1)
    | succ m ih =>
      intro listed a w' hcm hsz htl hcd ha hx hu hv0 hh
      obtain ⟨i0, hi0, hi1⟩ := leftH_pos (hd := hd) (listed := listed.toList) (by omega)
      rw [show m + 1 + ts.length = (m + ts.length) + 1 by omega]
      refine ⟨fun hr => ?_, fun i hi => ?_⟩
      · exfalso
        have hall : ∀ i : Nat, hd[i]? = some true → listed.getD i true = true := by
          intro i
          induction i using Nat.strongRecOn with
          | _ i ihi =>
            intro hi
            cases hv : listed.getD i true with
            | true => rfl
            | false =>
              exfalso
              obtain ⟨o, ho⟩ := get_of_lt (l := l) (i := i) (by have := lt_of_get hi; omega)
              obtain ⟨d, ws, h, _, _, h2, h3⟩ := dagSB_get hB ho
              rw [hi] at h2
              cases h2
              simp only [cond_true, dagOneS, Bool.and_eq_true, Nat.zero_add] at h3
              have : i ∈ Region.ready .any l.toArray listed := by
                refine mem_ready.2 ⟨hv, o, by simpa using ho, fun e he hb => ?_⟩
                have h4 := h3.1.1.2
                simp only [Array.all_eq_true_iff_forall_mem, Bool.or_eq_true, Bool.not_eq_true', Bool.and_eq_true] at h4
                have h6 := (h4 e he).resolve_left (by simp [hb])
                have hlt : e.on < i := by simpa [Nat.blt_eq] using h6.1
                have h7 := h6.2
                have hj0 : e.on < hd.length := by have := lt_of_get hi; omega
                have h8 : hd[e.on]? = some true := by
                  rw [List.getD_eq_getElem?_getD, List.getElem?_eq_getElem hj0, Option.getD_some] at h7
                  rw [List.getElem?_eq_getElem hj0, h7]
                have h9 := ihi e.on hlt h8
                have hj : e.on < listed.size := by omega
                simpa only [Array.getD_eq_getD_getElem?, Array.getElem?_eq_getElem hj, Option.getD_some] using h9
              rw [hr] at this
              cases this
        have := hall i0 hi0
        rw [getD_arr hi1] at this
        cases this
      · obtain ⟨h1, o, h2, h3⟩ := mem_ready.1 hi
        have ho : l[i]? = some o := by simpa using h2
        have hil : i < l.length := lt_of_get ho
        have hih : hd[i]? = some true := by
          obtain ⟨b, hb⟩ := get_of_lt (l := hd) (i := i) (by omega)
          cases b with
          | true => exact hb
          | false =>
            exfalso
            have h4 := List.all_eq_true.1 hT1 i (List.mem_range.2 hil)
            rw [List.getD_eq_getElem?_getD, hb, Option.getD_some, Bool.false_or, Bool.and_eq_true, Bool.or_eq_true] at h4
            have edge : ∀ u, edgeB l i u = true → listed.getD u false = true := fun u hu' => by
              unfold edgeB at hu'
              rw [ho] at hu'
              simp only [Array.any_eq_true', Bool.and_eq_true] at hu'
              obtain ⟨e, he, hb1, hb2⟩ := hu'
              have := Nat.eq_of_beq_eq_true hb2
              rw [← this]
              exact h3 e he hb1
            rcases h4.2 with h5 | h5
            · have h6 := List.all_eq_true.1 h5 i0 (List.mem_range.2 (by have := lt_of_get hi0; omega))
              rw [List.getD_eq_getElem?_getD, hi0, Option.getD_some, Bool.not_true, Bool.false_or] at h6
              have := edge i0 h6
              rw [getD_arr hi1] at this
              cases this
            · obtain ⟨p, _, h6⟩ := List.any_eq_true.1 h5
              rw [Bool.and_eq_true, Bool.not_eq_true'] at h6
              have h7 := edge p h6.2
              have hp : hd[p]? = some false := by
                have h8 := h6.1
                rw [List.getD_eq_getElem?_getD] at h8
                cases h9 : hd[p]? with
                | none => rw [h9] at h8; cases h8
                | some b => rw [h9, Option.getD_some] at h8; rw [h8]
              rw [getD_arr (htl p hp)] at h7
              cases h7
        obtain ⟨d, ws, h, hd', hws, hhs, h4⟩ := dagSB_get hB ho
        rw [hih] at hhs
        cases hhs
        obtain ⟨ci, F, hci, hF, hstab, hloc, hstep⟩ := hst.get ho hih
        rw [Nat.zero_add] at hstab hstep
        simp only [cond_true, dagOneS, Bool.and_eq_true, List.all_eq_true, Array.any_eq_true', Nat.zero_add] at h4
        obtain ⟨⟨⟨hdst, _⟩, hwait⟩, hgB⟩ := h4
        have hlisted : ∀ j, listed.getD j false = true → hd[j]? = some true := fun j hj => by
          obtain ⟨b, hb⟩ := get_of_lt (l := hd) (i := j) (by
            rcases Nat.lt_or_ge j listed.size with h9 | h9
            · omega
            · simp [Array.getD_eq_getD_getElem?, Array.getElem?_eq_none h9] at hj)
          cases b with
          | true => exact hb
          | false => rw [getD_arr (htl j hb)] at hj; cases hj
        have hcl : ∀ j, listed.getD j false = true → ∀ c, (cl.getD j []).contains c = true → listed.getD c false = true := by
          intro j
          induction j using Nat.strongRecOn with
          | _ j ihj =>
            intro hlj c hc
            have hjh := hlisted j hlj
            obtain ⟨oc, hoc⟩ := get_of_lt (l := l) (i := j) (by have := lt_of_get hjh; omega)
            obtain ⟨dc, wsc, hb, _, hwsc, hhb, h5⟩ := dagSB_get hB hoc
            rw [hjh] at hhb
            cases hhb
            simp only [cond_true, dagOneS, Bool.and_eq_true, List.all_eq_true, Array.any_eq_true', Array.all_eq_true_iff_forall_mem, Bool.or_eq_true, Bool.not_eq_true', Nat.zero_add] at h5
            have hdir : ∀ e' ∈ wsc, listed.getD e' false = true ∧ e' < j := by
              intro e' he'
              obtain ⟨e, he, hb1, hb2⟩ := h5.1.2 e' he'
              have hei : e.on = e' := Nat.eq_of_beq_eq_true hb2
              have h6 := hcd j oc hoc hlj e he hb1
              have h7 := (h5.1.1.2 e he).resolve_left (by simp [hb1])
              rw [hei] at h6 h7
              exact ⟨h6, by simpa [Nat.blt_eq] using h7.1⟩
            rcases closB_get hC hwsc hc with h6 | ⟨e', he', h6⟩
            · exact (hdir c h6).1
            · exact ihj e' (hdir e' he').2 (hdir e' he').1 c h6
        have hclo : ∀ j, ci.contains j = true → listed.getD j false = true := by
          intro j hj
          have hj' : (cl.getD i []).contains j = true := by rw [List.getD_eq_getElem?_getD, hci, Option.getD_some]; exact hj
          have hdir : ∀ e' ∈ ws, listed.getD e' false = true := by
            intro e' he'
            obtain ⟨e, he, hb1, hb2⟩ := hwait e' he'
            have : e.on = e' := Nat.eq_of_beq_eq_true hb2
            exact this ▸ h3 e he hb1
          rcases closB_get hC hws hj' with h6 | ⟨e', he', h6⟩
          · exact hdir j h6
          · exact hcl e' (hdir e' he') j h6
        have hSi : Lf listed i = false := getD_both h1
        have hSn : ∀ j, (cl.getD j []).contains i = true → Lf listed j = false := by
          intro j hj
          cases hlj : Lf listed j with
          | false => rfl
          | true =>
            exfalso
            have := hcl j hlj i hj
            rw [getD_both h1] at this; cases this
        have hH : ∀ j, ci.contains j = true → Lf listed j = true ∧ HoldsS ds Fs (Lf listed) j (env a) w' := fun j hj => ⟨hclo j hj, hh j (hlisted j (hclo j hj)) (hclo j hj)⟩
        have hil2 : i < listed.size := by omega
        have hLs : Lf (listed.setIfInBounds i true) = insS (Lf listed) i := by
          funext j
          by_cases hij : j = i
          · subst hij
            rw [insS_self]
            show (listed.setIfInBounds j true).getD j false = true
            simp [Array.getD_eq_getD_getElem?, hil2]
          · rw [insS_ne hij]
            exact getD_set_ne _ (Ne.symm hij)
        have hstep2 : ∀ w2, Chg (Ms i) w' w2 → Chg (fun y => ∃ j, (listed.setIfInBounds i true).getD j false = true ∧ Ms j y) w1 w2 := by
          intro w2 hx2
          have hg : (listed.setIfInBounds i true).getD i false = true := by simp [Array.getD_eq_getD_getElem?, hil2]
          refine Chg.step (hx.mono fun y _ h => ?_) hx2 (fun y _ h => ⟨i, hg, h⟩)
          obtain ⟨j, h5, h6⟩ := h
          by_cases hij : j = i
          · exact ⟨i, hg, hij ▸ h6⟩
          · exact ⟨j, by rw [getD_set_ne _ (Ne.symm hij)]; exact h5, h6⟩
        have cont : ∀ v w2, Chg (Ms i) w' w2 → F (insS (Lf listed) i) (env a) (Go.Eng.valOf o v) w2 → wpAny P .any l.toArray (lift N Q) (m + ts.length) (listed.setIfInBounds i true) (a.put o.dst v) w2 := by
          intro v w2 hx2 hv
          have henv : (∀ t, t ≠ d → env (a.put o.dst v) t = env a t) ∧ env (a.put o.dst v) d = Go.Eng.valOf o v := by
            cases hod : o.dst with
            | none =>
              rw [hod] at hdst
              have hNd : N ≤ d := Nat.le_of_ble_eq_true hdst
              refine ⟨fun t _ => rfl, ?_⟩
              simp only [Go.Eng.valOf, hod]
              show a.tmps.getD d undef = undef
              have : a.tmps.size ≤ d := by rw [ha.size]; exact hNd
              simp [Array.getElem?_eq_none this]
            | some d' =>
              rw [hod] at hdst
              simp only [Bool.and_eq_true] at hdst
              have hd1 : d' = d := Nat.eq_of_beq_eq_true hdst.1
              have hd2 : d < N := by simpa [Nat.blt_eq] using hdst.2
              subst hd1
              rw [env_put ha hd2 v]
              refine ⟨fun t ht => ?_, ?_⟩
              · have : Nat.beq t d' = false := by cases hb : Nat.beq t d'; rfl; exact absurd (Nat.eq_of_beq_eq_true hb) ht
                simp [upd, this]
              · simp [upd, Go.Eng.valOf, hod]
          have hlf : listed.toList[i]? = some false := by
            simp only [Array.getD_eq_getD_getElem?, Array.getElem?_eq_getElem hil2, Option.getD_some] at h1
            rw [Array.getElem?_toList, Array.getElem?_eq_getElem hil2, h1]
          refine ih _ _ _ ?_ (by simpa using hsz) (fun t ht => ?_) (fun j oj hoj hlj e he hb => ?_) (ha.put _ _) (hstep2 w2 hx2) ?_ ?_ ?_
          · rw [Array.toList_setIfInBounds]
            have := leftH_set hih hlf
            omega
          · rw [Array.toList_setIfInBounds, List.getElem?_set]
            have hne : i ≠ t := fun e => by rw [← e, hih] at ht; cases ht
            rw [if_neg hne]
            exact htl t ht
          · refine getD_set_true ?_
            by_cases hij : j = i
            · subst hij
              rw [ho] at hoj; cases hoj
              exact h3 e he hb
            · rw [getD_set_ne _ (Ne.symm hij)] at hlj
              exact hcd j oj hoj hlj e he hb
          · intro t ht
            rw [henv.1 t (fun h => by
              subst h
              have := List.mem_of_getElem? hd'
              simp [this] at ht), hu t ht]
          · intro j d2 hd2 hj2
            by_cases hij : j = i
            · subst hij
              have hg2 : (listed.setIfInBounds j true).getD j false = true := by simp [Array.getD_eq_getD_getElem?, hil2]
              rw [hg2] at hj2; cases hj2
            · rw [getD_set_ne _ (Ne.symm hij)] at hj2
              rw [henv.1 d2 (fun h => by subst h; exact hij (nodupB_get hn hd2 hd')), hv0 j d2 hd2 hj2]
          · intro j hjh hj d2 F2 hd2 hF2
            rw [hLs]
            by_cases hij : j = i
            · subst hij
              rw [hd'] at hd2; cases hd2
              rw [hF] at hF2; cases hF2
              rw [henv.2]
              refine hloc _ (env a) _ (fun j' d2 hj' hd2 => henv.1 d2 fun he => ?_) _ _ hv
              have := nodupB_get hn (he ▸ hd2) hd'
              subst this
              have := hclo j' hj'
              rw [getD_both h1] at this
              cases this
            · have hne : d2 ≠ d := by
                intro h
                subst h
                exact hij (nodupB_get hn hd2 hd')
              rw [henv.1 d2 hne]
              rw [getD_set_ne _ (Ne.symm hij)] at hj
              have h6 := hh j hjh hj d2 F2 hd2 hF2
              obtain ⟨oj, hoj⟩ := get_of_lt (l := l) (i := j) (by have := lt_of_get hjh; omega)
              obtain ⟨cj, Fj, hcj, hFj, hsj, hlj, _⟩ := hst.get hoj hjh
              rw [hF2] at hFj; cases hFj
              rw [Nat.zero_add] at hsj
              have hgc : cl.getD j [] = cj := by rw [List.getD_eq_getElem?_getD, hcj, Option.getD_some]
              have hcji : cj.contains i = false := by
                cases hcji : cj.contains i with
                | false => rfl
                | true =>
                  exfalso
                  have := hSn j (by rw [hgc]; exact hcji)
                  have hj' : Lf listed j = true := hj
                  rw [hj'] at this; cases this
              refine hlj _ (env a) _ (fun j' d3 hj' hd3 => henv.1 d3 fun he => ?_) _ _ (hsj i (Ne.symm hij) hcji (Lf listed) (env a) _ _ _ hj hSi hx2 h6)
              have h8 := nodupB_get hn (he ▸ hd3) hd'
              subst h8
              rw [hcji] at hj'
              cases hj'
        have gd : ∀ j b, o.guard = some (j, b) → ∀ dj, ds[j]? = some dj → ((∃ oj, l[j]? = some oj ∧ oj.dst = some dj) ∧ dj < N) ∨ (N ≤ dj ∧ ∃ oj, l[j]? = some oj ∧ oj.dst = none) := fun j b hgd dj hdj => by
          obtain ⟨oj, hoj⟩ := get_of_lt (l := l) (i := j) (by have := lt_of_get hdj; omega)
          obtain ⟨dj', _, hj, hdj', _, h5, h6⟩ := dagSB_get hB hoj
          rw [hdj] at hdj'
          cases hdj'
          unfold guardB at hgB
          rw [hgd] at hgB
          simp only at hgB
          have h7 : hj = true := by rw [List.getD_eq_getElem?_getD, h5, Option.getD_some] at hgB; exact hgB
          rw [h7] at h6
          simp only [cond_true, Bool.and_eq_true, dagOneS] at h6
          have hdst2 := h6.1.1.1
          split at hdst2
          · rename_i d2 hq
            rw [Bool.and_eq_true] at hdst2
            exact .inl ⟨⟨oj, hoj, by rw [hq, Nat.eq_of_beq_eq_true hdst2.1]⟩, by simpa [Nat.blt_eq] using hdst2.2⟩
          · rename_i hq
            exact .inr ⟨Nat.le_of_ble_eq_true hdst2, oj, hoj, hq⟩
        rcases hstep (Lf listed) (env a) w' hSi hSn hx hu hv0 hH with ⟨hg, hdo⟩ | ⟨⟨j, b, dj, hgd, hdj, hvj⟩, hund⟩
        · have hw : Region.wanted o (yielded l.toArray a.tmps) = true := by
            cases hgd : o.guard with
            | none => simp [Region.wanted, hgd]
            | some p =>
              obtain ⟨j, b⟩ := p
              obtain ⟨dj, hdj, hvj⟩ := hg j b hgd
              rcases gd j b hgd dj hdj with ⟨hdst2, hdN2⟩ | ⟨hge, _⟩
              · have h6 : a.tmps[dj]? = some (Value.bool b) := by
                  have h2 : a.tmps.getD dj undef = .bool b := hvj
                  have hlt : dj < a.tmps.size := by rw [ha.size]; exact hdN2
                  rw [Array.getElem?_eq_getElem hlt]
                  simpa [hlt] using h2
                obtain ⟨oj, hoj, hdst2⟩ := hdst2
                simp [Region.wanted, hgd, yielded, hoj, hdst2, h6]
              · exfalso
                have h2 : a.tmps.getD dj undef = .bool b := hvj
                have : a.tmps.size ≤ dj := by rw [ha.size]; exact hge
                simp [Array.getElem?_eq_none this, undef] at h2
          unfold wpOp
          simp only [h2, hw, if_true]
          exact Or.inl (hdo a ha rfl _ _ cont)
        · have hw : Region.wanted o (yielded l.toArray a.tmps) = false := by
            rcases gd j b hgd dj hdj with ⟨hdst2, hdN2⟩ | ⟨_, oj, hoj, hq⟩
            · have hlt : dj < a.tmps.size := by rw [ha.size]; exact hdN2
              have h6 : a.tmps[dj]? = some (env a dj) := by
                rw [Array.getElem?_eq_getElem hlt]
                simp [env, hlt]
              obtain ⟨oj, hoj, hdst2⟩ := hdst2
              rcases hvj with hvj | hvj
              · rw [hvj] at h6
                cases b <;> simp [Region.wanted, hgd, yielded, hoj, hdst2, h6]
              · rw [hvj] at h6
                simp [Region.wanted, hgd, yielded, hoj, hdst2, h6, undef]
            · simp [Region.wanted, hgd, yielded, hoj, hq]
          unfold wpOp
          simp only [h2, hw, Bool.false_eq_true, if_false]
          exact cont undef w' (Chg.refl _ _) (by
            have : Go.Eng.valOf o undef = undef := by unfold Go.Eng.valOf; split <;> rfl
            rw [this]; exact hund)
  have h1 := key (leftH hd (Array.replicate l.toArray.size false).toList) (Array.replicate l.toArray.size false) a w1 rfl (by simp) (fun t ht => by have h9 := lt_of_get ht; rw [Array.toList_replicate, List.getElem?_replicate, if_pos (by rw [List.size_toArray]; omega)]) (fun j oj _ hl => (by rw [getD_replicate_false] at hl; cases hl)) ha (Chg.refl _ _) (fun t _ => by rw [he]) (fun j d _ _ => by rw [he]) (fun j _ hj => by rw [getD_replicate_false] at hj; cases hj)
  have e3 : leftH hd (Array.replicate l.toArray.size false).toList + ts.length = l.toArray.size := by have h9 := Nat.eq_of_beq_eq_true hN; simpa using h9
  rw [e3] at h1
  exact h1
section
variable {Ms : Nat → Nat → Prop} {i : Nat} {ws ds : List Nat}
theorem StabS.eq {u : Value} : StabS Ms i ws (fun _ _ v _ => v = u) := fun _ _ _ _ _ _ _ _ _ _ _ h => h
theorem StabS.chg {F : Fct} {U : Nat → Prop} (hF : ∀ v w w', Chg U w w' → F v w → F v w') (hM : ∀ p y, p ≠ i → ws.contains p = false → Ms p y → U y) : StabS Ms i ws (fun _ _ => F) :=
 fun p h1 h2 _ _ v w w' _ _ x h => hF v w w' (x.mono fun y _ hy => hM p y h1 h2 hy) h
theorem StabS.till {F : Fct} {U : Nat → Prop} {c : Nat} (hF : ∀ v w w', Chg U w w' → F v w → F v w') (hM : ∀ p y, p ≠ i → ws.contains p = false → p ≠ c → Ms p y → U y) : StabS Ms i ws (fun S _ v w => S c = false → F v w) :=
 fun p h1 h2 S _ v w w' _ _ x h hc => by
  have hpc : p ≠ c := fun e => by subst e; rw [insS_self] at hc; cases hc
  rw [insS_ne (Ne.symm hpc)] at hc
  exact hF v w w' (x.mono fun y _ hy => hM p y h1 h2 hpc hy) (h hc)
theorem LocS.const {G : (Nat → Bool) → Fct} : LocS ds ws (fun S _ => G S) := fun _ _ _ _ _ _ h => h
end
theorem qD {P : Program} {N : Nat} {ds : List Nat} {Fs : List FctS} {σ : Env} {w : World} {Ms : Nat → Nat → Prop} {cl : List (List Nat)} {i : Nat} {dst : Option Tmp} {op : Op} {ty : TypeId} {pos : String} {af : Array Edge} {ws : List Nat} {u : Value} {l : List Oper} {wss : List (List Nat)} {hs : List Bool} {Gs : List FctS}
  (h : ∀ (S : Nat → Bool) σ' w', S i = false → (∀ j, (cl.getD j []).contains i = true → S j = false) → Chg (fun y => ∃ j, S j = true ∧ Ms j y) w w' → (∀ t, ds.contains t = false → σ' t = σ t) → (∀ j d, ds[j]? = some d → S j = false → σ' d = σ d) → (∀ j, ws.contains j = true → S j = true ∧ HoldsS ds Fs S j σ' w') → DoesT (Ms i) P N ⟨dst, op, ty, pos, af, none⟩ (fun v _ => Go.Eng.valOf ⟨dst, op, ty, pos, af, none⟩ v = u) σ' w')
  (t : DagStepsS P N ds Fs σ w Ms cl (i + 1) l wss hs Gs) : DagStepsS P N ds Fs σ w Ms cl i (⟨dst, op, ty, pos, af, none⟩ :: l) (ws :: wss) (true :: hs) ((fun _ _ v _ => v = u) :: Gs) :=
 .cons StabS.eq LocS.const (fun S s' w' a b c d e f => .inl ⟨Guarded_none rfl, h S s' w' a b c d e f⟩) t
section
variable {M : Nat → Prop} {P : Program} {N : Nat} {o : Oper} {R : Fct} {σ : Env} {w : World} {dst : Option Tmp} {ty : TypeId} {pos : String} {af : Array Edge} {g : Option (Nat × Bool)} {t : TypeId}
theorem DoesT_pure {v : Value} (hr : (execOp (ev σ) o).run P w = .ok (.value v) w) (h : R v w) : DoesT M P N o R σ w := DoesT_val hr (Chg.refl _ _) h
theorem DoesT_callE {f : FuncId} {args : Array Value} (hr : (execOp (ev σ) o).run P w = .ok (.enter f args) w) (hc : Ret P f args w fun v w' => R v w' ∧ Ext w w') : DoesT M P N o R σ w :=
 DoesT_enter hr (hc.mono fun _ _ h => ⟨h.1, Ext.chg h.2⟩)
theorem DoesT_alloc {d hs : Nat} {z : Value} {c : Array Value} (hz : Zer P t z) (hc : z.cells = c) (hh : hs ≤ w.heap.size) : DoesT M P N ⟨some d, .alloc t, ty, pos, af, g⟩ (alF t c hs) σ w := by
 subst hc
 have hn := New.mk' w z.cells t
 exact DoesT_val (v := .pointer (some ⟨w.heap.size, 0, none⟩)) (by simp [execOp, Instr.alloc, hz.run, newVar, newRow]) (Ext.chg hn.ext) ⟨_, rfl, hn.blk, hh⟩
end
def putF (sa n : Nat) (T : TypeId) (G : Fct) : FctS := fun _ s _ w => ∃ b vs, s sa = .pointer (some ⟨b, 0, none⟩) ∧ n ≤ b ∧ Blk w b vs T ∧ G (.agg vs) w
section
variable {Ms : Nat → Nat → Prop} {i : Nat} {ws ds : List Nat}
theorem StabS.put {sa n : Nat} {T : TypeId} {G : Fct} (hG : ∀ v w w', Ext w w' → G v w → G v w') (hM : ∀ p y, p ≠ i → ws.contains p = false → Ms p y → False) : StabS Ms i ws (putF sa n T G) :=
 fun p h1 h2 _ _ v w w' _ _ x h => by
  obtain ⟨b, vs, h3, h4, h5, h6⟩ := h
  have hx : Ext w w' := x.mono fun y _ hy => (hM p y h1 h2 hy).elim
  exact ⟨b, vs, h3, h4, Ext.keep hx h5, hG _ _ _ hx h6⟩
theorem LocS.put {sa n j : Nat} {T : TypeId} {G : Fct} (hj : ws.contains j = true) (hd : ds[j]? = some sa) : LocS ds ws (putF sa n T G) :=
 fun _ σ1 σ2 hs v w h => by
  obtain ⟨b, vs, h3, h4⟩ := h
  exact ⟨b, vs, by rw [hs j sa hj hd]; exact h3, h4⟩
end
end Go.Eng
namespace Go.Proofs
open Go Go.Eng
set_option maxRecDepth 100000
abbrev Grp := List (Int × Int)
abbrev Crs := Nat × Grp
abbrev CFn := Nat → Grp → List Crs
def seqC : List CFn → CFn
  | [], p, g => [(p, g)]
  | f :: fs, p, g => (f p g).flatMap fun q => seqC fs q.1 q.2
def altsC (L : List CFn) : CFn := fun p g => L.flatMap fun f => f p g
def moreC (f : CFn) : Nat → CFn
  | 0, p, g => [(p, g)]
  | n + 1, p, g => (f p g).flatMap (fun q => if p < q.1 then moreC f n q.1 q.2 else []) ++ [(p, g)]
def timesC (f : CFn) : Nat → CFn
  | 0, p, g => [(p, g)]
  | n + 1, p, g => (f p g).flatMap fun q => timesC f n q.1 q.2
def grpC (f : CFn) (n : Nat) : CFn := fun p g => (f p g).map fun q => (q.1, q.2.set n ((p : Int), (q.1 : Int)))
def G0 : Grp := List.replicate 10 (-1, -1)
def setOk (text : List Int) (set : List (Int × Int)) (p : Nat) : Bool := match text[p]? with | some x => inS set x | none => false
def noC : CFn := fun _ _ => []
def crsK (text : List Int) (k : Int) (set : List (Int × Int)) (L : List CFn) (mn mx : Int) (ng : Bool) : CFn :=
 if k = 1 then fun p g => [(p, g)] else if k = 2 then fun p g => if setOk text set p then [(p + 1, g)] else []
 else if k = 3 then seqC L else if k = 4 then altsC L
 else if k = 5 then moreC (L.headD noC) (text.length + 1)
 else if k = 6 then fun p g => (timesC (L.headD noC) mn.toNat p g).flatMap fun q => moreC (L.headD noC) (mx - mn).toNat q.1 q.2
 else if k = 9 then grpC (L.headD noC) mn.toNat
 else if k = 10 then fun p g => if (!(L.headD noC p G0).isEmpty) = ng then [] else [(p, g)]
 else noC
mutual
def crsOf (text : List Int) : Re → CFn
  | .mk k set args mn mx ng => crsK text k set (crssOf text args) mn mx ng
def crssOf (text : List Int) : List Re → List CFn
  | [] => []
  | t :: ts => crsOf text t :: crssOf text ts
end
theorem crssOf_eq (text : List Int) (ts : List Re) : crssOf text ts = ts.map (crsOf text) := by
  induction ts with
  | nil => rfl
  | cons t ts ih => simp [crssOf, ih]
inductive Ins where
  | set (l : List (Int × Int))
  | split (x y : Nat)
  | jump (x : Nat)
  | opn (t : Nat)
  | cls (t n : Nat)
  | look (r : Re) (ng : Bool)
  | ent (n : Nat)
  | chk (n : Nat)
  | fin
abbrev Frg := Nat → Nat → Nat → List Ins × Nat
/-- One behind the other, from an instruction on, at a depth, with a number of places used. -/
def seqF : List Frg → Frg
  | [], _, _, t => ([], t)
  | f :: fs, a, d, t => let r := f a d t; let s := seqF fs (a + r.1.length) d r.2; (r.1 ++ s.1, s.2)
def altF (e : Nat) : List Frg → Frg
  | [], _, _, t => ([], t)
  | [f], a, d, t => f a d t
  | f :: g :: fs, a, d, t => let r := f (a + 1) d t; let n := a + 1 + r.1.length + 1; let s := altF e (g :: fs) n d r.2; (.split (a + 1) n :: (r.1 ++ .jump e :: s.1), s.2)
def itF (e : Nat) (f : Frg) : Nat → Frg
  | 0, _, _, t => ([], t)
  | n + 1, a, d, t => let r := f (a + 2) (d + 1) t; let s := itF e f n (a + 2 + r.1.length + 1) d r.2; (.split (a + 1) e :: .ent (d + 1) :: (r.1 ++ .chk (d + 1) :: s.1), s.2)
def noF : Frg := fun _ _ t => ([], t)
def starF (f : Frg) : Frg := fun a d t => let r := f (a + 2) (d + 1) t; (.split (a + 1) (a + 2 + r.1.length + 2) :: .ent (d + 1) :: (r.1 ++ [.chk (d + 1), .jump a]), r.2)
def frgK (k : Int) (set : List (Int × Int)) (L : List Frg) (arg : Re) (mn mx : Int) (ng : Bool) : Frg :=
 if k = 0 then fun _ _ t => ([.set []], t) else if k = 2 then fun _ _ t => ([.set set], t)
 else if k = 3 then seqF L else if k = 4 then fun a d t => altF (a + (altF 0 L a d t).1.length) L a d t
 else if k = 5 then starF (L.headD noF)
 else if k = 6 then fun a d t => let r := seqF (List.replicate mn.toNat (L.headD noF)) a d t
  let s := itF (a + r.1.length + (itF 0 (L.headD noF) (mx - mn).toNat (a + r.1.length) d r.2).1.length) (L.headD noF) (mx - mn).toNat (a + r.1.length) d r.2; (r.1 ++ s.1, s.2)
 else if k = 9 then fun a d t => let r := (L.headD noF) (a + 1) d (t + 1); (.opn t :: (r.1 ++ [.cls t mn.toNat]), r.2)
 else if k = 10 then fun _ _ t => ([.look arg ng], t)
 else noF
def arg0 : List Re → Re
  | [] => .mk 0 [] [] 0 0 false
  | t :: _ => t
mutual
def frgOf : Re → Frg
  | .mk k set args mn mx ng => frgK k set (frgsOf args) (arg0 args) mn mx ng
def frgsOf : List Re → List Frg
  | [] => []
  | t :: ts => frgOf t :: frgsOf ts
end
theorem frgsOf_eq (ts : List Re) : frgsOf ts = ts.map frgOf := by
  induction ts with
  | nil => rfl
  | cons t ts ih => simp [frgsOf, ih]
def progOf (r : Re) : List Ins := (frgOf r 0 0 0).1 ++ [.fin]
def tempsOf (r : Re) : Nat := (frgOf r 0 0 0).2
def many : Nat := 1048576
/-- What a program finds from a spot on: the groups and the end, or nothing. -/
inductive Res (text : List Int) : List Ins → Nat → Nat → Nat → List Int → Grp → Option (Grp × Nat) → Prop where
  | setN {code a p d B G l} : code[a]? = some (.set l) → setOk text l p = false → Res text code a p d B G none
  | setY {code a p d B G l o} : code[a]? = some (.set l) → setOk text l p = true → Res text code (a + 1) (p + 1) many B G o → Res text code a p d B G o
  | splitY {code a p d B G x y v} : code[a]? = some (.split x y) → Res text code x p d B G (some v) → Res text code a p d B G (some v)
  | splitN {code a p d B G x y o} : code[a]? = some (.split x y) → Res text code x p d B G none → Res text code y p d B G o → Res text code a p d B G o
  | jump {code a p d B G x o} : code[a]? = some (.jump x) → Res text code x p d B G o → Res text code a p d B G o
  | opn {code a p d B G t o} : code[a]? = some (.opn t) → t < B.length → Res text code (a + 1) p d (B.set t p) G o → Res text code a p d B G o
  | cls {code a p d B G t n x o} : code[a]? = some (.cls t n) → n < 10 → B[t]? = some x → Res text code (a + 1) p d B (G.set n (x, p)) o → Res text code a p d B G o
  | lookN {code a p d B G r ng o} : code[a]? = some (.look r ng) → Res text (progOf r) 0 p 0 (List.replicate (tempsOf r) 0) G0 o → o.isSome = ng → Res text code a p d B G none
  | lookY {code a p d B G r ng o o'} : code[a]? = some (.look r ng) → Res text (progOf r) 0 p 0 (List.replicate (tempsOf r) 0) G0 o → o.isSome ≠ ng → Res text code (a + 1) p d B G o' → Res text code a p d B G o'
  | ent {code a p d B G n o} : code[a]? = some (.ent n) → 1 ≤ n → n ≤ 1000000 → Res text code (a + 1) p (min d (n - 1)) B G o → Res text code a p d B G o
  | chkN {code a p d B G n} : code[a]? = some (.chk n) → d < n → Res text code a p d B G none
  | chkY {code a p d B G n o} : code[a]? = some (.chk n) → n ≤ d → Res text code (a + 1) p d B G o → Res text code a p d B G o
  | fin {code a p d B G} : code[a]? = some .fin → Res text code a p d B G (some (G, p))
theorem res_indep {text : List Int} {code : List Ins} {a p d : Nat} {B : List Int} {G : Grp} {o : Option (Grp × Nat)} (h : Res text code a p d B G o) : o = none → ∀ (B' : List Int) (G' : Grp), B'.length = B.length → Res text code a p d B' G' none := by
  induction h with
  | setN hc hs => exact fun _ B' G' _ => .setN hc hs
  | setY hc hs _ ih => exact fun e B' G' hl => .setY hc hs (ih e B' G' hl)
  | splitY hc _ _ => intro e; cases e
  | splitN hc _ _ ih1 ih2 => exact fun e B' G' hl => .splitN hc (ih1 rfl B' G' hl) (ih2 e B' G' hl)
  | jump hc _ ih => exact fun e B' G' hl => .jump hc (ih e B' G' hl)
  | opn hc ht _ ih => exact fun e B' G' hl => .opn hc (by omega) (ih e _ G' (by simpa using hl))
  | cls hc hn hx _ ih =>
    intro e B' G' hl
    obtain ⟨x', hx'⟩ : ∃ x', B'[_]? = some x' := ⟨_, List.getElem?_eq_getElem (by rw [hl]; exact (List.getElem?_eq_some_iff.1 hx).1)⟩
    exact .cls hc hn hx' (ih e B' _ hl)
  | lookN hc hr ho _ => exact fun _ B' G' _ => .lookN hc hr ho
  | lookY hc hr ho _ _ ih => exact fun e B' G' hl => .lookY hc hr ho (ih e B' G' hl)
  | ent hc h1 h2 _ ih => exact fun e B' G' hl => .ent hc h1 h2 (ih e B' G' hl)
  | chkN hc hd => exact fun _ B' G' _ => .chkN hc hd
  | chkY hc hd _ ih => exact fun e B' G' hl => .chkY hc hd (ih e B' G' hl)
  | fin hc => intro e; cases e
theorem res_det {text : List Int} {code : List Ins} {a p d : Nat} {B : List Int} {G : Grp} {o : Option (Grp × Nat)} (h : Res text code a p d B G o) : ∀ o2, Res text code a p d B G o2 → o = o2 := by
  induction h with
  | setN hc hs => intro o2 h2; cases h2 <;> simp_all
  | setY hc hs _ ih =>
    intro o2 h2
    cases h2 with
    | setN hc' hs' => rw [hc] at hc'; cases hc'; rw [hs] at hs'; cases hs'
    | setY hc' hs' h' => rw [hc] at hc'; cases hc'; exact ih _ h'
    | _ => simp_all
  | splitY hc _ ih =>
    intro o2 h2
    cases h2 with
    | splitY hc' h' => rw [hc] at hc'; cases hc'; exact ih _ h'
    | splitN hc' h' h'' => rw [hc] at hc'; cases hc'; have := ih _ h'; cases this
    | _ => simp_all
  | splitN hc _ _ ih1 ih2 =>
    intro o2 h2
    cases h2 with
    | splitY hc' h' => rw [hc] at hc'; cases hc'; have := ih1 _ h'; cases this
    | splitN hc' h' h'' => rw [hc] at hc'; cases hc'; exact ih2 _ h''
    | _ => simp_all
  | jump hc _ ih =>
    intro o2 h2
    cases h2 with
    | jump hc' h' => rw [hc] at hc'; cases hc'; exact ih _ h'
    | _ => simp_all
  | opn hc ht _ ih =>
    intro o2 h2
    cases h2 with
    | opn hc' _ h' => rw [hc] at hc'; cases hc'; exact ih _ h'
    | _ => simp_all
  | cls hc hn hx _ ih =>
    intro o2 h2
    cases h2 with
    | cls hc' _ hx' h' => rw [hc] at hc'; cases hc'; rw [hx] at hx'; cases hx'; exact ih _ h'
    | _ => simp_all
  | lookN hc hr ho ih =>
    intro o2 h2
    cases h2 with
    | lookN hc' hr' ho' => rfl
    | lookY hc' hr' ho' _ => rw [hc] at hc'; cases hc'; have := ih _ hr'; subst this; exact absurd ho ho'
    | _ => simp_all
  | lookY hc hr ho _ ih1 ih2 =>
    intro o2 h2
    cases h2 with
    | lookN hc' hr' ho' => rw [hc] at hc'; cases hc'; have := ih1 _ hr'; subst this; exact absurd ho' ho
    | lookY hc' hr' ho' h' => rw [hc] at hc'; cases hc'; exact ih2 _ h'
    | _ => simp_all
  | ent hc h1 h2 _ ih =>
    intro o2 h3
    cases h3 with
    | ent hc' _ _ h' => rw [hc] at hc'; cases hc'; exact ih _ h'
    | _ => simp_all
  | chkN hc hd =>
    intro o2 h2
    cases h2 with
    | chkN hc' hd' => rfl
    | chkY hc' hd' _ => rw [hc] at hc'; cases hc'; omega
    | _ => simp_all
  | chkY hc hd _ ih =>
    intro o2 h2
    cases h2 with
    | chkN hc' hd' => rw [hc] at hc'; cases hc'; omega
    | chkY hc' hd' h' => rw [hc] at hc'; cases hc'; exact ih _ h'
    | _ => simp_all
  | fin hc => intro o2 h2; cases h2 <;> simp_all
end Go.Proofs
namespace Go.Proofs
open Go Go.Eng
set_option maxRecDepth 100000
def CodeAt (code : List Ins) (a : Nat) (l : List Ins) : Prop := ∀ (i : Nat) x, l[i]? = some x → code[a + i]? = some x
theorem CodeAt.left {code : List Ins} {a : Nat} {l m : List Ins} (h : CodeAt code a (l ++ m)) : CodeAt code a l := fun i x hx => h i x (by rw [List.getElem?_append_left (lt_of_get hx)]; exact hx)
theorem CodeAt.right {code : List Ins} {a : Nat} {l m : List Ins} (h : CodeAt code a (l ++ m)) : CodeAt code (a + l.length) m := fun i x hx => by
 have := h (l.length + i) x (by rw [List.getElem?_append_right (by omega), Nat.add_sub_cancel_left]; exact hx)
 rwa [← Nat.add_assoc] at this
theorem CodeAt.head {code : List Ins} {a : Nat} {x : Ins} {l : List Ins} (h : CodeAt code a (x :: l)) : code[a]? = some x := h 0 x rfl
theorem CodeAt.tail {code : List Ins} {a : Nat} {x : Ins} {l : List Ins} (h : CodeAt code a (x :: l)) : CodeAt code (a + 1) l := fun i y hy => by
 have := h (i + 1) y hy
 rwa [show a + (i + 1) = a + 1 + i by omega] at this
theorem setOk_lt {text : List Int} {l : List (Int × Int)} {p : Nat} (h : setOk text l p = true) : p < text.length := by
  unfold setOk at h
  cases hx : text[p]? with
  | none => rw [hx] at h; cases h
  | some x => exact lt_of_get hx
/-- Where a course ends, and that it keeps the number of groups. -/
def CrsOk (text : List Int) (f : CFn) : Prop := ∀ p g, p ≤ text.length → ∀ q ∈ f p g, p ≤ q.1 ∧ q.1 ≤ text.length ∧ q.2.length = g.length
theorem seqC_ok {text : List Int} : ∀ {L : List CFn}, (∀ f ∈ L, CrsOk text f) → CrsOk text (seqC L)
  | [], _, p, g, hp, q, hq => by simp [seqC] at hq; subst hq; exact ⟨Nat.le_refl _, hp, rfl⟩
  | f :: L, h, p, g, hp, q, hq => by
    simp only [seqC, List.mem_flatMap] at hq
    obtain ⟨r, hr, hq⟩ := hq
    obtain ⟨h1, h2, h3⟩ := h f (by simp) p g hp r hr
    obtain ⟨h4, h5, h6⟩ := seqC_ok (L := L) (fun f hf => h f (by simp [hf])) r.1 r.2 h2 q hq
    exact ⟨by omega, h5, by omega⟩
theorem moreC_ok {text : List Int} {f : CFn} (h : CrsOk text f) : ∀ n, CrsOk text (moreC f n)
  | 0, p, g, hp, q, hq => by simp [moreC] at hq; subst hq; exact ⟨Nat.le_refl _, hp, rfl⟩
  | n + 1, p, g, hp, q, hq => by
    simp only [moreC, List.mem_append, List.mem_flatMap, List.mem_singleton] at hq
    rcases hq with ⟨r, hr, hq⟩ | rfl
    · obtain ⟨h1, h2, h3⟩ := h p g hp r hr
      split at hq
      · obtain ⟨h4, h5, h6⟩ := moreC_ok h n r.1 r.2 h2 q hq
        exact ⟨by omega, h5, by omega⟩
      · cases hq
    · exact ⟨Nat.le_refl _, hp, rfl⟩
theorem timesC_ok {text : List Int} {f : CFn} (h : CrsOk text f) : ∀ n, CrsOk text (timesC f n)
  | 0, p, g, hp, q, hq => by simp [timesC] at hq; subst hq; exact ⟨Nat.le_refl _, hp, rfl⟩
  | n + 1, p, g, hp, q, hq => by
    simp only [timesC, List.mem_flatMap] at hq
    obtain ⟨r, hr, hq⟩ := hq
    obtain ⟨h1, h2, h3⟩ := h p g hp r hr
    obtain ⟨h4, h5, h6⟩ := timesC_ok h n r.1 r.2 h2 q hq
    exact ⟨by omega, h5, by omega⟩
theorem noC_ok {text : List Int} : CrsOk text noC := fun p g _ q hq => by cases hq
theorem headC_ok {text : List Int} {L : List CFn} (h : ∀ f ∈ L, CrsOk text f) : CrsOk text (L.headD noC) := by
  cases L with
  | nil => exact noC_ok
  | cons f L => exact h f (by simp)
theorem crsK_ok {text : List Int} {k : Int} {set : List (Int × Int)} {L : List CFn} {mn mx : Int} {ng : Bool} (h : ∀ f ∈ L, CrsOk text f) : CrsOk text (crsK text k set L mn mx ng) := by
 intro p g hp q hq
 unfold crsK at hq
 split at hq
 ·simp at hq; subst hq; exact ⟨Nat.le_refl _, hp, rfl⟩
 split at hq
 ·dsimp only at hq
  split at hq
  ·rename_i hs
   simp at hq; subst hq
   have := setOk_lt hs
   exact ⟨Nat.le_succ p, this, rfl⟩
  ·cases hq
 split at hq
 ·exact seqC_ok h p g hp q hq
 split at hq
 ·simp only [altsC, List.mem_flatMap] at hq
  obtain ⟨f, hf, hq⟩ := hq
  exact h f hf p g hp q hq
 split at hq
 ·exact moreC_ok (headC_ok h) _ p g hp q hq
 split at hq
 ·simp only [List.mem_flatMap] at hq
  obtain ⟨r, hr, hq⟩ := hq
  obtain ⟨h1, h2, h3⟩ := timesC_ok (headC_ok h) _ p g hp r hr
  obtain ⟨h4, h5, h6⟩ := moreC_ok (headC_ok h) _ r.1 r.2 h2 q hq
  exact ⟨by omega, h5, by omega⟩
 split at hq
 ·simp only [grpC, List.mem_map] at hq
  obtain ⟨r, hr, rfl⟩ := hq
  obtain ⟨h1, h2, h3⟩ := headC_ok h p g hp r hr
  exact ⟨h1, h2, by simpa using h3⟩
 split at hq
 ·dsimp only at hq
  split at hq
  ·cases hq
  ·simp at hq; subst hq; exact ⟨Nat.le_refl _, hp, rfl⟩
 ·cases hq
mutual
theorem crsOf_ok (text : List Int) : ∀ t : Re, CrsOk text (crsOf text t)
  | .mk k set args mn mx ng => by
    simp only [crsOf]
    exact crsK_ok (crssOf_ok text args)
theorem crssOf_ok (text : List Int) : ∀ ts : List Re, ∀ f ∈ crssOf text ts, CrsOk text f
  | [], f, h => by simp [crssOf] at h
  | t :: ts, f, h => by
    simp only [crssOf, List.mem_cons] at h
    rcases h with rfl | h
    · exact crsOf_ok text t
    · exact crssOf_ok text ts f h
end
/-- A piece of a program follows courses. -/
def FragOk (text : List Int) (H : Nat) (C : Frg) (f : CFn) : Prop := ∀ code a d t, CodeAt code a (C a d t).1 → d + H < 1000000 → t ≤ (C a d t).2 ∧
  ∀ p dn (B : List Int) G (K : Crs → Option (Grp × Nat)), p ≤ text.length → (C a d t).2 ≤ B.length →
   (∀ q ∈ f p G, ∀ B' : List Int, B'.length = B.length → (∀ i, i < t → B'[i]? = B[i]?) → Res text code (a + (C a d t).1.length) q.1 (if q.1 = p then dn else many) B' q.2 (K q)) →
   Res text code a p dn B G ((f p G).findSome? K)
theorem find_flat {α β γ : Type} (l : List α) (f : α → List β) (K : β → Option γ) : (l.flatMap f).findSome? K = l.findSome? fun q => (f q).findSome? K := by
  induction l with
  | nil => rfl
  | cons x l ih => rw [List.flatMap_cons, List.findSome?_append, List.findSome?_cons, ih]; cases (f x).findSome? K <;> rfl
theorem noF_ok {text : List Int} {H : Nat} {f : CFn} (h : f = fun p g => [(p, g)]) : FragOk text H noF f := by
 intro code a d t hc hd
 refine ⟨Nat.le_refl _, fun p dn B G K hp hB hk => ?_⟩
 subst h
 have := hk (p, G) (by simp) B rfl (fun _ _ => rfl)
 simpa [noF] using this
theorem seqF_ok {text : List Int} {H : Nat} : ∀ {L : List (Frg × CFn)}, (∀ x ∈ L, FragOk text H x.1 x.2 ∧ CrsOk text x.2) → FragOk text H (seqF (L.map (·.1))) (seqC (L.map (·.2)))
  | [], _ => noF_ok (by funext p g; rfl)
  | x :: L, h => by
    intro code a d t hc hd
    obtain ⟨hx, hxo⟩ := h x (by simp)
    have ih := seqF_ok (L := L) fun y hy => h y (by simp [hy])
    simp only [List.map_cons, seqF] at hc ⊢
    obtain ⟨h1, h2⟩ := hx code a d t hc.left hd
    obtain ⟨h3, h4⟩ := ih code _ d (x.1 a d t).2 hc.right hd
    refine ⟨by omega, fun p dn B G K hp hB hk => ?_⟩
    simp only [seqC]
    rw [find_flat]
    refine h2 p dn B G _ hp (by omega) fun q hq B' hl hag => ?_
    obtain ⟨g1, g2, g3⟩ := hxo p G hp q hq
    refine h4 q.1 _ B' q.2 K g2 (by omega) fun r hr B'' hl2 hag2 => ?_
    have hrp := seqC_ok (L := L.map (·.2)) (fun f hf => by obtain ⟨y, hy, rfl⟩ := List.mem_map.1 hf; exact (h y (by simp [hy])).2) q.1 q.2 g2 r hr
    have h5 := hk r (by simp only [seqC, List.mem_flatMap]; exact ⟨q, hq, hr⟩) B'' (by omega) (fun i hi => (hag2 i (by omega)).trans (hag i hi))
    rw [List.length_append, ← Nat.add_assoc] at h5
    have e : (if r.1 = q.1 then (if q.1 = p then dn else many) else many) = (if r.1 = p then dn else many) := by
      by_cases h6 : r.1 = q.1
      · rw [if_pos h6, h6]
      · rw [if_neg h6, if_neg (by omega)]
    rw [e]
    exact h5
/-- The jumps' aim does not change how long alternatives are. -/
theorem altF_len (e e' : Nat) : ∀ (L : List Frg) (a d t : Nat), (altF e L a d t).1.length = (altF e' L a d t).1.length ∧ (altF e L a d t).2 = (altF e' L a d t).2
  | [], _, _, _ => ⟨rfl, rfl⟩
  | [f], _, _, _ => ⟨rfl, rfl⟩
  | f :: g :: fs, a, d, t => by
    obtain ⟨h1, h2⟩ := altF_len e e' (g :: fs) (a + 1 + (f (a + 1) d t).1.length + 1) d (f (a + 1) d t).2
    simp only [altF, List.length_cons, List.length_append]
    exact ⟨by rw [h1], h2⟩
theorem itF_len (e e' : Nat) (f : Frg) : ∀ (n a d t : Nat), (itF e f n a d t).1.length = (itF e' f n a d t).1.length ∧ (itF e f n a d t).2 = (itF e' f n a d t).2
  | 0, _, _, _ => ⟨rfl, rfl⟩
  | n + 1, a, d, t => by
    obtain ⟨h1, h2⟩ := itF_len e e' f n (a + 2 + (f (a + 2) (d + 1) t).1.length + 1) d (f (a + 2) (d + 1) t).2
    simp only [itF, List.length_cons, List.length_append]
    exact ⟨by rw [h1], h2⟩
theorem altF_ok {text : List Int} {H : Nat} (e : Nat) : ∀ {L : List (Frg × CFn)}, L ≠ [] → (∀ x ∈ L, FragOk text H x.1 x.2 ∧ CrsOk text x.2) → ∀ code a d t, CodeAt code a (altF e (L.map (·.1)) a d t).1 → e = a + (altF e (L.map (·.1)) a d t).1.length → d + H < 1000000 → t ≤ (altF e (L.map (·.1)) a d t).2 ∧
    ∀ p dn (B : List Int) G (K : Crs → Option (Grp × Nat)), p ≤ text.length → (altF e (L.map (·.1)) a d t).2 ≤ B.length →
    (∀ q ∈ altsC (L.map (·.2)) p G, ∀ B' : List Int, B'.length = B.length → (∀ i, i < t → B'[i]? = B[i]?) → Res text code e q.1 (if q.1 = p then dn else many) B' q.2 (K q)) →
    Res text code a p dn B G ((altsC (L.map (·.2)) p G).findSome? K)
  | [], hne, _, _, _, _, _, _, _, _ => absurd rfl hne
  | [x], _, h, code, a, d, t, hc, he, hd => by
    obtain ⟨hx, _⟩ := h x (by simp)
    simp only [List.map_cons, List.map_nil, altF] at hc he ⊢
    obtain ⟨h1, h2⟩ := hx code a d t hc hd
    refine ⟨h1, fun p dn B G K hp hB hk => ?_⟩
    have e1 : altsC [x.2] p G = x.2 p G := by simp [altsC]
    rw [e1] at hk ⊢
    rw [he] at hk
    exact h2 p dn B G K hp hB hk
  | x :: z :: L, _, h, code, a, d, t, hc, he, hd => by
    obtain ⟨hx, _⟩ := h x (by simp)
    simp only [List.map_cons, altF] at hc he ⊢
    obtain ⟨h1, h2⟩ := hx code (a + 1) d t hc.tail.left hd
    have hj := hc.tail.right
    have ih := altF_ok e (L := z :: L) (by simp) (fun y hy => h y (by simp only [List.mem_cons] at hy ⊢; exact .inr hy)) code (a + 1 + (x.1 (a + 1) d t).1.length + 1) d (x.1 (a + 1) d t).2 hj.tail (by
      simp only [List.length_cons, List.length_append] at he
      simp only [List.map_cons]
      omega) hd
    obtain ⟨h3, h4⟩ := ih
    simp only [List.map_cons] at h3 h4
    refine ⟨by omega, fun p dn B G K hp hB hk => ?_⟩
    have e1 : altsC (x.2 :: z.2 :: L.map (·.2)) p G = x.2 p G ++ altsC (z.2 :: L.map (·.2)) p G := by simp [altsC]
    rw [e1] at hk ⊢
    rw [List.findSome?_append]
    have r1 := h2 p dn B G K hp (by omega) (fun q hq B' hl hag => .jump hj.head (hk q (List.mem_append_left _ hq) B' hl hag))
    have r2 := h4 p dn B G K hp hB (fun q hq B' hl hag => hk q (List.mem_append_right _ hq) B' hl (fun i hi => hag i (by omega)))
    cases ho : (x.2 p G).findSome? K with
    | none =>
      rw [ho] at r1
      exact .splitN hc.head r1 r2
    | some v =>
      rw [ho] at r1
      exact .splitY hc.head r1
/-- One iteration that must consume, and what follows it. -/
theorem iter_ok {text : List Int} {H : Nat} {C : Frg} {f : CFn} (hC : FragOk text H C f) (hf : CrsOk text f) {code : List Ins} {a d t : Nat} (hc : CodeAt code a (.ent (d + 1) :: ((C (a + 1) (d + 1) t).1 ++ [.chk (d + 1)]))) (hd : d + 1 + H < 1000000) :
  t ≤ (C (a + 1) (d + 1) t).2 ∧ ∀ p dn (B : List Int) G (K : Crs → Option (Grp × Nat)), p ≤ text.length → (C (a + 1) (d + 1) t).2 ≤ B.length →
  (∀ q ∈ f p G, p < q.1 → ∀ B' : List Int, B'.length = B.length → (∀ i, i < t → B'[i]? = B[i]?) → Res text code (a + 1 + (C (a + 1) (d + 1) t).1.length + 1) q.1 many B' q.2 (K q)) →
  Res text code a p dn B G ((f p G).findSome? fun q => if p < q.1 then K q else none) := by
 obtain ⟨h1, h2⟩ := hC code (a + 1) (d + 1) t hc.tail.left (by omega)
 refine ⟨h1, fun p dn B G K hp hB hk => .ent hc.head (by omega) (by omega) ?_⟩
 have hch := hc.tail.right.head
 refine h2 p _ B G _ hp hB fun q hq B' hl hag => ?_
 obtain ⟨g1, g2, _⟩ := hf p G hp q hq
 by_cases hqp : p < q.1
 ·rw [if_neg (by omega), if_pos hqp]
  exact .chkY hch (by unfold many; omega) (hk q hq hqp B' hl hag)
 ·rw [if_pos (by omega), if_neg hqp]
  exact .chkN hch (by omega)
theorem find_more {α β : Type} (l : List α) (P : α → Bool) (m : α → List β) {γ : Type} (K : β → Option γ) : (l.flatMap fun q => if P q = true then m q else []).findSome? K = l.findSome? fun q => if P q = true then (m q).findSome? K else none := by
 rw [find_flat]
 congr 1
 funext q
 split <;> rfl
theorem itF_ok {text : List Int} {H : Nat} {C : Frg} {f : CFn} (hC : FragOk text H C f) (hf : CrsOk text f) (e : Nat) : ∀ (n : Nat) code a d t, CodeAt code a (itF e C n a d t).1 → e = a + (itF e C n a d t).1.length → d + 1 + H < 1000000 → t ≤ (itF e C n a d t).2 ∧
    ∀ p dn (B : List Int) G (K : Crs → Option (Grp × Nat)), p ≤ text.length → (itF e C n a d t).2 ≤ B.length →
    (∀ q ∈ moreC f n p G, ∀ B' : List Int, B'.length = B.length → (∀ i, i < t → B'[i]? = B[i]?) → Res text code e q.1 (if q.1 = p then dn else many) B' q.2 (K q)) →
    Res text code a p dn B G ((moreC f n p G).findSome? K)
  | 0, code, a, d, t, hc, he, hd => by
    simp only [itF, List.length_nil, Nat.add_zero] at he ⊢
    subst he
    refine ⟨Nat.le_refl _, fun p dn B G K hp hB hk => ?_⟩
    have := hk (p, G) (by simp [moreC]) B rfl (fun _ _ => rfl)
    simpa [moreC] using this
  | n + 1, code, a, d, t, hc, he, hd => by
    simp only [itF] at hc he ⊢
    have hc1 := hc.tail
    have hc2 : CodeAt code (a + 1) ((.ent (d + 1) :: ((C (a + 2) (d + 1) t).1 ++ [.chk (d + 1)])) ++ (itF e C n (a + 2 + (C (a + 2) (d + 1) t).1.length + 1) d (C (a + 2) (d + 1) t).2).1) := by
      rw [List.cons_append, List.append_assoc]; exact hc1
    obtain ⟨h1, h2⟩ := iter_ok hC hf (a := a + 1) hc2.left hd
    have hc3 := hc2.right
    rw [show a + 1 + (Ins.ent (d + 1) :: ((C (a + 2) (d + 1) t).1 ++ [Ins.chk (d + 1)])).length = a + 2 + (C (a + 2) (d + 1) t).1.length + 1 by simp; omega] at hc3
    simp only [List.length_cons, List.length_append] at he
    obtain ⟨h3, h4⟩ := itF_ok hC hf e n code _ d _ hc3 (by omega) hd
    simp only [show a + 1 + 1 = a + 2 by omega] at h1 h2
    refine ⟨by omega, fun p dn B G K hp hB hk => ?_⟩
    have r1 := h2 p dn B G (fun q => (moreC f n q.1 q.2).findSome? K) hp (by omega) (fun q hq hqp B' hl hag => by
      obtain ⟨g1, g2, _⟩ := hf p G hp q hq
      refine h4 q.1 many B' q.2 K g2 (by omega) fun r hr B'' hl2 hag2 => ?_
      obtain ⟨g4, _, _⟩ := moreC_ok hf n q.1 q.2 g2 r hr
      have := hk r (by simp only [moreC, List.mem_append, List.mem_flatMap]; exact .inl ⟨q, hq, by rw [if_pos hqp]; exact hr⟩) B'' (by omega) (fun i hi => (hag2 i (by omega)).trans (hag i hi))
      rw [if_neg (by omega)] at this
      rw [ite_self]
      exact this)
    have r2 := hk (p, G) (by simp [moreC]) B rfl (fun _ _ => rfl)
    rw [if_pos rfl] at r2
    have e1 : (moreC f (n + 1) p G).findSome? K = ((f p G).findSome? fun q => if p < q.1 then (moreC f n q.1 q.2).findSome? K else none).or (K (p, G)) := by
      simp only [moreC]
      rw [List.findSome?_append]
      have := find_more (f p G) (fun q => decide (p < q.1)) (fun q => moreC f n q.1 q.2) K
      simp only [decide_eq_true_eq] at this
      rw [this]
      simp
    rw [e1]
    cases ho : (f p G).findSome? fun q => if p < q.1 then (moreC f n q.1 q.2).findSome? K else none with
    | none =>
      rw [ho] at r1
      exact .splitN hc.head r1 r2
    | some v =>
      rw [ho] at r1
      exact .splitY hc.head r1
theorem starF_ok {text : List Int} {H : Nat} {C : Frg} {f : CFn} (hC : FragOk text H C f) (hf : CrsOk text f) {code : List Ins} {a d t : Nat} (hc : CodeAt code a (starF C a d t).1) (hd : d + 1 + H < 1000000) : t ≤ (starF C a d t).2 ∧
    ∀ n p dn (B : List Int) G (K : Crs → Option (Grp × Nat)), p ≤ text.length → text.length - p < n → (starF C a d t).2 ≤ B.length →
    (∀ q ∈ moreC f n p G, ∀ B' : List Int, B'.length = B.length → (∀ i, i < t → B'[i]? = B[i]?) → Res text code (a + (starF C a d t).1.length) q.1 (if q.1 = p then dn else many) B' q.2 (K q)) →
    Res text code a p dn B G ((moreC f n p G).findSome? K) := by
  simp only [starF] at hc ⊢
  have hc2 : CodeAt code (a + 1) ((.ent (d + 1) :: ((C (a + 2) (d + 1) t).1 ++ [.chk (d + 1)])) ++ [.jump a]) := by
    rw [List.cons_append, List.append_assoc]; exact hc.tail
  obtain ⟨h1, h2⟩ := iter_ok hC hf (a := a + 1) hc2.left hd
  have hj := hc2.right.head
  rw [show a + 1 + (Ins.ent (d + 1) :: ((C (a + 2) (d + 1) t).1 ++ [Ins.chk (d + 1)])).length = a + 2 + (C (a + 2) (d + 1) t).1.length + 1 by simp; omega] at hj
  simp only [show a + 1 + 1 = a + 2 by omega] at h1 h2
  refine ⟨h1, fun n => ?_⟩
  induction n with
  | zero => intro p dn B G K hp hn; omega
  | succ n ih =>
    intro p dn B G K hp hn hB hk
    have r1 := h2 p dn B G (fun q => (moreC f n q.1 q.2).findSome? K) hp (by omega) (fun q hq hqp B' hl hag => by
      obtain ⟨g1, g2, _⟩ := hf p G hp q hq
      refine .jump hj (ih q.1 many B' q.2 K g2 (by omega) (by omega) fun r hr B'' hl2 hag2 => ?_)
      obtain ⟨g4, _, _⟩ := moreC_ok hf n q.1 q.2 g2 r hr
      have := hk r (by simp only [moreC, List.mem_append, List.mem_flatMap]; exact .inl ⟨q, hq, by rw [if_pos hqp]; exact hr⟩) B'' (by omega) (fun i hi => (hag2 i (by omega)).trans (hag i hi))
      rw [if_neg (by omega)] at this
      rw [ite_self]
      exact this)
    have r2 := hk (p, G) (by simp [moreC]) B rfl (fun _ _ => rfl)
    rw [if_pos rfl] at r2
    have hl : a + (Ins.split (a + 1) (a + 2 + (C (a + 2) (d + 1) t).1.length + 2) :: Ins.ent (d + 1) :: ((C (a + 2) (d + 1) t).1 ++ [Ins.chk (d + 1), Ins.jump a])).length = a + 2 + (C (a + 2) (d + 1) t).1.length + 2 := by simp; omega
    rw [hl] at r2
    have e1 : (moreC f (n + 1) p G).findSome? K = ((f p G).findSome? fun q => if p < q.1 then (moreC f n q.1 q.2).findSome? K else none).or (K (p, G)) := by
      simp only [moreC]
      rw [List.findSome?_append]
      have := find_more (f p G) (fun q => decide (p < q.1)) (fun q => moreC f n q.1 q.2) K
      simp only [decide_eq_true_eq] at this
      rw [this]
      simp
    rw [e1]
    cases ho : (f p G).findSome? fun q => if p < q.1 then (moreC f n q.1 q.2).findSome? K else none with
    | none =>
      rw [ho] at r1
      exact .splitN hc.head r1 r2
    | some v =>
      rw [ho] at r1
      exact .splitY hc.head r1
theorem FragOk.mono {text : List Int} {H H' : Nat} {C : Frg} {f : CFn} (h : FragOk text H C f) (hH : H ≤ H') : FragOk text H' C f := fun code a d t hc hd => h code a d t hc (by omega)
theorem seqC_rep (f : CFn) : ∀ n, seqC (List.replicate n f) = timesC f n
  | 0 => by funext p g; rfl
  | n + 1 => by
    funext p g
    simp only [List.replicate_succ, seqC, timesC, seqC_rep f n]
def wfK (k : Int) (n : Nat) : Prop := k = 0 ∨ k = 1 ∨ k = 2 ∨ k = 3 ∨ (k = 4 ∧ 1 ≤ n) ∨ ((k = 5 ∨ k = 6 ∨ k = 9 ∨ k = 10) ∧ 1 ≤ n)
mutual
/-- An expression that can be translated. -/
def wfC : Re → Prop
  | .mk k _ args mn mx _ => wfK k args.length ∧ (k = 9 → mn.toNat < 10) ∧ wfCs args
def wfCs : List Re → Prop
  | [] => True
  | t :: ts => wfC t ∧ wfCs ts
end
theorem prog_res {text : List Int} {r : Re} {H : Nat} (h : FragOk text H (frgOf r) (crsOf text r)) (hH : H < 1000000) {p : Nat} {B : List Int} {G : Grp} (hp : p ≤ text.length) (hB : tempsOf r ≤ B.length) :
  Res text (progOf r) 0 p 0 B G ((crsOf text r p G).head?.map fun q => (q.2, q.1)) := by
 have hc : CodeAt (progOf r) 0 (frgOf r 0 0 0).1 := fun i x hx => by rw [Nat.zero_add]; unfold progOf; rw [List.getElem?_append_left (lt_of_get hx)]; exact hx
 obtain ⟨_, h2⟩ := h (progOf r) 0 0 0 hc (by omega)
 have := h2 p 0 B G (fun q => some (q.2, q.1)) hp hB (fun q hq B' hl _ => .fin (by unfold progOf; rw [Nat.zero_add, List.getElem?_append_right (Nat.le_refl _), Nat.sub_self]; rfl))
 have e : (crsOf text r p G).findSome? (fun q => some (q.2, q.1)) = (crsOf text r p G).head?.map fun q => (q.2, q.1) := by
  cases crsOf text r p G <;> rfl
 rwa [e] at this
theorem frag_one {text : List Int} {C : Frg} {f : CFn} {x : Ins} (hC : C = fun _ _ t => ([x], t)) (h : ∀ code a p dn (B : List Int) G (K : Crs → Option (Grp × Nat)), code[a]? = some x → p ≤ text.length → (∀ q ∈ f p G, Res text code (a + 1) q.1 (if q.1 = p then dn else many) B q.2 (K q)) → Res text code a p dn B G ((f p G).findSome? K)) {H : Nat} : FragOk text H C f := by
 subst hC
 intro code a d t hc hd
 refine ⟨Nat.le_refl _, fun p dn B G K hp hB hk => ?_⟩
 exact h code a p dn B G K hc.head hp fun q hq => hk q hq B rfl (fun _ _ => rfl)
theorem zip_maps {α : Type} (l : List α) (f : α → Frg) (g : α → CFn) : ∃ L : List (Frg × CFn), L.map (·.1) = l.map f ∧ L.map (·.2) = l.map g ∧ ∀ x ∈ L, ∃ a ∈ l, x = (f a, g a) := by
 refine ⟨l.map fun a => (f a, g a), by simp, by simp, fun x hx => ?_⟩
 obtain ⟨a, ha, rfl⟩ := List.mem_map.1 hx
 exact ⟨a, ha, rfl⟩
theorem grpF_ok {text : List Int} {H n : Nat} {C : Frg} {f : CFn} (hn10 : n < 10) (hC : FragOk text H C f) : FragOk text H (fun a d t => let r := C (a + 1) d (t + 1); (.opn t :: (r.1 ++ [.cls t n]), r.2)) (grpC f n) := by
 intro code a d t hc hd
 dsimp only at hc ⊢
 obtain ⟨h1, h2⟩ := hC code (a + 1) d (t + 1) hc.tail.left hd
 refine ⟨by omega, fun p dn B G K hp hB hk => .opn hc.head (by omega) ?_⟩
 have hcl := hc.tail.right.head
 simp only [grpC, List.findSome?_map]
 refine h2 p dn _ G _ hp (by simpa using hB) fun q hq B' hl hag => ?_
 have hbt : B'[t]? = some (p : Int) := by
  rw [hag t (by omega), List.getElem?_set, if_pos rfl, if_pos (by omega)]
 refine .cls hcl hn10 hbt ?_
 have := hk (q.1, q.2.set n ((p : Int), (q.1 : Int))) (by simp only [grpC, List.mem_map]; exact ⟨q, hq, rfl⟩) B' (by simpa using hl) (fun i hi => by rw [hag i (by omega), List.getElem?_set, if_neg (by omega)])
 rw [show a + (Ins.opn t :: ((C (a + 1) d (t + 1)).1 ++ [Ins.cls t n])).length = a + 1 + (C (a + 1) d (t + 1)).1.length + 1 by simp; omega] at this
 exact this
theorem headF_map {args : List Re} (h : 1 ≤ args.length) : ∃ x ∈ args, arg0 args = x ∧ (args.map frgOf).headD noF = frgOf x ∧ ∀ text, (args.map (crsOf text)).headD noC = crsOf text x := by
  match args, h with
  | x :: args, _ => exact ⟨x, by simp, rfl, rfl, fun _ => rfl⟩
mutual
theorem frag_ok (text : List Int) : ∀ t : Re, wfC t → FragOk text t.size (frgOf t) (crsOf text t)
  | .mk k set args mn mx ng, hw => by
    simp only [wfC] at hw
    obtain ⟨hk, hk9, hws⟩ := hw
    have ih := frags_ok text args hws
    simp only [frgOf, crsOf, frgsOf_eq, crssOf_eq, Re.size]
    obtain ⟨L, hL1, hL2, hL3⟩ := zip_maps args frgOf (crsOf text)
    have hL : ∀ x ∈ L, FragOk text (Re.sizes args + 1) x.1 x.2 ∧ CrsOk text x.2 := fun x hx => by
      obtain ⟨a, ha, rfl⟩ := hL3 x hx
      exact ⟨(ih a ha).mono (by omega), crsOf_ok text a⟩
    rcases hk with rfl | rfl | rfl | rfl | ⟨rfl, h1⟩ | ⟨hk, h1⟩
    · simp only [frgK, crsK]
      refine frag_one (x := .set []) (by simp) fun code a p dn B G K hc hp hk => ?_
      exact .setN hc (by unfold setOk; split <;> rfl)
    · simp only [frgK, crsK]
      exact noF_ok (by simp)
    · simp only [frgK, crsK]
      refine frag_one (x := .set set) (by simp) fun code a p dn B G K hc hp hk => ?_
      simp at hk ⊢
      cases hs : setOk text set p with
      | false => exact .setN hc hs
      | true =>
        rw [hs] at hk
        simp at hk
        simpa using Res.setY hc hs hk
    · simp only [frgK, crsK]
      simp
      rw [← hL1, ← hL2]
      exact seqF_ok hL
    · simp only [frgK, crsK]
      simp
      rw [← hL1, ← hL2]
      intro code a d t hc hd
      have hlen := (altF_len 0 (a + (altF 0 (L.map (·.1)) a d t).1.length) (L.map (·.1)) a d t).1
      obtain ⟨h2, h3⟩ := altF_ok (a + (altF 0 (L.map (·.1)) a d t).1.length) (L := L) (by intro e; subst e; simp at hL1; rw [hL1] at h1; simp at h1) hL code a d t hc (by rw [← hlen]) hd
      refine ⟨h2, fun p dn B G K hp hB hk => h3 p dn B G K hp hB fun q hq B' hl hag => ?_⟩
      have := hk q hq B' hl hag
      rwa [← hlen] at this
    · obtain ⟨x, hx, h0, hF, hC⟩ := headF_map h1
      have hxf := ih x hx
      have hxc := crsOf_ok text x
      rcases hk with rfl | rfl | rfl | rfl
      · simp only [frgK, crsK, hF, hC]
        simp
        intro code a d t hc hd
        obtain ⟨h2, h3⟩ := starF_ok hxf hxc hc (by omega)
        exact ⟨h2, fun p dn B G K hp hB hk => h3 (text.length + 1) p dn B G K hp (by omega) hB hk⟩
      · simp only [frgK, crsK, hF, hC]
        simp
        intro code a d t hc hd
        dsimp only at hc ⊢
        have hs := seqF_ok (text := text) (H := Re.sizes args + 1) (L := List.replicate mn.toNat (frgOf x, crsOf text x)) (fun z hz => by
          obtain ⟨_, rfl⟩ := List.mem_replicate.1 hz
          exact ⟨hxf.mono (by omega), hxc⟩)
        rw [List.map_replicate, List.map_replicate, seqC_rep] at hs
        obtain ⟨h2, h3⟩ := hs code a d t hc.left (by omega)
        generalize hr : seqF (List.replicate mn.toNat (frgOf x)) a d t = r at *
        have hlen := (itF_len 0 (a + r.1.length + (itF 0 (frgOf x) (mx - mn).toNat (a + r.1.length) d r.2).1.length) (frgOf x) (mx - mn).toNat (a + r.1.length) d r.2).1
        obtain ⟨h4, h5⟩ := itF_ok hxf hxc _ (mx - mn).toNat code (a + r.1.length) d r.2 hc.right (by rw [← hlen]) (by omega)
        refine ⟨by omega, fun p dn B G K hp hB hk => ?_⟩
        rw [find_flat]
        refine h3 p dn B G _ hp (by omega) fun q hq B' hl hag => ?_
        obtain ⟨g1, g2, _⟩ := timesC_ok hxc _ p G hp q hq
        refine h5 q.1 _ B' q.2 K g2 (by omega) fun z hz B'' hl2 hag2 => ?_
        obtain ⟨g4, _, _⟩ := moreC_ok hxc _ q.1 q.2 g2 z hz
        have h6 := hk z (by first | exact ⟨q, hq, hz⟩ | (simp only [List.mem_flatMap]; exact ⟨q, hq, hz⟩) | exact ⟨q.1, q.2, hq, hz⟩) B'' (by omega) (fun i hi => (hag2 i (by omega)).trans (hag i hi))
        rw [List.length_append, ← hlen, ← Nat.add_assoc] at h6
        have e : (if z.1 = q.1 then (if q.1 = p then dn else many) else many) = (if z.1 = p then dn else many) := by
          by_cases h8 : z.1 = q.1
          · rw [if_pos h8, h8]
          · rw [if_neg h8, if_neg (by omega)]
        rw [e]
        exact h6
      · simp only [frgK, crsK, hF, hC]
        simp
        exact grpF_ok (hk9 rfl) (hxf.mono (by omega))
      · have e1 : frgK 10 set (args.map frgOf) (arg0 args) mn mx ng = fun _ _ t => ([.look x ng], t) := by rw [← h0]; rfl
        have e2 : crsK text 10 set (args.map (crsOf text)) mn mx ng = fun p g => if (!(crsOf text x p G0).isEmpty) = ng then [] else [(p, g)] := by rw [← hC text]; rfl
        rw [e1, e2]
        intro code a d t hc hd
        refine ⟨Nat.le_refl _, fun p dn B G K hp hB hk => ?_⟩
        dsimp only at hk ⊢
        have hr := prog_res hxf (by omega) (B := List.replicate (tempsOf x) 0) (G := G0) hp (by simp)
        have hi : ((crsOf text x p G0).head?.map fun q => (q.2, q.1)).isSome = !(crsOf text x p G0).isEmpty := by cases crsOf text x p G0 <;> rfl
        by_cases hn : (!(crsOf text x p G0).isEmpty) = ng
        · rw [if_pos hn]
          exact .lookN hc.head hr (by rw [hi]; exact hn)
        · rw [if_neg hn] at hk ⊢
          have := hk (p, G) (by simp) B rfl (fun _ _ => rfl)
          rw [if_pos rfl] at this
          have h9 := Res.lookY hc.head hr (by rw [hi]; exact hn) this
          simpa using h9
theorem frags_ok (text : List Int) : ∀ ts : List Re, wfCs ts → ∀ t ∈ ts, FragOk text (Re.sizes ts) (frgOf t) (crsOf text t)
  | [], _, t, h => by cases h
  | x :: ts, hw, t, h => by
    simp only [wfCs] at hw
    simp only [Re.sizes]
    rcases List.mem_cons.1 h with h | h
    · rw [h]
      exact (frag_ok text x hw.1).mono (by omega)
    · exact (frags_ok text ts hw.2 t h).mono (by omega)
end
end Go.Proofs
namespace Go.Proofs
open Go Go.Eng Go.Sort
set_option maxRecDepth 100000
theorem SlAt.chg2 {M : Nat → Prop} {w w' : World} {k : Nat} {v : Value} {rows : List (List Value)} (h : SlAt w k v rows) (c : Chg M w w') (hM : rows = [] ∨ ∃ b, v.ownBlock = some b ∧ ¬ M b) : SlAt w' k v rows := by
 obtain ⟨a, cap, hv, hl, hc, h⟩ := h
 refine ⟨a, cap, hv, hl, hc, ?_⟩
 rcases h with h | ⟨b, o, ha, h⟩
 ·exact .inl h
 ·rcases hM with hM | ⟨b', hb', hM⟩
  ·exact .inl hM
  ·rw [hv, ha] at hb'
   cases hb'
   exact .inr ⟨b, o, ha, fun i r hr => (h i r hr).chg c hM⟩
abbrev TCd : Nat := 87
abbrev TPg : Nat := 83
abbrev iV (n : Nat) : Value := .int .i64 ((n : Nat) : Int)
abbrev nilS : Value := .slice none 0 0
abbrev nilP : Value := .pointer none
abbrev row8 (k x y n t : Nat) (s p : Value) (b : Bool) : List Value := [iV k, iV x, iV y, iV n, iV t, s, p, .bool b]
def RowF (F : Nat → Prop) (w : World) (pb : Nat) : Ins → List Value → Prop
  | .set l, row => ∃ sv, row = row8 0 0 0 0 0 sv nilP false ∧ SpansAt w sv l ∧ (l = [] ∨ ∃ b, sv.ownBlock = some b ∧ F b)
  | .split x y, row => row = row8 1 x y 0 0 nilS nilP false
  | .jump x, row => row = row8 2 x 0 0 0 nilS nilP false
  | .opn t, row => row = row8 3 0 0 0 t nilS nilP false
  | .cls t n, row => row = row8 4 0 0 n t nilS nilP false
  | .look _ ng, row => row = row8 5 0 0 0 0 nilS (.pointer (some ⟨pb, 0, none⟩)) ng
  | .ent n, row => row = row8 6 0 0 n 0 nilS nilP false
  | .chk n, row => row = row8 7 0 0 n 0 nilS nilP false
  | .fin, row => row = row8 8 0 0 0 0 nilS nilP false
theorem RowF.len {F : Nat → Prop} {w : World} {pb : Nat} {ins : Ins} {row : List Value} (h : RowF F w pb ins row) : row.length = 8 := by
 cases ins <;> simp only [RowF] at h
 ·obtain ⟨sv, rfl, _⟩ := h; rfl
 all_goals (subst h; rfl)
theorem RowF.chg {F : Nat → Prop} {M : Nat → Prop} {w w' : World} {pb : Nat} {ins : Ins} {row : List Value} (h : RowF F w pb ins row) (c : Chg M w w') (hM : ∀ y, F y → ¬ M y) : RowF F w' pb ins row := by
 cases ins <;> simp only [RowF] at h ⊢
 ·obtain ⟨sv, rfl, h1, h2⟩ := h
  refine ⟨sv, rfl, SlAt.chg2 h1 c ?_, h2⟩
  rcases h2 with rfl | ⟨b, h3, h4⟩
  ·exact .inl rfl
  ·exact .inr ⟨b, h3, hM b h4⟩
 all_goals exact h
theorem RowF.mono {F F' : Nat → Prop} {w : World} {pb : Nat} {ins : Ins} {row : List Value} (h : RowF F w pb ins row) (hF : ∀ y, F y → F' y) : RowF F' w pb ins row := by
 cases ins <;> simp only [RowF] at h ⊢
 ·obtain ⟨sv, rfl, h1, h2⟩ := h
  exact ⟨sv, rfl, h1, h2.imp id fun ⟨b, h3, h4⟩ => ⟨b, h3, hF b h4⟩⟩
 all_goals exact h
inductive ProgAt (F : Nat → Prop) (w : World) : Nat → Re → Prop where
  | mk {b cb n cc : Nat} {r : Re} {rows : List (List Value)} {pbs : Nat → Nat} (hB : Blk w b #[.slice (some ⟨cb, 0, none⟩) n cc, iV (tempsOf r), iV 0] TPg) (hF : F b) (hF2 : F cb) (hb : n ≤ 1000) (htm : tempsOf r ≤ 1000) (hn : (progOf r).length = n) (hl : rows.length = n) (hc : CellsAt w cb 0 rows.flatten)
      (hr : ∀ (i : Nat) ins row, (progOf r)[i]? = some ins → rows[i]? = some row → RowF F w (pbs i) ins row) (hs : ∀ (i : Nat) r' ng, (progOf r)[i]? = some (.look r' ng) → ProgAt F w (pbs i) r') : ProgAt F w b r
theorem ProgAt.chg {F M : Nat → Prop} {w w' : World} (c : Chg M w w') (hM : ∀ y, F y → ¬ M y) {b : Nat} {r : Re} (h : ProgAt F w b r) : ProgAt F w' b r := by
  induction h with
  | mk hB hF hF2 hb htm hn hl hc hr hs ih => exact .mk (c.keep (hM _ hF) hB) hF hF2 hb htm hn hl (hc.chg c (hM _ hF2)) (fun i ins row h1 h2 => (hr i ins row h1 h2).chg c hM) ih
theorem ProgAt.mono {F F' : Nat → Prop} {w : World} (hF : ∀ y, F y → F' y) {b : Nat} {r : Re} (h : ProgAt F w b r) : ProgAt F' w b r := by
  induction h with
  | mk hB hF1 hF2 hb htm hn hl hc hr hs ih => exact .mk hB (hF _ hF1) (hF _ hF2) hb htm hn hl hc (fun i ins row h1 h2 => (hr i ins row h1 h2).mono hF) ih
def RowsAt (F : Nat → Prop) (w : World) (code : List Ins) (rows : List (List Value)) : Prop :=
 rows.length = code.length ∧ ∃ pbs : Nat → Nat, (∀ (i : Nat) ins row, code[i]? = some ins → rows[i]? = some row → RowF F w (pbs i) ins row) ∧ ∀ (i : Nat) r' ng, code[i]? = some (.look r' ng) → ProgAt F w (pbs i) r'
theorem RowsAt.chg {F M : Nat → Prop} {w w' : World} {code : List Ins} {rows : List (List Value)} (h : RowsAt F w code rows) (c : Chg M w w') (hM : ∀ y, F y → ¬ M y) : RowsAt F w' code rows :=
 let ⟨h1, pbs, h2, h3⟩ := h; ⟨h1, pbs, fun i ins row a b => (h2 i ins row a b).chg c hM, fun i r' ng a => (h3 i r' ng a).chg c hM⟩
theorem RowsAt.mono {F F' : Nat → Prop} {w : World} {code : List Ins} {rows : List (List Value)} (h : RowsAt F w code rows) (hF : ∀ y, F y → F' y) : RowsAt F' w code rows :=
 let ⟨h1, pbs, h2, h3⟩ := h; ⟨h1, pbs, fun i ins row a b => (h2 i ins row a b).mono hF, fun i r' ng a => (h3 i r' ng a).mono hF⟩
theorem RowsAt.len8 {F : Nat → Prop} {w : World} {code : List Ins} {rows : List (List Value)} (h : RowsAt F w code rows) : ∀ r ∈ rows, r.length = 8 := fun r hr => by
 obtain ⟨h1, pbs, h2, _⟩ := h
 obtain ⟨i, hi⟩ := List.getElem?_of_mem hr
 obtain ⟨ins, hins⟩ := get_of_lt (l := code) (i := i) (by have := lt_of_get hi; omega)
 exact (h2 i ins r hins hi).len
theorem RowsAt.nil (F : Nat → Prop) (w : World) : RowsAt F w [] [] := ⟨rfl, fun _ => 0, fun i ins row h => by simp at h, fun i r' ng h => by simp at h⟩
theorem RowsAt.snoc {F : Nat → Prop} {w : World} {code : List Ins} {rows : List (List Value)} {ins : Ins} {row : List Value} {pb : Nat} (h : RowsAt F w code rows) (hr : RowF F w pb ins row) (hp : ∀ r' ng, ins = .look r' ng → ProgAt F w pb r') : RowsAt F w (code ++ [ins]) (rows ++ [row]) := by
 obtain ⟨h1, pbs, h2, h3⟩ := h
 refine ⟨by simp [h1], fun i => if i = code.length then pb else pbs i, fun i x y hx hy => ?_, fun i r' ng hx => ?_⟩
 ·rcases Nat.lt_or_ge i code.length with hi | hi
  ·rw [List.getElem?_append_left hi] at hx
   rw [List.getElem?_append_left (by omega)] at hy
   dsimp only; rw [if_neg (by omega)]
   exact h2 i x y hx hy
  ·have := lt_of_get hx
   simp at this
   obtain rfl : i = code.length := by omega
   rw [List.getElem?_append_right (Nat.le_refl _), Nat.sub_self] at hx
   rw [← h1, List.getElem?_append_right (Nat.le_refl _), Nat.sub_self] at hy
   simp at hx hy
   subst hx; subst hy
   dsimp only; rw [if_pos rfl]
   exact hr
 ·rcases Nat.lt_or_ge i code.length with hi | hi
  ·rw [List.getElem?_append_left hi] at hx
   dsimp only; rw [if_neg (by omega)]
   exact h3 i r' ng hx
  ·have := lt_of_get hx
   simp at this
   obtain rfl : i = code.length := by omega
   rw [List.getElem?_append_right (Nat.le_refl _), Nat.sub_self] at hx
   simp at hx
   dsimp only; rw [if_pos rfl]
   exact hp r' ng hx
theorem RowsAt.set {F : Nat → Prop} {w : World} {code : List Ins} {rows : List (List Value)} {ins : Ins} {row : List Value} {j : Nat} (h : RowsAt F w code rows) (hr : ∀ pb, RowF F w pb ins row) (hp : ∀ r' ng, ins ≠ .look r' ng) : RowsAt F w (code.set j ins) (rows.set j row) := by
 obtain ⟨h1, pbs, h2, h3⟩ := h
 refine ⟨by simp [h1], pbs, fun i x y hx hy => ?_, fun i r' ng hx => ?_⟩
 ·rw [List.getElem?_set] at hx hy
  by_cases hij : j = i
  ·rw [if_pos hij] at hx hy
   split at hx
   ·split at hy
    ·cases hx; cases hy; exact hr _
    ·cases hy
   ·cases hx
  ·rw [if_neg hij] at hx hy
   exact h2 i x y hx hy
 ·rw [List.getElem?_set] at hx
  by_cases hij : j = i
  ·rw [if_pos hij] at hx
   split at hx
   ·cases hx; exact absurd rfl (hp r' ng)
   ·cases hx
  ·rw [if_neg hij] at hx
   exact h3 i r' ng hx
theorem flat8_set : ∀ {rows : List (List Value)} {i f : Nat} {row : List Value} {v : Value}, (∀ r ∈ rows, r.length = 8) → rows[i]? = some row → f < 8 → rows.flatten.set (i * 8 + f) v = (rows.set i (row.set f v)).flatten
  | [], i, f, row, v, _, h, _ => by simp at h
  | r :: rows, 0, f, row, v, h8, h, hf => by
    simp at h; subst h
    have := h8 r (by simp)
    rw [List.set_cons_zero, List.flatten_cons, List.flatten_cons, Nat.zero_mul, Nat.zero_add, List.set_append_left _ _ (by omega)]
  | r :: rows, i + 1, f, row, v, h8, h, hf => by
    have h1 := h8 r (by simp)
    have ih := flat8_set (rows := rows) (i := i) (f := f) (v := v) (fun x hx => h8 x (by simp [hx])) (by simpa using h) hf
    rw [List.set_cons_succ, List.flatten_cons, List.flatten_cons, List.set_append_right _ _ (by omega), ← ih]
    congr 2
    omega
theorem flat8_get : ∀ {rows : List (List Value)} {i f : Nat} {row : List Value}, (∀ r ∈ rows, r.length = 8) → rows[i]? = some row → f < 8 → rows.flatten[i * 8 + f]? = row[f]?
  | [], i, f, row, _, h, _ => by simp at h
  | r :: rows, 0, f, row, h8, h, hf => by
    simp at h; subst h
    have := h8 r (by simp)
    rw [List.flatten_cons, Nat.zero_mul, Nat.zero_add, List.getElem?_append_left (by omega)]
  | r :: rows, i + 1, f, row, h8, h, hf => by
    have h1 := h8 r (by simp)
    have ih := flat8_get (rows := rows) (i := i) (f := f) (fun x hx => h8 x (by simp [hx])) (by simpa using h) hf
    rw [List.flatten_cons, List.getElem?_append_right (by omega), ← ih]
    congr 1
    omega
/-- A program that is being made. -/
structure PSt2 (F : Nat → Prop) (w : World) (base pb : Nat) (v : Value) (n : Nat) (code : List Ins) (t d : Nat) : Prop where
 blk : Blk w pb #[v, iV t, iV d] TPg
 rows : ∃ rows, w.ownsRow base TCd 8 v n rows.flatten ∧ RowsAt F w code rows
 len : code.length = n
 ho : ∀ b, v.ownBlock = some b → ¬ F b
 hp : ¬ F pb
 pb : pb < base
 bs : base ≤ w.heap.size
 fl : ∀ y, F y → y < w.heap.size
theorem PSt2.chg {F M : Nat → Prop} {w w' : World} {base pb : Nat} {v : Value} {n : Nat} {code : List Ins} {t d : Nat} (h : PSt2 F w base pb v n code t d) (c : Chg M w w') (hM : ∀ y, F y → ¬ M y) (h1 : ¬ M pb) (h2 : ∀ b, v.ownBlock = some b → ¬ M b) : PSt2 F w' base pb v n code t d := by
 obtain ⟨rows, h3, h4⟩ := h.rows
 exact ⟨c.keep h1 h.blk, ⟨rows, own_chg h3 c h2, h4.chg c hM⟩, h.len, h.ho, h.hp, h.pb, Nat.le_trans h.bs c.size, fun y hy => Nat.lt_of_lt_of_le (h.fl y hy) c.size⟩
theorem PSt2.ext {F : Nat → Prop} {w w' : World} {base pb : Nat} {v : Value} {n : Nat} {code : List Ins} {t d : Nat} (h : PSt2 F w base pb v n code t d) (c : Ext w w') : PSt2 F w' base pb v n code t d := h.chg c (fun _ _ f => f) (fun f => f) fun _ _ f => f
/-- A program that grew. -/
structure GrX (F : Nat → Prop) (w0 : World) (base pb : Nat) (v : Value) (F' : Nat → Prop) (v' : Value) (code' : List Ins) (t' d : Nat) (w : World) : Prop where
 sub : ∀ y, F y → F' y
 new : ∀ y, F' y → F y ∨ w0.heap.size ≤ y
 st : PSt2 F' w base pb v' code'.length code' t' d
 chg : Chg (fun y => y = pb ∨ v.ownBlock = some y) w0 w
 own : ∀ k, v'.ownBlock = some k → v.ownBlock = some k ∨ w0.heap.size ≤ k
def Grew (F : Nat → Prop) (w0 : World) (base pb : Nat) (v : Value) (code' : List Ins) (t' d : Nat) (w : World) : Prop := ∃ F' v', GrX F w0 base pb v F' v' code' t' d w
section
variable {F F' : Nat → Prop} {w0 w w2 : World} {base pb : Nat} {v v' : Value} {code code' : List Ins} {t t' d d' n : Nat}
theorem GrX.start (h : PSt2 F w0 base pb v n code t d) : GrX F w0 base pb v F v code t d w0 :=
 ⟨fun _ h => h, fun _ h => .inl h, by rw [h.len]; exact h, Chg.refl _ _, fun _ h => .inl h⟩
theorem GrX.ext (h : GrX F w0 base pb v F' v' code' t' d w) (e : Ext w w2) : GrX F w0 base pb v F' v' code' t' d w2 :=
 ⟨h.sub, h.new, h.st.ext e, h.chg.ext e, h.own⟩
/-- A block that is made now, and never written again. -/
theorem GrX.frz (h : GrX F w0 base pb v F' v' code' t' d w) (e : Ext w w2) {b : Nat} (hb : w.heap.size ≤ b) (hb2 : b < w2.heap.size) : GrX F w0 base pb v (fun y => F' y ∨ y = b) v' code' t' d w2 := by
 have hs := h.st
 have hpl := hs.blk.lt
 obtain ⟨rows, h3, h4⟩ := hs.rows
 refine ⟨fun y hy => .inl (h.sub y hy), fun y hy => ?_, ⟨e.keep hs.blk, ⟨rows, own_ext h3 e, (h4.chg e (fun _ _ f => f)).mono fun y hy => .inl hy⟩, hs.len, fun q hq hf => ?_, fun hf => ?_, hs.pb, Nat.le_trans hs.bs e.size, fun y hy => ?_⟩, h.chg.ext e, h.own⟩
 ·rcases hy with hy | hy
  ·exact h.new y hy
  ·have := h.chg.size; exact .inr (by omega)
 ·have := (h3.lt q hq).2
  rcases hf with hf | hf
  ·exact hs.ho q hq hf
  ·omega
 ·rcases hf with hf | hf
  ·exact hs.hp hf
  ·omega
 ·rcases hy with hy | hy
  ·have := hs.fl y hy; have := e.size; omega
  ·omega
theorem GrX.step {F1 : Nat → Prop} {w1 : World} {v1 : Value} {c1 c2 : List Ins} {t1 t2 d1 d2 : Nat} (h : GrX F w0 base pb v F1 v1 c1 t1 d1 w1) (h2 : Grew F1 w1 base pb v1 c2 t2 d2 w2) : ∃ F2 v2, GrX F w0 base pb v F2 v2 c2 t2 d2 w2 ∧ (∀ y, F1 y → F2 y) ∧ (∀ y, F2 y → F1 y ∨ w1.heap.size ≤ y) ∧ Chg (fun y => y = pb ∨ v1.ownBlock = some y) w1 w2 ∧ ∀ k, v2.ownBlock = some k → v1.ownBlock = some k ∨ w1.heap.size ≤ k := by
 obtain ⟨F2, v2, b⟩ := h2
 have hs := h.chg.size
 refine ⟨F2, v2, ⟨fun y hy => b.sub y (h.sub y hy), fun y hy => ?_, b.st, h.chg.step b.chg fun x hx hm => ?_, fun k hk => ?_⟩, b.sub, b.new, b.chg, b.own⟩
 ·rcases b.new y hy with h1 | h1
  ·exact h.new y h1
  ·exact .inr (by omega)
 ·rcases hm with h1 | h1
  ·exact .inl h1
  ·rcases h.own x h1 with h3 | h3
   ·exact .inr h3
   ·omega
 ·rcases b.own k hk with h1 | h1
  ·exact h.own k h1
  ·exact .inr (by omega)
theorem GrX.fresh (h : GrX F w0 base pb v F' v' code' t' d w) : ∀ q, w.heap.size ≤ q → w0.heap.size ≤ q ∧ ¬ F' q ∧ q ≠ pb ∧ v'.ownBlock ≠ some q := fun q hq => by
 have hs := h.st
 obtain ⟨rows, h3, _⟩ := hs.rows
 have := h.chg.size
 exact ⟨by omega, fun hf => by have := hs.fl q hf; omega, fun e => by have := hs.blk.lt; omega, fun e => by have := (h3.lt q e).2; omega⟩
/-- A block that is not written again. -/
theorem GrX.frz2 (h : GrX F w0 base pb v F' v' code' t' d w) {b : Nat} (hb : w0.heap.size ≤ b) (hb2 : b < w.heap.size) (h1 : b ≠ pb) (h2 : v'.ownBlock ≠ some b) : GrX F w0 base pb v (fun y => F' y ∨ y = b) v' code' t' d w := by
 have hs := h.st
 obtain ⟨rows, h3, h4⟩ := hs.rows
 refine ⟨fun y hy => .inl (h.sub y hy), fun y hy => ?_, ⟨hs.blk, ⟨rows, h3, h4.mono fun y hy => .inl hy⟩, hs.len, fun q hq hf => ?_, fun hf => ?_, hs.pb, hs.bs, fun y hy => ?_⟩, h.chg, h.own⟩
 ·rcases hy with hy | hy
  ·exact h.new y hy
  ·exact .inr (by omega)
 ·rcases hf with hf | hf
  ·exact hs.ho q hq hf
  ·subst hf; exact h2 hq
 ·rcases hf with hf | hf
  ·exact hs.hp hf
  ·exact h1 hf.symm
 ·rcases hy with hy | hy
  ·exact hs.fl y hy
  ·omega
theorem GrX.comp {F2 : Nat → Prop} {v2 : Value} {c1 c2 : List Ins} {t1 t2 d1 d2 : Nat} (h : GrX F w0 base pb v F' v' c1 t1 d1 w) (b : GrX F' w base pb v' F2 v2 c2 t2 d2 w2) : GrX F w0 base pb v F2 v2 c2 t2 d2 w2 := by
 have hs := h.chg.size
 refine ⟨fun y hy => b.sub y (h.sub y hy), fun y hy => ?_, b.st, h.chg.step b.chg fun x hx hm => ?_, fun k hk => ?_⟩
 ·rcases b.new y hy with h1 | h1
  ·exact h.new y h1
  ·exact .inr (by omega)
 ·rcases hm with h1 | h1
  ·exact .inl h1
  ·rcases h.own x h1 with h3 | h3
   ·exact .inr h3
   ·omega
 ·rcases b.own k hk with h1 | h1
  ·exact h.own k h1
  ·exact .inr (by omega)
theorem GrX.wb {wb : World} (h : GrX F w0 base pb v F' v' code' t' d w) (hp : ¬ F pb) (ho : ∀ b, v.ownBlock = some b → ¬ F b) (hF : ∀ y, y < wb.heap.size → F y) (hE : Ext wb w0) : Ext wb w :=
 hE.step h.chg fun x hx hm => by
  have := hF x hx
  rcases hm with h1 | h1
  ·subst h1; exact absurd this hp
  ·exact absurd this (ho x h1)
theorem PSt2.form (h : PSt2 F w base pb v n code t d) : ∃ a c, v = .slice a n c := by
 obtain ⟨rows, h1, _⟩ := h.rows
 exact own_form h1
/-- The frozen blocks are kept. -/
theorem PSt2.kept (h : PSt2 F w base pb v n code t d) {b : Nat} (hb : F b) : ¬ (b = pb ∨ v.ownBlock = some b) := fun hm => hm.elim (fun e => h.hp (e ▸ hb)) (fun e => h.ho b e hb)
/-- A write elsewhere, to a block that was made behind. -/
theorem GrX.other (h : GrX F w0 base pb v F' v' code' t' d w) {M : Nat → Prop} (c : Chg M w w2) (hM : ∀ y, M y → w0.heap.size ≤ y ∧ ¬ F' y ∧ y ≠ pb ∧ v'.ownBlock ≠ some y) : GrX F w0 base pb v F' v' code' t' d w2 :=
 ⟨h.sub, h.new, h.st.chg c (fun y hy hm => (hM y hm).2.1 hy) (fun hm => (hM _ hm).2.2.1 rfl) (fun b hb hm => (hM b hm).2.2.2 hb), h.chg.step c (fun x hx hm => absurd hx (by have := (hM x hm).1; omega)), h.own⟩
/-- The program's fields but its code change. -/
theorem GrX.fields (h : GrX F w0 base pb v F' v' code' t' d w) (p : Put w w2 pb #[v', iV t, iV d'] TPg) : GrX F w0 base pb v F' v' code' t d' w2 := by
 have hs := h.st
 obtain ⟨rows, h3, h4⟩ := hs.rows
 refine ⟨h.sub, h.new, ⟨p.blk, ⟨rows, own_chg h3 p.chg (fun k hk e => ?_), h4.chg p.chg (fun y hy e => hs.hp (e ▸ hy))⟩, hs.len, hs.ho, hs.hp, hs.pb, Nat.le_trans hs.bs p.chg.size, fun y hy => Nat.lt_of_lt_of_le (hs.fl y hy) p.chg.size⟩, h.chg.step p.chg (fun x hx e => .inl e), h.own⟩
 have := (h3.lt k hk).1; have := hs.pb; omega
/-- An instruction's aims are written. -/
theorem GrX.patch {g cap m i f : Nat} {cur : Array Value} {x : Value} {ins : Ins} {row : List Value} (h : GrX F w0 base pb v F' (.slice (some ⟨g, 0, none⟩) m cap) code' t' d w) (hm : m = code'.length) (hB : Blk w g cur TCd) (p : Put w w2 g (cur.setIfInBounds (i * 8 + f) x) TCd) (hi : i < code'.length) (hf : f < 8)
  (hrow : ∀ row0 pb0 ins0, code'[i]? = some ins0 → RowF F' w pb0 ins0 row0 → row0.set f x = row) (hr : ∀ pb0 (w : World), RowF F' w pb0 ins row) (hl : ∀ r' ng, ins ≠ .look r' ng) : GrX F w0 base pb v F' (.slice (some ⟨g, 0, none⟩) m cap) (code'.set i ins) t' d w2 := by
 subst hm
 have hs := h.st
 obtain ⟨rows, h3, h4⟩ := hs.rows
 have h8 := h4.len8
 have hgF : ¬ F' g := hs.ho g rfl
 have hgb := (h3.lt g rfl).1
 obtain ⟨row0, hrow0⟩ := get_of_lt (l := rows) (i := i) (by have := h4.1; omega)
 obtain ⟨ins0, hins0⟩ := get_of_lt hi
 obtain ⟨_, pbs, h5, _⟩ := id h4
 have he := hrow row0 (pbs i) ins0 hins0 (h5 i ins0 row0 hins0 hrow0)
 have hfl := flat8_set (v := x) h8 hrow0 hf
 rw [he] at hfl
 have h6 := own_writeG h3 hB (i := i * 8 + f) (v := x) (by omega) p.blk
 rw [hfl] at h6
 refine ⟨h.sub, h.new, ⟨p.chg.keep (fun e => by have := hs.pb; omega) (by simpa using hs.blk), ⟨rows.set i row, by simpa using h6, (h4.chg p.chg (fun y hy e => hgF (e ▸ hy))).set (fun pb0 => hr pb0 _) hl⟩, rfl, hs.ho, hs.hp, hs.pb, Nat.le_trans hs.bs p.chg.size, fun y hy => Nat.lt_of_lt_of_le (hs.fl y hy) p.chg.size⟩, h.chg.step p.chg (fun q hq e => ?_), h.own⟩
 have e' : q = g := e
 rcases h.own g rfl with h7 | h7
 ·exact .inr (e' ▸ h7)
 ·omega
end
end Go.Proofs
namespace Go.Proofs
open Go Go.Eng Go.Sort
set_option maxRecDepth 100000
theorem litF_chg {U : Nat → Prop} {e hs : Nat} {c : Array Value} (h : ∀ y, U y → y < hs) : ∀ v w w', Chg U w w' → litF e c hs v w → litF e c hs v w' := by
 rintro v w w' x ⟨b, h1, h2, h3⟩
 exact ⟨b, h1, x.keep (fun hu => by have := h b hu; omega) h2, h3⟩
theorem one8 (k x y n t : Nat) {s p : Value} {b : Bool} (hs : s.oneCell' = true) (hp : p.oneCell' = true) : ∀ u ∈ row8 k x y n t s p b, u.oneCell' = true := by
 intro u hu
 simp only [List.mem_cons, List.not_mem_nil, or_false] at hu
 rcases hu with rfl | rfl | rfl | rfl | rfl | rfl | rfl | rfl <;> first | rfl | assumption
set_option maxHeartbeats 1000000 in
theorem add_c (F : Nat → Prop) (w0 : World) (base pb : Nat) (v : Value) (n : Nat) (code : List Ins) (t d : Nat) (ins : Ins) (qb k x y m tt : Nat) (sa : Option Addr) (sn sc : Nat) (p : Value) (b : Bool) (h : PSt2 F w0 base pb v n code t d)(hn : n ≤ 1000000)
  (hrow : RowF F w0 qb ins (row8 k x y m tt (.slice sa sn sc) p b)) (hp1 : p.oneCell' = true) (hp : ∀ r' ng, ins = .look r' ng → ProgAt F w0 qb r') :
  Ret Try.prog 42 #[.pointer (some ⟨pb, 0, none⟩), .agg #[iV k, iV x, iV y, iV m, iV tt, .slice sa sn sc, p, .bool b]] w0 fun r w => r = iV n ∧ Grew F w0 base pb v (code ++ [ins]) t d w := by
 obtain ⟨hblk, ⟨rows, hown, hrows⟩, hlen, hho, hhp, hpb, hb, hF⟩ := h
 obtain ⟨va, vc, rfl⟩ := own_form hown
 have hpl := hblk.lt
 have hol := hown.lt
 replace hrows := hrows.snoc hrow hp
 refine Ret_of Try.func42 rfl Try.ntmps42 (Nat.le_of_ble_eq_true rfl) ?_
 have E : Chg (fun q => q = pb ∨ (Value.slice va n vc).ownBlock = some q) w0 w0 := Chg.refl _ _
 skip
 refine Wp_seq_region ?_
 refine s_box (v := (.agg #[(I6 (k : Int)), (I6 (x : Int)), (I6 (y : Int)), (I6 (m : Int)), (I6 (tt : Int)), (.slice sa sn sc), p, (.bool b)])) (c := #[(I6 (k : Int)), (I6 (x : Int)), (I6 (y : Int)), (I6 (m : Int)), (I6 (tt : Int)), (.slice sa sn sc), p, (.bool b)]) (by decide) rfl rfl ?_
 intro bc wc Nc
 have Fc := Nc.ge E
 have Oc_pb := Nc.lt hblk
 replace hblk := Nc.keep hblk
 replace hown := own_ext hown Nc.ext
 replace hrows := hrows.chg Nc.ext (fun _ _ f => f)
 replace E := E.ext Nc.ext
 have Bc := Nc.blk
 refine qA (I6 0) rfl ?_
 refine WpL_nil ?_
 obtain ⟨z0, hz0⟩ : ∃ z0, z0 = (wc).heap.size := ⟨_, rfl⟩
 have hz0p : pb < z0 ∧ bc < z0 ∧ w0.heap.size ≤ z0 := ⟨by rw [hz0]; exact hblk.lt, by rw [hz0]; exact Bc.lt, by rw [hz0]; exact E.size⟩
 have hz_1 : w0.heap.size ≤ wc.heap.size := E.size
 have lz_1_pb : pb < wc.heap.size := hblk.lt
 have lz_1_bc : bc < wc.heap.size := Bc.lt
 refine Wp_seq ?_
 obtain ⟨Fs1, hFs1⟩ : ∃ Fs : List FctS, Fs = [(fun _ _ v _ => v = (P6 pb 0)), (fun _ _ v _ => v = (P6 pb 0)), (fun _ _ v _ => v = (P6 pb 0)), (fun _ _ v _ => v = (P6 pb 0)), (fun _ _ v _ => v = (.slice va n vc)), (fun _ _ v _ => v = (.agg #[(I6 (k : Int)), (I6 (x : Int)), (I6 (y : Int)), (I6 (m : Int)), (I6 (tt : Int)), (.slice sa sn sc), p, (.bool b)])), (fun _ _ => litF TCd #[iV k, iV x, iV y, iV m, iV tt, .slice sa sn sc, p, .bool b] z0), (fun _ _ => appF base TCd 8 (n + 1) (rows.flatten ++ row8 k x y m tt (.slice sa sn sc) p b) (.slice va n vc) z0), (fun _ _ v _ => v = undef), (fun _ _ v _ => v = undef), (fun _ _ v _ => v = undef)] := ⟨_, rfl⟩
 refine Wp_dagS (MsL [(7, (fun q => (Value.slice va n vc).ownBlock = some q))]) [true, true, true, true, true, true, true, true, false, false, false] [8, 9, 10] [5, 6, 7, 8, 9, 10, 11, 12, 29, 30, 31] [[], [], [1], [2], [3], [], [5], [4, 6], [], [], []] [[], [], [1], [2, 1], [3, 2, 1], [], [5], [4, 3, 2, 1, 6, 5], [], [], []] Fs1 hFs1 (by kernel_rfl) mixed (by kernel_rfl) (by kernel_rfl) (by kernel_rfl) (by kernel_rfl) ?_ ?_
 ·intro wd X0
  refine qD (fun S s' w' hi hN X U V H => ?_) ?_
  ·replace X := X.mono (M' := (fun y => (fun q => (Value.slice va n vc).ownBlock = some q) y)) (fun y _ h => by
     obtain ⟨j, hj, h⟩ := h
     rcases MsL_or h with ⟨rfl, h0⟩ | h0
     ·exact h0
     exact h0.elim)
   exact DoesT_pure (r_move (v := (P6 pb 0)) (U 0 rfl)) rfl
  refine qD (fun S s' w' hi hN X U V H => ?_) ?_
  ·replace X := X.mono (M' := none1) (fun y _ h => by
     obtain ⟨j, hj, h⟩ := h
     rcases MsL_or h with ⟨rfl, h0⟩ | h0
     ·exact Bool.noConfusion (hj.symm.trans (hN 7 rfl))
     exact h0.elim)
   exact DoesT_pure (r_move (v := (P6 pb 0)) (U 0 rfl)) rfl
  refine qD (fun S s' w' hi hN X U V H => ?_) ?_
  ·replace X := X.mono (M' := none1) (fun y _ h => by
     obtain ⟨j, hj, h⟩ := h
     rcases MsL_or h with ⟨rfl, h0⟩ | h0
     ·exact Bool.noConfusion (hj.symm.trans (hN 7 rfl))
     exact h0.elim)
   have e6 : s' 6 = (.pointer (some ⟨pb, 0, none⟩)) := (H 1 rfl).2 6 (fun _ _ v _ => v = (.pointer (some ⟨pb, 0, none⟩))) rfl (by rw [hFs1]; rfl)
   exact DoesT_pure (r_nilCheck (a := ⟨pb, 0, none⟩) e6) rfl
  refine qD (fun S s' w' hi hN X U V H => ?_) ?_
  ·replace X := X.mono (M' := none1) (fun y _ h => by
     obtain ⟨j, hj, h⟩ := h
     rcases MsL_or h with ⟨rfl, h0⟩ | h0
     ·exact Bool.noConfusion (hj.symm.trans (hN 7 rfl))
     exact h0.elim)
   have e7 : s' 7 = (.pointer (some ⟨pb, 0, none⟩)) := (H 2 rfl).2 7 (fun _ _ v _ => v = (.pointer (some ⟨pb, 0, none⟩))) rfl (by rw [hFs1]; rfl)
   exact DoesT_pure (r_fieldAddr (b := pb) (o := 0) (o' := 0) e7 Try.underlying83 rfl siz81 rfl) rfl
  refine qD (fun S s' w' hi hN X U V H => ?_) ?_
  ·replace X := X.mono (M' := none1) (fun y _ h => by
     obtain ⟨j, hj, h⟩ := h
     rcases MsL_or h with ⟨rfl, h0⟩ | h0
     ·exact Bool.noConfusion (hj.symm.trans (hN 7 rfl))
     exact h0.elim)
   have e8 : s' 8 = (.pointer (some ⟨pb, 0, none⟩)) := (H 3 rfl).2 8 (fun _ _ v _ => v = (.pointer (some ⟨pb, 0, none⟩))) rfl (by rw [hFs1]; rfl)
   exact DoesT_pure (r_load (v := (.slice va n vc)) e8 flat81 (((X0.trans X).keep hblk).cell rfl)) rfl
  refine qD (fun S s' w' hi hN X U V H => ?_) ?_
  ·replace X := X.mono (M' := none1) (fun y _ h => by
     obtain ⟨j, hj, h⟩ := h
     rcases MsL_or h with ⟨rfl, h0⟩ | h0
     ·exact Bool.noConfusion (hj.symm.trans (hN 7 rfl))
     exact h0.elim)
   exact DoesT_pure (r_loadAgg (vs := [(I6 (k : Int)), (I6 (x : Int)), (I6 (y : Int)), (I6 (m : Int)), (I6 (tt : Int)), (.slice sa sn sc), p, (.bool b)]) (U 3 rfl) agg87 siz87 rfl (((X0.trans X).keep Bc).cells rfl)) rfl
  refine DagStepsS.cons (StabS.chg (U := (fun y => (fun q => (Value.slice va n vc).ownBlock = some q) y)) (litF_chg (fun q h => by have := (hown.lt q h).2; omega)) (fun p y hp hw h => by
     rcases MsL_or h with ⟨rfl, h0⟩ | h0
     ·exact h0
     exact h0.elim)) (LocS.const) (fun S s' w' hi hN X U V H => Or.inl ⟨Guarded_none rfl, ?_⟩) ?_
  ·replace X := X.mono (M' := none1) (fun y _ h => by
     obtain ⟨j, hj, h⟩ := h
     rcases MsL_or h with ⟨rfl, h0⟩ | h0
     ·exact Bool.noConfusion (hj.symm.trans (hN 7 rfl))
     exact h0.elim)
   have e10 : s' 10 = (.agg #[(.int .i64 ((k : Nat) : Int)), (.int .i64 ((x : Nat) : Int)), (.int .i64 ((y : Nat) : Int)), (.int .i64 ((m : Nat) : Int)), (.int .i64 ((tt : Nat) : Int)), (.slice sa sn sc), p, (.bool b)]) := (H 5 rfl).2 10 (fun _ _ v _ => v = (.agg #[(.int .i64 ((k : Nat) : Int)), (.int .i64 ((x : Nat) : Int)), (.int .i64 ((y : Nat) : Int)), (.int .i64 ((m : Nat) : Int)), (.int .i64 ((tt : Nat) : Int)), (.slice sa sn sc), p, (.bool b)])) rfl (by rw [hFs1]; rfl)
   exact DoesT_lit (hs := z0) Try.underlying81 siz87 zer87 e10 (by decide) (by decide) (by kernel_rfl) (by have := X0.size; have := X.size; omega)
  refine DagStepsS.cons (StabS.chg (U := none1) (appF_ext _ _ _ _ _ _ _) (fun p y hp hw h => by
     rcases MsL_or h with ⟨rfl, h0⟩ | h0
     ·exact absurd rfl hp
     exact h0.elim)) (LocS.const) (fun S s' w' hi hN X U V H => Or.inl ⟨Guarded_none rfl, ?_⟩) ?_
  ·replace X := X.mono (M' := none1) (fun y _ h => by
     obtain ⟨j, hj, h⟩ := h
     rcases MsL_or h with ⟨rfl, h0⟩ | h0
     ·exact Bool.noConfusion (hj.symm.trans hi)
     exact h0.elim)
   have e9 : s' 9 = (.slice va n vc) := (H 4 rfl).2 9 (fun _ _ v _ => v = (.slice va n vc)) rfl (by rw [hFs1]; rfl)
   obtain ⟨b11, e11, B11, g11⟩ := (show ((fun _ _ => litF TCd #[iV k, iV x, iV y, iV m, iV tt, .slice sa sn sc, p, .bool b] z0) : FctS) S s' (s' 11) w' from (H 6 rfl).2 11 (fun _ _ => litF TCd #[iV k, iV x, iV y, iV m, iV tt, .slice sa sn sc, p, .bool b] z0) rfl (by rw [hFs1]; rfl))
   exact DoesT_append (hs := z0) Try.underlying81 siz87 byt87 zer87 rfl (by decide) e9 (own_ext (own_ext hown X0) X) e11 rfl (B11.cells rfl) (one8 k x y m tt rfl hp1) (by unfold maxLen; omega) (by omega) (by have := X0.size; have := X.size; omega) (fun q h => .inl ⟨rfl, h⟩) (by have := X0.size; have := X.size; omega)
  refine DagStepsS.tail (DagStepsS.tail (DagStepsS.tail ?_))
  exact DagStepsS.nil
 ·intro s' wd1 w1 X0 X1 U H
  replace X1 := X1.mono (M' := (fun y => (fun q => (Value.slice va n vc).ownBlock = some q) y)) (fun y _ h => by
    obtain ⟨j, hj, h⟩ := h
    rcases MsL_or h with ⟨rfl, h0⟩ | h0
    ·exact h0
    exact h0.elim)
  have e5 : s' 5 = (.pointer (some ⟨pb, 0, none⟩)) := H 0 rfl 5 (fun _ _ v _ => v = (.pointer (some ⟨pb, 0, none⟩))) rfl (by rw [hFs1]; rfl)
  obtain ⟨⟨a12, c12, e12⟩, O12, D12⟩ := (show ((fun _ _ => appF base TCd 8 (n + 1) (rows.flatten ++ row8 k x y m tt (.slice sa sn sc) p b) (.slice va n vc) z0) : FctS) (allS [true, true, true, true, true, true, true, true, false, false, false]) s' (s' 12) w1 from H 7 rfl 12 (fun _ _ => appF base TCd 8 (n + 1) (rows.flatten ++ row8 k x y m tt (.slice sa sn sc) p b) (.slice va n vc) z0) rfl (by rw [hFs1]; rfl))
  obtain ⟨j1, rfl⟩ := Fits.out (σ := s') (l := [(0, (.pointer (some ⟨pb, 0, none⟩))), (5, (.pointer (some ⟨pb, 0, none⟩))), (12, (.slice a12 (n + 1) c12))]) ⟨U 0 rfl, e5, e12, trivial⟩
  clear U H
  replace hblk := Chg.keep X1 (fun h => by have := (hown.lt _ h).1; omega) (X0.keep hblk)
  replace Bc := Chg.keep X1 (fun h => by have := (hol _ h).2; omega) (X0.keep Bc)
  replace hown := own_ext hown X0
  replace hrows := hrows.chg X0 (fun _ _ f => f)
  have hXm := X1
  replace E := (E.ext X0).step X1 (fun q hq h => .inr h)
  rw [e12] at O12 D12
  have hrows := hrows.chg hXm (fun q hq h => hho q h hq)
  refine qV (r_nilCheck (a := ⟨pb, 0, none⟩) rfl) ?_
  refine qF pb 0 0 rfl Try.underlying83 rfl siz81 rfl ?_
  refine s_store (b := pb) (o := 0) (c' := #[(.slice a12 (n + 1) c12), (I6 (t : Int)), (I6 (d : Int))]) (v := (.slice a12 (n + 1) c12)) rfl rfl rfl siz81 hblk (by simp) rfl ?_
  intro w2 S2
  replace O12 := own_chg O12 S2.chg fun q hq h => by have := (O12.lt q hq).1; have h' : q = pb := h; omega
  replace hrows := hrows.chg S2.chg (fun q hq h => hhp (h ▸ hq))
  replace Bc := S2.keep (by omega) Bc
  replace E := S2.step E (by first | exact Or.inl (by omega) | exact Or.inr rfl | exact Or.inr (by assumption) | exact Or.inr (by simp) | exact Or.inr (by omega) | exact Or.inr (by dsimp only; omega))
  replace hblk := S2.blk
  refine WpL_nil (thn_normal (Wp_seq_region ?_))
  refine qM (P6 pb 0) rfl ?_
  refine qV (r_nilCheck (a := ⟨pb, 0, none⟩) rfl) ?_
  refine qF pb 0 0 rfl Try.underlying83 rfl siz81 rfl ?_
  refine qV (r_load (v := (.slice a12 (n + 1) c12)) rfl flat81 (hblk.cell rfl)) ?_
  refine qV (r_lenSlice (ad := a12) (n := (n + 1)) (cap := c12) Try.underlying81 rfl) ?_
  refine qV (r_sub (k := .i64) (a := (((n + 1) : Nat) : Int)) (b := 1) (c := (n : Int)) rfl rfl ((wI64 (by omega)).trans (by omega))) ?_
  refine qA (I6 (n : Int)) rfl ?_
  refine WpL_nil (Wp_ret ?_)
  refine fin_tmp Try.results42 (v := (.int .i64 ((n : Nat) : Int))) rfl ?_
  refine ⟨rfl, F, .slice a12 (n + 1) c12, fun q h => h, fun q h => .inl h, ⟨hblk, ⟨_, ?_, hrows⟩, rfl, fun q hq hf => ?_, hhp, hpb, Nat.le_trans hb E.size, fun q hq => Nat.lt_of_lt_of_le (hF q hq) E.size⟩, E, fun q hq => (D12 q hq).imp id (fun h => by omega)⟩
  ·rw [List.flatten_append, List.length_append, hlen]
   simpa using O12
  ·rcases D12 q hq with h | h
   ·exact hho q h hf
   ·have := hF q hf; omega
end Go.Proofs
namespace Go.Proofs
open Go Go.Eng
set_option maxRecDepth 100000
theorem walk_c {S : Type} (F : S → Re → Bool × S) (Inv : S → World → Prop) (M : Nat → Prop) (bd : Nat) (fv : Value) (wb : World)
    (hM : ∀ b, M b → wb.heap.size ≤ b ∧ b < bd) (hst : ∀ s w w', Inv s w → Ext w w' → Inv s w')
    (hf : ∀ s w t vs, bd ≤ w.heap.size → Ext wb w → Inv s w → ReAt wb t vs → CallV Try.prog fv #[.agg vs.toArray] w fun v w' => v = .bool (F s t).1 ∧ Chg M w w' ∧ Inv (F s t).2 w') :
    ∀ n t, t.size ≤ n → ∀ s w0 vs, bd ≤ w0.heap.size → Ext wb w0 → Inv s w0 → ReAt wb t vs →
      Ret Try.prog 46 #[.agg vs.toArray, fv] w0 fun v w' => v = .bool (walkF F t s).1 ∧ Chg M w0 w' ∧ Inv (walkF F t s).2 w' := by
  have toExt : ∀ {w w' : World}, Ext wb w → Chg M w w' → Ext wb w' := fun e c => Chg.step e c fun x hx hm => by have := (hM x hm).1; omega
  intro n
  induction n with
  | zero => intro t ht; have := t.size_pos; omega
  | succ n ih =>
  intro t hn s w0 vs hbd hE hI ht
  obtain ⟨sa, sc, aa, ac, rfl, hset, hlen, hargs⟩ := ht.form
  rw [walkF_eq]
  refine Ret_of Try.func46 rfl Try.ntmps46 (Nat.le_of_ble_eq_true rfl) ?_
  have E : Chg M w0 w0 := Chg.refl _ _
  refine Wp_seq_region ?_
  refine s_box (v := (.agg (R6 t sa sc aa ac))) (c := (R6 t sa sc aa ac)) (by decide) rfl rfl ?_
  intro b1 w1 N1
  have F1 := N1.ge E
  replace hI := hst _ _ _ hI N1.ext
  replace E := E.ext N1.ext
  have B1 := N1.blk
  refine qA (.bool false) rfl ?_
  refine WpL_nil (Wp_seq (Wp_seq_region ?_))
  refine qM fv rfl ?_
  refine qV (r_loadAgg (vs := [(I6 t.kind), (.slice sa t.set.length sc), (.slice aa t.args.length ac), (I6 t.mn), (I6 t.mx), (.bool t.neg)]) rfl agg27 siz27 rfl (B1.cells rfl)) ?_
  refine WpL_callV (fv := fv) (vs := [(.agg (R6 t sa sc aa ac))]) (by decide) rfl rfl (hf s _ t _ (by have := N1.size; omega) (hE.trans N1.ext) hI ht) ?_
  rintro _ w2 ⟨rfl, C2, hI⟩
  replace B1 := C2.keep (fun h => by have := (hM _ h).2; omega) B1
  replace E := E.trans C2
  have hE2 : Ext wb w2 := toExt hE E
  have z2 : bd ≤ w2.heap.size := by have := C2.size; have := N1.size; omega
  refine qV (r_not (b := (F s t).1) rfl) ?_
  refine WpL_nil ?_
  refine Wp_cond (b := !((F s t).1)) rfl (fun h => ?_) (fun h => ?_)
  · have kh := h
    replace h := by simpa using h
    refine Wp_seq_region ?_
    refine qA (.bool false) rfl ?_
    refine WpL_nil (Wp_ret (thn_ret ?_))
    refine fin_tmp Try.results46 (v := (.bool false)) rfl ?_
    exact ⟨by rw [if_neg (by simp [h])], E, by rw [if_neg (by simp [h])]; exact hI⟩
  · have kh := h
    replace h := by simpa using h
    rw [if_pos (by simpa using h)]
    generalize (F s t).2 = s1 at hI ⊢
    refine Wp_skip (thn_normal (Wp_seq (Wp_seq_region ?_)))
    refine qF b1 0 2 rfl Try.underlying27 rfl siz25 rfl ?_
    refine qV (r_load (v := (.slice aa t.args.length ac)) rfl flat25 (B1.cell rfl)) ?_
    refine qV (r_lenSlice (ad := aa) (n := t.args.length) (cap := ac) Try.underlying25 rfl) ?_
    refine qM (I6 0) rfl ?_
    refine WpL_nil (Wp_block ?_)
    refine Wp_loop (fun nn_ σ W3 => ∃ (k : Nat) (s' : S), (∃ jj_, σ = upds jj_ [(1, fv), (12, (.slice aa t.args.length ac)), (13, (I6 (t.args.length : Int))), (14, (I6 (k : Int)))]) ∧ Chg M w0 W3 ∧ Blk W3 b1 (R6 t sa sc aa ac) 27 ∧ (k ≤ t.args.length) ∧ (bd ≤ W3.heap.size) ∧ (Inv s' W3) ∧ (walkFs F t.args s1 = walkFs F (t.args.drop k) s') ∧ nn_ = t.args.length - k) (n := t.args.length - 0) ?_ ?_
    · exact ⟨0, s1, Fits.out ⟨rfl, rfl, rfl, rfl, trivial⟩, E, B1, Nat.zero_le _, z2, hI, rfl, rfl⟩
    · clear E B1
      rintro _ _ W3 ⟨k, s', ⟨j3, rfl⟩, E, B1, hk, hz, hI, hrel, rfl⟩
      refine Wp_seq_region ?_
      refine qV (r_lss (k := .i64) (a := (k : Int)) (b := (t.args.length : Int)) rfl rfl) ?_
      refine WpL_nil (Wp_seq ?_)
      refine Wp_cond (b := decide (((k : Int) : Int) < (t.args.length : Int))) rfl (fun hlt => ?_) (fun hlt => ?_)
      · have khlt := hlt
        replace hlt := of_decide_eq_true hlt
        have hlt' : k < t.args.length := by omega
        obtain ⟨x, hx⟩ : ∃ x, t.args[k]? = some x := ⟨_, List.getElem?_eq_getElem hlt'⟩
        obtain ⟨b, o, rfl, hres⟩ : ∃ b o, aa = some ⟨b, o, none⟩ ∧ ResAt wb b o t.args := by
          rcases hargs with h | h
          · rw [h] at hlt'; simp at hlt'
          · exact h
        obtain ⟨us, hus, hxt⟩ := hres.get hx
        have hEW : Ext wb _ := toExt hE E
        refine Wp_skip (thn_normal (Wp_seq (Wp_block (Wp_seq_region ?_))))
        refine qV (r_indexSlice (b := b) (o := o) (len := t.args.length) (cap := ac) (i := k) (o' := o + k * 6) rfl rfl rfl Try.underlying25 siz27 (by omega) (by omega)) ?_
        refine qV (r_loadAgg (vs := us) rfl agg27 siz27 hxt.len (hus.ext hEW)) ?_
        have hsz := Re.size_arg hx
        refine s_allocStore (v := (.agg us.toArray)) (c := us.toArray) (n := 6) (by decide) zer27 rfl siz27 rfl rfl (by simpa using hxt.len) (by simpa using ReAt.one hxt) ?_
        intro b5 w5 N5
        have F5 := N5.ge E
        have O5_b1 := N5.lt B1
        replace B1 := N5.keep B1
        replace hI := hst _ _ _ hI N5.ext
        replace E := E.ext N5.ext
        have B5 := N5.blk
        refine WpL_nil (Wp_seq_region ?_)
        refine qV (r_loadAgg (vs := us) rfl agg27 siz27 hxt.len (B5.cells (by simp))) ?_
        refine qM fv rfl ?_
        refine WpL_enter rfl rfl (by decide) (r_callF (vs := [(.agg us.toArray), fv]) Try.func46 nm46 bd46 rfl) (ih x (by omega) s' _ us (by have := N5.size; omega) (toExt hE E) hI hxt) ?_
        rintro _ w9 ⟨rfl, C9, hI⟩
        replace B1 := C9.keep (fun h => by have := (hM _ h).2; omega) B1
        replace B5 := C9.keep (fun h => by have := (hM _ h).2; omega) B5
        replace E := E.trans C9
        have hdr : t.args.drop k = x :: t.args.drop (k + 1) := by rw [List.drop_eq_getElem_cons hlt']; rw [List.getElem?_eq_getElem hlt'] at hx; cases hx; rfl
        rw [hdr, walkFs_cons] at hrel
        refine qV (r_not (b := (walkF F x s').1) rfl) ?_
        refine WpL_nil ?_
        refine Wp_cond (b := !((walkF F x s').1)) rfl (fun h2 => ?_) (fun h2 => ?_)
        · have kh2 := h2
          replace h2 := by simpa using h2
          refine Wp_seq_region ?_
          refine qA (.bool false) rfl ?_
          refine WpL_nil (Wp_ret (inB_ret (thn_ret (thn_ret (inB_ret (thn_ret ?_))))))
          refine fin_tmp Try.results46 (v := (.bool false)) rfl ?_
          exact ⟨by rw [hrel, if_neg (by simp [h2])], E, by rw [hrel, if_neg (by simp [h2])]; exact hI⟩
        · have kh2 := h2
          replace h2 := by simpa using h2
          rw [if_pos (by simpa using h2)] at hrel
          refine Wp_skip (inB_normal (thn_normal (Wp_region ?_)))
          refine qV (r_add (k := .i64) (a := (k : Int)) (b := 1) (c := (k : Int) + 1) rfl rfl (wI64 (by omega))) ?_
          refine qM (I6 ((k : Int) + 1)) rfl ?_
          refine WpL_nil (thn_normal ?_)
          exact ⟨t.args.length - (k + 1), by omega, k + 1, (walkF F x s').2, Fits.out ⟨rfl, rfl, rfl, rfl, trivial⟩, E, B1, (by omega), (by have := C9.size; have := N5.size; omega), hI, hrel, rfl⟩
      · have khlt := hlt
        replace hlt := of_decide_eq_false hlt
        have hkk : k = t.args.length := by omega
        rw [hkk, List.drop_length] at hrel
        refine Wp_exit (thn_exit (thn_exit (inB_here (thn_normal (Wp_seq_region ?_)))))
        refine qA (.bool true) rfl ?_
        refine WpL_nil (Wp_ret ?_)
        refine fin_tmp Try.results46 (v := (.bool true)) rfl ?_
        exact ⟨by rw [hrel]; rfl, E, by rw [hrel]; exact hI⟩
end Go.Proofs
namespace Go.Proofs
open Go Go.Eng
set_option maxRecDepth 100000
def nodeE (t : Re) : Int := if t.kind < 0 ∨ 10 < t.kind then 1 else if formB t = false then 3 else if t.kind = 2 then (if checkE t.set ≠ 0 then checkE t.set else if (t.set.length : Int) = 0 then 3 else 0)
 else if t.kind = 6 then (if t.mn < 0 ∨ t.mx < t.mn ∨ 8 < t.mx then 1 else 0) else if t.kind = 9 then (if t.mn < 0 ∨ 9 < t.mn then 1 else 0) else 0
set_option maxHeartbeats 800000 in
theorem node_c (wb w0 : World) (t : Re) (vs : List Value) (ht : ReAt wb t vs) (hE : Ext wb w0) :
  Ret Try.prog 65 #[.agg vs.toArray] w0 fun v w => v = .int .i64 (nodeE t) ∧ Ext w0 w := by
 have ht0 := ht
 obtain ⟨sa, sc, aa, ac, rfl, hset, hlen, hargs⟩ := ht.form
 refine Ret_of Try.func65 rfl Try.ntmps65 (Nat.le_of_ble_eq_true rfl) ?_
 have E : Chg none1 w0 w0 := Chg.refl _ _
 refine Wp_seq_region ?_
 refine s_box (v := (.agg (R6 t sa sc aa ac))) (c := (R6 t sa sc aa ac)) (by decide) rfl rfl ?_
 intro b1 w1 N1
 have F1 := N1.ge E
 replace E := E.ext N1.ext
 have B1 := N1.blk
 refine qA (I6 0) rfl ?_
 refine WpL_nil (Wp_seq (Wp_seq_region ?_))
 refine qF b1 0 0 rfl Try.underlying27 rfl siz3 rfl ?_
 refine qV (r_load (v := (I6 t.kind)) rfl flat3 (B1.cell rfl)) ?_
 obtain ⟨e2, he2⟩ : ∃ e, (decide ((t.kind : Int) < 0)) = e := ⟨_, rfl⟩
 refine qV ((r_lss (k := .i64) (a := t.kind) (b := 0) rfl rfl).trans (by rw [he2]; try rfl)) ?_
 refine qM (.bool e2) rfl ?_
 refine qG (.bool e2) (nU e2 (P6 b1 0)) (by cases e2 <;> first | exact gA | exact gB | exact .inl ⟨rfl, r_fieldAddr (b := b1) (o := 0) (o' := 0) rfl Try.underlying27 rfl siz3 rfl⟩) ?_
 refine qG (.bool e2) (nU e2 (I6 t.kind)) (by cases e2 <;> first | exact gA | exact gB | exact .inl ⟨rfl, r_load (v := (I6 t.kind)) rfl flat3 (B1.cell rfl)⟩) ?_
 obtain ⟨e3, he3⟩ : ∃ e, (decide ((10 : Int) < t.kind)) = e := ⟨_, rfl⟩
 refine qG (.bool e2) (nU e2 (.bool e3)) (by cases e2 <;> first | exact gA | exact gB | exact .inl ⟨rfl, (r_gtr (k := .i64) (a := t.kind) (b := 10) rfl rfl).trans (by rw [he3]; try rfl)⟩) ?_
 obtain ⟨e4, he4⟩ : ∃ e, (e2 || e3) = e := ⟨_, rfl⟩
 refine qV (r_pick (b := e2) (v := .bool e4) rfl (by rw [← he4]; cases e2 <;> rfl)) ?_
 refine WpL_nil ?_
 subst he4
 subst he3
 subst he2
 refine Wp_cond (b := ((decide ((t.kind : Int) < 0)) || (decide ((10 : Int) < t.kind)))) rfl (fun hk => ?_) (fun hk => ?_)
 ·have khk := hk
  simp at hk
  refine Wp_seq_region ?_
  refine qA (I6 1) rfl ?_
  refine WpL_nil (Wp_ret (thn_ret ?_))
  refine fin_tmp Try.results65 (v := (.int .i64 1)) rfl ?_
  exact ⟨int_eq (by unfold nodeE; rw [if_pos (by omega)]), E⟩
 ·have khk := hk
  simp at hk
  refine Wp_skip (thn_normal (Wp_seq (Wp_seq_region ?_)))
  refine qV (r_loadAgg (vs := [(I6 t.kind), (.slice sa t.set.length sc), (.slice aa t.args.length ac), (I6 t.mn), (I6 t.mx), (.bool t.neg)]) rfl agg27 siz27 rfl (B1.cells rfl)) ?_
  refine WpL_enter rfl rfl (by decide) (r_callF (vs := [(.agg (R6 t sa sc aa ac))]) Try.func70 nm70 bd70 rfl) (form_c wb _ t _ ht0) ?_
  rintro _ w9 ⟨rfl, X9⟩
  replace B1 := X9.keep B1
  replace E := E.ext X9
  refine qV (r_not (b := formB t) rfl) ?_
  refine WpL_nil ?_
  refine Wp_cond (b := !(formB t)) rfl (fun hf => ?_) (fun hf => ?_)
  ·have khf := hf
   replace hf := by simpa using hf
   refine Wp_seq_region ?_
   refine qA (I6 3) rfl ?_
   refine WpL_nil (Wp_ret (thn_ret ?_))
   refine fin_tmp Try.results65 (v := (.int .i64 3)) rfl ?_
   exact ⟨int_eq (by unfold nodeE; rw [if_neg (by omega), if_pos hf]), E⟩
  ·have khf := hf
   replace hf := by simpa using hf
   have hN : nodeE t = if t.kind = 2 then (if checkE t.set ≠ 0 then checkE t.set else if (t.set.length : Int) = 0 then 3 else 0) else if t.kind = 6 then (if t.mn < 0 ∨ t.mx < t.mn ∨ 8 < t.mx then 1 else 0) else if t.kind = 9 then (if t.mn < 0 ∨ 9 < t.mn then 1 else 0) else 0 := by unfold nodeE; rw [if_neg (by omega), if_neg (by simp [hf])]
   rw [hN]
   refine Wp_skip (thn_normal (Wp_seq (Wp_seq_region ?_)))
   refine qF b1 0 0 rfl Try.underlying27 rfl siz3 rfl ?_
   refine qV (r_load (v := (I6 t.kind)) rfl flat3 (B1.cell rfl)) ?_
   refine WpL_nil (Wp_block (Wp_seq_region ?_))
   refine qV (r_eql (k := .i64) (a := t.kind) (b := 2) rfl rfl) ?_
   refine qA (.bool (decide ((t.kind : Int) = 2))) rfl ?_
   refine WpL_nil ?_
   refine Wp_cond (b := decide ((t.kind : Int) = 2)) rfl (fun h2 => ?_) (fun h2 => ?_)
   ·have kh2 := h2
    replace h2 := of_decide_eq_true h2
    rw [if_pos h2]
    refine Wp_seq (Wp_seq_region ?_)
    refine qF b1 0 1 rfl Try.underlying27 rfl siz24 rfl ?_
    refine qV (r_load (v := (.slice sa t.set.length sc)) rfl flat24 (B1.cell rfl)) ?_
    refine WpL_enter rfl rfl (by decide) (r_callF (vs := [(.slice sa t.set.length sc)]) Try.func71 nm71 bd71 rfl) (rcheck_c _ _ t.set ((hset.ext hE).ext E)) ?_
    rintro _ w10 ⟨rfl, X10⟩
    replace B1 := X10.keep B1
    replace E := E.ext X10
    refine qA (I6 (checkE t.set)) rfl ?_
    refine WpL_nil (Wp_seq_region ?_)
    refine qM (I6 (checkE t.set)) rfl ?_
    refine qV (r_neq (k := .i64) (a := checkE t.set) (b := 0) rfl rfl) ?_
    refine WpL_nil ?_
    refine Wp_cond (b := decide ((checkE t.set : Int) ≠ 0)) rfl (fun h3 => ?_) (fun h3 => ?_)
    ·have kh3 := h3
     replace h3 := of_decide_eq_true h3
     refine Wp_seq_region ?_
     refine qM (I6 (checkE t.set)) rfl ?_
     refine qA (I6 (checkE t.set)) rfl ?_
     refine WpL_nil (Wp_ret (thn_ret (inB_ret (thn_ret ?_))))
     refine fin_tmp Try.results65 (v := (.int .i64 (checkE t.set))) rfl ?_
     exact ⟨int_eq (by rw [if_pos h3]), E⟩
    ·have kh3 := h3
     replace h3 := of_decide_eq_false h3
     rw [if_neg h3]
     refine Wp_skip (thn_normal (Wp_seq_region ?_))
     refine qF b1 0 1 rfl Try.underlying27 rfl siz24 rfl ?_
     refine qV (r_load (v := (.slice sa t.set.length sc)) rfl flat24 (B1.cell rfl)) ?_
     refine qV (r_lenSlice (ad := sa) (n := t.set.length) (cap := sc) Try.underlying24 rfl) ?_
     refine qV (r_eql (k := .i64) (a := (t.set.length : Int)) (b := 0) rfl rfl) ?_
     refine WpL_nil ?_
     refine Wp_cond (b := decide (((t.set.length : Int) : Int) = 0)) rfl (fun h4 => ?_) (fun h4 => ?_)
     ·have kh4 := h4
      replace h4 := of_decide_eq_true h4
      refine Wp_seq_region ?_
      refine qA (I6 3) rfl ?_
      refine WpL_nil (Wp_ret (inB_ret (thn_ret ?_)))
      refine fin_tmp Try.results65 (v := (.int .i64 3)) rfl ?_
      exact ⟨int_eq (by rw [if_pos h4]), E⟩
     ·have kh4 := h4
      replace h4 := of_decide_eq_false h4
      refine Wp_skip (inB_normal (thn_normal (Wp_seq_region ?_)))
      refine qA (I6 0) rfl ?_
      refine WpL_nil (Wp_ret ?_)
      refine fin_tmp Try.results65 (v := (.int .i64 0)) rfl ?_
      exact ⟨int_eq (by rw [if_neg h4]), E⟩
   ·have kh2 := h2
    replace h2 := of_decide_eq_false h2
    rw [if_neg h2]
    refine Wp_seq_region ?_
    refine qV (r_eql (k := .i64) (a := t.kind) (b := 6) rfl rfl) ?_
    refine qA (.bool (decide ((t.kind : Int) = 6))) rfl ?_
    refine WpL_nil ?_
    refine Wp_cond (b := decide ((t.kind : Int) = 6)) rfl (fun h6 => ?_) (fun h6 => ?_)
    ·have kh6 := h6
     replace h6 := of_decide_eq_true h6
     rw [if_pos h6]
     refine Wp_seq_region ?_
     refine qF b1 0 3 rfl Try.underlying27 rfl siz3 rfl ?_
     refine qV (r_load (v := (I6 t.mn)) rfl flat3 (B1.cell rfl)) ?_
     obtain ⟨e11, he11⟩ : ∃ e, (decide ((t.mn : Int) < 0)) = e := ⟨_, rfl⟩
     refine qV ((r_lss (k := .i64) (a := t.mn) (b := 0) rfl rfl).trans (by rw [he11]; try rfl)) ?_
     refine qM (.bool e11) rfl ?_
     refine qG (.bool e11) (nU e11 (P6 b1 3)) (by cases e11 <;> first | exact gA | exact gB | exact .inl ⟨rfl, r_fieldAddr (b := b1) (o := 0) (o' := 3) rfl Try.underlying27 rfl siz3 rfl⟩) ?_
     refine qG (.bool e11) (nU e11 (I6 t.mn)) (by cases e11 <;> first | exact gA | exact gB | exact .inl ⟨rfl, r_load (v := (I6 t.mn)) rfl flat3 (B1.cell rfl)⟩) ?_
     refine qG (.bool e11) (nU e11 (P6 b1 4)) (by cases e11 <;> first | exact gA | exact gB | exact .inl ⟨rfl, r_fieldAddr (b := b1) (o := 0) (o' := 4) rfl Try.underlying27 rfl siz3 rfl⟩) ?_
     refine qG (.bool e11) (nU e11 (I6 t.mx)) (by cases e11 <;> first | exact gA | exact gB | exact .inl ⟨rfl, r_load (v := (I6 t.mx)) rfl flat3 (B1.cell rfl)⟩) ?_
     obtain ⟨e12, he12⟩ : ∃ e, (decide ((t.mx : Int) < t.mn)) = e := ⟨_, rfl⟩
     refine qG (.bool e11) (nU e11 (.bool e12)) (by cases e11 <;> first | exact gA | exact gB | exact .inl ⟨rfl, (r_gtr (k := .i64) (a := t.mn) (b := t.mx) rfl rfl).trans (by rw [he12]; try rfl)⟩) ?_
     obtain ⟨e13, he13⟩ : ∃ e, (e11 || e12) = e := ⟨_, rfl⟩
     refine qV (r_pick (b := e11) (v := .bool e13) rfl (by rw [← he13]; cases e11 <;> rfl)) ?_
     refine qM (.bool e13) rfl ?_
     refine qG (.bool e13) (nU e13 (P6 b1 4)) (by cases e13 <;> first | exact gA | exact gB | exact .inl ⟨rfl, r_fieldAddr (b := b1) (o := 0) (o' := 4) rfl Try.underlying27 rfl siz3 rfl⟩) ?_
     refine qG (.bool e13) (nU e13 (I6 t.mx)) (by cases e13 <;> first | exact gA | exact gB | exact .inl ⟨rfl, r_load (v := (I6 t.mx)) rfl flat3 (B1.cell rfl)⟩) ?_
     obtain ⟨e14, he14⟩ : ∃ e, (decide ((8 : Int) < t.mx)) = e := ⟨_, rfl⟩
     refine qG (.bool e13) (nU e13 (.bool e14)) (by cases e13 <;> first | exact gA | exact gB | exact .inl ⟨rfl, (r_gtr (k := .i64) (a := t.mx) (b := 8) rfl rfl).trans (by rw [he14]; try rfl)⟩) ?_
     obtain ⟨e15, he15⟩ : ∃ e, (e13 || e14) = e := ⟨_, rfl⟩
     refine qV (r_pick (b := e13) (v := .bool e15) rfl (by rw [← he15]; cases e13 <;> rfl)) ?_
     refine WpL_nil ?_
     subst he15
     subst he14
     subst he13
     subst he12
     subst he11
     refine Wp_cond (b := (((decide ((t.mn : Int) < 0)) || (decide ((t.mx : Int) < t.mn))) || (decide ((8 : Int) < t.mx)))) rfl (fun h7 => ?_) (fun h7 => ?_)
     ·have kh7 := h7
      simp at h7
      refine Wp_seq_region ?_
      refine qA (I6 1) rfl ?_
      refine WpL_nil (Wp_ret (inB_ret (thn_ret ?_)))
      refine fin_tmp Try.results65 (v := (.int .i64 1)) rfl ?_
      exact ⟨int_eq (by rw [if_pos (by omega)]), E⟩
     ·have kh7 := h7
      simp at h7
      refine Wp_skip (inB_normal (thn_normal (Wp_seq_region ?_)))
      refine qA (I6 0) rfl ?_
      refine WpL_nil (Wp_ret ?_)
      refine fin_tmp Try.results65 (v := (.int .i64 0)) rfl ?_
      exact ⟨int_eq (by rw [if_neg (by omega)]), E⟩
    ·have kh6 := h6
     replace h6 := of_decide_eq_false h6
     rw [if_neg h6]
     refine Wp_seq_region ?_
     refine qV (r_eql (k := .i64) (a := t.kind) (b := 9) rfl rfl) ?_
     refine qA (.bool (decide ((t.kind : Int) = 9))) rfl ?_
     refine WpL_nil ?_
     refine Wp_cond (b := decide ((t.kind : Int) = 9)) rfl (fun h9 => ?_) (fun h9 => ?_)
     ·have kh9 := h9
      replace h9 := of_decide_eq_true h9
      rw [if_pos h9]
      refine Wp_seq_region ?_
      refine qF b1 0 3 rfl Try.underlying27 rfl siz3 rfl ?_
      refine qV (r_load (v := (I6 t.mn)) rfl flat3 (B1.cell rfl)) ?_
      obtain ⟨e18, he18⟩ : ∃ e, (decide ((t.mn : Int) < 0)) = e := ⟨_, rfl⟩
      refine qV ((r_lss (k := .i64) (a := t.mn) (b := 0) rfl rfl).trans (by rw [he18]; try rfl)) ?_
      refine qM (.bool e18) rfl ?_
      refine qG (.bool e18) (nU e18 (P6 b1 3)) (by cases e18 <;> first | exact gA | exact gB | exact .inl ⟨rfl, r_fieldAddr (b := b1) (o := 0) (o' := 3) rfl Try.underlying27 rfl siz3 rfl⟩) ?_
      refine qG (.bool e18) (nU e18 (I6 t.mn)) (by cases e18 <;> first | exact gA | exact gB | exact .inl ⟨rfl, r_load (v := (I6 t.mn)) rfl flat3 (B1.cell rfl)⟩) ?_
      obtain ⟨e19, he19⟩ : ∃ e, (decide ((9 : Int) < t.mn)) = e := ⟨_, rfl⟩
      refine qG (.bool e18) (nU e18 (.bool e19)) (by cases e18 <;> first | exact gA | exact gB | exact .inl ⟨rfl, (r_gtr (k := .i64) (a := t.mn) (b := 9) rfl rfl).trans (by rw [he19]; try rfl)⟩) ?_
      obtain ⟨e20, he20⟩ : ∃ e, (e18 || e19) = e := ⟨_, rfl⟩
      refine qV (r_pick (b := e18) (v := .bool e20) rfl (by rw [← he20]; cases e18 <;> rfl)) ?_
      refine WpL_nil ?_
      subst he20
      subst he19
      subst he18
      refine Wp_cond (b := ((decide ((t.mn : Int) < 0)) || (decide ((9 : Int) < t.mn)))) rfl (fun h8 => ?_) (fun h8 => ?_)
      ·have kh8 := h8
       simp at h8
       refine Wp_seq_region ?_
       refine qA (I6 1) rfl ?_
       refine WpL_nil (Wp_ret (inB_ret (thn_ret ?_)))
       refine fin_tmp Try.results65 (v := (.int .i64 1)) rfl ?_
       exact ⟨int_eq (by rw [if_pos (by omega)]), E⟩
      ·have kh8 := h8
       simp at h8
       refine Wp_skip (inB_normal (thn_normal (Wp_seq_region ?_)))
       refine qA (I6 0) rfl ?_
       refine WpL_nil (Wp_ret ?_)
       refine fin_tmp Try.results65 (v := (.int .i64 0)) rfl ?_
       exact ⟨int_eq (by rw [if_neg (by omega)]), E⟩
     ·have kh9 := h9
      replace h9 := of_decide_eq_false h9
      rw [if_neg h9]
      refine Wp_skip (inB_normal (thn_normal (Wp_seq_region ?_)))
      refine qA (I6 0) rfl ?_
      refine WpL_nil (Wp_ret ?_)
      refine fin_tmp Try.results65 (v := (.int .i64 0)) rfl ?_
      exact ⟨rfl, E⟩
end Go.Proofs
namespace Go.Proofs
open Go Go.Eng Go.Sort
set_option maxRecDepth 100000
def OfC (wb : World) (r : Re) : Prop := ∀ (base pb : Nat) (F : Nat → Prop) (w0 : World) (v : Value) (n : Nat) (code : List Ins) (t d : Nat) (vs : List Value), ReAt wb r vs → Ext wb w0 → (∀ y, y < wb.heap.size → F y) → PSt2 F w0 base pb v n code t d →
 n + (frgOf r n d t).1.length ≤ 1000 → (frgOf r n d t).2 ≤ 1000 → d + r.size ≤ 1000 →
 Ret Try.prog 41 #[.pointer (some ⟨pb, 0, none⟩), .agg vs.toArray] w0 fun _ w => Grew F w0 base pb v (code ++ (frgOf r n d t).1) (frgOf r n d t).2 d w
def FMono (f : Frg) : Prop := ∀ a d t, t ≤ (f a d t).2
set_option maxHeartbeats 1000000 in
theorem iteration_c (wb : World) (base pb : Nat) (F : Nat → Prop) (w0 : World) (v : Value) (n : Nat) (code : List Ins) (t d : Nat) (vs : List Value) (x : Re) (hof : OfC wb x) (hx : ReAt wb x vs) (hE : Ext wb w0) (hF : ∀ y, y < wb.heap.size → F y) (hP : PSt2 F w0 base pb v n code t d)
  (hm : FMono (frgOf x)) (hn : n + 2 + (frgOf x (n + 2) (d + 1) t).1.length + 1 ≤ 1000) (ht : (frgOf x (n + 2) (d + 1) t).2 ≤ 1000) (hd : d + 1 + x.size ≤ 1000) :
  Ret Try.prog 61 #[.pointer (some ⟨pb, 0, none⟩), .agg vs.toArray] w0 fun r w => r = iV n ∧ Grew F w0 base pb v (code ++ (.split (n + 1) 0 :: .ent (d + 1) :: ((frgOf x (n + 2) (d + 1) t).1 ++ [.chk (d + 1)]))) (frgOf x (n + 2) (d + 1) t).2 d w := by
 have htm := hm (n + 2) (d + 1) t
 obtain ⟨⟨cb, tb⟩, hr⟩ : ∃ r, frgOf x (n + 2) (d + 1) t = r := ⟨_, rfl⟩
 rw [hr] at hn ht htm ⊢
 dsimp only at hn ht htm ⊢
 obtain ⟨va, vc, rfl⟩ := hP.form
 have hblk := hP.blk
 have hpl := hblk.lt
 have hbs := hP.bs
 have hlen := hP.len
 obtain ⟨sa, sc, aa, ac, rfl, hset, hal, hargs⟩ := hx.form
 refine Ret_of Try.func61 rfl Try.ntmps61 (Nat.le_of_ble_eq_true rfl) ?_
 have E : Chg (fun _ => True) w0 w0 := Chg.refl _ _
 refine Wp_seq_region ?_
 refine s_box (v := (.agg (R6 x sa sc aa ac))) (c := (R6 x sa sc aa ac)) (by decide) rfl rfl ?_
 intro bx wx Nx
 have Fx := Nx.ge E
 have Ox_pb := Nx.lt hblk
 replace hblk := Nx.keep hblk
 replace E := E.ext Nx.ext
 have Bx := Nx.blk
 refine qA (I6 0) rfl ?_
 refine WpL_nil (Wp_seq_region ?_)
 refine qM (P6 pb 0) rfl ?_
 refine qM (P6 pb 0) rfl ?_
 refine qV (r_nilCheck (a := ⟨pb, 0, none⟩) rfl) ?_
 refine qF pb 0 0 rfl Try.underlying83 rfl siz81 rfl ?_
 refine qV (r_load (v := (.slice va n vc)) rfl flat81 (hblk.cell rfl)) ?_
 refine qV (r_lenSlice (ad := va) (n := n) (cap := vc) Try.underlying81 rfl) ?_
 refine qV (r_add (k := .i64) (a := (n : Int)) (b := 1) (c := ((n + 1 : Nat) : Int)) rfl rfl ((wI64 (by omega)).trans (by omega))) ?_
 refine qV (r_build (ps := [(0, (I6 1)), (1, (I6 ((n + 1 : Nat) : Int)))]) (v := (.agg #[(I6 1), (I6 ((n + 1 : Nat) : Int)), (I6 0), (I6 0), (I6 0), (.slice none 0 0), (.pointer none), (.bool false)])) rfl (by kernel_rfl)) ?_
 have G1 := (GrX.start hP).frz Nx.ext (b := bx) (by rw [Nx.eq]; exact Nat.le_refl _) Bx.lt
 refine WpL_enter rfl rfl (by decide) (r_callF (vs := [(P6 pb 0), (.agg #[(I6 1), (I6 ((n + 1 : Nat) : Int)), (I6 0), (I6 0), (I6 0), (.slice none 0 0), (.pointer none), (.bool false)])]) Try.func42 nm42 bd42 rfl) (add_c _ _ base pb _ n code t d (.split (n + 1) 0) 0 1 (n + 1) 0 0 0 none 0 0 nilP false (hlen ▸ G1.st) (by omega) rfl rfl (fun _ _ h => by cases h)) ?_
 rintro _ w19 ⟨rfl, F2, v2, G2⟩
 replace Bx := G2.chg.keep (G1.st.kept (.inr rfl)) Bx
 replace E := E.step G2.chg (fun _ _ _ => trivial)
 have hl2 : (code ++ [Ins.split (n + 1) 0]).length = n + 1 := by simp [hlen]
 have k2 : F2 bx := G2.sub _ (.inr rfl)
 replace G2 := G1.comp G2
 obtain ⟨va2, vc2, rfl⟩ := G2.st.form
 rw [hl2] at G2
 have hblk := G2.st.blk
 refine qA (I6 (n : Int)) rfl ?_
 refine WpL_nil (Wp_seq_region ?_)
 refine qM (P6 pb 0) rfl ?_
 refine qV (r_nilCheck (a := ⟨pb, 0, none⟩) rfl) ?_
 refine qF pb 0 2 rfl Try.underlying83 rfl siz3 rfl ?_
 refine qV (r_load (v := (I6 (d : Int))) rfl flat3 (hblk.cell rfl)) ?_
 refine qV (r_add (k := .i64) (a := (d : Int)) (b := 1) (c := ((d + 1 : Nat) : Int)) rfl rfl ((wI64 (by omega)).trans (by omega))) ?_
 refine qV (r_nilCheck (a := ⟨pb, 0, none⟩) rfl) ?_
 refine qF pb 0 2 rfl Try.underlying83 rfl siz3 rfl ?_
 refine s_store (b := pb) (o := 2) (c' := #[(.slice va2 (n + 1) vc2), (I6 (t : Int)), (I6 ((d + 1 : Nat) : Int))]) (v := (I6 ((d + 1 : Nat) : Int))) rfl rfl rfl siz3 hblk (by simp) rfl ?_
 intro w1 S1
 replace G2 := G2.fields S1
 replace Bx := S1.keep (by omega) Bx
 replace E := S1.step E (by first | exact Or.inl (by omega) | exact Or.inr rfl | exact Or.inr (by assumption) | exact Or.inr (by simp) | exact Or.inr (by omega) | exact Or.inr (by dsimp only; omega))
 replace hblk := S1.blk
 refine WpL_nil (Wp_seq_region ?_)
 refine qM (P6 pb 0) rfl ?_
 refine qM (P6 pb 0) rfl ?_
 refine qV (r_nilCheck (a := ⟨pb, 0, none⟩) rfl) ?_
 refine qF pb 0 2 rfl Try.underlying83 rfl siz3 rfl ?_
 refine qV (r_load (v := (I6 ((d + 1 : Nat) : Int))) rfl flat3 (hblk.cell rfl)) ?_
 refine qV (r_build (ps := [(0, (I6 6)), (3, (I6 ((d + 1 : Nat) : Int)))]) (v := (.agg #[(I6 6), (I6 0), (I6 0), (I6 ((d + 1 : Nat) : Int)), (I6 0), (.slice none 0 0), (.pointer none), (.bool false)])) rfl (by kernel_rfl)) ?_
 refine WpL_enter rfl rfl (by decide) (r_callF (vs := [(P6 pb 0), (.agg #[(I6 6), (I6 0), (I6 0), (I6 ((d + 1 : Nat) : Int)), (I6 0), (.slice none 0 0), (.pointer none), (.bool false)])]) Try.func42 nm42 bd42 rfl) (add_c _ _ base pb _ (n + 1) _ t (d + 1) (.ent (d + 1)) 0 6 0 0 (d + 1) 0 none 0 0 nilP false (hl2 ▸ G2.st) (by omega) rfl rfl (fun _ _ h => by cases h)) ?_
 rintro _ w29 ⟨rfl, F3, v3, G3⟩
 replace Bx := G3.chg.keep (G2.st.kept k2) Bx
 replace E := E.step G3.chg (fun _ _ _ => trivial)
 have hl3 : ((code ++ [Ins.split (n + 1) 0]) ++ [Ins.ent (d + 1)]).length = n + 2 := by simp [hlen]
 have k3 : F3 bx := G3.sub _ k2
 replace G3 := G2.comp G3
 have hE3 := G3.wb hP.hp hP.ho hF hE
 refine WpL_nil (Wp_seq_region ?_)
 refine qM (P6 pb 0) rfl ?_
 refine qV (r_loadAgg (vs := [(I6 x.kind), (.slice sa x.set.length sc), (.slice aa x.args.length ac), (I6 x.mn), (I6 x.mx), (.bool x.neg)]) rfl agg27 siz27 rfl (Bx.cells rfl)) ?_
 refine WpL_enter rfl rfl (by decide) (r_callF (vs := [(P6 pb 0), (.agg (R6 x sa sc aa ac))]) Try.func41 nm41 bd41 rfl) (hof base pb _ _ _ (n + 2) _ t (d + 1) _ hx hE3 (fun q hq => G3.sub q (hF q hq)) (hl3 ▸ G3.st) (by rw [hr]; dsimp only; omega) (by rw [hr]; exact ht) (by omega)) ?_
 rintro _ w39 ⟨F4, v4, G4⟩
 replace Bx := G4.chg.keep (G3.st.kept k3) Bx
 replace E := E.step G4.chg (fun _ _ _ => trivial)
 rw [hr] at G4
 dsimp only at G4
 have hl4 : (((code ++ [Ins.split (n + 1) 0]) ++ [Ins.ent (d + 1)]) ++ cb).length = n + 2 + cb.length := by simp [hlen]; omega
 have k4 : F4 bx := G4.sub _ k3
 replace G4 := G3.comp G4
 obtain ⟨va4, vc4, rfl⟩ := G4.st.form
 rw [hl4] at G4
 have hblk := G4.st.blk
 refine WpL_nil (Wp_seq_region ?_)
 refine qM (P6 pb 0) rfl ?_
 refine qM (P6 pb 0) rfl ?_
 refine qV (r_nilCheck (a := ⟨pb, 0, none⟩) rfl) ?_
 refine qF pb 0 2 rfl Try.underlying83 rfl siz3 rfl ?_
 refine qV (r_load (v := (I6 ((d + 1 : Nat) : Int))) rfl flat3 (hblk.cell rfl)) ?_
 refine qV (r_build (ps := [(0, (I6 7)), (3, (I6 ((d + 1 : Nat) : Int)))]) (v := (.agg #[(I6 7), (I6 0), (I6 0), (I6 ((d + 1 : Nat) : Int)), (I6 0), (.slice none 0 0), (.pointer none), (.bool false)])) rfl (by kernel_rfl)) ?_
 refine WpL_enter rfl rfl (by decide) (r_callF (vs := [(P6 pb 0), (.agg #[(I6 7), (I6 0), (I6 0), (I6 ((d + 1 : Nat) : Int)), (I6 0), (.slice none 0 0), (.pointer none), (.bool false)])]) Try.func42 nm42 bd42 rfl) (add_c _ _ base pb _ (n + 2 + cb.length) _ tb (d + 1) (.chk (d + 1)) 0 7 0 0 (d + 1) 0 none 0 0 nilP false (hl4 ▸ G4.st) (by omega) rfl rfl (fun _ _ h => by cases h)) ?_
 rintro _ w49 ⟨rfl, F5, v5, G5⟩
 replace Bx := G5.chg.keep (G4.st.kept k4) Bx
 replace E := E.step G5.chg (fun _ _ _ => trivial)
 have hl5 : ((((code ++ [Ins.split (n + 1) 0]) ++ [Ins.ent (d + 1)]) ++ cb) ++ [Ins.chk (d + 1)]).length = n + 3 + cb.length := by simp [hlen]; omega
 replace G5 := G4.comp G5
 obtain ⟨va5, vc5, rfl⟩ := G5.st.form
 rw [hl5] at G5
 have hblk := G5.st.blk
 refine WpL_nil (Wp_seq_region ?_)
 refine qM (P6 pb 0) rfl ?_
 refine qV (r_nilCheck (a := ⟨pb, 0, none⟩) rfl) ?_
 refine qF pb 0 2 rfl Try.underlying83 rfl siz3 rfl ?_
 refine qV (r_load (v := (I6 ((d + 1 : Nat) : Int))) rfl flat3 (hblk.cell rfl)) ?_
 refine qV (r_sub (k := .i64) (a := ((d + 1 : Nat) : Int)) (b := 1) (c := (d : Int)) rfl rfl ((wI64 (by omega)).trans (by omega))) ?_
 refine qV (r_nilCheck (a := ⟨pb, 0, none⟩) rfl) ?_
 refine qF pb 0 2 rfl Try.underlying83 rfl siz3 rfl ?_
 refine s_store (b := pb) (o := 2) (c' := #[(.slice va5 (n + 3 + cb.length) vc5), (I6 (tb : Int)), (I6 (d : Int))]) (v := (I6 (d : Int))) rfl rfl rfl siz3 hblk (by simp) rfl ?_
 intro w2 S2
 replace G5 := G5.fields S2
 replace Bx := S2.keep (by omega) Bx
 replace E := S2.step E (by first | exact Or.inl (by omega) | exact Or.inr rfl | exact Or.inr (by assumption) | exact Or.inr (by simp) | exact Or.inr (by omega) | exact Or.inr (by dsimp only; omega))
 replace hblk := S2.blk
 refine WpL_nil (Wp_seq_region ?_)
 refine qM (I6 (n : Int)) rfl ?_
 refine qA (I6 (n : Int)) rfl ?_
 refine WpL_nil (Wp_ret ?_)
 refine fin_tmp Try.results61 (v := (.int .i64 ((n : Nat) : Int))) rfl ?_
 have e : code ++ (Ins.split (n + 1) 0 :: Ins.ent (d + 1) :: (cb ++ [Ins.chk (d + 1)])) = (((code ++ [Ins.split (n + 1) 0]) ++ [Ins.ent (d + 1)]) ++ cb) ++ [Ins.chk (d + 1)] := by simp
 rw [e]
 exact ⟨rfl, F5, _, G5⟩
theorem PSt2.begin (F : Nat → Prop) {w : World} {b : Nat} (hB : Blk w b #[nilS, iV 0, iV 0] TPg) (hF : ¬ F b) (hFl : ∀ y, F y → y < w.heap.size) : PSt2 F w (b + 1) b nilS 0 [] 0 0 :=
 ⟨hB, ⟨[], World.ownsRow_nil _ _ _ _, RowsAt.nil _ _⟩, rfl, (fun q hq => by cases hq), hF, Nat.lt_succ_self b, hB.lt, hFl⟩
/-- A program that is whole. -/
theorem PSt2.prog {F : Nat → Prop} {w : World} {base pb : Nat} {v : Value} {r : Re} (h : PSt2 F w base pb v (progOf r).length (progOf r) (tempsOf r) 0) (hb : (progOf r).length ≤ 1000) (htm : tempsOf r ≤ 1000) : ∃ cb, ProgAt (fun y => (F y ∨ y = pb) ∨ y = cb) w pb r ∧ cb < w.heap.size ∧ base ≤ cb := by
 obtain ⟨rows, h1, h2, pbs, h3, h4⟩ := h.rows
 obtain ⟨va, vc, rfl⟩ := own_form h1
 have hpos : 0 < (progOf r).length := by unfold progOf; simp
 have hlt := h1.lt
 obtain ⟨cb, rfl, _, hc⟩ := own_cells h1 hpos
 obtain ⟨h5, h6⟩ := hlt cb rfl
 exact ⟨cb, .mk (n := (progOf r).length) (cc := vc) h.blk (.inl (.inr rfl)) (.inr rfl) hb htm rfl h2 hc (fun i ins row a b => (h3 i ins row a b).mono fun y hy => .inl (.inl hy)) (fun i r' ng a => (h4 i r' ng a).mono fun y hy => .inl (.inl hy)), h6, h5⟩
set_option maxHeartbeats 1000000 in
theorem translate_c (wb : World) (F : Nat → Prop) (w0 : World) (vs : List Value) (x : Re) (hof : OfC wb x) (hx : ReAt wb x vs) (hE : Ext wb w0) (hF : ∀ y, y < wb.heap.size → F y) (hFl : ∀ y, F y → y < w0.heap.size)
  (hn : (frgOf x 0 0 0).1.length + 1 ≤ 1000) (ht : tempsOf x ≤ 1000) (hd : x.size ≤ 900) :
  Ret Try.prog 22 #[.agg vs.toArray] w0 fun r w => (∃ F' pb, r = .pointer (some ⟨pb, 0, none⟩) ∧ (∀ y, F y → F' y) ∧ (∀ y, F' y → F y ∨ w0.heap.size ≤ y) ∧ (∀ y, F' y → y < w.heap.size) ∧ ProgAt F' w pb x) ∧ Ext w0 w := by
 obtain ⟨sa, sc, aa, ac, rfl, hset, hal, hargs⟩ := hx.form
 refine Ret_of Try.func22 rfl Try.ntmps22 (Nat.le_of_ble_eq_true rfl) ?_
 have E : Chg (fun _ => True) w0 w0 := Chg.refl _ _
 refine Wp_seq_region ?_
 refine s_box (v := (.agg (R6 x sa sc aa ac))) (c := (R6 x sa sc aa ac)) (by decide) rfl rfl ?_
 intro bx wx Nx
 have Fx := Nx.ge E
 replace E := E.ext Nx.ext
 have Bx := Nx.blk
 refine qA (.pointer none) rfl ?_
 refine WpL_nil (Wp_seq_region ?_)
 refine qV (r_build (ps := []) (v := (.agg #[(.slice none 0 0), (I6 0), (I6 0)])) rfl (by kernel_rfl)) ?_
 refine s_box (v := (.agg #[(.slice none 0 0), (I6 0), (I6 0)])) (c := #[(.slice none 0 0), (I6 0), (I6 0)]) (by decide) rfl rfl ?_
 intro bp wp Np
 have Fp := Np.ge E
 have Op_bx := Np.lt Bx
 replace Bx := Np.keep Bx
 replace E := E.ext Np.ext
 have Bp := Np.blk
 refine qA (P6 bp 0) rfl ?_
 refine WpL_nil (Wp_seq_region ?_)
 refine qM (P6 bp 0) rfl ?_
 refine qV (r_loadAgg (vs := [(I6 x.kind), (.slice sa x.set.length sc), (.slice aa x.args.length ac), (I6 x.mn), (I6 x.mx), (.bool x.neg)]) rfl agg27 siz27 rfl (Bx.cells rfl)) ?_
 have hX : Ext w0 wp := Ext.trans Nx.ext Np.ext
 have hbx : bx < bp ∧ w0.heap.size ≤ bx := ⟨by rw [Np.eq]; exact (show bx < wx.heap.size by have := Nx.eq; have := Nx.size; omega), by rw [Nx.eq]; exact Nat.le_refl _⟩
 have P0 := PSt2.begin (fun y => F y ∨ y = bx) Bp (fun h => h.elim (fun h => by have := hFl _ h; omega) (fun h => by omega)) (fun y hy => hy.elim (fun h => by have := hFl _ h; have := hX.size; omega) (fun h => by have := Bp.lt; omega))
 have G0 := GrX.start P0
 refine WpL_enter rfl rfl (by decide) (r_callF (vs := [(P6 bp 0), (.agg (R6 x sa sc aa ac))]) Try.func41 nm41 bd41 rfl) (hof (bp + 1) bp _ _ _ 0 [] 0 0 _ hx (Ext.trans hE hX) (fun q hq => .inl (hF q hq)) P0 (by omega) ht (by omega)) ?_
 rintro _ w19 ⟨F1, v1, G1⟩
 replace Bx := G1.chg.keep (P0.kept (.inr rfl)) Bx
 replace E := E.step G1.chg (fun _ _ _ => trivial)
 rw [List.nil_append] at G1
 refine WpL_nil (Wp_seq_region ?_)
 refine qM (P6 bp 0) rfl ?_
 refine qV (r_build (ps := [(0, (I6 8))]) (v := (.agg #[(I6 8), (I6 0), (I6 0), (I6 0), (I6 0), (.slice none 0 0), (.pointer none), (.bool false)])) rfl (by kernel_rfl)) ?_
 refine WpL_enter rfl rfl (by decide) (r_callF (vs := [(P6 bp 0), (.agg #[(I6 8), (I6 0), (I6 0), (I6 0), (I6 0), (.slice none 0 0), (.pointer none), (.bool false)])]) Try.func42 nm42 bd42 rfl) (add_c _ _ (bp + 1) bp _ (frgOf x 0 0 0).1.length _ (tempsOf x) 0 .fin 0 8 0 0 0 0 none 0 0 nilP false G1.st (by omega) rfl rfl (fun _ _ h => by cases h)) ?_
 rintro _ w29 ⟨rfl, F2, v2, G2⟩
 replace Bx := G2.chg.keep (G1.st.kept (G1.sub _ (.inr rfl))) Bx
 replace E := E.step G2.chg (fun _ _ _ => trivial)
 replace G2 := G1.comp G2
 obtain ⟨cb, hPr, hcb1, hcb2⟩ := PSt2.prog (r := x) G2.st (by unfold progOf; rw [List.length_append]; exact hn) ht
 refine WpL_nil (Wp_seq_region ?_)
 refine qM (P6 bp 0) rfl ?_
 refine qA (P6 bp 0) rfl ?_
 refine WpL_nil (Wp_ret ?_)
 refine fin_tmp Try.results22 (v := (.pointer (some ⟨bp, 0, none⟩))) rfl ?_
 refine ⟨⟨_, bp, rfl, fun y hy => .inl (.inl (G2.sub y (.inl hy))), fun y hy => ?_, fun y hy => ?_, hPr⟩, hX.step G2.chg fun q hq hm => hm.elim (fun h => by omega) (fun h => by cases h)⟩
 ·rcases hy with (hy | hy) | hy
  ·rcases G2.new y hy with (h1 | h1) | h1
   ·exact .inl h1
   ·exact .inr (by omega)
   ·exact .inr (by have := hX.size; omega)
  ·exact .inr (by omega)
  ·exact .inr (by omega)
 ·rcases hy with (hy | hy) | hy
  ·exact G2.st.fl y hy
  ·have := G2.st.blk.lt; omega
  ·omega
end Go.Proofs
namespace Go.Proofs
open Go Go.Eng Go.Sort
set_option maxRecDepth 100000
theorem seqF_mono : ∀ {L : List Frg}, (∀ f ∈ L, FMono f) → FMono (seqF L)
  | [], _, _, _, t => Nat.le_refl t
  | f :: L, h, a, d, t => by
    have h1 := h f (by simp) a d t
    have h2 := seqF_mono (L := L) (fun g hg => h g (by simp [hg])) (a + (f a d t).1.length) d (f a d t).2
    simp only [seqF]; omega
theorem altF_mono (e : Nat) : ∀ {L : List Frg}, (∀ f ∈ L, FMono f) → FMono (altF e L)
  | [], _, _, _, t => Nat.le_refl t
  | [f], h, a, d, t => h f (by simp) a d t
  | f :: g :: L, h, a, d, t => by
    have h1 := h f (by simp) (a + 1) d t
    have h2 := altF_mono e (L := g :: L) (fun x hx => h x (by simp only [List.mem_cons] at hx ⊢; exact .inr hx)) (a + 1 + (f (a + 1) d t).1.length + 1) d (f (a + 1) d t).2
    simp only [altF]; omega
theorem itF_mono (e : Nat) {f : Frg} (h : FMono f) : ∀ n, FMono (itF e f n)
  | 0, _, _, t => Nat.le_refl t
  | n + 1, a, d, t => by
    have h1 := h (a + 2) (d + 1) t
    have h2 := itF_mono e h n (a + 2 + (f (a + 2) (d + 1) t).1.length + 1) d (f (a + 2) (d + 1) t).2
    simp only [itF]; omega
theorem headF_mono {L : List Frg} (h : ∀ f ∈ L, FMono f) : FMono (L.headD noF) := by
  cases L with
  | nil => exact fun _ _ t => Nat.le_refl t
  | cons f L => exact h f (by simp)
theorem frgK_mono {k : Int} {set : List (Int × Int)} {L : List Frg} {arg : Re} {mn mx : Int} {ng : Bool} (h : ∀ f ∈ L, FMono f) : FMono (frgK k set L arg mn mx ng) := by
 intro a d t
 unfold frgK
 (repeat' split)
 ·exact Nat.le_refl t
 ·exact Nat.le_refl t
 ·exact seqF_mono h a d t
 ·exact altF_mono _ h a d t
 ·exact headF_mono h _ _ _
 ·have h1 := seqF_mono (L := List.replicate mn.toNat (L.headD noF)) (fun f hf => (List.mem_replicate.1 hf).2 ▸ headF_mono h) a d t
  dsimp only
  exact Nat.le_trans h1 (itF_mono _ (headF_mono h) _ _ _ _)
 ·have := headF_mono h (a + 1) d (t + 1)
  dsimp only; omega
 ·exact Nat.le_refl t
 ·exact Nat.le_refl t
mutual
theorem frgOf_mono : ∀ t : Re, FMono (frgOf t)
  | .mk k set args mn mx ng => by
    simp only [frgOf]
    exact frgK_mono (frgsOf_mono args)
theorem frgsOf_mono : ∀ ts : List Re, ∀ f ∈ frgsOf ts, FMono f
  | [], f, h => by simp [frgsOf] at h
  | t :: ts, f, h => by
    simp only [frgsOf, List.mem_cons] at h
    rcases h with h | h
    · rw [h]; exact frgOf_mono t
    · exact frgsOf_mono ts f h
end
theorem seqF_app : ∀ (L1 L2 : List Frg) (a d t : Nat), seqF (L1 ++ L2) a d t = ((seqF L1 a d t).1 ++ (seqF L2 (a + (seqF L1 a d t).1.length) d (seqF L1 a d t).2).1, (seqF L2 (a + (seqF L1 a d t).1.length) d (seqF L1 a d t).2).2)
  | [], L2, a, d, t => by simp [seqF]
  | f :: L1, L2, a, d, t => by
    have ih := seqF_app L1 L2 (a + (f a d t).1.length) d (f a d t).2
    simp only [List.cons_append, seqF, ih, List.append_assoc, List.length_append, ← Nat.add_assoc]
theorem seqF_step {L : List Frg} {f : Frg} {j : Nat} (h : L[j]? = some f) (a d t : Nat) : seqF (L.take (j + 1)) a d t = ((seqF (L.take j) a d t).1 ++ (f (a + (seqF (L.take j) a d t).1.length) d (seqF (L.take j) a d t).2).1, (f (a + (seqF (L.take j) a d t).1.length) d (seqF (L.take j) a d t).2).2) := by
 rw [List.take_add_one, h, Option.toList_some, seqF_app]
 simp [seqF]
theorem seqF_le {L : List Frg} (hL : ∀ f ∈ L, FMono f) (j a d t : Nat) : (seqF (L.take j) a d t).1.length ≤ (seqF L a d t).1.length ∧ (seqF (L.take j) a d t).2 ≤ (seqF L a d t).2 := by
 have h := seqF_app (L.take j) (L.drop j) a d t
 rw [List.take_append_drop] at h
 rw [h]
 refine ⟨by simp, seqF_mono (fun f hf => hL f (List.mem_of_mem_drop hf)) _ _ _⟩
theorem frg_0 {set : List (Int × Int)} {args : List Re} {mn mx : Int} {ng : Bool} (a d t : Nat) : frgOf (.mk 0 set args mn mx ng) a d t = ([.set []], t) := by simp [frgOf, frgK]
theorem frg_1 {set : List (Int × Int)} {args : List Re} {mn mx : Int} {ng : Bool} (a d t : Nat) : frgOf (.mk 1 set args mn mx ng) a d t = ([], t) := by simp [frgOf, frgK, noF]
theorem frg_2 {set : List (Int × Int)} {args : List Re} {mn mx : Int} {ng : Bool} (a d t : Nat) : frgOf (.mk 2 set args mn mx ng) a d t = ([.set set], t) := by simp [frgOf, frgK]
theorem frg_3 {set : List (Int × Int)} {args : List Re} {mn mx : Int} {ng : Bool} (a d t : Nat) : frgOf (.mk 3 set args mn mx ng) a d t = seqF (args.map frgOf) a d t := by simp [frgOf, frgK, frgsOf_eq]
theorem spans_nilS (w : World) : SpansAt w nilS [] := ⟨none, 0, rfl, by simp, by simp, .inl rfl⟩
theorem of_0 (wb : World) (set : List (Int × Int)) (args : List Re) (mn mx : Int) (ng : Bool) : OfC wb (.mk 0 set args mn mx ng) := by
 intro base pb F w0 v n code t d vs hx hE hF hP hn ht hd
 simp only [ReAt] at hx
 obtain ⟨sa, sc, aa, ac, rfl, hset, hal, hargs⟩ := hx
 rw [frg_0] at hn ht ⊢
 dsimp only [List.length_singleton] at hn ht ⊢
 have hlen := hP.len
 refine Ret_of Try.func41 rfl Try.ntmps41 (Nat.le_of_ble_eq_true rfl) ?_
 have E : Chg (fun _ => True) w0 w0 := Chg.refl _ _
 refine Wp_seq_region ?_
 refine s_box (v := (.agg #[(I6 0), (.slice sa set.length sc), (.slice aa args.length ac), (I6 mn), (I6 mx), (.bool ng)])) (c := #[(I6 0), (.slice sa set.length sc), (.slice aa args.length ac), (I6 mn), (I6 mx), (.bool ng)]) (by decide) rfl rfl ?_
 intro bx wx Nx
 have Fx := Nx.ge E
 replace E := E.ext Nx.ext
 have Bx := Nx.blk
 refine WpL_nil (Wp_seq_region ?_)
 refine qF bx 0 0 rfl Try.underlying27 rfl siz3 rfl ?_
 refine qV (r_load (v := (I6 0)) rfl flat3 (Bx.cell rfl)) ?_
 refine WpL_nil (Wp_block (Wp_seq_region ?_))
 refine qV (r_eql (k := .i64) (a := 0) (b := 0) rfl rfl) ?_
 refine qA (.bool true) rfl ?_
 refine WpL_nil ?_
 refine Wp_cond_true rfl ?_
 refine Wp_region ?_
 refine qM (P6 pb 0) rfl ?_
 refine qV (r_build (ps := [(0, (I6 0))]) (v := (.agg #[(I6 0), (I6 0), (I6 0), (I6 0), (I6 0), (.slice none 0 0), (.pointer none), (.bool false)])) rfl (by kernel_rfl)) ?_
 have G1 := (GrX.start hP).frz Nx.ext (b := bx) (by rw [Nx.eq]; exact Nat.le_refl _) Bx.lt
 refine WpL_enter rfl rfl (by decide) (r_callF (vs := [(P6 pb 0), (.agg #[(I6 0), (I6 0), (I6 0), (I6 0), (I6 0), (.slice none 0 0), (.pointer none), (.bool false)])]) Try.func42 nm42 bd42 rfl) (add_c _ _ base pb _ n code t d (.set []) 0 0 0 0 0 0 none 0 0 nilP false (hlen ▸ G1.st) (by omega) ⟨nilS, rfl, spans_nilS _, .inl rfl⟩ rfl (fun _ _ h => by cases h)) ?_
 rintro _ w19 ⟨rfl, F2, v2, G2⟩
 replace Bx := G2.chg.keep (G1.st.kept (.inr rfl)) Bx
 replace E := E.step G2.chg (fun _ _ _ => trivial)
 refine WpL_nil (inB_normal ?_)
 refine fin_none Try.results41 ?_
 exact ⟨F2, v2, G1.comp G2⟩
theorem of_1 (wb : World) (set : List (Int × Int)) (args : List Re) (mn mx : Int) (ng : Bool) : OfC wb (.mk 1 set args mn mx ng) := by
 intro base pb F w0 v n code t d vs hx hE hF hP hn ht hd
 simp only [ReAt] at hx
 obtain ⟨sa, sc, aa, ac, rfl, hset, hal, hargs⟩ := hx
 rw [frg_1] at hn ht ⊢
 dsimp only at hn ht ⊢
 refine Ret_of Try.func41 rfl Try.ntmps41 (Nat.le_of_ble_eq_true rfl) ?_
 have E : Chg (fun _ => True) w0 w0 := Chg.refl _ _
 refine Wp_seq_region ?_
 refine s_box (v := (.agg #[(I6 1), (.slice sa set.length sc), (.slice aa args.length ac), (I6 mn), (I6 mx), (.bool ng)])) (c := #[(I6 1), (.slice sa set.length sc), (.slice aa args.length ac), (I6 mn), (I6 mx), (.bool ng)]) (by decide) rfl rfl ?_
 intro bx wx Nx
 have Fx := Nx.ge E
 replace E := E.ext Nx.ext
 have Bx := Nx.blk
 refine WpL_nil (Wp_seq_region ?_)
 refine qF bx 0 0 rfl Try.underlying27 rfl siz3 rfl ?_
 refine qV (r_load (v := (I6 1)) rfl flat3 (Bx.cell rfl)) ?_
 refine WpL_nil (Wp_block (Wp_seq_region ?_))
 refine qV (r_eql (k := .i64) (a := 1) (b := 0) rfl rfl) ?_
 refine qA (.bool false) rfl ?_
 refine WpL_nil ?_
 refine Wp_cond_false rfl ?_
 refine Wp_seq_region ?_
 refine qV (r_eql (k := .i64) (a := 1) (b := 2) rfl rfl) ?_
 refine qA (.bool false) rfl ?_
 refine WpL_nil ?_
 refine Wp_cond_false rfl ?_
 refine Wp_seq_region ?_
 refine qV (r_eql (k := .i64) (a := 1) (b := 3) rfl rfl) ?_
 refine qA (.bool false) rfl ?_
 refine WpL_nil ?_
 refine Wp_cond_false rfl ?_
 refine Wp_seq_region ?_
 refine qV (r_eql (k := .i64) (a := 1) (b := 4) rfl rfl) ?_
 refine qA (.bool false) rfl ?_
 refine WpL_nil ?_
 refine Wp_cond_false rfl ?_
 refine Wp_seq_region ?_
 refine qV (r_eql (k := .i64) (a := 1) (b := 5) rfl rfl) ?_
 refine qA (.bool false) rfl ?_
 refine WpL_nil ?_
 refine Wp_cond_false rfl ?_
 refine Wp_seq_region ?_
 refine qV (r_eql (k := .i64) (a := 1) (b := 6) rfl rfl) ?_
 refine qA (.bool false) rfl ?_
 refine WpL_nil ?_
 refine Wp_cond_false rfl ?_
 refine Wp_seq_region ?_
 refine qV (r_eql (k := .i64) (a := 1) (b := 9) rfl rfl) ?_
 refine qA (.bool false) rfl ?_
 refine WpL_nil ?_
 refine Wp_cond_false rfl ?_
 refine Wp_seq_region ?_
 refine qV (r_eql (k := .i64) (a := 1) (b := 10) rfl rfl) ?_
 refine qA (.bool false) rfl ?_
 refine WpL_nil ?_
 refine Wp_cond_false rfl ?_
 refine Wp_skip (inB_normal ?_)
 refine fin_none Try.results41 ?_
 exact ⟨F, v, by rw [List.append_nil]; exact (GrX.start hP).ext Nx.ext⟩
theorem of_2 (wb : World) (set : List (Int × Int)) (args : List Re) (mn mx : Int) (ng : Bool) : OfC wb (.mk 2 set args mn mx ng) := by
 intro base pb F w0 v n code t d vs hx hE hF hP hn ht hd
 simp only [ReAt] at hx
 obtain ⟨sa, sc, aa, ac, rfl, hset, hal, hargs⟩ := hx
 rw [frg_2] at hn ht ⊢
 dsimp only [List.length_singleton] at hn ht ⊢
 have hlen := hP.len
 have hsf : set = [] ∨ ∃ b, (Value.slice sa set.length sc).ownBlock = some b ∧ F b := by
  rcases Nat.eq_zero_or_pos set.length with h0 | h0
  ·exact .inl (List.eq_nil_of_length_eq_zero h0)
  ·obtain ⟨b, o, rfl, hc⟩ := spans_cells hset h0
   obtain ⟨s, hs⟩ := get_of_lt h0
   exact .inr ⟨b, rfl, hF b (World.block_lt_of_cell? wb _ (hc 0 s hs 0 _ rfl))⟩
 refine Ret_of Try.func41 rfl Try.ntmps41 (Nat.le_of_ble_eq_true rfl) ?_
 have E : Chg (fun _ => True) w0 w0 := Chg.refl _ _
 refine Wp_seq_region ?_
 refine s_box (v := (.agg #[(I6 2), (.slice sa set.length sc), (.slice aa args.length ac), (I6 mn), (I6 mx), (.bool ng)])) (c := #[(I6 2), (.slice sa set.length sc), (.slice aa args.length ac), (I6 mn), (I6 mx), (.bool ng)]) (by decide) rfl rfl ?_
 intro bx wx Nx
 have Fx := Nx.ge E
 replace E := E.ext Nx.ext
 have Bx := Nx.blk
 refine WpL_nil (Wp_seq_region ?_)
 refine qF bx 0 0 rfl Try.underlying27 rfl siz3 rfl ?_
 refine qV (r_load (v := (I6 2)) rfl flat3 (Bx.cell rfl)) ?_
 refine WpL_nil (Wp_block (Wp_seq_region ?_))
 refine qV (r_eql (k := .i64) (a := 2) (b := 0) rfl rfl) ?_
 refine qA (.bool false) rfl ?_
 refine WpL_nil ?_
 refine Wp_cond_false rfl ?_
 refine Wp_seq_region ?_
 refine qV (r_eql (k := .i64) (a := 2) (b := 2) rfl rfl) ?_
 refine qA (.bool true) rfl ?_
 refine WpL_nil ?_
 refine Wp_cond_true rfl ?_
 refine Wp_region ?_
 refine qM (P6 pb 0) rfl ?_
 refine qF bx 0 1 rfl Try.underlying27 rfl siz24 rfl ?_
 refine qV (r_load (v := (.slice sa set.length sc)) rfl flat24 (Bx.cell rfl)) ?_
 refine qV (r_build (ps := [(0, (I6 0)), (5, (.slice sa set.length sc))]) (v := (.agg #[(I6 0), (I6 0), (I6 0), (I6 0), (I6 0), (.slice sa set.length sc), (.pointer none), (.bool false)])) rfl (by kernel_rfl)) ?_
 have G1 := (GrX.start hP).frz Nx.ext (b := bx) (by rw [Nx.eq]; exact Nat.le_refl _) Bx.lt
 refine WpL_enter rfl rfl (by decide) (r_callF (vs := [(P6 pb 0), (.agg #[(I6 0), (I6 0), (I6 0), (I6 0), (I6 0), (.slice sa set.length sc), (.pointer none), (.bool false)])]) Try.func42 nm42 bd42 rfl) (add_c _ _ base pb _ n code t d (.set set) 0 0 0 0 0 0 sa set.length sc nilP false (hlen ▸ G1.st) (by omega) ⟨_, rfl, (hset.ext hE).ext Nx.ext, hsf.imp id fun ⟨b, h1, h2⟩ => ⟨b, h1, .inl h2⟩⟩ rfl (fun _ _ h => by cases h)) ?_
 rintro _ w19 ⟨rfl, F2, v2, G2⟩
 replace Bx := G2.chg.keep (G1.st.kept (.inr rfl)) Bx
 replace E := E.step G2.chg (fun _ _ _ => trivial)
 refine WpL_nil (inB_normal ?_)
 refine fin_none Try.results41 ?_
 exact ⟨F2, v2, G1.comp G2⟩
theorem res_block {w : World} {aa : Option Addr} {args : List Re} {i : Nat} (h : args = [] ∨ ∃ b o, aa = some ⟨b, o, none⟩ ∧ ResAt w b o args) (hi : i < args.length) : ∃ b o, aa = some ⟨b, o, none⟩ ∧ ResAt w b o args := by
 rcases h with h | h
 ·rw [h] at hi; simp at hi
 ·exact h
theorem maps_mono {args : List Re} : ∀ f ∈ args.map frgOf, FMono f := fun f hf => by
 obtain ⟨y, _, rfl⟩ := List.mem_map.1 hf
 exact frgOf_mono y
set_option maxHeartbeats 1000000 in
theorem of_3 (wb : World) (set : List (Int × Int)) (args : List Re) (mn mx : Int) (ng : Bool) (hih : ∀ y ∈ args, OfC wb y) : OfC wb (.mk 3 set args mn mx ng) := by
 intro base pb F w0 v n code t d vs hx hE hF hP hn ht hd
 simp only [ReAt] at hx
 obtain ⟨sa, sc, aa, ac, rfl, hset, hal, hargs⟩ := hx
 rw [frg_3] at hn ht ⊢
 have hlen := hP.len
 simp only [Re.size] at hd
 refine Ret_of Try.func41 rfl Try.ntmps41 (Nat.le_of_ble_eq_true rfl) ?_
 have E : Chg (fun _ => True) w0 w0 := Chg.refl _ _
 refine Wp_seq_region ?_
 refine s_box (v := (.agg #[(I6 3), (.slice sa set.length sc), (.slice aa args.length ac), (I6 mn), (I6 mx), (.bool ng)])) (c := #[(I6 3), (.slice sa set.length sc), (.slice aa args.length ac), (I6 mn), (I6 mx), (.bool ng)]) (by decide) rfl rfl ?_
 intro bx wx Nx
 have Fx := Nx.ge E
 replace E := E.ext Nx.ext
 have Bx := Nx.blk
 refine WpL_nil (Wp_seq_region ?_)
 refine qF bx 0 0 rfl Try.underlying27 rfl siz3 rfl ?_
 refine qV (r_load (v := (I6 3)) rfl flat3 (Bx.cell rfl)) ?_
 refine WpL_nil (Wp_block (Wp_seq_region ?_))
 refine qV (r_eql (k := .i64) (a := 3) (b := 0) rfl rfl) ?_
 refine qA (.bool false) rfl ?_
 refine WpL_nil ?_
 refine Wp_cond_false rfl ?_
 refine Wp_seq_region ?_
 refine qV (r_eql (k := .i64) (a := 3) (b := 2) rfl rfl) ?_
 refine qA (.bool false) rfl ?_
 refine WpL_nil ?_
 refine Wp_cond_false rfl ?_
 refine Wp_seq_region ?_
 refine qV (r_eql (k := .i64) (a := 3) (b := 3) rfl rfl) ?_
 refine qA (.bool true) rfl ?_
 refine WpL_nil ?_
 refine Wp_cond_true rfl ?_
 refine Wp_seq_region ?_
 refine qF bx 0 2 rfl Try.underlying27 rfl siz25 rfl ?_
 refine qV (r_load (v := (.slice aa args.length ac)) rfl flat25 (Bx.cell rfl)) ?_
 refine qV (r_lenSlice (ad := aa) (n := args.length) (cap := ac) Try.underlying25 rfl) ?_
 refine qM (I6 0) rfl ?_
 refine WpL_nil (Wp_block ?_)
 have G1 := (GrX.start hP).frz Nx.ext (b := bx) (by rw [Nx.eq]; exact Nat.le_refl _) Bx.lt
 refine Wp_loop (fun nn_ σ W1 => ∃ (j : Nat) (F1 : Nat → Prop) (v1 : Value), (∃ jj_, σ = upds jj_ [(0, (P6 pb 0)), (34, (.slice aa args.length ac)), (35, (I6 (args.length : Int))), (36, (I6 (j : Int)))]) ∧ Chg (fun _ => True) w0 W1 ∧ Blk W1 bx #[(I6 3), (.slice sa set.length sc), (.slice aa args.length ac), (I6 mn), (I6 mx), (.bool ng)] 27 ∧ (j ≤ args.length) ∧ (GrX F w0 base pb v F1 v1 (code ++ (seqF ((args.map frgOf).take j) n d t).1) (seqF ((args.map frgOf).take j) n d t).2 d W1) ∧ (F1 bx) ∧ nn_ = args.length - j) (n := args.length - 0) ?_ ?_
 ·exact ⟨0, (fun y => F y ∨ y = bx), v, Fits.out ⟨rfl, rfl, rfl, rfl, trivial⟩, E, Bx, Nat.zero_le _, (by rw [List.take_zero]; simp only [seqF, List.append_nil]; exact G1), .inr rfl, rfl⟩
 ·clear E Bx
  rintro _ _ W1 ⟨j, F1, v1, ⟨j1, rfl⟩, E, Bx, hj, G, hk, rfl⟩
  refine Wp_seq_region ?_
  refine qV (r_lss (k := .i64) (a := (j : Int)) (b := (args.length : Int)) rfl rfl) ?_
  refine WpL_nil (Wp_seq ?_)
  refine Wp_cond (b := decide (((j : Int) : Int) < (args.length : Int))) rfl (fun hlt => ?_) (fun hlt => ?_)
  ·have khlt := hlt
   replace hlt := of_decide_eq_true hlt
   obtain ⟨y, hy⟩ := get_of_lt (l := args) (i := j) (by omega)
   obtain ⟨b, o, rfl, hres⟩ := res_block hargs (lt_of_get hy)
   obtain ⟨us, hus, hyt⟩ := hres.get hy
   have hsz := Re.sizes_get hy
   have hfy : (args.map frgOf)[j]? = some (frgOf y) := by rw [List.getElem?_map, hy]; rfl
   have hst := seqF_step hfy n d t
   have hle := seqF_le (maps_mono (args := args)) (j + 1) n d t
   rw [hst] at hle
   dsimp only at hle
   obtain ⟨S, hS⟩ : ∃ S, S = seqF ((args.map frgOf).take j) n d t := ⟨_, rfl⟩
   rw [← hS] at hst hle G
   have hlj : (code ++ S.1).length = n + S.1.length := by rw [List.length_append, hlen]
   rw [List.length_append] at hle
   have hEW := G.wb hP.hp hP.ho hF hE
   refine Wp_skip (thn_normal (Wp_seq (Wp_block (Wp_seq_region ?_))))
   refine qV (r_indexSlice (b := b) (o := o) (len := args.length) (cap := ac) (i := j) (o' := o + j * 6) rfl rfl rfl Try.underlying25 siz27 (by omega) (by omega)) ?_
   refine qV (r_loadAgg (vs := us) rfl agg27 siz27 hyt.len (hus.ext hEW)) ?_
   refine s_allocStore (v := (.agg us.toArray)) (c := us.toArray) (n := 6) (by decide) zer27 rfl siz27 rfl rfl (by simpa using hyt.len) (by simpa using ReAt.one hyt) ?_
   intro bu wu Nu
   have Fu := Nu.ge E
   have Ou_bx := Nu.lt Bx
   replace Bx := Nu.keep Bx
   replace E := E.ext Nu.ext
   have Bu := Nu.blk
   refine WpL_nil (Wp_region ?_)
   refine qM (P6 pb 0) rfl ?_
   refine qV (r_loadAgg (vs := us) rfl agg27 siz27 hyt.len (Bu.cells (by simp))) ?_
   have G2 := G.frz Nu.ext (b := bu) (by rw [Nu.eq]; exact Nat.le_refl _) Bu.lt
   refine WpL_enter rfl rfl (by decide) (r_callF (vs := [(P6 pb 0), (.agg us.toArray)]) Try.func41 nm41 bd41 rfl) (hih y (List.mem_of_getElem? hy) base pb _ _ v1 (n + S.1.length) (code ++ S.1) S.2 d us hyt (hEW.trans Nu.ext) (fun q hq => .inl (G.sub q (hF q hq))) (hlj ▸ G2.st) (by omega) (by omega) (by omega)) ?_
   rintro _ w19 ⟨F3, v3, G3⟩
   replace Bx := G3.chg.keep (G2.st.kept (by first | exact .inr rfl | exact .inl hk)) Bx
   replace Bu := G3.chg.keep (G2.st.kept (by first | exact .inr rfl | exact .inl hk)) Bu
   replace E := E.step G3.chg (fun _ _ _ => trivial)
   refine WpL_nil (inB_normal (thn_normal (Wp_region ?_)))
   refine qV (r_add (k := .i64) (a := (j : Int)) (b := 1) (c := (j : Int) + 1) rfl rfl (wI64 (by omega))) ?_
   refine qM (I6 ((j : Int) + 1)) rfl ?_
   refine WpL_nil (thn_normal ?_)
   exact ⟨args.length - (j + 1), by omega, j + 1, F3, v3, Fits.out ⟨rfl, rfl, rfl, rfl, trivial⟩, E, Bx, (by omega), (by rw [hst]; dsimp only; rw [← List.append_assoc]; exact G2.comp G3), G3.sub _ (.inl hk), rfl⟩
  ·have khlt := hlt
   replace hlt := of_decide_eq_false hlt
   have hjl : j = args.length := by omega
   rw [hjl, List.take_of_length_le (by simp)] at G
   refine Wp_exit (thn_exit (thn_exit (inB_here (inB_normal ?_))))
   refine fin_none Try.results41 ?_
   exact ⟨F1, v1, G⟩
theorem frg_9 {set : List (Int × Int)} {y : Re} {args : List Re} {k : Nat} {mx : Int} {ng : Bool} (a d t : Nat) : frgOf (.mk 9 set (y :: args) (k : Int) mx ng) a d t = (.opn t :: ((frgOf y (a + 1) d (t + 1)).1 ++ [.cls t k]), (frgOf y (a + 1) d (t + 1)).2) := by simp [frgOf, frgK, frgsOf_eq]
theorem frg_10 {set : List (Int × Int)} {y : Re} {args : List Re} {mn mx : Int} {ng : Bool} (a d t : Nat) : frgOf (.mk 10 set (y :: args) mn mx ng) a d t = ([.look y ng], t) := by simp [frgOf, frgK, arg0]
set_option maxHeartbeats 1000000 in
theorem of_9 (wb : World) (set : List (Int × Int)) (y : Re) (args : List Re) (k : Nat) (mx : Int) (ng : Bool) (hih : OfC wb y) : OfC wb (.mk 9 set (y :: args) (k : Int) mx ng) := by
 intro base pb F w0 v n code t d vs hx hE hF hP hn ht hd
 simp only [ReAt] at hx
 obtain ⟨sa, sc, aa, ac, rfl, hset, hal, hargs⟩ := hx
 rw [frg_9] at hn ht ⊢
 have hlen := hP.len
 simp only [Re.size, Re.sizes] at hd
 have htm := frgOf_mono y (n + 1) d (t + 1)
 obtain ⟨⟨cb, tb⟩, hr⟩ : ∃ r, frgOf y (n + 1) d (t + 1) = r := ⟨_, rfl⟩
 rw [hr] at hn ht htm ⊢
 dsimp only [List.length_cons, List.length_append, List.length_nil] at hn ht htm ⊢
 simp only [List.length_cons, List.length_append, List.length_nil] at hn
 obtain ⟨b, o, rfl, hres⟩ := res_block (i := 0) hargs (by simp)
 obtain ⟨us, hus, hyt⟩ := hres.get (i := 0) (t := y) rfl
 obtain ⟨va, vc, rfl⟩ := hP.form
 have hblk := hP.blk
 simp only [List.length_cons] at hal
 obtain ⟨m, hm⟩ : ∃ m, m = args.length + 1 := ⟨_, rfl⟩
 have hm1 : 1 ≤ m := by omega
 rw [← hm] at hal ⊢
 refine Ret_of Try.func41 rfl Try.ntmps41 (Nat.le_of_ble_eq_true rfl) ?_
 have E : Chg (fun _ => True) w0 w0 := Chg.refl _ _
 refine Wp_seq_region ?_
 refine s_box (v := (.agg #[(I6 9), (.slice sa set.length sc), (.slice (some ⟨b, o, none⟩) m ac), (I6 (k : Int)), (I6 mx), (.bool ng)])) (c := #[(I6 9), (.slice sa set.length sc), (.slice (some ⟨b, o, none⟩) m ac), (I6 (k : Int)), (I6 mx), (.bool ng)]) (by decide) rfl rfl ?_
 intro bx wx Nx
 have Fx := Nx.ge E
 have Ox_pb := Nx.lt hblk
 replace hblk := Nx.keep hblk
 replace E := E.ext Nx.ext
 have Bx := Nx.blk
 refine WpL_nil (Wp_seq_region ?_)
 refine qF bx 0 0 rfl Try.underlying27 rfl siz3 rfl ?_
 refine qV (r_load (v := (I6 9)) rfl flat3 (Bx.cell rfl)) ?_
 refine WpL_nil (Wp_block (Wp_seq_region ?_))
 refine qV (r_eql (k := .i64) (a := 9) (b := 0) rfl rfl) ?_
 refine qA (.bool false) rfl ?_
 refine WpL_nil ?_
 refine Wp_cond_false rfl ?_
 refine Wp_seq_region ?_
 refine qV (r_eql (k := .i64) (a := 9) (b := 2) rfl rfl) ?_
 refine qA (.bool false) rfl ?_
 refine WpL_nil ?_
 refine Wp_cond_false rfl ?_
 refine Wp_seq_region ?_
 refine qV (r_eql (k := .i64) (a := 9) (b := 3) rfl rfl) ?_
 refine qA (.bool false) rfl ?_
 refine WpL_nil ?_
 refine Wp_cond_false rfl ?_
 refine Wp_seq_region ?_
 refine qV (r_eql (k := .i64) (a := 9) (b := 4) rfl rfl) ?_
 refine qA (.bool false) rfl ?_
 refine WpL_nil ?_
 refine Wp_cond_false rfl ?_
 refine Wp_seq_region ?_
 refine qV (r_eql (k := .i64) (a := 9) (b := 5) rfl rfl) ?_
 refine qA (.bool false) rfl ?_
 refine WpL_nil ?_
 refine Wp_cond_false rfl ?_
 refine Wp_seq_region ?_
 refine qV (r_eql (k := .i64) (a := 9) (b := 6) rfl rfl) ?_
 refine qA (.bool false) rfl ?_
 refine WpL_nil ?_
 refine Wp_cond_false rfl ?_
 refine Wp_seq_region ?_
 refine qV (r_eql (k := .i64) (a := 9) (b := 9) rfl rfl) ?_
 refine qA (.bool true) rfl ?_
 refine WpL_nil ?_
 refine Wp_cond_true rfl ?_
 refine Wp_seq_region ?_
 refine qM (P6 pb 0) rfl ?_
 refine qV (r_nilCheck (a := ⟨pb, 0, none⟩) rfl) ?_
 refine qF pb 0 1 rfl Try.underlying83 rfl siz3 rfl ?_
 refine qV (r_load (v := (I6 (t : Int))) rfl flat3 (hblk.cell rfl)) ?_
 refine qA (I6 (t : Int)) rfl ?_
 refine WpL_nil (Wp_seq_region ?_)
 refine qM (P6 pb 0) rfl ?_
 refine qV (r_nilCheck (a := ⟨pb, 0, none⟩) rfl) ?_
 refine qF pb 0 1 rfl Try.underlying83 rfl siz3 rfl ?_
 refine qV (r_load (v := (I6 (t : Int))) rfl flat3 (hblk.cell rfl)) ?_
 have G1 := (GrX.start hP).frz Nx.ext (b := bx) (by rw [Nx.eq]; exact Nat.le_refl _) Bx.lt
 refine qV (r_add (k := .i64) (a := (t : Int)) (b := 1) (c := ((t + 1 : Nat) : Int)) rfl rfl ((wI64 (by omega)).trans (by omega))) ?_
 refine qV (r_nilCheck (a := ⟨pb, 0, none⟩) rfl) ?_
 refine qF pb 0 1 rfl Try.underlying83 rfl siz3 rfl ?_
 refine s_store (b := pb) (o := 1) (c' := #[(.slice va n vc), (I6 ((t + 1 : Nat) : Int)), (I6 (d : Int))]) (v := (I6 ((t + 1 : Nat) : Int))) rfl rfl rfl siz3 hblk (by simp) rfl ?_
 intro w1 S1
 replace G1 := G1.fields S1
 replace Bx := S1.keep (by omega) Bx
 replace E := S1.step E (by first | exact Or.inl (by omega) | exact Or.inr rfl | exact Or.inr (by assumption) | exact Or.inr (by simp) | exact Or.inr (by omega) | exact Or.inr (by dsimp only; omega))
 replace hblk := S1.blk
 refine WpL_nil (Wp_seq_region ?_)
 refine qM (P6 pb 0) rfl ?_
 refine qM (I6 (t : Int)) rfl ?_
 refine qV (r_build (ps := [(0, (I6 3)), (4, (I6 (t : Int)))]) (v := (.agg #[(I6 3), (I6 0), (I6 0), (I6 0), (I6 (t : Int)), (.slice none 0 0), (.pointer none), (.bool false)])) rfl (by kernel_rfl)) ?_
 refine WpL_enter rfl rfl (by decide) (r_callF (vs := [(P6 pb 0), (.agg #[(I6 3), (I6 0), (I6 0), (I6 0), (I6 (t : Int)), (.slice none 0 0), (.pointer none), (.bool false)])]) Try.func42 nm42 bd42 rfl) (add_c _ _ base pb _ n code (t + 1) d (.opn t) 0 3 0 0 0 t none 0 0 nilP false (hlen ▸ G1.st) (by omega) rfl rfl (fun _ _ h => by cases h)) ?_
 rintro _ w19 ⟨rfl, F2, v2, G2⟩
 replace Bx := G2.chg.keep (G1.st.kept (.inr rfl)) Bx
 replace E := E.step G2.chg (fun _ _ _ => trivial)
 have k2 : F2 bx := G2.sub _ (.inr rfl)
 replace G2 := G1.comp G2
 have hl2 : (code ++ [Ins.opn t]).length = n + 1 := by simp [hlen]
 have hEW := G2.wb hP.hp hP.ho hF hE
 refine WpL_nil (Wp_seq_region ?_)
 refine qM (P6 pb 0) rfl ?_
 refine qF bx 0 2 rfl Try.underlying27 rfl siz25 rfl ?_
 refine qV (r_load (v := (.slice (some ⟨b, o, none⟩) m ac)) rfl flat25 (Bx.cell rfl)) ?_
 refine qV (r_indexSlice (b := b) (o := o) (len := m) (cap := ac) (i := 0) (o' := o + 0 * 6) rfl rfl rfl Try.underlying25 siz27 (by omega) (by omega)) ?_
 refine qV (r_loadAgg (vs := us) rfl agg27 siz27 hyt.len ((by simpa using hus : CellsAt wb b (o + 0 * 6) us).ext hEW)) ?_
 refine WpL_enter rfl rfl (by decide) (r_callF (vs := [(P6 pb 0), (.agg us.toArray)]) Try.func41 nm41 bd41 rfl) (hih base pb _ _ v2 (n + 1) (code ++ [Ins.opn t]) (t + 1) d us hyt hEW (fun q hq => G2.sub q (hF q hq)) (hl2 ▸ G2.st) (by rw [hr]; dsimp only; omega) (by rw [hr]; exact ht) (by omega)) ?_
 rintro _ w29 ⟨F3, v3, G3⟩
 replace Bx := G3.chg.keep (G2.st.kept k2) Bx
 replace E := E.step G3.chg (fun _ _ _ => trivial)
 rw [hr] at G3
 dsimp only at G3
 have k3 : F3 bx := G3.sub _ k2
 replace G3 := G2.comp G3
 have hl3 : ((code ++ [Ins.opn t]) ++ cb).length = n + 1 + cb.length := by rw [List.length_append, hl2]
 refine WpL_nil (Wp_region ?_)
 refine qM (P6 pb 0) rfl ?_
 refine qM (I6 (t : Int)) rfl ?_
 refine qF bx 0 3 rfl Try.underlying27 rfl siz3 rfl ?_
 refine qV (r_load (v := (I6 (k : Int))) rfl flat3 (Bx.cell rfl)) ?_
 refine qV (r_build (ps := [(0, (I6 4)), (4, (I6 (t : Int))), (3, (I6 (k : Int)))]) (v := (.agg #[(I6 4), (I6 0), (I6 0), (I6 (k : Int)), (I6 (t : Int)), (.slice none 0 0), (.pointer none), (.bool false)])) rfl (by kernel_rfl)) ?_
 refine WpL_enter rfl rfl (by decide) (r_callF (vs := [(P6 pb 0), (.agg #[(I6 4), (I6 0), (I6 0), (I6 (k : Int)), (I6 (t : Int)), (.slice none 0 0), (.pointer none), (.bool false)])]) Try.func42 nm42 bd42 rfl) (add_c _ _ base pb _ (n + 1 + cb.length) _ tb d (.cls t k) 0 4 0 0 k t none 0 0 nilP false (hl3 ▸ G3.st) (by omega) rfl rfl (fun _ _ h => by cases h)) ?_
 rintro _ w39 ⟨rfl, F4, v4, G4⟩
 replace Bx := G4.chg.keep (G3.st.kept k3) Bx
 replace E := E.step G4.chg (fun _ _ _ => trivial)
 refine WpL_nil (inB_normal ?_)
 refine fin_none Try.results41 ?_
 have e : code ++ (Ins.opn t :: (cb ++ [Ins.cls t k])) = ((code ++ [Ins.opn t]) ++ cb) ++ [Ins.cls t k] := by simp
 rw [e]
 exact ⟨F4, v4, G3.comp G4⟩
/-- What a translated look leaves. -/
def trF (F : Nat → Prop) (z : Nat) (y : Re) : Fct := fun v w => ∃ (F' : Nat → Prop) (qb : Nat), v = .pointer (some ⟨qb, 0, none⟩) ∧ (∀ q, F q → F' q) ∧ (∀ q, F' q → F q ∨ z ≤ q) ∧ (∀ q, F' q → q < w.heap.size) ∧ ProgAt F' w qb y
theorem trF_chg {F U : Nat → Prop} {z : Nat} {y : Re} (hU : ∀ q, U q → ¬ F q ∧ q < z) : ∀ v w w', Chg U w w' → trF F z y v w → trF F z y v w' := by
 rintro v w w' c ⟨F', qb, h1, h2, h3, h4, h5⟩
 refine ⟨F', qb, h1, h2, h3, fun q hq => Nat.lt_of_lt_of_le (h4 q hq) c.size, h5.chg c fun q hq hu => ?_⟩
 obtain ⟨h6, h7⟩ := hU q hu
 rcases h3 q hq with h8 | h8
 ·exact h6 h8
 ·omega
theorem PSt2.more {F F' : Nat → Prop} {w : World} {base pb n : Nat} {v : Value} {code : List Ins} {t d z : Nat} (h : PSt2 F w base pb v n code t d) (h1 : ∀ q, F q → F' q) (h2 : ∀ q, F' q → F q ∨ z ≤ q) (h3 : ∀ q, F' q → q < w.heap.size) (h4 : pb < z) (h5 : ∀ b, v.ownBlock = some b → b < z) : PSt2 F' w base pb v n code t d := by
 obtain ⟨rows, a, b⟩ := h.rows
 refine ⟨h.blk, ⟨rows, a, b.mono h1⟩, h.len, fun q hq hf => ?_, fun hf => ?_, h.pb, h.bs, h3⟩
 ·rcases h2 q hf with h6 | h6
  ·exact h.ho q hq h6
  ·have := h5 q hq; omega
 ·rcases h2 _ hf with h6 | h6
  ·exact h.hp h6
  ·omega
def trB (F : Nat → Prop) (z : Nat) (y : Re) (ng : Bool) : Fct := fun v w => ∃ (F' : Nat → Prop) (qb : Nat), v = .agg #[iV 5, iV 0, iV 0, iV 0, iV 0, nilS, .pointer (some ⟨qb, 0, none⟩), .bool ng] ∧ (∀ q, F q → F' q) ∧ (∀ q, F' q → F q ∨ z ≤ q) ∧ (∀ q, F' q → q < w.heap.size) ∧ ProgAt F' w qb y
theorem trB_chg {F U : Nat → Prop} {z : Nat} {y : Re} {ng : Bool} (hU : ∀ q, U q → ¬ F q ∧ q < z) : ∀ v w w', Chg U w w' → trB F z y ng v w → trB F z y ng v w' := by
 rintro v w w' c ⟨F', qb, h1, h2⟩
 obtain ⟨F2, qb2, h3, h4⟩ := trF_chg hU (.pointer (some ⟨qb, 0, none⟩)) w w' c ⟨F', qb, rfl, h2⟩
 cases h3
 exact ⟨F2, qb, h1, h4⟩
theorem tr_of {F : Nat → Prop} {w0 w : World} {y : Re} {r : Value} {z : Nat} (h : ∃ F' pb, r = .pointer (some ⟨pb, 0, none⟩) ∧ (∀ y, F y → F' y) ∧ (∀ y, F' y → F y ∨ w0.heap.size ≤ y) ∧ (∀ y, F' y → y < w.heap.size) ∧ ProgAt F' w pb y) (hz : z ≤ w0.heap.size) : trF F z y r w := by
 obtain ⟨F', pb, h1, h2, h3, h4, h5⟩ := h
 exact ⟨F', pb, h1, h2, fun q hq => (h3 q hq).imp id (fun h => Nat.le_trans hz h), h4, h5⟩
def grF (F : Nat → Prop) (w0 : World) (base pb : Nat) (v : Value) (code' : List Ins) (t' d n : Nat) : Fct := fun u w => u = iV n ∧ Grew F w0 base pb v code' t' d w
theorem grF_ext {F : Nat → Prop} {w0 : World} {base pb : Nat} {v : Value} {code' : List Ins} {t' d n : Nat} : ∀ u w w', Ext w w' → grF F w0 base pb v code' t' d n u w → grF F w0 base pb v code' t' d n u w' := by
 rintro u w w' e ⟨h1, F', v', h2⟩
 exact ⟨h1, F', v', h2.ext e⟩
/-- From what a look leaves: the instruction is added. -/
theorem look_add {F1 F' : Nat → Prop} {w1 w : World} {base pb n qb t d z : Nat} {v : Value} {code : List Ins} {y : Re} {ng : Bool} (P : PSt2 F1 w1 base pb v n code t d) (e : Ext w1 w) (hz : z = w1.heap.size) (h1 : ∀ q, F1 q → F' q) (h2 : ∀ q, F' q → F1 q ∨ z ≤ q) (h3 : ∀ q, F' q → q < w.heap.size) (hPr : ProgAt F' w qb y) (hn : n ≤ 1000000) :
  Ret Try.prog 42 #[.pointer (some ⟨pb, 0, none⟩), .agg #[iV 5, iV 0, iV 0, iV 0, iV 0, nilS, .pointer (some ⟨qb, 0, none⟩), .bool ng]] w fun u w2 => grF F1 w1 base pb v (code ++ [.look y ng]) t d n u w2 ∧ Chg (fun q => q = pb ∨ v.ownBlock = some q) w w2 := by
 obtain ⟨rows, ho, _⟩ := P.rows
 have P2 := (P.ext e).more h1 h2 h3 (z := z) (by have := P.blk.lt; omega) (fun b hb => by have := (ho.lt b hb).2; omega)
 refine (add_c F' w base pb v n code t d (.look y ng) qb 5 0 0 0 0 none 0 0 (.pointer (some ⟨qb, 0, none⟩)) ng P2 hn rfl rfl (fun r' ng' h => by cases h; exact hPr)).mono ?_
 rintro u w2 ⟨rfl, F2, v2, G⟩
 refine ⟨⟨rfl, F2, v2, ⟨fun q hq => G.sub q (h1 q hq), fun q hq => ?_, G.st, (Ext.chg e).trans G.chg, fun k hk => ?_⟩⟩, G.chg⟩
 ·have := e.size
  rcases G.new q hq with h | h
  ·rcases h2 q h with h | h
   ·exact .inl h
   ·exact .inr (by omega)
  ·exact .inr (by omega)
 ·have := e.size
  rcases G.own k hk with h | h
  ·exact .inl h
  ·exact .inr (by omega)
set_option maxHeartbeats 1000000 in
theorem of_10 (wb : World) (set : List (Int × Int)) (y : Re) (args : List Re) (mn mx : Int) (ng : Bool) (hih : OfC wb y) (hny : (frgOf y 0 0 0).1.length + 1 ≤ 1000) (hty : tempsOf y ≤ 1000) (hsy : y.size ≤ 900) : OfC wb (.mk 10 set (y :: args) mn mx ng) := by
 intro base pb F w0 v n code t d vs hx hE hF hP hn ht hd
 simp only [ReAt] at hx
 obtain ⟨sa, sc, aa, ac, rfl, hset, hal, hargs⟩ := hx
 rw [frg_10] at hn ht ⊢
 have hlen := hP.len
 dsimp only [List.length_cons, List.length_append, List.length_nil] at hn ht ⊢
 obtain ⟨b, o, rfl, hres⟩ := res_block (i := 0) hargs (by simp)
 obtain ⟨us, hus, hyt⟩ := hres.get (i := 0) (t := y) rfl
 obtain ⟨va, vc, rfl⟩ := hP.form
 have hblk := hP.blk
 simp only [List.length_cons] at hal
 obtain ⟨m, hm⟩ : ∃ m, m = args.length + 1 := ⟨_, rfl⟩
 have hm1 : 1 ≤ m := by omega
 rw [← hm] at hal ⊢
 have hol : ∀ q, (Value.slice va n vc).ownBlock = some q → base ≤ q ∧ q < w0.heap.size := fun q hq => by obtain ⟨rows, ho, _⟩ := hP.rows; exact ho.lt q hq
 refine Ret_of Try.func41 rfl Try.ntmps41 (Nat.le_of_ble_eq_true rfl) ?_
 have E : Chg (fun _ => True) w0 w0 := Chg.refl _ _
 refine Wp_seq_region ?_
 refine s_box (v := (.agg #[(I6 10), (.slice sa set.length sc), (.slice (some ⟨b, o, none⟩) m ac), (I6 mn), (I6 mx), (.bool ng)])) (c := #[(I6 10), (.slice sa set.length sc), (.slice (some ⟨b, o, none⟩) m ac), (I6 mn), (I6 mx), (.bool ng)]) (by decide) rfl rfl ?_
 intro bx wx Nx
 have Fx := Nx.ge E
 replace E := E.ext Nx.ext
 have Bx := Nx.blk
 refine WpL_nil (Wp_seq_region ?_)
 refine qF bx 0 0 rfl Try.underlying27 rfl siz3 rfl ?_
 refine qV (r_load (v := (I6 10)) rfl flat3 (Bx.cell rfl)) ?_
 refine WpL_nil (Wp_block (Wp_seq_region ?_))
 refine qV (r_eql (k := .i64) (a := 10) (b := 0) rfl rfl) ?_
 refine qA (.bool false) rfl ?_
 refine WpL_nil ?_
 refine Wp_cond_false rfl ?_
 refine Wp_seq_region ?_
 refine qV (r_eql (k := .i64) (a := 10) (b := 2) rfl rfl) ?_
 refine qA (.bool false) rfl ?_
 refine WpL_nil ?_
 refine Wp_cond_false rfl ?_
 refine Wp_seq_region ?_
 refine qV (r_eql (k := .i64) (a := 10) (b := 3) rfl rfl) ?_
 refine qA (.bool false) rfl ?_
 refine WpL_nil ?_
 refine Wp_cond_false rfl ?_
 refine Wp_seq_region ?_
 refine qV (r_eql (k := .i64) (a := 10) (b := 4) rfl rfl) ?_
 refine qA (.bool false) rfl ?_
 refine WpL_nil ?_
 refine Wp_cond_false rfl ?_
 refine Wp_seq_region ?_
 refine qV (r_eql (k := .i64) (a := 10) (b := 5) rfl rfl) ?_
 refine qA (.bool false) rfl ?_
 refine WpL_nil ?_
 refine Wp_cond_false rfl ?_
 refine Wp_seq_region ?_
 refine qV (r_eql (k := .i64) (a := 10) (b := 6) rfl rfl) ?_
 refine qA (.bool false) rfl ?_
 refine WpL_nil ?_
 refine Wp_cond_false rfl ?_
 refine Wp_seq_region ?_
 refine qV (r_eql (k := .i64) (a := 10) (b := 9) rfl rfl) ?_
 refine qA (.bool false) rfl ?_
 refine WpL_nil ?_
 refine Wp_cond_false rfl ?_
 refine Wp_seq_region ?_
 refine qV (r_eql (k := .i64) (a := 10) (b := 10) rfl rfl) ?_
 refine qA (.bool true) rfl ?_
 refine WpL_nil ?_
 refine Wp_cond_true rfl ?_
 have G1 := (GrX.start hP).frz Nx.ext (b := bx) (by rw [Nx.eq]; exact Nat.le_refl _) Bx.lt
 obtain ⟨z, hz⟩ : ∃ z, z = (wx).heap.size := ⟨_, rfl⟩
 have hpz : pb < z ∧ bx < z ∧ w0.heap.size ≤ z := ⟨by rw [hz]; exact G1.st.blk.lt, by rw [hz]; exact Bx.lt, by rw [hz]; exact Nx.ext.size⟩
 have hz_1 : w0.heap.size ≤ wx.heap.size := E.size
 have lz_1_bx : bx < wx.heap.size := Bx.lt
 obtain ⟨Fs1, hFs1⟩ : ∃ Fs : List FctS, Fs = [(fun _ _ v _ => v = (P6 pb 0)), (fun _ _ v _ => v = (P6 bx 2)), (fun _ _ v _ => v = (.slice (some ⟨b, o, none⟩) m ac)), (fun _ _ v _ => v = (.pointer (some ⟨b, o + 0 * 6, none⟩))), (fun _ _ v _ => v = (.agg us.toArray)), (fun _ _ => trF (fun q => F q ∨ q = bx) z y), (fun _ _ v _ => v = (P6 bx 5)), (fun _ _ v _ => v = (.bool ng)), (fun _ _ => trB (fun q => F q ∨ q = bx) z y ng), (fun _ _ => grF (fun q => F q ∨ q = bx) wx base pb (.slice va n vc) (code ++ [.look y ng]) t d n)] := ⟨_, rfl⟩
 refine Wp_dagS (MsL [(9, (fun q => q = pb ∨ (Value.slice va n vc).ownBlock = some q))]) [true, true, true, true, true, true, true, true, true, true] [] [217, 218, 219, 220, 221, 222, 223, 224, 225, 226] [[], [], [1], [2], [3], [4], [], [6], [5, 7], [0, 5, 8]] [[], [], [1], [2, 1], [3, 2, 1], [4, 3, 2, 1], [], [6], [5, 4, 3, 2, 1, 7, 6], [0, 5, 4, 3, 2, 1, 8, 7, 6]] Fs1 hFs1 (by kernel_rfl) mixed (by kernel_rfl) (by kernel_rfl) (by kernel_rfl) (by kernel_rfl) ?_ ?_
 ·intro wd X0
  refine qD (fun S s' w' hi hN X U V H => ?_) ?_
  ·replace X := X.mono (M' := none1) (fun y _ h => by
     obtain ⟨j, hj, h⟩ := h
     rcases MsL_or h with ⟨rfl, h0⟩ | h0
     ·exact Bool.noConfusion (hj.symm.trans (hN 9 rfl))
     exact h0.elim)
   exact DoesT_pure (r_move (v := (P6 pb 0)) (U 0 rfl)) rfl
  refine qD (fun S s' w' hi hN X U V H => ?_) ?_
  ·replace X := X.mono (M' := none1) (fun y _ h => by
     obtain ⟨j, hj, h⟩ := h
     rcases MsL_or h with ⟨rfl, h0⟩ | h0
     ·exact Bool.noConfusion (hj.symm.trans (hN 9 rfl))
     exact h0.elim)
   exact DoesT_pure (r_fieldAddr (b := bx) (o := 0) (o' := 2) (U 3 rfl) Try.underlying27 rfl siz25 rfl) rfl
  refine qD (fun S s' w' hi hN X U V H => ?_) ?_
  ·replace X := X.mono (M' := none1) (fun y _ h => by
     obtain ⟨j, hj, h⟩ := h
     rcases MsL_or h with ⟨rfl, h0⟩ | h0
     ·exact Bool.noConfusion (hj.symm.trans (hN 9 rfl))
     exact h0.elim)
   have e218 : s' 218 = (.pointer (some ⟨bx, 2, none⟩)) := (H 1 rfl).2 218 (fun _ _ v _ => v = (.pointer (some ⟨bx, 2, none⟩))) rfl (by rw [hFs1]; rfl)
   exact DoesT_pure (r_load (v := (.slice (some ⟨b, o, none⟩) m ac)) e218 flat25 (((X0.trans X).keep Bx).cell rfl)) rfl
  refine qD (fun S s' w' hi hN X U V H => ?_) ?_
  ·replace X := X.mono (M' := none1) (fun y _ h => by
     obtain ⟨j, hj, h⟩ := h
     rcases MsL_or h with ⟨rfl, h0⟩ | h0
     ·exact Bool.noConfusion (hj.symm.trans (hN 9 rfl))
     exact h0.elim)
   have e219 : s' 219 = (.slice (some ⟨b, o, none⟩) m ac) := (H 2 rfl).2 219 (fun _ _ v _ => v = (.slice (some ⟨b, o, none⟩) m ac)) rfl (by rw [hFs1]; rfl)
   exact DoesT_pure (r_indexSlice (b := b) (o := o) (len := m) (cap := ac) (i := 0) (o' := o + 0 * 6) e219 rfl rfl Try.underlying25 siz27 (by omega) (by omega)) rfl
  refine qD (fun S s' w' hi hN X U V H => ?_) ?_
  ·replace X := X.mono (M' := none1) (fun y _ h => by
     obtain ⟨j, hj, h⟩ := h
     rcases MsL_or h with ⟨rfl, h0⟩ | h0
     ·exact Bool.noConfusion (hj.symm.trans (hN 9 rfl))
     exact h0.elim)
   have e220 : s' 220 = (.pointer (some ⟨b, o + 0 * 6, none⟩)) := (H 3 rfl).2 220 (fun _ _ v _ => v = (.pointer (some ⟨b, o + 0 * 6, none⟩))) rfl (by rw [hFs1]; rfl)
   exact DoesT_pure (r_loadAgg (vs := us) e220 agg27 siz27 (hyt.len) ((((by simpa using hus : CellsAt wb b (o + 0 * 6) us).ext hE).ext (Ext.trans Nx.ext (X0.trans X))))) rfl
  refine DagStepsS.cons (StabS.chg (U := (fun y => (fun q => q = pb ∨ (Value.slice va n vc).ownBlock = some q) y)) (trF_chg (fun q h => ⟨fun hf => G1.st.kept hf h, h.elim (fun h => by omega) (fun h => by have := hol q h; omega)⟩)) (fun p y hp hw h => by
     rcases MsL_or h with ⟨rfl, h0⟩ | h0
     ·exact h0
     exact h0.elim)) (LocS.const) (fun S s' w' hi hN X U V H => Or.inl ⟨Guarded_none rfl, ?_⟩) ?_
  ·replace X := X.mono (M' := none1) (fun y _ h => by
     obtain ⟨j, hj, h⟩ := h
     rcases MsL_or h with ⟨rfl, h0⟩ | h0
     ·exact Bool.noConfusion (hj.symm.trans (hN 9 rfl))
     exact h0.elim)
   have e221 : s' 221 = (.agg us.toArray) := (H 4 rfl).2 221 (fun _ _ v _ => v = (.agg us.toArray)) rfl (by rw [hFs1]; rfl)
   exact DoesT_callE (r_callF (vs := [(.agg us.toArray)]) Try.func22 nm22 bd22 (lst1 e221)) (translate_c wb (fun q => F q ∨ q = bx) _ us y hih hyt (Ext.trans hE (Ext.trans Nx.ext (X0.trans X))) (fun q hq => .inl (hF q hq)) (fun q hq => Nat.lt_of_lt_of_le (G1.st.fl q hq) (Nat.le_trans X0.size X.size)) hny hty hsy |>.mono (fun u w h => ⟨tr_of h.1 (by have := X0.size; have := X.size; omega), h.2⟩))
  refine qD (fun S s' w' hi hN X U V H => ?_) ?_
  ·replace X := X.mono (M' := none1) (fun y _ h => by
     obtain ⟨j, hj, h⟩ := h
     rcases MsL_or h with ⟨rfl, h0⟩ | h0
     ·exact Bool.noConfusion (hj.symm.trans (hN 9 rfl))
     exact h0.elim)
   exact DoesT_pure (r_fieldAddr (b := bx) (o := 0) (o' := 5) (U 3 rfl) Try.underlying27 rfl siz4 rfl) rfl
  refine qD (fun S s' w' hi hN X U V H => ?_) ?_
  ·replace X := X.mono (M' := none1) (fun y _ h => by
     obtain ⟨j, hj, h⟩ := h
     rcases MsL_or h with ⟨rfl, h0⟩ | h0
     ·exact Bool.noConfusion (hj.symm.trans (hN 9 rfl))
     exact h0.elim)
   have e223 : s' 223 = (.pointer (some ⟨bx, 5, none⟩)) := (H 6 rfl).2 223 (fun _ _ v _ => v = (.pointer (some ⟨bx, 5, none⟩))) rfl (by rw [hFs1]; rfl)
   exact DoesT_pure (r_load (v := (.bool ng)) e223 flat4 (((X0.trans X).keep Bx).cell rfl)) rfl
  refine DagStepsS.cons (StabS.chg (U := (fun y => (fun q => q = pb ∨ (Value.slice va n vc).ownBlock = some q) y)) (trB_chg (fun q h => ⟨fun hf => G1.st.kept hf h, h.elim (fun h => by omega) (fun h => by have := hol q h; omega)⟩)) (fun p y hp hw h => by
     rcases MsL_or h with ⟨rfl, h0⟩ | h0
     ·exact h0
     exact h0.elim)) (LocS.const) (fun S s' w' hi hN X U V H => Or.inl ⟨Guarded_none rfl, ?_⟩) ?_
  ·replace X := X.mono (M' := none1) (fun y _ h => by
     obtain ⟨j, hj, h⟩ := h
     rcases MsL_or h with ⟨rfl, h0⟩ | h0
     ·exact Bool.noConfusion (hj.symm.trans (hN 9 rfl))
     exact h0.elim)
   obtain ⟨F222, b222, e222, a222, c222, d222, p222⟩ := (show ((fun _ _ => trF (fun q => F q ∨ q = bx) z y) : FctS) S s' (s' 222) w' from (H 5 rfl).2 222 (fun _ _ => trF (fun q => F q ∨ q = bx) z y) rfl (by rw [hFs1]; rfl))
   have e224 : s' 224 = (.bool ng) := (H 7 rfl).2 224 (fun _ _ v _ => v = (.bool ng)) rfl (by rw [hFs1]; rfl)
   exact DoesT_pure (r_build (ps := [(0, .int .i64 5), (6, .pointer (some ⟨b222, 0, none⟩)), (7, .bool ng)]) (v := .agg #[iV 5, iV 0, iV 0, iV 0, iV 0, nilS, .pointer (some ⟨b222, 0, none⟩), .bool ng]) (bld3 rfl e222 e224) (by kernel_rfl)) ⟨F222, b222, rfl, a222, c222, d222, p222⟩
  refine DagStepsS.cons (StabS.chg (U := none1) (grF_ext) (fun p y hp hw h => by
     rcases MsL_or h with ⟨rfl, h0⟩ | h0
     ·exact absurd rfl hp
     exact h0.elim)) (LocS.const) (fun S s' w' hi hN X U V H => Or.inl ⟨Guarded_none rfl, ?_⟩) ?_
  ·replace X := X.mono (M' := none1) (fun y _ h => by
     obtain ⟨j, hj, h⟩ := h
     rcases MsL_or h with ⟨rfl, h0⟩ | h0
     ·exact Bool.noConfusion (hj.symm.trans hi)
     exact h0.elim)
   have e217 : s' 217 = (.pointer (some ⟨pb, 0, none⟩)) := (H 0 rfl).2 217 (fun _ _ v _ => v = (.pointer (some ⟨pb, 0, none⟩))) rfl (by rw [hFs1]; rfl)
   obtain ⟨F225, b225, e225, a225, c225, d225, p225⟩ := (show ((fun _ _ => trB (fun q => F q ∨ q = bx) z y ng) : FctS) S s' (s' 225) w' from (H 8 rfl).2 225 (fun _ _ => trB (fun q => F q ∨ q = bx) z y ng) rfl (by rw [hFs1]; rfl))
   exact DoesT_enter (r_callF (vs := [(P6 pb 0), (.agg #[(I6 5), (I6 0), (I6 0), (I6 0), (I6 0), (.slice none 0 0), (P6 b225 0), (.bool ng)])]) Try.func42 nm42 bd42 (lst2 e217 e225)) (look_add (hlen ▸ G1.st) (Ext.trans X0 X) hz a225 c225 d225 p225 (by omega) |>.mono (fun u w h => ⟨h.1, h.2.mono (fun q _ h => .inl ⟨rfl, h⟩)⟩))
  exact DagStepsS.nil
 ·intro s' wd1 w1 X0 X1 U H
  replace X1 := X1.mono (M' := (fun y => (fun q => q = pb ∨ (Value.slice va n vc).ownBlock = some q) y)) (fun y _ h => by
    obtain ⟨j, hj, h⟩ := h
    rcases MsL_or h with ⟨rfl, h0⟩ | h0
    ·exact h0
    exact h0.elim)
  obtain ⟨e226, F226, v226, g226⟩ := (show ((fun _ _ => grF (fun q => F q ∨ q = bx) wx base pb (.slice va n vc) (code ++ [.look y ng]) t d n) : FctS) (allS [true, true, true, true, true, true, true, true, true, true]) s' (s' 226) w1 from H 9 rfl 226 (fun _ _ => grF (fun q => F q ∨ q = bx) wx base pb (.slice va n vc) (code ++ [.look y ng]) t d n) rfl (by rw [hFs1]; rfl))
  obtain ⟨j1, rfl⟩ := Fits.out (σ := s') (l := []) trivial
  clear U H
  replace Bx := Chg.keep X1 (fun h => G1.st.kept (.inr rfl) h) (X0.keep Bx)
  replace E := (E.ext X0).step X1 (fun q hq h => trivial)
  refine WpL_nil (inB_normal ?_)
  refine fin_none Try.results41 ?_
  exact ⟨F226, v226, (GrX.start hP).frz Nx.ext (b := bx) (by rw [Nx.eq]; exact Nat.le_refl _) (by omega) |>.comp g226⟩
end Go.Proofs
namespace Go.Proofs
open Go Go.Eng
set_option maxRecDepth 100000
theorem get_midI {α : Type} {l r : List α} {x : α} {n : Nat} (h : l.length = n) : (l ++ x :: r)[n]? = some x := by
 rw [List.getElem?_append_right (by omega), h, Nat.sub_self]; rfl
theorem set_midI {α : Type} {l r : List α} {x y : α} {n : Nat} (h : l.length = n) : (l ++ x :: r).set n y = l ++ y :: r := by
 rw [List.set_append_right _ _ (by omega), h, Nat.sub_self]; rfl
def patW (g : Nat → Ins) (C : List Ins) (l : List Nat) : List Ins := l.foldl (fun c k => c.set k (g k)) C
theorem patW_len (g : Nat → Ins) : ∀ (l : List Nat) (C : List Ins), (patW g C l).length = C.length
  | [], _ => rfl
  | k :: l, C => by
    have := patW_len g l (C.set k (g k))
    simpa [patW] using this
theorem patW_get (g : Nat → Ins) {k : Nat} : ∀ (l : List Nat) (C : List Ins), k ∉ l → (patW g C l)[k]? = C[k]?
  | [], _, _ => rfl
  | q :: l, C, h => by
    have h1 : k ≠ q := fun e => h (by simp [e])
    have := patW_get g (k := k) l (C.set q (g q)) (fun hk => h (List.mem_cons_of_mem _ hk))
    rw [show patW g C (q :: l) = patW g (C.set q (g q)) l from rfl, this, List.getElem?_set, if_neg (fun e => h1 e.symm)]
theorem patW_snoc (g : Nat → Ins) (C : List Ins) (l : List Nat) (k : Nat) : patW g C (l ++ [k]) = (patW g C l).set k (g k) := by
 unfold patW
 rw [List.foldl_append]; rfl
theorem patW_take {g : Nat → Ins} {C : List Ins} {l : List Nat} {i k : Nat} (h : l[i]? = some k) : patW g C (l.take (i + 1)) = (patW g C (l.take i)).set k (g k) := by
 rw [List.take_add_one, h, Option.toList_some, patW_snoc]
/-- A list of numbers that rise, all below a bound. -/
def Rise : Nat → List Nat → Prop
  | _, [] => True
  | a, k :: l => a ≤ k ∧ Rise (k + 1) l
theorem Rise.mono {a b : Nat} (h : a ≤ b) : ∀ {l : List Nat}, Rise b l → Rise a l
  | [], _ => trivial
  | _ :: _, hr => ⟨Nat.le_trans h hr.1, hr.2⟩
theorem Rise.ge : ∀ {l : List Nat} {a : Nat}, Rise a l → ∀ k ∈ l, a ≤ k
  | _ :: l, a, h, k, hk => by
    rcases List.mem_cons.1 hk with rfl | hk
    · exact h.1
    · have := Rise.ge h.2 k hk; have := h.1; omega
theorem Rise.fresh : ∀ {l : List Nat} {a i k : Nat}, Rise a l → l[i]? = some k → k ∉ l.take i
  | [], _, _, _, _, h => by simp at h
  | q :: l, a, 0, k, _, _ => by simp
  | q :: l, a, i + 1, k, hr, h => by
    have h1 := Rise.fresh hr.2 (i := i) (k := k) (by simpa using h)
    have h2 := Rise.ge hr.2 k (List.mem_of_getElem? (by simpa using h))
    rw [List.take_succ_cons, List.mem_cons]
    rintro (h3 | h3)
    · omega
    · exact h1 h3
def itI (f : Frg) : Nat → Nat → Nat → Nat → List Nat
  | 0, _, _, _ => []
  | n + 1, a, d, t => a :: itI f n (a + 2 + (f (a + 2) (d + 1) t).1.length + 1) d (f (a + 2) (d + 1) t).2
theorem itF_step (e : Nat) (f : Frg) : ∀ (j a d t : Nat), itF e f (j + 1) a d t = ((itF e f j a d t).1 ++ (.split (a + (itF e f j a d t).1.length + 1) e :: .ent (d + 1) :: ((f (a + (itF e f j a d t).1.length + 2) (d + 1) (itF e f j a d t).2).1 ++ [.chk (d + 1)])), (f (a + (itF e f j a d t).1.length + 2) (d + 1) (itF e f j a d t).2).2)
  | 0, a, d, t => by simp [itF]
  | j + 1, a, d, t => by
    have ih := itF_step e f j (a + 2 + (f (a + 2) (d + 1) t).1.length + 1) d (f (a + 2) (d + 1) t).2
    rw [itF, ih]
    simp only [itF, List.cons_append, List.append_assoc, List.length_cons, List.length_append]
    have e1 : ∀ q : Nat, a + 2 + (f (a + 2) (d + 1) t).1.length + 1 + q = a + ((f (a + 2) (d + 1) t).1.length + (q + 1) + 1 + 1) := fun q => by omega
    simp only [e1]
theorem itI_step (f : Frg) : ∀ (j a d t : Nat), itI f (j + 1) a d t = itI f j a d t ++ [a + (itF 0 f j a d t).1.length]
  | 0, a, d, t => by simp [itI, itF]
  | j + 1, a, d, t => by
    have ih := itI_step f j (a + 2 + (f (a + 2) (d + 1) t).1.length + 1) d (f (a + 2) (d + 1) t).2
    rw [itI, ih]
    simp only [itI, itF, List.cons_append, List.length_cons, List.length_append]
    congr 3
    omega
theorem itI_len (f : Frg) : ∀ (n a d t : Nat), (itI f n a d t).length = n
  | 0, _, _, _ => rfl
  | n + 1, a, d, t => by simp [itI, itI_len f n]
theorem itI_rise (f : Frg) : ∀ (n a d t : Nat), Rise a (itI f n a d t)
  | 0, _, _, _ => trivial
  | n + 1, a, d, t => ⟨Nat.le_refl _, (itI_rise f n _ d _).mono (by omega)⟩
theorem itI_get (f : Frg) : ∀ (n a d t : Nat) (pre : List Ins), pre.length = a → ∀ k ∈ itI f n a d t, (pre ++ (itF 0 f n a d t).1)[k]? = some (.split (k + 1) 0)
  | 0, _, _, _, _, _, k, h => by simp [itI] at h
  | n + 1, a, d, t, pre, hp, k, h => by
    simp only [itI, List.mem_cons] at h
    simp only [itF]
    rcases h with rfl | h
    · rw [List.getElem?_append_right (by omega), hp, Nat.sub_self]; rfl
    · have ih := itI_get f n _ d _ (pre ++ (.split (a + 1) 0 :: .ent (d + 1) :: ((f (a + 2) (d + 1) t).1 ++ [.chk (d + 1)]))) (by simp [hp]; omega) k h
      rw [← ih]
      simp
theorem itI_pat (f : Frg) (e : Nat) : ∀ (n a d t : Nat) (pre : List Ins), pre.length = a → patW (fun k => .split (k + 1) e) (pre ++ (itF 0 f n a d t).1) (itI f n a d t) = pre ++ (itF e f n a d t).1
  | 0, _, _, _, _, _ => by simp [itI, itF, patW]
  | n + 1, a, d, t, pre, hp => by
    simp only [itI, itF]
    have ih := itI_pat f e n _ d (f (a + 2) (d + 1) t).2 (pre ++ (.split (a + 1) e :: .ent (d + 1) :: ((f (a + 2) (d + 1) t).1 ++ [.chk (d + 1)]))) (show _ = a + 2 + (f (a + 2) (d + 1) t).1.length + 1 by simp [hp]; omega)
    have h1 : ∀ (x : Ins) (l : List Ins), (pre ++ x :: l).set a (.split (a + 1) e) = pre ++ .split (a + 1) e :: l := fun x l => by rw [List.set_append_right _ _ (by omega), hp, Nat.sub_self]; rfl
    show patW _ ((pre ++ _).set a _) _ = _
    rw [h1]
    simpa using ih
def altP (e : Nat) : List Frg → Frg
  | [], _, _, t => ([], t)
  | f :: fs, a, d, t => let r := f (a + 1) d t; let n := a + 1 + r.1.length + 1; let s := altP e fs n d r.2; (.split (a + 1) n :: (r.1 ++ .jump e :: s.1), s.2)
def altI : List Frg → Nat → Nat → Nat → List Nat
  | [], _, _, _ => []
  | f :: fs, a, d, t => (a + 1 + (f (a + 1) d t).1.length) :: altI fs (a + 1 + (f (a + 1) d t).1.length + 1) d (f (a + 1) d t).2
theorem altP_len (e e' : Nat) : ∀ (L : List Frg) (a d t : Nat), (altP e L a d t).1.length = (altP e' L a d t).1.length ∧ (altP e L a d t).2 = (altP e' L a d t).2
  | [], _, _, _ => ⟨rfl, rfl⟩
  | f :: fs, a, d, t => by
    obtain ⟨h1, h2⟩ := altP_len e e' fs (a + 1 + (f (a + 1) d t).1.length + 1) d (f (a + 1) d t).2
    simp only [altP, List.length_cons, List.length_append]
    exact ⟨by rw [h1], h2⟩
theorem altF_last (e : Nat) (g : Frg) : ∀ (L : List Frg) (a d t : Nat), altF e (L ++ [g]) a d t = ((altP e L a d t).1 ++ (g (a + (altP e L a d t).1.length) d (altP e L a d t).2).1, (g (a + (altP e L a d t).1.length) d (altP e L a d t).2).2)
  | [], a, d, t => by simp [altF, altP]
  | [f], a, d, t => by
    simp only [List.cons_append, List.nil_append, altF, altP, List.length_cons, List.length_append, List.length_nil, List.append_assoc]
    have e1 : a + 1 + (f (a + 1) d t).1.length + 1 = a + ((f (a + 1) d t).1.length + (0 + 1) + 1) := by omega
    simp only [e1]
  | f :: f2 :: L, a, d, t => by
    have ih := altF_last e g (f2 :: L) (a + 1 + (f (a + 1) d t).1.length + 1) d (f (a + 1) d t).2
    rw [List.cons_append] at ih
    rw [List.cons_append, List.cons_append, altF, ih, show altP e (f :: f2 :: L) a d t = (.split (a + 1) (a + 1 + (f (a + 1) d t).1.length + 1) :: ((f (a + 1) d t).1 ++ .jump e :: (altP e (f2 :: L) (a + 1 + (f (a + 1) d t).1.length + 1) d (f (a + 1) d t).2).1), (altP e (f2 :: L) (a + 1 + (f (a + 1) d t).1.length + 1) d (f (a + 1) d t).2).2) from rfl]
    obtain ⟨s, hs⟩ : ∃ s, altP e (f2 :: L) (a + 1 + (f (a + 1) d t).1.length + 1) d (f (a + 1) d t).2 = s := ⟨_, rfl⟩
    rw [hs]
    dsimp only
    simp only [List.cons_append, List.append_assoc, List.length_cons, List.length_append]
    rw [show a + 1 + (f (a + 1) d t).1.length + 1 + s.1.length = a + ((f (a + 1) d t).1.length + (s.1.length + 1) + 1) by omega]
theorem altP_step (e : Nat) (f : Frg) : ∀ (L : List Frg) (a d t : Nat), altP e (L ++ [f]) a d t = ((altP e L a d t).1 ++ (.split (a + (altP e L a d t).1.length + 1) (a + (altP e L a d t).1.length + 1 + (f (a + (altP e L a d t).1.length + 1) d (altP e L a d t).2).1.length + 1) :: ((f (a + (altP e L a d t).1.length + 1) d (altP e L a d t).2).1 ++ [.jump e])), (f (a + (altP e L a d t).1.length + 1) d (altP e L a d t).2).2)
  | [], a, d, t => by simp [altP]
  | g :: L, a, d, t => by
    have ih := altP_step e f L (a + 1 + (g (a + 1) d t).1.length + 1) d (g (a + 1) d t).2
    rw [List.cons_append, altP, ih, altP]
    simp only [List.cons_append, List.append_assoc, List.length_cons, List.length_append]
    have e1 : ∀ q : Nat, a + 1 + (g (a + 1) d t).1.length + 1 + q = a + ((g (a + 1) d t).1.length + (q + 1) + 1) := fun q => by omega
    simp only [e1]
theorem altI_step (f : Frg) : ∀ (L : List Frg) (a d t : Nat), altI (L ++ [f]) a d t = altI L a d t ++ [a + (altP 0 L a d t).1.length + 1 + (f (a + (altP 0 L a d t).1.length + 1) d (altP 0 L a d t).2).1.length]
  | [], a, d, t => by simp [altI, altP]
  | g :: L, a, d, t => by
    have ih := altI_step f L (a + 1 + (g (a + 1) d t).1.length + 1) d (g (a + 1) d t).2
    rw [List.cons_append, altI, ih, altI]
    simp only [altP, List.cons_append, List.length_cons, List.length_append]
    have e1 : ∀ q : Nat, a + 1 + (g (a + 1) d t).1.length + 1 + q = a + ((g (a + 1) d t).1.length + (q + 1) + 1) := fun q => by omega
    simp only [e1]
theorem altI_len : ∀ (L : List Frg) (a d t : Nat), (altI L a d t).length = L.length
  | [], _, _, _ => rfl
  | f :: L, a, d, t => by simp [altI, altI_len L]
theorem altI_rise : ∀ (L : List Frg) (a d t : Nat), Rise a (altI L a d t)
  | [], _, _, _ => trivial
  | f :: L, a, d, t => ⟨by omega, (altI_rise L _ d _).mono (by omega)⟩
theorem altI_get : ∀ (L : List Frg) (a d t : Nat) (pre post : List Ins), pre.length = a → ∀ k ∈ altI L a d t, (pre ++ ((altP 0 L a d t).1 ++ post))[k]? = some (.jump 0)
  | [], _, _, _, _, _, _, k, h => by simp [altI] at h
  | f :: L, a, d, t, pre, post, hp, k, h => by
    simp only [altI, List.mem_cons] at h
    simp only [altP]
    rcases h with rfl | h
    · have h9 := get_midI (l := pre ++ (.split (a + 1) (a + 1 + (f (a + 1) d t).1.length + 1) :: (f (a + 1) d t).1)) (r := (altP 0 L (a + 1 + (f (a + 1) d t).1.length + 1) d (f (a + 1) d t).2).1 ++ post) (x := .jump 0) (n := a + 1 + (f (a + 1) d t).1.length) (by simp [hp]; omega)
      rw [← h9]
      simp
    · have ih := altI_get L _ d _ (pre ++ (.split (a + 1) (a + 1 + (f (a + 1) d t).1.length + 1) :: ((f (a + 1) d t).1 ++ [.jump 0]))) post (by simp [hp]; omega) k h
      rw [← ih]
      simp
theorem altI_pat (e : Nat) : ∀ (L : List Frg) (a d t : Nat) (pre post : List Ins), pre.length = a → patW (fun _ => .jump e) (pre ++ ((altP 0 L a d t).1 ++ post)) (altI L a d t) = pre ++ ((altP e L a d t).1 ++ post)
  | [], _, _, _, _, _, _ => by simp [altI, altP, patW]
  | f :: L, a, d, t, pre, post, hp => by
    have ih := altI_pat e L _ d (f (a + 1) d t).2 (pre ++ (.split (a + 1) (a + 1 + (f (a + 1) d t).1.length + 1) :: ((f (a + 1) d t).1 ++ [.jump e]))) post (show _ = a + 1 + (f (a + 1) d t).1.length + 1 by simp [hp]; omega)
    have h9 := set_midI (l := pre ++ (.split (a + 1) (a + 1 + (f (a + 1) d t).1.length + 1) :: (f (a + 1) d t).1)) (r := (altP 0 L (a + 1 + (f (a + 1) d t).1.length + 1) d (f (a + 1) d t).2).1 ++ post) (x := .jump 0) (y := .jump e) (n := a + 1 + (f (a + 1) d t).1.length) (by simp [hp]; omega)
    simp only [altI, altP]
    show patW _ ((pre ++ _).set _ _) _ = _
    simp only [List.append_assoc, List.cons_append, List.nil_append] at h9 ih ⊢
    rw [h9, ih]
end Go.Proofs
