/- Contracts and plain lemmas, part 5. -/
import Derived.Tactics
import Derived.Deep.Quiet
import Derived.Laws.AppendOwn
import Derived.KernelRfl
import Derived.Laws.Entries
import Derived.Laws.Build
import Derived.Below
import Derived.RowKit3
import Derived.StillTail
import Derived.Sort.Grow
import Derived.Deep.Draws
import Derived.Test.YtncmfkibflogkaaChecked
import Derived.Laws.StructEq
import Derived.MapKept
import Derived.Laws.BytesArg
import Derived.Laws.CopyRow
import Derived.DeepKeys3
import Derived.Shelf.Sort.Plain
import Derived.Shelf.Slices.CompactI
import Derived.Test.YtncmfkibflogkaaProg
import Derived.Test.YtncmfkibflogkaaNe4
namespace Go.Eng
open Go
abbrev FctS := (Nat → Bool) → Env → Fct
def HoldsS (ds : List Nat) (Fs : List FctS) (S : Nat → Bool) (j : Nat) (σ : Env) (w : World) : Prop := ∀ d F, ds[j]? = some d → Fs[j]? = some F → F S σ (σ d) w
def insS (S : Nat → Bool) (i : Nat) : Nat → Bool := fun j => bif Nat.beq j i then true else S j
theorem insS_self (S : Nat → Bool) (i : Nat) : insS S i i = true := by simp [insS]
theorem insS_ne {S : Nat → Bool} {i j : Nat} (h : j ≠ i) : insS S i j = S j := by
  have : Nat.beq j i = false := by cases hb : Nat.beq j i; rfl; exact absurd (Nat.eq_of_beq_eq_true hb) h
  simp [insS, this]
/-- The blocks that the operations change. -/
def MsL : List (Nat × (Nat → Prop)) → Nat → Nat → Prop
  | [], _, _ => False
  | p :: r, j, y => (j = p.1 ∧ p.2 y) ∨ MsL r j y
theorem MsL_or {c : Nat} {M : Nat → Prop} {r : List (Nat × (Nat → Prop))} {j y : Nat} (h : MsL ((c, M) :: r) j y) : (j = c ∧ M y) ∨ MsL r j y := h
def dagOneS (N i : Nat) (hd : List Bool) (o : Oper) (d : Nat) (ws : List Nat) : Bool :=
  (match o.dst with | some d' => Nat.beq d' d && Nat.blt d N | none => Nat.ble N d) && (o.after.all fun e => !Region.binds .any e || (Nat.blt e.on i && hd.getD e.on false)) && (ws.all fun j => o.after.any fun e => Region.binds .any e && Nat.beq e.on j) && guardB hd o
def dagSB (N : Nat) (hd : List Bool) : Nat → List Oper → List Nat → List (List Nat) → List Bool → Bool
  | _, [], [], [], [] => true
  | i, o :: l, d :: ds, ws :: wss, h :: hs => (bif h then dagOneS N i hd o d ws else Nat.ble N d) && dagSB N hd (i + 1) l ds wss hs
  | _, _, _, _, _ => false
theorem dagSB_get {N : Nat} {hd : List Bool} : ∀ {i : Nat} {l : List Oper} {ds : List Nat} {wss : List (List Nat)} {hs : List Bool}, dagSB N hd i l ds wss hs = true → ∀ {j : Nat} {o : Oper}, l[j]? = some o → ∃ d ws h, ds[j]? = some d ∧ wss[j]? = some ws ∧ hs[j]? = some h ∧ (bif h then dagOneS N (i + j) hd o d ws else Nat.ble N d) = true
  | _, [], _, _, _, _, j, o, h => by simp at h
  | i, x :: l, [], _, _, hB, _, _, _ => by simp [dagSB] at hB
  | i, x :: l, d :: ds, [], _, hB, _, _, _ => by simp [dagSB] at hB
  | i, x :: l, d :: ds, ws :: wss, [], hB, _, _, _ => by simp [dagSB] at hB
  | i, x :: l, d :: ds, ws :: wss, h0 :: hs, hB, j, o, h => by
    simp only [dagSB, Bool.and_eq_true] at hB
    cases j with
    | zero => simp at h; subst h; exact ⟨d, ws, h0, rfl, rfl, rfl, hB.1⟩
    | succ j =>
      simp at h
      obtain ⟨d', ws', h', h1, h2, h3, h4⟩ := dagSB_get hB.2 h
      exact ⟨d', ws', h', by simpa using h1, by simpa using h2, by simpa using h3, by rw [show i + (j + 1) = i + 1 + j from by omega]; exact h4⟩
theorem dagSB_len {N : Nat} {hd : List Bool} : ∀ {i : Nat} {l : List Oper} {ds : List Nat} {wss : List (List Nat)} {hs : List Bool}, dagSB N hd i l ds wss hs = true → ds.length = l.length ∧ hs.length = l.length ∧ wss.length = l.length
  | _, [], [], [], [], _ => ⟨rfl, rfl, rfl⟩
  | _, [], [], [], _ :: _, hB => by simp [dagSB] at hB
  | _, [], [], _ :: _, _, hB => by simp [dagSB] at hB
  | _, [], _ :: _, _, _, hB => by simp [dagSB] at hB
  | i, x :: l, [], _, _, hB => by simp [dagSB] at hB
  | i, x :: l, d :: ds, [], _, hB => by simp [dagSB] at hB
  | i, x :: l, d :: ds, ws :: wss, [], hB => by simp [dagSB] at hB
  | i, x :: l, d :: ds, ws :: wss, h0 :: hs, hB => by
    simp only [dagSB, Bool.and_eq_true] at hB
    have := dagSB_len hB.2
    simp [this.1, this.2.1, this.2.2]
def DagStepS (P : Program) (N : Nat) (ds : List Nat) (Fs : List FctS) (σ : Env) (w : World) (Ms : Nat → Nat → Prop) (cl : List (List Nat)) (i : Nat) (o : Oper) (ws : List Nat) (F : FctS) : Prop :=
  ∀ (S : Nat → Bool) σ' w', S i = false → (∀ j, (cl.getD j []).contains i = true → S j = false) → Chg (fun y => ∃ j, S j = true ∧ Ms j y) w w' → (∀ t, ds.contains t = false → σ' t = σ t) → (∀ j, ws.contains j = true → S j = true ∧ HoldsS ds Fs S j σ' w') →
    (Guarded ds o σ' ∧ DoesT (Ms i) P N o (fun v w => F (insS S i) σ' (Go.Eng.valOf o v) w) σ' w') ∨ (Unmet ds o σ' ∧ F (insS S i) σ' undef w')
/-- A fact lasts while other operations are done. -/
def StabS (Ms : Nat → Nat → Prop) (i : Nat) (ws : List Nat) (F : FctS) : Prop := ∀ p, p ≠ i → ws.contains p = false → ∀ S σ v w w', S i = true → S p = false → Chg (Ms p) w w' → F S σ v w → F (insS S p) σ v w'
/-- A fact speaks of the values of the operations that it waits for alone. -/
def LocS (ds : List Nat) (ws : List Nat) (F : FctS) : Prop := ∀ S (σ1 σ2 : Env), (∀ j d, ws.contains j = true → ds[j]? = some d → σ2 d = σ1 d) → ∀ v w, F S σ1 v w → F S σ2 v w
inductive DagStepsS (P : Program) (N : Nat) (ds : List Nat) (Fs : List FctS) (σ : Env) (w : World) (Ms : Nat → Nat → Prop) (cl : List (List Nat)) : Nat → List Oper → List (List Nat) → List Bool → List FctS → Prop where
  | nil {i : Nat} : DagStepsS P N ds Fs σ w Ms cl i [] [] [] []
  | cons {i : Nat} {o : Oper} {ws : List Nat} {F : FctS} {l : List Oper} {wss : List (List Nat)} {hs : List Bool} {Gs : List FctS} (s : StabS Ms i ws F) (lc : LocS ds ws F) (h : DagStepS P N ds Fs σ w Ms cl i o ws F) (t : DagStepsS P N ds Fs σ w Ms cl (i + 1) l wss hs Gs) : DagStepsS P N ds Fs σ w Ms cl i (o :: l) (ws :: wss) (true :: hs) (F :: Gs)
  | tail {i : Nat} {o : Oper} {ws : List Nat} {F : FctS} {l : List Oper} {wss : List (List Nat)} {hs : List Bool} {Gs : List FctS} (t : DagStepsS P N ds Fs σ w Ms cl (i + 1) l wss hs Gs) : DagStepsS P N ds Fs σ w Ms cl i (o :: l) (ws :: wss) (false :: hs) (F :: Gs)
theorem DagStepsS.get {P : Program} {N : Nat} {ds : List Nat} {Fs : List FctS} {σ : Env} {w : World} {Ms : Nat → Nat → Prop} {cl : List (List Nat)} : ∀ {i : Nat} {l : List Oper} {wss : List (List Nat)} {hs : List Bool} {Gs : List FctS}, DagStepsS P N ds Fs σ w Ms cl i l wss hs Gs → ∀ {j : Nat} {o : Oper}, l[j]? = some o → hs[j]? = some true → ∃ ws F, wss[j]? = some ws ∧ Gs[j]? = some F ∧ StabS Ms (i + j) ws F ∧ LocS ds ws F ∧ DagStepS P N ds Fs σ w Ms cl (i + j) o ws F
  | _, _, _, _, _, .nil, j, o, h, _ => by simp at h
  | i, _, _, _, _, .cons s lc h t, 0, o, ho, _ => by
    simp at ho; subst ho
    exact ⟨_, _, rfl, rfl, s, lc, h⟩
  | _, _, _, _, _, .tail t, 0, o, h, ht => by simp at ht
  | i, _, _, _, _, .cons s lc h t, j + 1, o, ho, ht => by
    obtain ⟨ws, F, h1, h2, h3, h5, h4⟩ := t.get (j := j) (by simpa using ho) (by simpa using ht)
    exact ⟨ws, F, by simpa using h1, by simpa using h2, by rw [show i + (j + 1) = i + 1 + j from by omega]; exact h3, h5, by rw [show i + (j + 1) = i + 1 + j from by omega]; exact h4⟩
  | i, _, _, _, _, .tail t, j + 1, o, ho, ht => by
    obtain ⟨ws, F, h1, h2, h3, h5, h4⟩ := t.get (j := j) (by simpa using ho) (by simpa using ht)
    exact ⟨ws, F, by simpa using h1, by simpa using h2, by rw [show i + (j + 1) = i + 1 + j from by omega]; exact h3, h5, by rw [show i + (j + 1) = i + 1 + j from by omega]; exact h4⟩
def allS (hd : List Bool) : Nat → Bool := fun j => hd.getD j false
theorem Wp_dagS {P : Program} {N : Nat} {Q : Post} {σ : Env} {w : World} {id : Nat} {l : List Oper} (Ms : Nat → Nat → Prop) (hd : List Bool) (ts : List Nat) (ds : List Nat) (wss cl : List (List Nat)) (Fs : List FctS) {Gs : List FctS} (hG : Fs = Gs) (hC : closB wss cl = true) (hm : P.follows .mixedOrders = true) (hB : dagSB N hd 0 l ds wss hd = true) (hn : nodupB ds = true)
    (hT : (tailPB l hd ts && permB l.toArray ts hd.toArray) = true) (hN : Nat.beq (leftH hd (List.replicate l.length false) + ts.length) l.length = true)
    (steps : ∀ w1, Ext w w1 → DagStepsS P N ds Fs σ w1 Ms cl 0 l cl hd Gs)
    (k : ∀ σ' w1 w', Ext w w1 → Chg (fun y => ∃ j, hd.getD j false = true ∧ Ms j y) w1 w' → (∀ t, ds.contains t = false → σ' t = σ t) → (∀ j, hd[j]? = some true → HoldsS ds Fs (allS hd) j σ' w') → WpL P N l.toArray (Q .normal) Q (ts.filterMap fun k => l[k]?) σ' w') : Wp P N (.region id l.toArray true) Q σ w := by
  intro a ha he
  have eQ : lift N (thn (Q .normal) Q) = lift N Q := by funext e a w; cases e <;> rfl
  refine wp_region_any hm ?_
  obtain ⟨w1, hw1⟩ : ∃ w1 : World, w1 = { w with drawn := w.drawn + 1 } := ⟨_, rfl⟩
  have hE1 : Ext w w1 := by rw [hw1]; exact drew_ext w
  rw [← hw1]
  have hst := steps w1 hE1
  rw [← hG] at hst
  rw [Bool.and_eq_true] at hT
  obtain ⟨hT1, hT2⟩ := hT
  obtain ⟨hlen, hlen2, hlen3⟩ := dagSB_len hB
  let Lf : Array Bool → Nat → Bool := fun listed j => listed.getD j false
  have key : ∀ (m : Nat) (listed : Array Bool) (a : Act) (w' : World), leftH hd listed.toList = m → listed.size = l.length → (∀ (t : Nat), hd[t]? = some false → listed.toList[t]? = some false) → (∀ (j : Nat) oj, l[j]? = some oj → listed.getD j false = true → ∀ e ∈ oj.after, Region.binds .any e = true → listed.getD e.on false = true) → Ok N a → Chg (fun y => ∃ j, listed.getD j false = true ∧ Ms j y) w1 w' → (∀ t, ds.contains t = false → env a t = σ t) → (∀ j, hd[j]? = some true → listed.getD j false = true → HoldsS ds Fs (Lf listed) j (env a) w') →
      wpAny P .any l.toArray (lift N Q) (m + ts.length) listed a w' := by
    intro m
    induction m with
    | zero =>
      intro listed a w' hc0 hsz htl hcd ha hx hu hh
      have hl : listed = hd.toArray := by
        apply Array.ext'
        exact leftH_zero (by simp; omega) hc0 htl
      have hLf : Lf listed = allS hd := by
        funext j
        show listed.getD j false = hd.getD j false
        rw [hl]; simp [List.getD_eq_getElem?_getD]
      rw [Nat.zero_add]
      have h1 := k (env a) w1 w' hE1 (hx.mono fun y _ h => by
        obtain ⟨j, h1, h2⟩ := h
        have : allS hd j = true := by rw [← hLf]; exact h1
        exact ⟨j, this, h2⟩) hu (fun j hj => by rw [← hLf]; exact hh j hj (getD_arr (by rw [hl]; exact hj))) a ha rfl
      rw [eQ] at h1
      exact wpAny_of_perm ts listed a w' (by rw [hl]; exact hT2) (by simpa using h1)
    | succ m ih =>
      intro listed a w' hcm hsz htl hcd ha hx hu hh
      obtain ⟨i0, hi0, hi1⟩ := leftH_pos (hd := hd) (listed := listed.toList) (by omega)
      rw [show m + 1 + ts.length = (m + ts.length) + 1 by omega]
      refine ⟨fun hr => ?_, fun i hi => ?_⟩
      · exfalso
        have hall : ∀ i : Nat, hd[i]? = some true → listed.getD i true = true := by
          intro i
          induction i using Nat.strongRecOn with
          | _ i ihi =>
            intro hi
            cases hv : listed.getD i true with
            | true => rfl
            | false =>
              exfalso
              obtain ⟨o, ho⟩ := get_of_lt (l := l) (i := i) (by have := lt_of_get hi; omega)
              obtain ⟨d, ws, h, _, _, h2, h3⟩ := dagSB_get hB ho
              rw [hi] at h2
              cases h2
              simp only [cond_true, dagOneS, Bool.and_eq_true, Nat.zero_add] at h3
              have : i ∈ Region.ready .any l.toArray listed := by
                refine mem_ready.2 ⟨hv, o, by simpa using ho, fun e he hb => ?_⟩
                have h4 := h3.1.1.2
                simp only [Array.all_eq_true_iff_forall_mem, Bool.or_eq_true, Bool.not_eq_true', Bool.and_eq_true] at h4
                have h6 := (h4 e he).resolve_left (by simp [hb])
                have hlt : e.on < i := by simpa [Nat.blt_eq] using h6.1
                have h7 := h6.2
                have hj0 : e.on < hd.length := by have := lt_of_get hi; omega
                have h8 : hd[e.on]? = some true := by
                  rw [List.getD_eq_getElem?_getD, List.getElem?_eq_getElem hj0, Option.getD_some] at h7
                  rw [List.getElem?_eq_getElem hj0, h7]
                have h9 := ihi e.on hlt h8
                have hj : e.on < listed.size := by omega
                simpa only [Array.getD_eq_getD_getElem?, Array.getElem?_eq_getElem hj, Option.getD_some] using h9
              rw [hr] at this
              cases this
        have := hall i0 hi0
        rw [getD_arr hi1] at this
        cases this
      · obtain ⟨h1, o, h2, h3⟩ := mem_ready.1 hi
        have ho : l[i]? = some o := by simpa using h2
        have hil : i < l.length := lt_of_get ho
        have hih : hd[i]? = some true := by
          obtain ⟨b, hb⟩ := get_of_lt (l := hd) (i := i) (by omega)
          cases b with
          | true => exact hb
          | false =>
            exfalso
            have h4 := List.all_eq_true.1 hT1 i (List.mem_range.2 hil)
            rw [List.getD_eq_getElem?_getD, hb, Option.getD_some, Bool.false_or, Bool.and_eq_true, Bool.or_eq_true] at h4
            have edge : ∀ u, edgeB l i u = true → listed.getD u false = true := fun u hu' => by
              unfold edgeB at hu'
              rw [ho] at hu'
              simp only [Array.any_eq_true', Bool.and_eq_true] at hu'
              obtain ⟨e, he, hb1, hb2⟩ := hu'
              have := Nat.eq_of_beq_eq_true hb2
              rw [← this]
              exact h3 e he hb1
            rcases h4.2 with h5 | h5
            · have h6 := List.all_eq_true.1 h5 i0 (List.mem_range.2 (by have := lt_of_get hi0; omega))
              rw [List.getD_eq_getElem?_getD, hi0, Option.getD_some, Bool.not_true, Bool.false_or] at h6
              have := edge i0 h6
              rw [getD_arr hi1] at this
              cases this
            · obtain ⟨p, _, h6⟩ := List.any_eq_true.1 h5
              rw [Bool.and_eq_true, Bool.not_eq_true'] at h6
              have h7 := edge p h6.2
              have hp : hd[p]? = some false := by
                have h8 := h6.1
                rw [List.getD_eq_getElem?_getD] at h8
                cases h9 : hd[p]? with
                | none => rw [h9] at h8; cases h8
                | some b => rw [h9, Option.getD_some] at h8; rw [h8]
              rw [getD_arr (htl p hp)] at h7
              cases h7
        obtain ⟨d, ws, h, hd', hws, hhs, h4⟩ := dagSB_get hB ho
        rw [hih] at hhs
        cases hhs
        obtain ⟨ci, F, hci, hF, hstab, hloc, hstep⟩ := hst.get ho hih
        rw [Nat.zero_add] at hstab hstep
        simp only [cond_true, dagOneS, Bool.and_eq_true, List.all_eq_true, Array.any_eq_true', Nat.zero_add] at h4
        obtain ⟨⟨⟨hdst, _⟩, hwait⟩, hgB⟩ := h4
        have hlisted : ∀ j, listed.getD j false = true → hd[j]? = some true := fun j hj => by
          obtain ⟨b, hb⟩ := get_of_lt (l := hd) (i := j) (by
            rcases Nat.lt_or_ge j listed.size with h9 | h9
            · omega
            · simp [Array.getD_eq_getD_getElem?, Array.getElem?_eq_none h9] at hj)
          cases b with
          | true => exact hb
          | false => rw [getD_arr (htl j hb)] at hj; cases hj
        have hcl : ∀ j, listed.getD j false = true → ∀ c, (cl.getD j []).contains c = true → listed.getD c false = true := by
          intro j
          induction j using Nat.strongRecOn with
          | _ j ihj =>
            intro hlj c hc
            have hjh := hlisted j hlj
            obtain ⟨oc, hoc⟩ := get_of_lt (l := l) (i := j) (by have := lt_of_get hjh; omega)
            obtain ⟨dc, wsc, hb, _, hwsc, hhb, h5⟩ := dagSB_get hB hoc
            rw [hjh] at hhb
            cases hhb
            simp only [cond_true, dagOneS, Bool.and_eq_true, List.all_eq_true, Array.any_eq_true', Array.all_eq_true_iff_forall_mem, Bool.or_eq_true, Bool.not_eq_true', Nat.zero_add] at h5
            have hdir : ∀ e' ∈ wsc, listed.getD e' false = true ∧ e' < j := by
              intro e' he'
              obtain ⟨e, he, hb1, hb2⟩ := h5.1.2 e' he'
              have hei : e.on = e' := Nat.eq_of_beq_eq_true hb2
              have h6 := hcd j oc hoc hlj e he hb1
              have h7 := (h5.1.1.2 e he).resolve_left (by simp [hb1])
              rw [hei] at h6 h7
              exact ⟨h6, by simpa [Nat.blt_eq] using h7.1⟩
            rcases closB_get hC hwsc hc with h6 | ⟨e', he', h6⟩
            · exact (hdir c h6).1
            · exact ihj e' (hdir e' he').2 (hdir e' he').1 c h6
        have hclo : ∀ j, ci.contains j = true → listed.getD j false = true := by
          intro j hj
          have hj' : (cl.getD i []).contains j = true := by rw [List.getD_eq_getElem?_getD, hci, Option.getD_some]; exact hj
          have hdir : ∀ e' ∈ ws, listed.getD e' false = true := by
            intro e' he'
            obtain ⟨e, he, hb1, hb2⟩ := hwait e' he'
            have : e.on = e' := Nat.eq_of_beq_eq_true hb2
            exact this ▸ h3 e he hb1
          rcases closB_get hC hws hj' with h6 | ⟨e', he', h6⟩
          · exact hdir j h6
          · exact hcl e' (hdir e' he') j h6
        have hSi : Lf listed i = false := getD_both h1
        have hSn : ∀ j, (cl.getD j []).contains i = true → Lf listed j = false := by
          intro j hj
          cases hlj : Lf listed j with
          | false => rfl
          | true =>
            exfalso
            have := hcl j hlj i hj
            rw [getD_both h1] at this; cases this
        have hH : ∀ j, ci.contains j = true → Lf listed j = true ∧ HoldsS ds Fs (Lf listed) j (env a) w' := fun j hj => ⟨hclo j hj, hh j (hlisted j (hclo j hj)) (hclo j hj)⟩
        have hil2 : i < listed.size := by omega
        have hLs : Lf (listed.setIfInBounds i true) = insS (Lf listed) i := by
          funext j
          by_cases hij : j = i
          · subst hij
            rw [insS_self]
            show (listed.setIfInBounds j true).getD j false = true
            simp [Array.getD_eq_getD_getElem?, hil2]
          · rw [insS_ne hij]
            exact getD_set_ne _ (Ne.symm hij)
        have hstep2 : ∀ w2, Chg (Ms i) w' w2 → Chg (fun y => ∃ j, (listed.setIfInBounds i true).getD j false = true ∧ Ms j y) w1 w2 := by
          intro w2 hx2
          have hg : (listed.setIfInBounds i true).getD i false = true := by simp [Array.getD_eq_getD_getElem?, hil2]
          refine Chg.step (hx.mono fun y _ h => ?_) hx2 (fun y _ h => ⟨i, hg, h⟩)
          obtain ⟨j, h5, h6⟩ := h
          by_cases hij : j = i
          · exact ⟨i, hg, hij ▸ h6⟩
          · exact ⟨j, by rw [getD_set_ne _ (Ne.symm hij)]; exact h5, h6⟩
        have cont : ∀ v w2, Chg (Ms i) w' w2 → F (insS (Lf listed) i) (env a) (Go.Eng.valOf o v) w2 → wpAny P .any l.toArray (lift N Q) (m + ts.length) (listed.setIfInBounds i true) (a.put o.dst v) w2 := by
          intro v w2 hx2 hv
          have henv : (∀ t, t ≠ d → env (a.put o.dst v) t = env a t) ∧ env (a.put o.dst v) d = Go.Eng.valOf o v := by
            cases hod : o.dst with
            | none =>
              rw [hod] at hdst
              have hNd : N ≤ d := Nat.le_of_ble_eq_true hdst
              refine ⟨fun t _ => rfl, ?_⟩
              simp only [Go.Eng.valOf, hod]
              show a.tmps.getD d undef = undef
              have : a.tmps.size ≤ d := by rw [ha.size]; exact hNd
              simp [Array.getElem?_eq_none this]
            | some d' =>
              rw [hod] at hdst
              simp only [Bool.and_eq_true] at hdst
              have hd1 : d' = d := Nat.eq_of_beq_eq_true hdst.1
              have hd2 : d < N := by simpa [Nat.blt_eq] using hdst.2
              subst hd1
              rw [env_put ha hd2 v]
              refine ⟨fun t ht => ?_, ?_⟩
              · have : Nat.beq t d' = false := by cases hb : Nat.beq t d'; rfl; exact absurd (Nat.eq_of_beq_eq_true hb) ht
                simp [upd, this]
              · simp [upd, Go.Eng.valOf, hod]
          have hlf : listed.toList[i]? = some false := by
            simp only [Array.getD_eq_getD_getElem?, Array.getElem?_eq_getElem hil2, Option.getD_some] at h1
            rw [Array.getElem?_toList, Array.getElem?_eq_getElem hil2, h1]
          refine ih _ _ _ ?_ (by simpa using hsz) (fun t ht => ?_) (fun j oj hoj hlj e he hb => ?_) (ha.put _ _) (hstep2 w2 hx2) ?_ ?_
          · rw [Array.toList_setIfInBounds]
            have := leftH_set hih hlf
            omega
          · rw [Array.toList_setIfInBounds, List.getElem?_set]
            have hne : i ≠ t := fun e => by rw [← e, hih] at ht; cases ht
            rw [if_neg hne]
            exact htl t ht
          · refine getD_set_true ?_
            by_cases hij : j = i
            · subst hij
              rw [ho] at hoj; cases hoj
              exact h3 e he hb
            · rw [getD_set_ne _ (Ne.symm hij)] at hlj
              exact hcd j oj hoj hlj e he hb
          · intro t ht
            rw [henv.1 t (fun h => by
              subst h
              have := List.mem_of_getElem? hd'
              simp [this] at ht), hu t ht]
          · intro j hjh hj d2 F2 hd2 hF2
            rw [hLs]
            by_cases hij : j = i
            · subst hij
              rw [hd'] at hd2; cases hd2
              rw [hF] at hF2; cases hF2
              rw [henv.2]
              refine hloc _ (env a) _ (fun j' d2 hj' hd2 => henv.1 d2 fun he => ?_) _ _ hv
              have := nodupB_get hn (he ▸ hd2) hd'
              subst this
              have := hclo j' hj'
              rw [getD_both h1] at this
              cases this
            · have hne : d2 ≠ d := by
                intro h
                subst h
                exact hij (nodupB_get hn hd2 hd')
              rw [henv.1 d2 hne]
              rw [getD_set_ne _ (Ne.symm hij)] at hj
              have h6 := hh j hjh hj d2 F2 hd2 hF2
              obtain ⟨oj, hoj⟩ := get_of_lt (l := l) (i := j) (by have := lt_of_get hjh; omega)
              obtain ⟨cj, Fj, hcj, hFj, hsj, hlj, _⟩ := hst.get hoj hjh
              rw [hF2] at hFj; cases hFj
              rw [Nat.zero_add] at hsj
              have hgc : cl.getD j [] = cj := by rw [List.getD_eq_getElem?_getD, hcj, Option.getD_some]
              have hcji : cj.contains i = false := by
                cases hcji : cj.contains i with
                | false => rfl
                | true =>
                  exfalso
                  have := hSn j (by rw [hgc]; exact hcji)
                  have hj' : Lf listed j = true := hj
                  rw [hj'] at this; cases this
              refine hlj _ (env a) _ (fun j' d3 hj' hd3 => henv.1 d3 fun he => ?_) _ _ (hsj i (Ne.symm hij) hcji (Lf listed) (env a) _ _ _ hj hSi hx2 h6)
              have h8 := nodupB_get hn (he ▸ hd3) hd'
              subst h8
              rw [hcji] at hj'
              cases hj'
        have gd : ∀ j b, o.guard = some (j, b) → ∀ dj, ds[j]? = some dj → ((∃ oj, l[j]? = some oj ∧ oj.dst = some dj) ∧ dj < N) ∨ (N ≤ dj ∧ ∃ oj, l[j]? = some oj ∧ oj.dst = none) := fun j b hgd dj hdj => by
          obtain ⟨oj, hoj⟩ := get_of_lt (l := l) (i := j) (by have := lt_of_get hdj; omega)
          obtain ⟨dj', _, hj, hdj', _, h5, h6⟩ := dagSB_get hB hoj
          rw [hdj] at hdj'
          cases hdj'
          unfold guardB at hgB
          rw [hgd] at hgB
          simp only at hgB
          have h7 : hj = true := by rw [List.getD_eq_getElem?_getD, h5, Option.getD_some] at hgB; exact hgB
          rw [h7] at h6
          simp only [cond_true, Bool.and_eq_true, dagOneS] at h6
          have hdst2 := h6.1.1.1
          split at hdst2
          · rename_i d2 hq
            rw [Bool.and_eq_true] at hdst2
            exact .inl ⟨⟨oj, hoj, by rw [hq, Nat.eq_of_beq_eq_true hdst2.1]⟩, by simpa [Nat.blt_eq] using hdst2.2⟩
          · rename_i hq
            exact .inr ⟨Nat.le_of_ble_eq_true hdst2, oj, hoj, hq⟩
        rcases hstep (Lf listed) (env a) w' hSi hSn hx hu hH with ⟨hg, hdo⟩ | ⟨⟨j, b, dj, hgd, hdj, hvj⟩, hund⟩
        · have hw : Region.wanted o (yielded l.toArray a.tmps) = true := by
            cases hgd : o.guard with
            | none => simp [Region.wanted, hgd]
            | some p =>
              obtain ⟨j, b⟩ := p
              obtain ⟨dj, hdj, hvj⟩ := hg j b hgd
              rcases gd j b hgd dj hdj with ⟨hdst2, hdN2⟩ | ⟨hge, _⟩
              · have h6 : a.tmps[dj]? = some (Value.bool b) := by
                  have h2 : a.tmps.getD dj undef = .bool b := hvj
                  have hlt : dj < a.tmps.size := by rw [ha.size]; exact hdN2
                  rw [Array.getElem?_eq_getElem hlt]
                  simpa [hlt] using h2
                obtain ⟨oj, hoj, hdst2⟩ := hdst2
                simp [Region.wanted, hgd, yielded, hoj, hdst2, h6]
              · exfalso
                have h2 : a.tmps.getD dj undef = .bool b := hvj
                have : a.tmps.size ≤ dj := by rw [ha.size]; exact hge
                simp [Array.getElem?_eq_none this, undef] at h2
          unfold wpOp
          simp only [h2, hw, if_true]
          exact Or.inl (hdo a ha rfl _ _ cont)
        · have hw : Region.wanted o (yielded l.toArray a.tmps) = false := by
            rcases gd j b hgd dj hdj with ⟨hdst2, hdN2⟩ | ⟨_, oj, hoj, hq⟩
            · have hlt : dj < a.tmps.size := by rw [ha.size]; exact hdN2
              have h6 : a.tmps[dj]? = some (env a dj) := by
                rw [Array.getElem?_eq_getElem hlt]
                simp [env, hlt]
              obtain ⟨oj, hoj, hdst2⟩ := hdst2
              rcases hvj with hvj | hvj
              · rw [hvj] at h6
                cases b <;> simp [Region.wanted, hgd, yielded, hoj, hdst2, h6]
              · rw [hvj] at h6
                simp [Region.wanted, hgd, yielded, hoj, hdst2, h6, undef]
            · simp [Region.wanted, hgd, yielded, hoj, hq]
          unfold wpOp
          simp only [h2, hw, Bool.false_eq_true, if_false]
          exact cont undef w' (Chg.refl _ _) (by
            have : Go.Eng.valOf o undef = undef := by unfold Go.Eng.valOf; split <;> rfl
            rw [this]; exact hund)
  have h1 := key (leftH hd (Array.replicate l.toArray.size false).toList) (Array.replicate l.toArray.size false) a w1 rfl (by simp) (fun t ht => by have h9 := lt_of_get ht; rw [Array.toList_replicate, List.getElem?_replicate, if_pos (by rw [List.size_toArray]; omega)]) (fun j oj _ hl => (by rw [getD_replicate_false] at hl; cases hl)) ha (Chg.refl _ _) (fun t _ => by rw [he]) (fun j _ hj => by rw [getD_replicate_false] at hj; cases hj)
  have e3 : leftH hd (Array.replicate l.toArray.size false).toList + ts.length = l.toArray.size := by have h9 := Nat.eq_of_beq_eq_true hN; simpa using h9
  rw [e3] at h1
  exact h1
section
variable {Ms : Nat → Nat → Prop} {i : Nat} {ws ds : List Nat}
theorem StabS.eq {u : Value} : StabS Ms i ws (fun _ _ v _ => v = u) := fun _ _ _ _ _ _ _ _ _ _ _ h => h
theorem StabS.chg {F : Fct} {U : Nat → Prop} (hF : ∀ v w w', Chg U w w' → F v w → F v w') (hM : ∀ p y, p ≠ i → ws.contains p = false → Ms p y → U y) : StabS Ms i ws (fun _ _ => F) :=
  fun p h1 h2 _ _ v w w' _ _ x h => hF v w w' (x.mono fun y _ hy => hM p y h1 h2 hy) h
theorem StabS.till {F : Fct} {U : Nat → Prop} {c : Nat} (hF : ∀ v w w', Chg U w w' → F v w → F v w') (hM : ∀ p y, p ≠ i → ws.contains p = false → p ≠ c → Ms p y → U y) : StabS Ms i ws (fun S _ v w => S c = false → F v w) :=
  fun p h1 h2 S _ v w w' _ _ x h hc => by
    have hpc : p ≠ c := fun e => by subst e; rw [insS_self] at hc; cases hc
    rw [insS_ne (Ne.symm hpc)] at hc
    exact hF v w w' (x.mono fun y _ hy => hM p y h1 h2 hpc hy) (h hc)
theorem LocS.const {G : (Nat → Bool) → Fct} : LocS ds ws (fun S _ => G S) := fun _ _ _ _ _ _ h => h
end
section
variable {M : Nat → Prop} {P : Program} {N : Nat} {o : Oper} {R : Fct} {σ : Env} {w : World} {dst : Option Tmp} {ty : TypeId} {pos : String} {af : Array Edge} {g : Option (Nat × Bool)} {t : TypeId}
theorem DoesT_pure {v : Value} (hr : (execOp (ev σ) o).run P w = .ok (.value v) w) (h : R v w) : DoesT M P N o R σ w := DoesT_val hr (Chg.refl _ _) h
theorem DoesT_weakT {R R' : Fct} (h : DoesT M P N o R σ w) (hr : ∀ v w, R v w → R' (Go.Eng.valOf o v) w) : DoesT M P N o (fun v w => R' (Go.Eng.valOf o v) w) σ w := fun a ha he Q K hK => h a ha he Q K fun v w2 hx2 h2 => hK v w2 hx2 (hr v w2 h2)
theorem DoesT_callE {f : FuncId} {args : Array Value} (hr : (execOp (ev σ) o).run P w = .ok (.enter f args) w) (hc : Ret P f args w fun v w' => R v w' ∧ Ext w w') : DoesT M P N o R σ w :=
  DoesT_enter hr (hc.mono fun _ _ h => ⟨h.1, Ext.chg h.2⟩)
theorem DoesT_alloc {d hs : Nat} {z : Value} {c : Array Value} (hz : Zer P t z) (hc : z.cells = c) (hh : hs ≤ w.heap.size) : DoesT M P N ⟨some d, .alloc t, ty, pos, af, g⟩ (alF t c hs) σ w := by
  subst hc
  have hn := New.mk' w z.cells t
  exact DoesT_val (v := .pointer (some ⟨w.heap.size, 0, none⟩)) (by simp [execOp, Instr.alloc, hz.run, newVar, newRow]) (Ext.chg hn.ext) ⟨_, rfl, hn.blk, hh⟩
end
def tupF (st : Nat) (rest : List Value) (G : Fct) : FctS := fun S _ v w => ∃ u, v = .tuple (u :: rest).toArray ∧ (S st = false → G u w)
def putF (sa n : Nat) (T : TypeId) (G : Fct) : FctS := fun _ s _ w => ∃ b vs, s sa = .pointer (some ⟨b, 0, none⟩) ∧ n ≤ b ∧ Blk w b vs T ∧ G (.agg vs) w
section
variable {Ms : Nat → Nat → Prop} {i : Nat} {ws ds : List Nat}
theorem StabS.tup {st : Nat} {rest : List Value} {G : Fct} {U : Nat → Prop} (hG : ∀ v w w', Chg U w w' → G v w → G v w') (hM : ∀ p y, p ≠ i → ws.contains p = false → p ≠ st → Ms p y → U y) : StabS Ms i ws (tupF st rest G) :=
  fun p h1 h2 S _ v w w' _ _ x h => by
    obtain ⟨u, h3, h4⟩ := h
    refine ⟨u, h3, fun hc => ?_⟩
    have hpc : p ≠ st := fun e => by subst e; rw [insS_self] at hc; cases hc
    rw [insS_ne (Ne.symm hpc)] at hc
    exact hG u w w' (x.mono fun y _ hy => hM p y h1 h2 hpc hy) (h4 hc)
theorem StabS.put {sa n : Nat} {T : TypeId} {G : Fct} (hG : ∀ v w w', Ext w w' → G v w → G v w') (hM : ∀ p y, p ≠ i → ws.contains p = false → Ms p y → False) : StabS Ms i ws (putF sa n T G) :=
  fun p h1 h2 _ _ v w w' _ _ x h => by
    obtain ⟨b, vs, h3, h4, h5, h6⟩ := h
    have hx : Ext w w' := x.mono fun y _ hy => (hM p y h1 h2 hy).elim
    exact ⟨b, vs, h3, h4, Ext.keep hx h5, hG _ _ _ hx h6⟩
theorem LocS.put {sa n j : Nat} {T : TypeId} {G : Fct} (hj : ws.contains j = true) (hd : ds[j]? = some sa) : LocS ds ws (putF sa n T G) :=
  fun _ σ1 σ2 hs v w h => by
    obtain ⟨b, vs, h3, h4⟩ := h
    exact ⟨b, vs, by rw [hs j sa hj hd]; exact h3, h4⟩
end
theorem DoesT_bind {M : Nat → Prop} {P : Program} {N : Nat} {σ : Env} {w : World} {ty : TypeId} {pos : String} {af : Array Edge} {g : Option (Nat × Bool)} {T : TypeId} {x y : Operand} {b n : Nat} {u : Value} {c : Array Value} {G : Fct} (hx : ev σ x = .pointer (some ⟨b, 0, none⟩)) (hy : ev σ y = u) (hG : G u w) (hB : Blk w b c T) (hc : c.size = n) (hs : Siz P T n)
    (form : ∀ u w, G u w → ∃ vs : Array Value, u = .agg vs ∧ vs.size = n ∧ ∀ v ∈ vs.toList, v.oneCell' = true) (keep : ∀ u w w', Blk w b c T → Chg (fun y => y = b) w w' → G u w → G u w') (hM : M b) :
    DoesT M P N ⟨none, .store T x y, ty, pos, af, g⟩ (fun _ w' => ∃ vs, Blk w' b vs T ∧ G (.agg vs) w') σ w := by
  obtain ⟨vs, rfl, h1, h2⟩ := form u w hG
  refine DoesT_storeAgg hx hy h2 hs h1 hB (by omega) hM fun w' h => ⟨vs, ?_, keep _ _ _ hB h.chg hG⟩
  have h3 := h.blk
  rw [List.take_zero, List.nil_append, Nat.zero_add, List.drop_of_length_le (by simp; omega), List.append_nil] at h3
  simpa using h3
end Go.Eng
namespace Go.Proofs
open Go Go.Eng Go.Sort
set_option maxRecDepth 100000
--BEGIN
def expG {α : Type} (c most : Nat) (stp : α → Nat → Option α) (acc : α → Int) (a0 : α) (base : Nat) : Fct := fun v w => ∃ D ea ec na nc vs, v = .agg #[.int .i64 D.start, .slice ea D.accept.length ec, .slice na D.next.length nc] ∧ ExpOf c most stp acc a0 D ∧ OutSt w base (.slice ea D.accept.length ec) (.slice na D.next.length nc) vs D.accept D.next
theorem expG_ext {α : Type} {c most : Nat} {stp : α → Nat → Option α} {acc : α → Int} {a0 : α} {base : Nat} : ∀ v w w', Ext w w' → expG c most stp acc a0 base v w → expG c most stp acc a0 base v w' := by
  rintro v w w' x ⟨D, ea, ec, na, nc, vs, h3, h2, h4⟩
  exact ⟨D, ea, ec, na, nc, vs, h3, h2, h4.ext x⟩
theorem expG_form {α : Type} {c most : Nat} {stp : α → Nat → Option α} {acc : α → Int} {a0 : α} {base : Nat} : ∀ u w, expG c most stp acc a0 base u w → ∃ vs : Array Value, u = .agg vs ∧ vs.size = 3 ∧ ∀ v ∈ vs.toList, v.oneCell' = true := by
  rintro u w ⟨D, ea, ec, na, nc, vs, h3, h2, h4⟩
  exact ⟨_, h3, rfl, by simp [Value.oneCell']⟩
/-- The blocks of an automaton hold numbers or rows, so none of them is a block of another type. -/
theorem OutSt.typ {w : World} {base b T : Nat} {E N : Value} {vs : List Value} {acc : List Int} {rows : List (List Int)} {c : Array Value} (h : OutSt w base E N vs acc rows) (hB : Blk w b c T) (h1 : T ≠ TDI) (h2 : T ≠ TDIs) : ¬ OutB E N vs b := by
  have own : ∀ {e n : Nat} {v : Value} {xs : List Value}, w.ownsRow base e 1 v n xs → v.ownBlock = some b → T = e := by
    intro e n v xs ho hv
    rcases ho.2 with ⟨rfl, _⟩ | ⟨g, cap, cur, rfl, _, hg, _⟩
    · cases hv
    · have hv' : g = b := Option.some.inj hv
      subst hv'
      unfold Blk at hB
      have hg' : w.heap[g]? = some (.cells cur e (0, 0)) := hg
      rw [hg'] at hB
      simp at hB
      exact hB.2.symm
  rintro (h3 | h3 | ⟨i, v, h3, h4⟩)
  · exact h1 (own h.e h3)
  · exact h2 (own h.n.o h3)
  · obtain ⟨p, hp⟩ := get_of_lt (l := rows.map iRow) (i := i) (by have := lt_of_get h3; have := h.n.len; omega)
    exact h1 (own (h.n.inn i v p h3 hp) h4)
theorem DfaOwn.low {b0 base : Nat} {D : Dfa} {r : Value} {w : World} (h : DfaOwn base D r w) (hb : b0 ≤ base) : DfaOwn b0 D r w := by
  obtain ⟨ea, ec, na, nc, vs, h1, h2⟩ := h
  exact ⟨ea, ec, na, nc, vs, h1, h2.low hb⟩
theorem OutSt.dfa {w : World} {base : Nat} {ea na : Option Addr} {ec nc : Nat} {vs : List Value} {D : Dfa} (h : OutSt w base (.slice ea D.accept.length ec) (.slice na D.next.length nc) vs D.accept D.next) : DfaAt w D [.int .i64 D.start, .slice ea D.accept.length ec, .slice na D.next.length nc] :=
  ⟨ea, ec, na, nc, rfl, own_intsD h.e rfl, h.intss⟩
theorem expG_keep {α : Type} {c most : Nat} {stp : α → Nat → Option α} {acc : α → Int} {a0 : α} {base b : Nat} {cs : Array Value} : ∀ u w w', Blk w b cs 25 → Chg (fun y => y = b) w w' → expG c most stp acc a0 base u w → expG c most stp acc a0 base u w' := by
  rintro u w w' hB x ⟨D, ea, ec, na, nc, vs, h3, h2, h4⟩
  exact ⟨D, ea, ec, na, nc, vs, h3, h2, h4.chg x (fun y hy h => OutSt.typ h4 hB (by decide) (by decide) (by have h' : y = b := h; rw [← h']; exact hy))⟩
end Go.Proofs
namespace Go.Proofs
open Go Go.Eng Go.Sort
set_option maxRecDepth 100000
set_option maxHeartbeats 400000 in
theorem eqrows_c (w0 : World) (v1 v2 : Value) (l1 l2 : List (List Int)) (h1 : IntssAt w0 v1 l1) (h2 : IntssAt w0 v2 l2) (n1 n2 : Nat) (a1 a2 : Option Addr) (c1 c2 : Nat) (e1 : v1 = .slice a1 n1 c1) (e2 : v2 = .slice a2 n2 c2) (hn1 : l1.length = n1) (hn2 : l2.length = n2) (hb : n1 ≤ 20000) :
    Ret Try.prog 62 #[v1, v2, .func (.func 28) #[] #[]] w0 fun v w => v = .bool (decide (l1 = l2)) ∧ Ext w0 w := by
  subst e1; subst e2
  refine Ret_of Try.func62 rfl Try.ntmps62 (Nat.le_of_ble_eq_true rfl) ?_
  have E : Chg none1 w0 w0 := Chg.refl _ _
  refine Wp_seq_region ?_
  refine WpL_val rfl rfl (by decide) (r_assign (v := (.bool false)) rfl) ?_
  refine WpL_nil ?_
  refine Wp_seq ?_
  refine Wp_seq_region ?_
  refine WpL_val rfl rfl (by decide) (r_move (v := (.slice a1 n1 c1)) rfl) ?_
  refine WpL_val rfl rfl (by decide) (r_lenSlice (ad := a1) (n := n1) (cap := c1) Try.underlying23 rfl) ?_
  refine WpL_val rfl rfl (by decide) (r_move (v := (.slice a2 n2 c2)) rfl) ?_
  refine WpL_val rfl rfl (by decide) (r_lenSlice (ad := a2) (n := n2) (cap := c2) Try.underlying23 rfl) ?_
  refine WpL_val rfl rfl (by decide) (r_neq (k := .i64) (a := ((n1 : Nat) : Int)) (b := ((n2 : Nat) : Int)) rfl rfl) ?_
  refine WpL_nil ?_
  refine Wp_cond (b := decide ((((n1 : Nat) : Int) : Int) ≠ ((n2 : Nat) : Int))) rfl (fun hl => ?_) (fun hl => ?_)
  · have khl := hl
    replace hl := of_decide_eq_true hl
    refine Wp_seq_region ?_
    refine WpL_val rfl rfl (by decide) (r_assign (v := (.bool false)) rfl) ?_
    refine WpL_nil ?_
    refine Wp_ret ?_
    refine thn_ret ?_
    refine fin_tmp Try.results62 (v := (.bool false)) rfl ?_
    exact ⟨bool_eq (by symm; rw [decide_eq_false_iff_not]; intro h; rw [h] at hn1; omega), E⟩
  · have khl := hl
    replace hl := of_decide_eq_false hl
    refine Wp_skip ?_
    refine thn_normal ?_
    refine Wp_seq ?_
    refine Wp_seq_region ?_
    refine WpL_val rfl rfl (by decide) (r_move (v := (.slice a1 n1 c1)) rfl) ?_
    refine WpL_val rfl rfl (by decide) (r_lenSlice (ad := a1) (n := n1) (cap := c1) Try.underlying23 rfl) ?_
    refine WpL_val rfl rfl (by decide) (r_move (v := (.int .i64 0)) rfl) ?_
    refine WpL_nil ?_
    refine Wp_block ?_
    refine Wp_loop (fun nn_ σ W2 => ∃ (k : Nat), (∃ jj_, σ = upds jj_ [(1, (.slice a2 n2 c2)), (2, (.func (.func 28) #[] #[])), (15, (.slice a1 n1 c1)), (16, (.int .i64 ((n1 : Nat) : Int))), (17, (.int .i64 ((k : Nat) : Int)))]) ∧ Chg none1 w0 W2 ∧ (k ≤ n1) ∧ (∀ (i : Nat), i < k → l1[i]? = l2[i]?) ∧ nn_ = n1 - k) (n := n1 - 0) ?_ ?_
    · exact ⟨0, Fits.out ⟨rfl, rfl, rfl, rfl, rfl, trivial⟩, E, Nat.zero_le _, (fun i h => absurd h (Nat.not_lt_zero _)), rfl⟩
    · clear E
      rintro _ _ W2 ⟨k, ⟨j2, rfl⟩, E, hk, heq, rfl⟩
      refine Wp_seq_region ?_
      refine WpL_val rfl rfl (by decide) (r_lss (k := .i64) (a := ((k : Nat) : Int)) (b := ((n1 : Nat) : Int)) rfl rfl) ?_
      refine WpL_nil ?_
      refine Wp_seq ?_
      refine Wp_cond (b := decide ((((k : Nat) : Int) : Int) < ((n1 : Nat) : Int))) rfl (fun hlt => ?_) (fun hlt => ?_)
      · have khlt := hlt
        replace hlt := of_decide_eq_true hlt
        obtain ⟨p, hp⟩ := get_of_lt (l := l1) (i := k) (by omega)
        obtain ⟨q, hq⟩ := get_of_lt (l := l2) (i := k) (by omega)
        obtain ⟨b1, o1, rfl, hc1⟩ := intss_cells h1 (by omega)
        obtain ⟨b2, o2, rfl, hc2⟩ := intss_cells h2 (by omega)
        obtain ⟨ra1, rc1, hx1, hi1⟩ := hc1 k p hp
        obtain ⟨ra2, rc2, hx2, hi2⟩ := hc2 k q hq
        refine Wp_skip ?_
        refine thn_normal ?_
        refine Wp_seq ?_
        refine Wp_block ?_
        refine Wp_seq_region ?_
        refine WpL_val rfl rfl (by decide) (r_move (v := (.int .i64 ((k : Nat) : Int))) rfl) ?_
        refine WpL_val rfl rfl (by decide) (r_indexSlice (b := b1) (o := o1) (len := n1) (cap := c1) (i := k) (o' := o1 + k) rfl rfl rfl Try.underlying23 siz22 (by omega) (by omega)) ?_
        refine WpL_val rfl rfl (by decide) (r_load (v := (.slice ra1 p.length rc1)) rfl flat22 (E.cell (fun f => f) hx1)) ?_
        refine WpL_val rfl rfl (by decide) (r_assign (v := (.int .i64 ((k : Nat) : Int))) rfl) ?_
        refine WpL_val rfl rfl (by decide) (r_assign (v := (.slice ra1 p.length rc1)) rfl) ?_
        refine WpL_nil ?_
        refine Wp_seq_region ?_
        refine WpL_val rfl rfl (by decide) (r_move (v := (.slice (some ⟨b2, o2, none⟩) n2 c2)) rfl) ?_
        refine WpL_val rfl rfl (by decide) (r_move (v := (.int .i64 ((k : Nat) : Int))) rfl) ?_
        refine WpL_val rfl rfl (by decide) (r_indexSlice (b := b2) (o := o2) (len := n2) (cap := c2) (i := k) (o' := o2 + k) rfl rfl rfl Try.underlying23 siz22 (by omega) (by omega)) ?_
        refine WpL_val rfl rfl (by decide) (r_load (v := (.slice ra2 q.length rc2)) rfl flat22 (E.cell (fun f => f) hx2)) ?_
        refine WpL_val rfl rfl (by decide) (r_assign (v := (.slice ra2 q.length rc2)) rfl) ?_
        refine WpL_nil ?_
        refine Wp_seq_region ?_
        refine WpL_val rfl rfl (by decide) (r_move (v := (.func (.func 28) #[] #[])) rfl) ?_
        refine WpL_val rfl rfl (by decide) (r_move (v := (.slice ra1 p.length rc1)) rfl) ?_
        refine WpL_val rfl rfl (by decide) (r_move (v := (.slice ra2 q.length rc2)) rfl) ?_
        refine WpL_enter rfl rfl (by decide) (r_callV (first := #[]) (cap := #[]) (vs := [(.slice ra1 p.length rc1), (.slice ra2 q.length rc2)]) (ws := #[(.slice ra1 p.length rc1), (.slice ra2 q.length rc2)]) rfl Try.func28 nm28 bd28 rfl rfl) (eql2_c _ _ _ p q (hi1.ext E) (hi2.ext E)) ?_
        rintro _ w9 ⟨rfl, X9⟩
        replace E := E.ext X9
        refine WpL_val rfl rfl (by decide) (r_not (b := decide (p = q)) rfl) ?_
        refine WpL_nil ?_
        refine Wp_cond (b := !(decide (p = q))) rfl (fun hpq => ?_) (fun hpq => ?_)
        · have khpq := hpq
          replace hpq := by simpa using hpq
          refine Wp_seq_region ?_
          refine WpL_val rfl rfl (by decide) (r_assign (v := (.bool false)) rfl) ?_
          refine WpL_nil ?_
          refine Wp_ret ?_
          refine inB_ret ?_
          refine thn_ret ?_
          refine thn_ret ?_
          refine inB_ret ?_
          refine thn_ret ?_
          refine fin_tmp Try.results62 (v := (.bool false)) rfl ?_
          exact ⟨bool_eq (by symm; rw [decide_eq_false_iff_not]; intro h; rw [h] at hp; rw [hp] at hq; exact hpq (Option.some.inj hq)), E⟩
        · have khpq := hpq
          replace hpq := by simpa using hpq
          refine Wp_skip ?_
          refine inB_normal ?_
          refine thn_normal ?_
          refine Wp_region ?_
          refine WpL_val rfl rfl (by decide) (r_add (k := .i64) (a := ((k : Nat) : Int)) (b := 1) (c := ((k : Nat) : Int) + 1) rfl rfl (wI64 (by omega))) ?_
          refine WpL_val rfl rfl (by decide) (r_move (v := (.int .i64 (((k : Nat) : Int) + 1))) rfl) ?_
          refine WpL_nil ?_
          refine thn_normal ?_
          exact ⟨n1 - (k + 1), by omega, k + 1, Fits.out ⟨rfl, rfl, rfl, rfl, rfl, trivial⟩, E, (by omega), (fun i hi => by rcases Nat.lt_or_ge i k with h | h; exact heq i h; (have h' : i = k := by omega); subst h'; (have hpq' : p = q := by simpa using hpq); rw [hp, hq, hpq']), rfl⟩
      · have khlt := hlt
        replace hlt := of_decide_eq_false hlt
        refine Wp_exit ?_
        refine thn_exit ?_
        refine thn_exit ?_
        refine inB_here ?_
        refine thn_normal ?_
        refine Wp_seq_region ?_
        refine WpL_val rfl rfl (by decide) (r_assign (v := (.bool true)) rfl) ?_
        refine WpL_nil ?_
        refine Wp_ret ?_
        refine fin_tmp Try.results62 (v := (.bool true)) rfl ?_
        exact ⟨bool_eq (by symm; rw [decide_eq_true_iff]; apply List.ext_getElem?; intro i; rcases Nat.lt_or_ge i n1 with h | h; exact heq i (by omega); rw [List.getElem?_eq_none (by omega), List.getElem?_eq_none (by omega)]), E⟩
theorem dfa_eq_iff (a b : Dfa) : a = b ↔ a.start = b.start ∧ a.accept = b.accept ∧ a.next = b.next := by
  cases a; cases b; simp
instance : DecidableEq Dfa := fun a b => decidable_of_iff _ (dfa_eq_iff a b).symm
set_option maxHeartbeats 400000 in
theorem equalD_c (w0 : World) (a b : Dfa) (av bv : List Value) (ha : DfaAt w0 a av) (hb : DfaAt w0 b bv) (hn : a.next.length ≤ 20000) :
    Ret Try.prog 25 #[.agg av.toArray, .agg bv.toArray] w0 fun v w => v = .bool (decide (a = b)) ∧ Ext w0 w := by
  obtain ⟨aa, ac, na, nc, rfl, hA, hR⟩ := ha
  obtain ⟨aa2, ac2, na2, nc2, rfl, hA2, hR2⟩ := hb
  refine Ret_of Try.func25 rfl Try.ntmps25 (Nat.le_of_ble_eq_true rfl) ?_
  have E : Chg none1 w0 w0 := Chg.refl _ _
  refine Wp_seq_region ?_
  refine s_box (v := (.agg #[(.int .i64 a.start), (.slice aa a.accept.length ac), (.slice na a.next.length nc)])) (c := #[(.int .i64 a.start), (.slice aa a.accept.length ac), (.slice na a.next.length nc)]) (by decide) rfl rfl ?_
  intro bp wp Np
  have Fp := Np.ge E
  replace E := E.ext Np.ext
  have Bp := Np.blk
  refine s_box (v := (.agg #[(.int .i64 b.start), (.slice aa2 b.accept.length ac2), (.slice na2 b.next.length nc2)])) (c := #[(.int .i64 b.start), (.slice aa2 b.accept.length ac2), (.slice na2 b.next.length nc2)]) (by decide) rfl rfl ?_
  intro bq wq Nq
  have Fq := Nq.ge E
  have Oq_bp := Nq.lt Bp
  replace Bp := Nq.keep Bp
  replace E := E.ext Nq.ext
  have Bq := Nq.blk
  refine WpL_val rfl rfl (by decide) (r_assign (v := (.bool false)) rfl) ?_
  refine WpL_nil ?_
  refine Wp_seq_region ?_
  refine WpL_val rfl rfl (by decide) (r_fieldAddr (b := bp) (o := 0) (o' := 0) rfl Try.underlying25 rfl siz3 rfl) ?_
  refine WpL_val rfl rfl (by decide) (r_load (v := (.int .i64 a.start)) rfl flat3 (Bp.cell rfl)) ?_
  refine WpL_val rfl rfl (by decide) (r_fieldAddr (b := bq) (o := 0) (o' := 0) rfl Try.underlying25 rfl siz3 rfl) ?_
  refine WpL_val rfl rfl (by decide) (r_load (v := (.int .i64 b.start)) rfl flat3 (Bq.cell rfl)) ?_
  refine WpL_val rfl rfl (by decide) (r_eql (k := .i64) (a := a.start) (b := b.start) rfl rfl) ?_
  refine WpL_val rfl rfl (by decide) (r_move (v := (.bool (decide ((a.start : Int) = b.start)))) rfl) ?_
  rcases Bool.eq_false_or_eq_true (decide ((a.start : Int) = b.start)) with hs | hs
  · have khs := hs
    replace khs := of_decide_eq_true khs
    refine WpL_guard_yes (oj := _) rfl rfl (by decide) (congrArg Value.bool hs) ?_
    refine WpL_val rfl rfl (by decide) (r_fieldAddr (b := bp) (o := 0) (o' := 1) rfl Try.underlying25 rfl siz22 rfl) ?_
    refine WpL_guard_yes (oj := _) rfl rfl (by decide) (congrArg Value.bool hs) ?_
    refine WpL_val rfl rfl (by decide) (r_load (v := (.slice aa a.accept.length ac)) rfl flat22 (Bp.cell rfl)) ?_
    refine WpL_guard_yes (oj := _) rfl rfl (by decide) (congrArg Value.bool hs) ?_
    refine WpL_val rfl rfl (by decide) (r_fieldAddr (b := bq) (o := 0) (o' := 1) rfl Try.underlying25 rfl siz22 rfl) ?_
    refine WpL_guard_yes (oj := _) rfl rfl (by decide) (congrArg Value.bool hs) ?_
    refine WpL_val rfl rfl (by decide) (r_load (v := (.slice aa2 b.accept.length ac2)) rfl flat22 (Bq.cell rfl)) ?_
    refine WpL_guard_yes (oj := _) rfl rfl (by decide) (congrArg Value.bool hs) ?_
    refine WpL_enter rfl rfl (by decide) (r_callF (vs := [(.slice aa a.accept.length ac), (.slice aa2 b.accept.length ac2)]) Try.func28 nm28 bd28 rfl) (eql2_c _ _ _ a.accept b.accept (hA.ext E) (hA2.ext E)) ?_
    rintro _ w9 ⟨rfl, X9⟩
    replace Bp := X9.keep Bp
    replace Bq := X9.keep Bq
    replace E := E.ext X9
    refine WpL_val rfl rfl (by decide) (r_pick (b := decide ((a.start : Int) = b.start)) (v := (.bool (decide (a.accept = b.accept)))) rfl (by rw [hs]; rfl)) ?_
    refine WpL_val rfl rfl (by decide) (r_move (v := (.bool (decide (a.accept = b.accept)))) rfl) ?_
    rcases Bool.eq_false_or_eq_true (decide (a.accept = b.accept)) with hac | hac
    · have khac := hac
      replace khac := of_decide_eq_true khac
      refine WpL_guard_yes (oj := _) rfl rfl (by decide) (congrArg Value.bool hac) ?_
      refine WpL_val rfl rfl (by decide) (r_fieldAddr (b := bp) (o := 0) (o' := 2) rfl Try.underlying25 rfl siz23 rfl) ?_
      refine WpL_guard_yes (oj := _) rfl rfl (by decide) (congrArg Value.bool hac) ?_
      refine WpL_val rfl rfl (by decide) (r_load (v := (.slice na a.next.length nc)) rfl flat23 (Bp.cell rfl)) ?_
      refine WpL_guard_yes (oj := _) rfl rfl (by decide) (congrArg Value.bool hac) ?_
      refine WpL_val rfl rfl (by decide) (r_fieldAddr (b := bq) (o := 0) (o' := 2) rfl Try.underlying25 rfl siz23 rfl) ?_
      refine WpL_guard_yes (oj := _) rfl rfl (by decide) (congrArg Value.bool hac) ?_
      refine WpL_val rfl rfl (by decide) (r_load (v := (.slice na2 b.next.length nc2)) rfl flat23 (Bq.cell rfl)) ?_
      refine WpL_guard_yes (oj := _) rfl rfl (by decide) (congrArg Value.bool hac) ?_
      refine WpL_enter rfl rfl (by decide) (r_callF (vs := [(.slice na a.next.length nc), (.slice na2 b.next.length nc2), (.func (.func 28) #[] #[])]) Try.func62 nm62 bd62 rfl) (eqrows_c _ _ _ a.next b.next (hR.ext E) (hR2.ext E) _ _ _ _ _ _ rfl rfl rfl rfl hn) ?_
      rintro _ w19 ⟨rfl, X19⟩
      replace Bp := X19.keep Bp
      replace Bq := X19.keep Bq
      replace E := E.ext X19
      refine WpL_val rfl rfl (by decide) (r_pick (b := decide (a.accept = b.accept)) (v := (.bool (decide (a.next = b.next)))) rfl (by rw [hac]; rfl)) ?_
      refine WpL_val rfl rfl (by decide) (r_assign (v := (.bool (decide (a.next = b.next)))) rfl) ?_
      refine WpL_nil ?_
      refine Wp_ret ?_
      refine fin_tmp Try.results25 (v := (.bool (decide (a.next = b.next)))) rfl ?_
      exact ⟨bool_eq (by rw [Bool.eq_iff_iff, decide_eq_true_iff, decide_eq_true_iff, dfa_eq_iff]; exact ⟨fun h => ⟨khs, khac, h⟩, fun h => h.2.2⟩), E⟩
    · have khac := hac
      replace khac := of_decide_eq_false khac
      refine WpL_guard_no (oj := _) rfl rfl (by decide) (v := .bool false) (congrArg Value.bool hac) (Or.inl rfl) ?_
      refine WpL_guard_no (oj := _) rfl rfl (by decide) (v := .bool false) (congrArg Value.bool hac) (Or.inl rfl) ?_
      refine WpL_guard_no (oj := _) rfl rfl (by decide) (v := .bool false) (congrArg Value.bool hac) (Or.inl rfl) ?_
      refine WpL_guard_no (oj := _) rfl rfl (by decide) (v := .bool false) (congrArg Value.bool hac) (Or.inl rfl) ?_
      refine WpL_guard_no (oj := _) rfl rfl (by decide) (v := .bool false) (congrArg Value.bool hac) (Or.inl rfl) ?_
      refine WpL_val rfl rfl (by decide) (r_pick (b := decide (a.accept = b.accept)) (v := (.bool false)) rfl (by rw [hac]; rfl)) ?_
      refine WpL_val rfl rfl (by decide) (r_assign (v := (.bool false)) rfl) ?_
      refine WpL_nil ?_
      refine Wp_ret ?_
      refine fin_tmp Try.results25 (v := (.bool false)) rfl ?_
      exact ⟨bool_eq (by symm; rw [decide_eq_false_iff_not]; intro h; rw [dfa_eq_iff] at h; exact khac h.2.1), E⟩
  · have khs := hs
    replace khs := of_decide_eq_false khs
    refine WpL_guard_no (oj := _) rfl rfl (by decide) (v := .bool false) (congrArg Value.bool hs) (Or.inl rfl) ?_
    refine WpL_guard_no (oj := _) rfl rfl (by decide) (v := .bool false) (congrArg Value.bool hs) (Or.inl rfl) ?_
    refine WpL_guard_no (oj := _) rfl rfl (by decide) (v := .bool false) (congrArg Value.bool hs) (Or.inl rfl) ?_
    refine WpL_guard_no (oj := _) rfl rfl (by decide) (v := .bool false) (congrArg Value.bool hs) (Or.inl rfl) ?_
    refine WpL_guard_no (oj := _) rfl rfl (by decide) (v := .bool false) (congrArg Value.bool hs) (Or.inl rfl) ?_
    refine WpL_val rfl rfl (by decide) (r_pick (b := decide ((a.start : Int) = b.start)) (v := (.bool false)) rfl (by rw [hs]; rfl)) ?_
    refine WpL_val rfl rfl (by decide) (r_move (v := (.bool false)) rfl) ?_
    refine WpL_guard_no (oj := _) rfl rfl (by decide) (v := .bool false) rfl (Or.inl rfl) ?_
    refine WpL_guard_no (oj := _) rfl rfl (by decide) (v := .bool false) rfl (Or.inl rfl) ?_
    refine WpL_guard_no (oj := _) rfl rfl (by decide) (v := .bool false) rfl (Or.inl rfl) ?_
    refine WpL_guard_no (oj := _) rfl rfl (by decide) (v := .bool false) rfl (Or.inl rfl) ?_
    refine WpL_guard_no (oj := _) rfl rfl (by decide) (v := .bool false) rfl (Or.inl rfl) ?_
    refine WpL_val rfl rfl (by decide) (r_pick (b := false) (v := (.bool false)) rfl rfl) ?_
    refine WpL_val rfl rfl (by decide) (r_assign (v := (.bool false)) rfl) ?_
    refine WpL_nil ?_
    refine Wp_ret ?_
    refine fin_tmp Try.results25 (v := (.bool false)) rfl ?_
    exact ⟨bool_eq (by symm; rw [decide_eq_false_iff_not]; intro h; rw [dfa_eq_iff] at h; exact khs h.1), E⟩
theorem emod_nat (x : Int) (t : Nat) (ht : 1 ≤ t) : ∃ y : Nat, x % (t : Int) = ((y : Nat) : Int) ∧ y < t := by
  have h1 := Int.emod_nonneg x (b := (t : Int)) (by omega)
  have h2 := Int.emod_lt_of_pos x (b := (t : Int)) (by omega)
  exact ⟨(x % (t : Int)).toNat, by omega, by omega⟩
theorem word_c (w0 : World) (v : Value) (l : List Int) (t m : Nat) (hl : IntsAt w0 v l) (ht : 1 ≤ t ∧ t ≤ 2000) (hm : m ≤ 4000) :
    Ret Try.prog 35 #[.int .i64 ((t : Nat) : Int), .int .i64 ((m : Nat) : Int), v] w0 fun r w => (∃ u a c, r = .slice a u.length c ∧ IntsAt w (.slice a u.length c) (toI u) ∧ inW t u ∧ u.length ≤ m) ∧ Ext w0 w := by
  obtain ⟨a0, c0, rfl⟩ := SlAt.form hl
  have hlen : l.length ≤ 9223372036854775807 := by simpa using SlAt.le hl
  simp only [List.length_map] at hl ⊢
  refine Ret_of Try.func35 rfl Try.ntmps35 (Nat.le_of_ble_eq_true rfl) ?_
  have E : Chg none1 w0 w0 := Chg.refl _ _
  refine Wp_seq_region ?_
  refine WpL_val rfl rfl (by decide) (r_assign (v := (.slice none 0 0)) rfl) ?_
  refine WpL_nil ?_
  refine Wp_seq_region ?_
  refine WpL_val rfl rfl (by decide) (r_assign (v := (.slice none 0 0)) rfl) ?_
  refine WpL_nil ?_
  refine Wp_seq ?_
  refine Wp_seq_region ?_
  refine WpL_val rfl rfl (by decide) (r_move (v := (.slice a0 l.length c0)) rfl) ?_
  refine WpL_val rfl rfl (by decide) (r_lenSlice (ad := a0) (n := l.length) (cap := c0) Try.underlying22 rfl) ?_
  refine WpL_val rfl rfl (by decide) (r_move (v := (.int .i64 0)) rfl) ?_
  refine WpL_nil ?_
  refine Wp_block ?_
  obtain ⟨n1, hn1⟩ : ∃ n1, n1 = w0.heap.size := ⟨_, rfl⟩
  refine Wp_loop (fun nn_ σ W1 => ∃ (k : Nat) (u : List Nat) (oa : Option Addr) (oc on : Nat), (∃ jj_, σ = upds jj_ [(0, (.int .i64 ((t : Nat) : Int))), (1, (.int .i64 ((m : Nat) : Int))), (10, (.slice a0 l.length c0)), (11, (.int .i64 ((l.length : Nat) : Int))), (12, (.int .i64 ((k : Nat) : Int))), (7, (.slice oa on oc))]) ∧ Chg none1 w0 W1 ∧ (k ≤ l.length) ∧ (on = u.length) ∧ (inW t u ∧ u.length ≤ m) ∧ (W1.ownsRow n1 TDI 1 (.slice oa on oc) on ((toI u).map (Value.int .i64))) ∧ (n1 ≤ W1.heap.size) ∧ nn_ = l.length - k) (n := l.length - 0) ?_ ?_
  · exact ⟨0, [], none, 0, 0, Fits.out ⟨rfl, rfl, rfl, rfl, rfl, rfl, trivial⟩, E, Nat.zero_le _, rfl, ⟨inW.nil t, Nat.zero_le _⟩, World.ownsRow_nil _ _ _ _, (by omega), rfl⟩
  · clear E
    rintro _ _ W1 ⟨k, u, oa, oc, on, ⟨j1, rfl⟩, E, hk, hon, hu, hO, hsz, rfl⟩
    refine Wp_seq_region ?_
    refine WpL_val rfl rfl (by decide) (r_lss (k := .i64) (a := ((k : Nat) : Int)) (b := ((l.length : Nat) : Int)) rfl rfl) ?_
    refine WpL_nil ?_
    refine Wp_seq ?_
    refine Wp_cond (b := decide ((((k : Nat) : Int) : Int) < ((l.length : Nat) : Int))) rfl (fun hlt => ?_) (fun hlt => ?_)
    · have khlt := hlt
      replace hlt := of_decide_eq_true hlt
      obtain ⟨x, hx⟩ := get_of_lt (l := l) (i := k) (by omega)
      obtain ⟨b0, o0, rfl, hxc⟩ := ints_cells hl (by omega)
      obtain ⟨y, hy, hyt⟩ := emod_nat x t ht.1
      refine Wp_skip ?_
      refine thn_normal ?_
      refine Wp_seq ?_
      refine Wp_block ?_
      refine Wp_seq_region ?_
      refine WpL_val rfl rfl (by decide) (r_indexSlice (b := b0) (o := o0) (len := l.length) (cap := c0) (i := k) (o' := o0 + k) rfl rfl rfl Try.underlying22 siz3 (by omega) (by omega)) ?_
      refine WpL_val rfl rfl (by decide) (r_load (v := (.int .i64 x)) rfl flat3 (E.cell (fun f => f) (hxc k x hx))) ?_
      refine WpL_val rfl rfl (by decide) (r_assign (v := (.int .i64 x)) rfl) ?_
      refine WpL_nil ?_
      refine Wp_seq ?_
      refine Wp_seq_region ?_
      refine WpL_val rfl rfl (by decide) (r_move (v := (.slice oa on oc)) rfl) ?_
      refine WpL_val rfl rfl (by decide) (r_lenSlice (ad := oa) (n := on) (cap := oc) Try.underlying22 rfl) ?_
      refine WpL_val rfl rfl (by decide) (r_move (v := (.int .i64 ((m : Nat) : Int))) rfl) ?_
      refine WpL_val rfl rfl (by decide) (r_eql (k := .i64) (a := ((on : Nat) : Int)) (b := ((m : Nat) : Int)) rfl rfl) ?_
      refine WpL_nil ?_
      refine Wp_cond (b := decide ((((on : Nat) : Int) : Int) = ((m : Nat) : Int))) rfl (fun hfull => ?_) (fun hfull => ?_)
      · have khfull := hfull
        replace hfull := of_decide_eq_true hfull
        refine Wp_exit ?_
        refine thn_exit ?_
        refine inB_there (by decide) ?_
        refine thn_exit ?_
        refine thn_exit ?_
        refine inB_here ?_
        refine thn_normal ?_
        refine Wp_seq_region ?_
        refine WpL_val rfl rfl (by decide) (r_move (v := (.slice oa on oc)) rfl) ?_
        refine WpL_val rfl rfl (by decide) (r_assign (v := (.slice oa on oc)) rfl) ?_
        refine WpL_nil ?_
        refine Wp_ret ?_
        refine fin_tmp Try.results35 (v := (.slice oa on oc)) rfl ?_
        exact ⟨⟨u, oa, oc, by rw [hon], by rw [← hon]; exact own_intsD hO (by simp [hon, toI]), hu⟩, E⟩
      · have khfull := hfull
        replace hfull := of_decide_eq_false hfull
        refine Wp_skip ?_
        refine thn_normal ?_
        refine Wp_region ?_
        refine WpL_val rfl rfl (by decide) (r_move (v := (.slice oa on oc)) rfl) ?_
        refine WpL_val rfl rfl (by decide) (r_move (v := (.int .i64 x)) rfl) ?_
        refine WpL_val rfl rfl (by decide) (r_move (v := (.int .i64 ((t : Nat) : Int))) rfl) ?_
        refine WpL_enter rfl rfl (by decide) (r_callF (vs := [(.int .i64 x), (.int .i64 ((t : Nat) : Int))]) Try.func69 nm69 bd69 rfl) (below_c x ((t : Nat) : Int) (by omega) (by omega) _) ?_
        rintro _ w9 ⟨rfl, rfl⟩
        refine s_buildSlice (ps := [(0, (.int .i64 (x % ((t : Nat) : Int))))]) (c := #[(.int .i64 (x % ((t : Nat) : Int)))]) (by decide) rfl Try.underlying22 siz3 zer3 (by decide) (by decide) (by kernel_rfl) ?_
        intro b4 w4 N4
        have F4 := N4.ge E
        replace hO := own_ext hO N4.ext
        replace hsz := Nat.le_trans hsz N4.ext.size
        replace E := E.ext N4.ext
        have B4 := N4.blk
        refine s_append (base := n1) (n := on) (m := 1) (xs := ((toI u).map (Value.int .i64))) (news := [(.int .i64 (x % ((t : Nat) : Int)))]) (size := 1) (bytes := 8) (v := (.slice oa on oc)) (by decide) Try.underlying22 siz3 byt3 zer3 rfl (by decide) rfl hO rfl (rfl) (B4.cells rfl) (by simp [Value.oneCell']) (by unfold maxLen; omega) (by omega) (hsz) ?_
        intro v7 w59 Ov7 Cv7 Dv7
        replace E := E.step Cv7 (fun x hx h => absurd (hO.lt x h).1 (by omega))
        obtain ⟨sa3, sc3, rfl⟩ := own_form Ov7
        refine WpL_val rfl rfl (by decide) (r_assign (v := (.slice sa3 (on + 1) sc3)) rfl) ?_
        refine WpL_nil ?_
        refine inB_normal ?_
        refine thn_normal ?_
        refine Wp_region ?_
        refine WpL_val rfl rfl (by decide) (r_add (k := .i64) (a := ((k : Nat) : Int)) (b := 1) (c := ((k : Nat) : Int) + 1) rfl rfl (wI64 (by omega))) ?_
        refine WpL_val rfl rfl (by decide) (r_move (v := (.int .i64 (((k : Nat) : Int) + 1))) rfl) ?_
        refine WpL_nil ?_
        refine thn_normal ?_
        exact ⟨l.length - (k + 1), by omega, k + 1, u ++ [y], sa3, sc3, (on + 1), Fits.out ⟨rfl, rfl, rfl, rfl, rfl, rfl, trivial⟩, E, (by omega), (by simp [hon]), ⟨hu.1.snoc hyt, by simp; omega⟩, (by rw [hy] at Ov7; simpa [toI] using Ov7), Nat.le_trans hsz Cv7.size, rfl⟩
    · have khlt := hlt
      replace hlt := of_decide_eq_false hlt
      refine Wp_exit ?_
      refine thn_exit ?_
      refine thn_exit ?_
      refine inB_here ?_
      refine thn_normal ?_
      refine Wp_seq_region ?_
      refine WpL_val rfl rfl (by decide) (r_move (v := (.slice oa on oc)) rfl) ?_
      refine WpL_val rfl rfl (by decide) (r_assign (v := (.slice oa on oc)) rfl) ?_
      refine WpL_nil ?_
      refine Wp_ret ?_
      refine fin_tmp Try.results35 (v := (.slice oa on oc)) rfl ?_
      exact ⟨⟨u, oa, oc, by rw [hon], by rw [← hon]; exact own_intsD hO (by simp [hon, toI]), hu⟩, E⟩
end Go.Proofs
namespace Go.Proofs
open Go Go.Eng Go.Sort
set_option maxRecDepth 100000
--BEGIN
def canB (c m : Nat) (C : Dfa) (W : List (List Nat)) : Bool :=
  decide (C.next.length = m) && decide (C.accept.length = m) && decide (C.start = 0) && decide (0 < m) && (C.accept.all fun x => decide (-1 ≤ x)) && (C.next.all fun r => decide (r.length = c) && r.all fun x => decide (-1 ≤ x) && decide (x < m)) &&
  ((List.range C.next.flatten.length).all fun k => decide (C.next.flatten.getD k 0 ≤ mxL (C.next.flatten.take k) + 1)) && ((List.range m).all fun i => decide (((i : Nat) : Int) ≤ mxL (C.next.flatten.take (i * c)))) && decide (mxL C.next.flatten = m - 1) &&
  (W.all fun w => w.all fun x => decide (x < c)) &&
  ((List.range m).all fun s => (List.range m).all fun t => decide (s = t) || W.any fun w => decide (beh C ((s : Nat) : Int) w ≠ beh C ((t : Nat) : Int) w)) &&
  ((List.range m).all fun s => (List.range c).all fun x => decide (toD C ((s : Nat) : Int) x < 0) || W.any fun w => decide (0 ≤ beh C (toD C ((s : Nat) : Int) x) w))
theorem canB_can {c m : Nat} {C : Dfa} {W : List (List Nat)} (h : canB c m C W = true) : CanOf c (beh C 0) C := by
  simp only [canB, Bool.and_eq_true, decide_eq_true_eq, List.all_eq_true, Bool.or_eq_true, List.any_eq_true] at h
  obtain ⟨⟨⟨⟨⟨⟨⟨⟨⟨⟨⟨h1, h2⟩, h3⟩, h4⟩, h5⟩, h6⟩, h7⟩, h8⟩, h9⟩, h10⟩, h11⟩, h12⟩ := h
  have hget : ∀ s : Int, 0 ≤ s → s < m → ∃ i : Nat, s = ((i : Nat) : Int) ∧ i ∈ List.range m := fun s a b => ⟨s.toNat, by omega, List.mem_range.2 (by omega)⟩
  refine ⟨m, ⟨⟨h1, h2, by rw [h3]; omega, h5, fun r hr => ⟨(h6 r hr).1, fun x hx => ?_⟩⟩, h3, fun k x hk => ?_, fun i hi => h8 i (List.mem_range.2 hi), h9⟩, fun w _ => rfl, fun s t s0 s1 t0 t1 he => ?_, fun s x hx hs => ?_⟩
  · exact (h6 r hr).2 x hx
  · have := h7 k (List.mem_range.2 (lt_of_get hk))
    rwa [List.getD_eq_getElem?_getD, hk, Option.getD_some] at this
  · obtain ⟨i, rfl, hi⟩ := hget s s0 s1
    obtain ⟨j, rfl, hj⟩ := hget t t0 t1
    rcases h11 i hi j hj with h | ⟨w, hw, h⟩
    · rw [h]
    · exact absurd (he w fun x hx => h10 w hw x hx) h
  · rcases Int.lt_or_le s 0 with a | a
    · rw [toD_neg a] at hs; omega
    · rcases Int.lt_or_le s m with b | b
      · obtain ⟨i, rfl, hi⟩ := hget s a b
        rcases h12 i hi x (List.mem_range.2 hx) with h | ⟨w, hw, h⟩
        · omega
        · exact ⟨w, fun x hx => h10 w hw x hx, h⟩
      · exfalso
        unfold toD at hs
        have e : C.next[s.toNat]? = none := List.getElem?_eq_none (by omega)
        rw [if_neg (by omega)] at hs
        simp [List.getD_eq_getElem?_getD, e] at hs
theorem beh_one {D C : Dfa} {f : Int → Int} (P : Int → Int → Prop) (h0 : ∀ s t, P s t → atD C t = f (atD D s)) (h1 : ∀ s t, P s t → P (toD D s 0) (toD C t 0)) : ∀ (w : List Nat), inW 1 w → ∀ s t, P s t → beh C t w = f (beh D s w)
  | [], _, s, t, h => h0 s t h
  | x :: w, hw, s, t, h => by
    have hx : x = 0 := by have := hw.head; omega
    subst hx
    exact beh_one P h0 h1 w hw.tail _ _ (h1 s t h)
def oddD : Dfa := ⟨0, [-1, 0], [[1], [0]]⟩
theorem can_odd : CanOf 1 (fun w => fl (beh evnD evnD.start w)) oddD := by
  refine (canB_can (m := 2) (W := [[], [0], [0, 0]]) (by decide)).congr fun w hw => ?_
  refine beh_one (fun s t => s = t ∧ (s = 0 ∨ s = 1)) (fun s t h => ?_) (fun s t h => ?_) w hw 0 0 ⟨rfl, .inl rfl⟩
  · obtain ⟨rfl, rfl | rfl⟩ := h <;> decide
  · obtain ⟨rfl, rfl | rfl⟩ := h <;> decide
theorem can_evn : CanOf 1 (beh evnD evnD.start) evnD := canB_can (m := 2) (W := [[], [0], [0, 0]]) (by decide)
theorem CanOf.ok {c : Nat} {f : List Nat → Int} {C : Dfa} (h : CanOf c f C) : OkD C.next.length c C ∧ C.start = 0 ∧ (∀ w, inW c w → beh C C.start w = f w) ∧ 1 ≤ C.next.length := by
  obtain ⟨m, b, h1, _, _⟩ := h
  have e := b.ok.nl
  have := b.ok.st
  exact ⟨by rw [e]; exact b.ok, b.st, fun w hw => by rw [b.st]; exact h1 w hw, by omega⟩
--END
theorem evnD_acc : ∀ x ∈ evnD.accept, x < 2147483648 := by decide
theorem evn_d (w0 : World) : Ret Try.prog 27 #[] w0 fun r w => (∃ aa ac na nc, r = .agg #[.int .i64 0, .slice aa 2 ac, .slice na 2 nc] ∧ DfaAt w evnD [.int .i64 0, .slice aa 2 ac, .slice na 2 nc]) ∧ Ext w0 w :=
  (evn_c w0).mono fun r w h => by
    obtain ⟨⟨vs, rfl, h1⟩, h2⟩ := h
    have h3 := h1
    obtain ⟨aa, ac, na, nc, rfl, _, _⟩ := h3
    exact ⟨⟨aa, ac, na, nc, rfl, h1⟩, h2⟩
set_option maxHeartbeats 1000000 in
theorem dfbegun_c (w0 : World) : Ret Try.prog 32 #[] w0 fun r w => r = .bool true ∧ Ext w0 w := by
  refine Ret_of Try.func32 rfl Try.ntmps32 (Nat.le_of_ble_eq_true rfl) ?_
  have E : Chg none1 w0 w0 := Chg.refl _ _
  refine Wp_seq_region ?_
  refine WpL_val rfl rfl (by decide) (r_assign (v := (.bool false)) rfl) ?_
  refine WpL_nil ?_
  refine Wp_seq_region ?_
  refine WpL_enter rfl rfl (by decide) (r_callF (vs := []) Try.func27 nm27 bd27 rfl) (evn_d _) ?_
  rintro _ w9 ⟨⟨aa, ac, na, nc, rfl, hv⟩, X9⟩
  replace E := E.ext X9
  refine s_buildSlice (ps := [(0, (.int .i64 0)), (1, (.int .i64 0))]) (c := #[(.int .i64 0), (.int .i64 0)]) (by decide) rfl Try.underlying22 siz3 zer3 (by decide) (by decide) (by kernel_rfl) ?_
  intro ba wa Na
  have Fa := Na.ge E
  replace hv := hv.ext Na.ext
  replace E := E.ext Na.ext
  have Ba := Na.blk
  refine WpL_enter rfl rfl (by decide) (r_callF (vs := [(.agg #[(.int .i64 0), (.slice aa 2 ac), (.slice na 2 nc)]), (.slice (some ⟨ba, 0, none⟩) 2 2)]) Try.func31 nm31 bd31 rfl) (dfrun_c _ 2 1 evnD _ _ [0, 0] evn_ok hv (by decide) (by decide) (ints_of_blk [0, 0] Ba (by decide) (by decide)) (by decide) (by decide)) ?_
  rintro _ w19 ⟨rfl, X19⟩
  replace Ba := X19.keep Ba
  replace hv := hv.ext X19
  replace E := E.ext X19
  refine WpL_val rfl rfl (by decide) (r_move (v := (.tuple #[(.int .i64 0), (.int .i64 0)])) rfl) ?_
  refine WpL_val rfl rfl (by decide) (r_extract (vs := #[(.int .i64 0), (.int .i64 0)]) (v := (.int .i64 0)) rfl rfl) ?_
  refine WpL_val rfl rfl (by decide) (r_extract (vs := #[(.int .i64 0), (.int .i64 0)]) (v := (.int .i64 0)) rfl rfl) ?_
  refine WpL_val rfl rfl (by decide) (r_assign (v := (.int .i64 0)) rfl) ?_
  refine WpL_val rfl rfl (by decide) (r_assign (v := (.int .i64 0)) rfl) ?_
  refine WpL_nil ?_
  refine Wp_seq_region ?_
  refine WpL_enter rfl rfl (by decide) (r_callF (vs := []) Try.func27 nm27 bd27 rfl) (evn_d _) ?_
  rintro _ w29 ⟨⟨aa2, ac2, na2, nc2, rfl, hv2⟩, X29⟩
  replace Ba := X29.keep Ba
  replace E := E.ext X29
  refine s_buildSlice (ps := [(0, (.int .i64 0))]) (c := #[(.int .i64 0)]) (by decide) rfl Try.underlying22 siz3 zer3 (by decide) (by decide) (by kernel_rfl) ?_
  intro bb wb Nb
  have Fb := Nb.ge E
  have Ob_ba := Nb.lt Ba
  replace Ba := Nb.keep Ba
  replace hv2 := hv2.ext Nb.ext
  replace E := E.ext Nb.ext
  have Bb := Nb.blk
  refine WpL_enter rfl rfl (by decide) (r_callF (vs := [(.agg #[(.int .i64 0), (.slice aa2 2 ac2), (.slice na2 2 nc2)]), (.slice (some ⟨bb, 0, none⟩) 1 1)]) Try.func31 nm31 bd31 rfl) (dfrun_c _ 2 1 evnD _ _ [0] evn_ok hv2 (by decide) (by decide) (ints_of_blk [0] Bb (by decide) (by decide)) (by decide) (by decide)) ?_
  rintro _ w39 ⟨rfl, X39⟩
  replace Ba := X39.keep Ba
  replace Bb := X39.keep Bb
  replace hv2 := hv2.ext X39
  replace E := E.ext X39
  refine WpL_val rfl rfl (by decide) (r_move (v := (.tuple #[(.int .i64 (-1)), (.int .i64 0)])) rfl) ?_
  refine WpL_val rfl rfl (by decide) (r_extract (vs := #[(.int .i64 (-1)), (.int .i64 0)]) (v := (.int .i64 (-1))) rfl rfl) ?_
  refine WpL_val rfl rfl (by decide) (r_extract (vs := #[(.int .i64 (-1)), (.int .i64 0)]) (v := (.int .i64 0)) rfl rfl) ?_
  refine WpL_val rfl rfl (by decide) (r_assign (v := (.int .i64 (-1))) rfl) ?_
  refine WpL_val rfl rfl (by decide) (r_assign (v := (.int .i64 0)) rfl) ?_
  refine WpL_nil ?_
  refine Wp_seq_region ?_
  refine WpL_enter rfl rfl (by decide) (r_callF (vs := []) Try.func27 nm27 bd27 rfl) (evn_d _) ?_
  rintro _ w49 ⟨⟨aa3, ac3, na3, nc3, rfl, hv3⟩, X49⟩
  replace Ba := X49.keep Ba
  replace Bb := X49.keep Bb
  replace E := E.ext X49
  refine WpL_enter rfl rfl (by decide) (r_callF (vs := [(.agg #[(.int .i64 0), (.slice aa3 2 ac3), (.slice na3 2 nc3)])]) Try.func29 nm29 bd29 rfl) (dfNot_c _ 2 1 evnD _ evn_ok hv3 (by decide) (by decide)) ?_
  rintro _ w99 ⟨⟨C, ca, cc, ma, mc, hC, hCl, hCa, rfl, hCN⟩, X99⟩
  replace Ba := X99.keep Ba
  replace Bb := X99.keep Bb
  replace E := E.ext X99
  have hCe := CanOf.uniq hC can_odd (fun w _ => rfl)
  have hCn : decide (((C.next.length : Nat) : Int) = 2) = true := by rw [hCe]; rfl
  refine WpL_val rfl rfl (by decide) (r_move (v := (.tuple #[(.agg #[(.int .i64 C.start), (.slice ca C.accept.length cc), (.slice ma C.next.length mc)]), (.int .i64 0)])) rfl) ?_
  refine WpL_val rfl rfl (by decide) (r_extract (vs := #[(.agg #[(.int .i64 C.start), (.slice ca C.accept.length cc), (.slice ma C.next.length mc)]), (.int .i64 0)]) (v := (.agg #[(.int .i64 C.start), (.slice ca C.accept.length cc), (.slice ma C.next.length mc)])) rfl rfl) ?_
  refine WpL_val rfl rfl (by decide) (r_extract (vs := #[(.agg #[(.int .i64 C.start), (.slice ca C.accept.length cc), (.slice ma C.next.length mc)]), (.int .i64 0)]) (v := (.int .i64 0)) rfl rfl) ?_
  refine s_allocStore (v := (.agg #[(.int .i64 C.start), (.slice ca C.accept.length cc), (.slice ma C.next.length mc)])) (c := #[(.int .i64 C.start), (.slice ca C.accept.length cc), (.slice ma C.next.length mc)]) (n := 3) (by decide) zer25 rfl siz25 rfl rfl rfl (by simp [Value.oneCell']) ?_
  intro bd wd Nd
  have Fd := Nd.ge E
  have Od_ba := Nd.lt Ba
  have Od_bb := Nd.lt Bb
  replace Ba := Nd.keep Ba
  replace Bb := Nd.keep Bb
  replace E := E.ext Nd.ext
  have Bd := Nd.blk
  refine WpL_val rfl rfl (by decide) (r_assign (v := (.int .i64 0)) rfl) ?_
  refine WpL_nil ?_
  refine Wp_seq_region ?_
  refine WpL_val rfl rfl (by decide) (r_move (v := (.int .i64 0)) rfl) ?_
  refine WpL_val rfl rfl (by decide) (r_eql (k := .i64) (a := 0) (b := 0) rfl rfl) ?_
  refine WpL_val rfl rfl (by decide) (r_move (v := (.bool true)) rfl) ?_
  refine WpL_guard_yes (oj := _) rfl rfl (by decide) rfl ?_
  refine WpL_val rfl rfl (by decide) (r_move (v := (.int .i64 0)) rfl) ?_
  refine WpL_guard_yes (oj := _) rfl rfl (by decide) rfl ?_
  refine WpL_val rfl rfl (by decide) (r_eql (k := .i64) (a := 0) (b := 0) rfl rfl) ?_
  refine WpL_val rfl rfl (by decide) (r_pick (b := true) (v := (.bool true)) rfl rfl) ?_
  refine WpL_val rfl rfl (by decide) (r_move (v := (.bool true)) rfl) ?_
  refine WpL_guard_yes (oj := _) rfl rfl (by decide) rfl ?_
  refine WpL_val rfl rfl (by decide) (r_move (v := (.int .i64 0)) rfl) ?_
  refine WpL_guard_yes (oj := _) rfl rfl (by decide) rfl ?_
  refine WpL_val rfl rfl (by decide) (r_eql (k := .i64) (a := 0) (b := 0) rfl rfl) ?_
  refine WpL_val rfl rfl (by decide) (r_pick (b := true) (v := (.bool true)) rfl rfl) ?_
  refine WpL_val rfl rfl (by decide) (r_move (v := (.bool true)) rfl) ?_
  refine WpL_guard_yes (oj := _) rfl rfl (by decide) rfl ?_
  refine WpL_val rfl rfl (by decide) (r_move (v := (.int .i64 0)) rfl) ?_
  refine WpL_guard_yes (oj := _) rfl rfl (by decide) rfl ?_
  refine WpL_val rfl rfl (by decide) (r_eql (k := .i64) (a := 0) (b := 0) rfl rfl) ?_
  refine WpL_val rfl rfl (by decide) (r_pick (b := true) (v := (.bool true)) rfl rfl) ?_
  refine WpL_val rfl rfl (by decide) (r_move (v := (.bool true)) rfl) ?_
  refine WpL_guard_yes (oj := _) rfl rfl (by decide) rfl ?_
  refine WpL_val rfl rfl (by decide) (r_move (v := (.int .i64 (-1))) rfl) ?_
  refine WpL_guard_yes (oj := _) rfl rfl (by decide) rfl ?_
  refine WpL_val rfl rfl (by decide) (r_eql (k := .i64) (a := (-1)) (b := (-1)) rfl rfl) ?_
  refine WpL_val rfl rfl (by decide) (r_pick (b := true) (v := (.bool true)) rfl rfl) ?_
  refine WpL_val rfl rfl (by decide) (r_move (v := (.bool true)) rfl) ?_
  refine WpL_guard_yes (oj := _) rfl rfl (by decide) rfl ?_
  refine WpL_val rfl rfl (by decide) (r_fieldAddr (b := bd) (o := 0) (o' := 2) rfl Try.underlying25 rfl siz23 rfl) ?_
  refine WpL_guard_yes (oj := _) rfl rfl (by decide) rfl ?_
  refine WpL_val rfl rfl (by decide) (r_load (v := (.slice ma C.next.length mc)) rfl flat23 (Bd.cell rfl)) ?_
  refine WpL_guard_yes (oj := _) rfl rfl (by decide) rfl ?_
  refine WpL_val rfl rfl (by decide) (r_lenSlice (ad := ma) (n := C.next.length) (cap := mc) Try.underlying23 rfl) ?_
  refine WpL_guard_yes (oj := _) rfl rfl (by decide) rfl ?_
  obtain ⟨e1, he1⟩ : ∃ e, (decide ((((C.next.length : Nat) : Int) : Int) = 2)) = e := ⟨_, rfl⟩
  refine WpL_val rfl rfl (by decide) ((r_eql (k := .i64) (a := ((C.next.length : Nat) : Int)) (b := 2) rfl rfl).trans (by rw [he1]; try rfl)) ?_
  refine WpL_val rfl rfl (by decide) (r_pick (b := true) (v := (.bool e1)) rfl rfl) ?_
  refine WpL_val rfl rfl (by decide) (r_assign (v := (.bool e1)) rfl) ?_
  refine WpL_nil ?_
  subst he1
  refine Wp_ret ?_
  refine fin_tmp Try.results32 (v := (.bool (decide ((((C.next.length : Nat) : Int) : Int) = 2)))) rfl ?_
  exact ⟨bool_eq hCn, E⟩
end Go.Proofs
namespace Go.Eng
open Go
theorem r_indexStr {P : Program} {σ : Env} {w : World} {dst : Option Tmp} {ty : TypeId} {pos : String} {af : Array Edge} {g : Option (Nat × Bool)} {t : TypeId} {x y : Operand} {k : ByteArray} {n : Nat} {b : UInt8} {c : Int} (hu : P.underlying t = some .string) (hx : ev σ x = .string k) (hy : ev σ y = .int .i64 ((n : Nat) : Int)) (hb : k[n]? = some b) (hc : (b.toNat : Int) = c) :
    (execOp (ev σ) ⟨dst, .index t x y, ty, pos, af, g⟩).run P w = .ok (.value (.int .u8 c)) w := by
  subst hc
  have h0 : (0 : Int) ≤ ((n : Nat) : Int) := by omega
  simp [execOp, hx, hy, Instr.index, asIntOf, run_underlying hu, h0, hb]
end Go.Eng
namespace Go.Proofs
open Go Go.Eng Go.Sort
set_option maxRecDepth 100000
--BEGIN
def bitS (b : Bool) : Int := if b then 1 else 0
def encSw (M : List Bool) : ByteArray := strOfNums (M.map bitS)
def decS (k : ByteArray) : List Bool := k.data.toList.map fun x => x == 1
theorem decS_enc (M : List Bool) : decS (encSw M) = M := by
  unfold decS encSw
  rw [strOfNums_data, List.map_map, List.map_map]
  conv => rhs; rw [← List.map_id M]
  exact List.map_congr_left fun b _ => by cases b <;> rfl
theorem encS_get {M : List Bool} {t : Nat} {b : Bool} (h : M[t]? = some b) : (encSw M)[t]? = some (UInt8.ofNat (bitS b).toNat) := by
  have h1 : (encSw M).data.toList[t]? = some (UInt8.ofNat (bitS b).toNat) := by
    unfold encSw
    rw [strOfNums_data, List.map_map, List.getElem?_map, h]; rfl
  have hlt : t < (encSw M).size := by
    have h3 := lt_of_get h
    have h4 : (encSw M).size = M.length := by unfold encSw; rw [strOfNums_size, List.length_map]
    omega
  rw [getElem?_pos (encSw M) t hlt]
  congr 1
  have h2 : (encSw M).data[t]? = some (UInt8.ofNat (bitS b).toNat) := by rw [← Array.getElem?_toList]; exact h1
  have h3 := (Array.getElem?_eq_some_iff.1 h2).2
  exact h3
def preS (n : Nat) (m : Dfa) (M : List Bool) (x : Nat) : List Bool := (List.range n).map fun s => decide (0 ≤ toD m ((s : Nat) : Int) x) && M.getD (toD m ((s : Nat) : Int) x).toNat false
def stpS (n : Nat) (m : Dfa) (k : ByteArray) (x : Nat) : Option ByteArray := bif (preS n m (decS k) x).any id then some (encSw (preS n m (decS k) x)) else none
def accS (m : Dfa) (k : ByteArray) : Int := bif (decS k).getD m.start.toNat false then 0 else -1
def setW (n : Nat) (m : Dfa) (w : List Nat) : List Bool := (List.range n).map fun s => decide (0 ≤ beh m ((s : Nat) : Int) w.reverse)
theorem setW_get {n : Nat} {m : Dfa} {w : List Nat} {s : Nat} (hs : s < n) : (setW n m w).getD s false = decide (0 ≤ beh m ((s : Nat) : Int) w.reverse) := by
  unfold setW
  rw [List.getD_eq_getElem?_getD, List.getElem?_map, List.getElem?_range hs]; rfl
theorem setW_snoc {n c : Nat} {m : Dfa} (ok : OkD n c m) (w : List Nat) (x : Nat) : preS n m (setW n m w) x = setW n m (w ++ [x]) := by
  refine List.map_congr_left fun s hs => ?_
  have hto := ok.to (s := ((s : Nat) : Int)) (x := x)
  rw [List.reverse_append, List.reverse_singleton, List.singleton_append]
  simp only [beh]
  have key : ∀ q : Int, -1 ≤ q ∧ q < n → (decide (0 ≤ q) && (setW n m w).getD q.toNat false) = decide (0 ≤ beh m q w.reverse) := fun q hq => by
    rcases Int.lt_or_le q 0 with h | h
    · rw [decide_eq_false (show ¬ (0 : Int) ≤ q by omega), Bool.false_and]
      exact (decide_eq_false (by rw [beh_neg h]; decide)).symm
    · obtain ⟨t, rfl⟩ := Int.eq_ofNat_of_zero_le h
      rw [Int.toNat_natCast, setW_get (by omega), decide_eq_true h, Bool.true_and]
  exact key _ hto
theorem setW_dead {n : Nat} {m : Dfa} {w : List Nat} (h : (setW n m w).any id = false) {s : Nat} (hs : s < n) : beh m ((s : Nat) : Int) w.reverse < 0 := by
  rw [List.any_eq_false] at h
  have := h (decide (0 ≤ beh m ((s : Nat) : Int) w.reverse)) (List.mem_map.2 ⟨s, List.mem_range.2 hs, rfl⟩)
  simp at this
  exact this
theorem run_sets {n c : Nat} {m : Dfa} (ok : OkD n c m) (w : List Nat) : match runO (stpS n m) (encSw (setW n m [])) w with | some k => k = encSw (setW n m w) | none => ∀ s : Nat, s < n → beh m ((s : Nat) : Int) w.reverse < 0 := by
  obtain ⟨j, hj⟩ : ∃ j, j = w.length := ⟨_, rfl⟩
  induction j generalizing w with
  | zero =>
    have : w = [] := List.eq_nil_of_length_eq_zero hj.symm
    subst this
    rfl
  | succ j ih =>
    rcases List.eq_nil_or_concat w with rfl | ⟨u, x, rfl⟩
    · simp at hj
    rw [List.concat_eq_append] at hj ⊢
    have h1 := ih u (by simpa using hj)
    rw [runO_snoc]
    cases hr : runO (stpS n m) (encSw (setW n m [])) u with
    | none =>
      rw [hr] at h1
      simp only [Option.bind_none]
      intro s hs
      rw [List.reverse_append, List.reverse_singleton, List.singleton_append]
      simp only [beh]
      have hto := ok.to (s := ((s : Nat) : Int)) (x := x)
      rcases Int.lt_or_le (toD m ((s : Nat) : Int) x) 0 with h | h
      · rw [beh_neg h]; decide
      · obtain ⟨t, ht⟩ := Int.eq_ofNat_of_zero_le h
        rw [ht]
        exact h1 t (by omega)
    | some k =>
      rw [hr] at h1
      simp only [Option.bind_some]
      simp only at h1
      subst h1
      unfold stpS
      rw [decS_enc, setW_snoc ok]
      cases ha : (setW n m (u ++ [x])).any id with
      | true => simp only [cond_true]
      | false => simp only [cond_false]; exact fun s hs => setW_dead ha hs
theorem behX_sets {n c : Nat} {m : Dfa} (ok : OkD n c m) (w : List Nat) : behX (stpS n m) (accS m) (encSw (setW n m [])) w = if 0 ≤ beh m m.start w.reverse then 0 else -1 := by
  have h := run_sets ok w
  have hst := ok.st
  obtain ⟨s0, hs0⟩ := Int.eq_ofNat_of_zero_le hst.1
  unfold behX
  cases hr : runO (stpS n m) (encSw (setW n m [])) w with
  | none =>
    rw [hr] at h
    simp only at h
    have := h s0 (by omega)
    rw [hs0, if_neg (by omega)]
  | some k =>
    rw [hr] at h
    simp only at h
    subst h
    simp only [accS]
    rw [decS_enc, hs0, Int.toNat_natCast, setW_get (by omega)]
    by_cases hb : 0 ≤ beh m ((s0 : Nat) : Int) w.reverse
    · rw [decide_eq_true hb, if_pos hb]; rfl
    · rw [decide_eq_false hb, if_neg hb]; rfl
theorem accS_rng (m : Dfa) (k : ByteArray) : -1 ≤ accS m k ∧ accS m k < 2147483648 := by
  unfold accS
  cases (decS k).getD m.start.toNat false <;> decide
theorem rch_sets {n c : Nat} {m : Dfa} (ok : OkD n c m) {k : ByteArray} (h : Rch c (stpS n m) (encSw (setW n m [])) k) : ∃ w, inW c w ∧ k = encSw (setW n m w) := by
  obtain ⟨w, h1, h2⟩ := h
  have h3 := run_sets ok w
  rw [h2] at h3
  exact ⟨w, h1, h3⟩
/-- Few sets, if the words fall into few kinds. -/
theorem few_sets {n c t : Nat} {m : Dfa} (ok : OkD n c m) (kind : List Nat → Nat) (hk : ∀ w, inW c w → kind w < t) (he : ∀ u w, inW c u → inW c w → kind u = kind w → setW n m u = setW n m w) : FewK c (stpS n m) (encSw (setW n m [])) t := by
  intro l hd hr
  have hex : ∀ k, ∃ w : List Nat, k ∈ l → inW c w ∧ k = encSw (setW n m w) := fun k => by
    by_cases hkl : k ∈ l
    · obtain ⟨w, h1, h2⟩ := rch_sets ok (hr k hkl)
      exact ⟨w, fun _ => ⟨h1, h2⟩⟩
    · exact ⟨[], fun h => absurd h hkl⟩
  obtain ⟨f, hf⟩ := Classical.axiomOfChoice hex
  have hd2 : (l.map fun k => kind (f k)).Nodup := by
    rw [List.nodup_iff_pairwise_ne, List.pairwise_map]
    refine List.Pairwise.imp_of_mem (fun {p q} hp hq hne => ?_) (List.nodup_iff_pairwise_ne.1 hd)
    intro hkk
    apply hne
    rw [(hf p hp).2, (hf q hq).2, he _ _ (hf p hp).1 (hf q hq).1 hkk]
  have := nodup_leN (m := List.range t) hd2 fun x hx => by
    obtain ⟨k, hk1, rfl⟩ := List.mem_map.1 hx
    exact List.mem_range.2 (hk _ (hf k hk1).1)
  simpa using this
def padS (n : Nat) (M : List Bool) (s : Nat) : List Int := (M.take s).map bitS ++ List.replicate (n - s) 0
theorem padS_zero (n : Nat) (M : List Bool) : padS n M 0 = List.replicate n 0 := by simp [padS]
theorem padS_all {n : Nat} {M : List Bool} (h : M.length = n) : padS n M n = M.map bitS := by
  unfold padS
  rw [Nat.sub_self, ← h, List.take_length]; simp
theorem padS_len {n : Nat} {M : List Bool} (h : M.length = n) {s : Nat} (hs : s ≤ n) : (padS n M s).length = n := by simp [padS]; omega
theorem padS_set {n : Nat} {M : List Bool} (h : M.length = n) {s : Nat} {b : Bool} (hb : M[s]? = some b) : (padS n M s).set s (bitS b) = padS n M (s + 1) := by
  have hs := lt_of_get hb
  unfold padS
  rw [List.set_append_right _ _ (by simp; omega), List.take_add_one, hb, show n - s = (n - (s + 1)) + 1 by omega, List.replicate_succ]
  simp only [List.length_map, List.length_take, Option.toList_some, List.map_append, List.map_cons, List.map_nil]
  rw [show s - min s M.length = 0 by omega]
  simp
theorem padS_keep {n : Nat} {M : List Bool} (h : M.length = n) {s : Nat} (hb : M[s]? = some false) : padS n M s = padS n M (s + 1) := by
  have hs := lt_of_get hb
  unfold padS
  rw [List.take_add_one, hb, show n - s = (n - (s + 1)) + 1 by omega, List.replicate_succ]
  simp [bitS]
theorem any_take {M : List Bool} {s : Nat} {b : Bool} (hb : M[s]? = some b) : (M.take (s + 1)).any id = ((M.take s).any id || b) := by
  rw [List.take_add_one, hb, List.any_append]; simp
--END
theorem u8_setD {L : List Int} {k : Nat} (x : Int) : ((L.map (Value.int .u8)).toArray).setIfInBounds (0 + k) (.int .u8 x) = ((L.set k x).map (Value.int .u8)).toArray := by
  apply Array.ext'
  rw [Array.toList_setIfInBounds, Nat.zero_add, ← List.map_set]
set_option maxHeartbeats 1000000 in
theorem back1_c (w0 : World) (n c : Nat) (m : Dfa) (mv : List Value) (M : List Bool) (x bn bm : Nat) (ok : OkD n c m) (h : DfaAt w0 m mv) (hB : Blk w0 bm mv.toArray 25) (hN : Blk w0 bn #[.int .i64 ((n : Nat) : Int)] 3) (hM : M.length = n) (hx : x < c) (hn : n ≤ 20000) :
    Ret Try.prog 58 #[.string (encSw M), .int .i64 ((x : Nat) : Int), .pointer (some ⟨bn, 0, none⟩), .pointer (some ⟨bm, 0, none⟩)] w0 fun r w => r = .tuple #[.string (encSw (preS n m M x)), .bool ((preS n m M x).any id)] ∧ Ext w0 w := by
  obtain ⟨aa, ac, na, nc, rfl, hacc, hnxt⟩ := h
  have hnl := ok.nl
  have hst := ok.st
  rw [hnl] at hnxt hB
  obtain ⟨nb, no, rfl, hnx⟩ := intss_cells (n := n) hnxt (by omega)
  obtain ⟨Q, hQ⟩ : ∃ Q, Q = preS n m M x := ⟨_, rfl⟩
  have hQl : Q.length = n := by rw [hQ]; simp [preS]
  refine Ret_of Try.func58 rfl Try.ntmps58 (Nat.le_of_ble_eq_true rfl) ?_
  have E : Chg none1 w0 w0 := Chg.refl _ _
  refine Wp_seq_region ?_
  refine WpL_val rfl rfl (by decide) (r_assign (v := (.string (ByteArray.mk #[]))) rfl) ?_
  refine WpL_val rfl rfl (by decide) (r_assign (v := (.bool false)) rfl) ?_
  refine WpL_nil ?_
  refine Wp_seq_region ?_
  refine WpL_val rfl rfl (by decide) (r_load (v := (.int .i64 ((n : Nat) : Int))) rfl flat3 (hN.cell rfl)) ?_
  refine s_make (n := n) (z := (.int .u8 0)) (bytes := 1) (by decide) Try.underlying62 siz5 byt5 zer5 rfl rfl rfl (by omega) (by omega) ?_
  intro bz wz Nz
  have Fz := Nz.ge E
  have Oz_bn := Nz.lt hN
  have Oz_bm := Nz.lt hB
  replace hN := Nz.keep hN
  replace hB := Nz.keep hB
  replace E := E.ext Nz.ext
  have Bz := Nz.blk
  refine WpL_val rfl rfl (by decide) (r_assign (v := (.slice (some ⟨bz, 0, none⟩) n n)) rfl) ?_
  refine WpL_val rfl rfl (by decide) (r_assign (v := (.bool false)) rfl) ?_
  refine WpL_nil ?_
  refine Wp_seq ?_
  refine Wp_seq_region ?_
  refine WpL_val rfl rfl (by decide) (r_fieldAddr (b := bm) (o := 0) (o' := 2) rfl Try.underlying25 rfl siz23 rfl) ?_
  refine WpL_val rfl rfl (by decide) (r_load (v := (.slice (some ⟨nb, no, none⟩) n nc)) rfl flat23 (hB.cell rfl)) ?_
  refine WpL_val rfl rfl (by decide) (r_lenSlice (ad := some ⟨nb, no, none⟩) (n := n) (cap := nc) Try.underlying23 rfl) ?_
  refine WpL_val rfl rfl (by decide) (r_move (v := (.int .i64 0)) rfl) ?_
  refine WpL_nil ?_
  refine Wp_block ?_
  rw [show List.replicate n (Value.int .u8 0) = (padS n Q 0).map (Value.int .u8) by rw [padS_zero]; simp] at Bz
  refine Wp_loop (fun nn_ σ W1 => ∃ (s : Nat), (∃ jj_, σ = upds jj_ [(0, (.string (encSw M))), (1, (.int .i64 ((x : Nat) : Int))), (8, (.slice (some ⟨bz, 0, none⟩) n n)), (16, (.slice (some ⟨nb, no, none⟩) n nc)), (17, (.int .i64 ((n : Nat) : Int))), (18, (.int .i64 ((s : Nat) : Int))), (9, (.bool ((Q.take s).any id)))]) ∧ Chg none1 w0 W1 ∧ Blk W1 bn #[(.int .i64 ((n : Nat) : Int))] 3 ∧ Blk W1 bm #[(.int .i64 m.start), (.slice aa m.accept.length ac), (.slice (some ⟨nb, no, none⟩) n nc)] 25 ∧ Blk W1 bz (((padS n Q s).map (Value.int .u8)).toArray) 5 ∧ (s ≤ n) ∧ nn_ = n - s) (n := n - 0) ?_ ?_
  · exact ⟨0, Fits.out ⟨rfl, rfl, rfl, rfl, rfl, rfl, rfl, trivial⟩, E, hN, hB, Bz, Nat.zero_le _, rfl⟩
  · clear E hN hB Bz
    rintro _ _ W1 ⟨s, ⟨j1, rfl⟩, E, hN, hB, Bz, hs, rfl⟩
    refine Wp_seq_region ?_
    refine WpL_val rfl rfl (by decide) (r_lss (k := .i64) (a := ((s : Nat) : Int)) (b := ((n : Nat) : Int)) rfl rfl) ?_
    refine WpL_nil ?_
    refine Wp_seq ?_
    refine Wp_cond (b := decide ((((s : Nat) : Int) : Int) < ((n : Nat) : Int))) rfl (fun hlt => ?_) (fun hlt => ?_)
    · have khlt := hlt
      replace hlt := of_decide_eq_true hlt
      obtain ⟨row, hrow⟩ := get_of_lt (l := m.next) (i := s) (by omega)
      have hrl := (ok.row row (List.mem_of_getElem? hrow)).1
      obtain ⟨ra, rc, hcell, hri⟩ := hnx s row hrow
      obtain ⟨rb, ro, rfl, hrc⟩ := ints_cells hri (by omega)
      obtain ⟨t, ht⟩ := get_of_lt (l := row) (i := x) (by omega)
      obtain ⟨htk, _, _, hxl, hxh⟩ := toD_row ok hrow ht
      refine Wp_skip ?_
      refine thn_normal ?_
      refine Wp_seq ?_
      refine Wp_block ?_
      refine Wp_seq_region ?_
      refine WpL_val rfl rfl (by decide) (r_move (v := (.int .i64 ((s : Nat) : Int))) rfl) ?_
      refine WpL_val rfl rfl (by decide) (r_indexSlice (b := nb) (o := no) (len := n) (cap := nc) (i := s) (o' := no + s) rfl rfl rfl Try.underlying23 siz22 (by omega) (by omega)) ?_
      refine WpL_val rfl rfl (by decide) (r_load (v := (.slice (some ⟨rb, ro, none⟩) row.length rc)) rfl flat22 (E.cell (fun f => f) hcell)) ?_
      refine WpL_val rfl rfl (by decide) (r_assign (v := (.int .i64 ((s : Nat) : Int))) rfl) ?_
      refine WpL_val rfl rfl (by decide) (r_assign (v := (.slice (some ⟨rb, ro, none⟩) row.length rc)) rfl) ?_
      refine WpL_nil ?_
      refine Wp_seq_region ?_
      refine WpL_val rfl rfl (by decide) (r_move (v := (.slice (some ⟨rb, ro, none⟩) row.length rc)) rfl) ?_
      refine WpL_val rfl rfl (by decide) (r_move (v := (.int .i64 ((x : Nat) : Int))) rfl) ?_
      refine WpL_val rfl rfl (by decide) (r_indexSlice (b := rb) (o := ro) (len := row.length) (cap := rc) (i := x) (o' := ro + x) rfl rfl rfl Try.underlying22 siz3 (by omega) (by omega)) ?_
      refine WpL_val rfl rfl (by decide) (r_load (v := (.int .i64 t)) rfl flat3 (E.cell (fun f => f) (hrc x t ht))) ?_
      refine WpL_val rfl rfl (by decide) (r_assign (v := (.int .i64 t)) rfl) ?_
      refine WpL_nil ?_
      refine Wp_seq_region ?_
      refine WpL_val rfl rfl (by decide) (r_move (v := (.int .i64 t)) rfl) ?_
      refine WpL_val rfl rfl (by decide) (r_geq (k := .i64) (a := t) (b := 0) rfl rfl) ?_
      refine WpL_val rfl rfl (by decide) (r_move (v := (.bool (decide ((0 : Int) ≤ t)))) rfl) ?_
      rcases Bool.eq_false_or_eq_true (decide ((0 : Int) ≤ t)) with hpos | hpos
      · have khpos := hpos
        replace khpos := of_decide_eq_true khpos
        obtain ⟨tN, htN⟩ := Int.eq_ofNat_of_zero_le khpos
        obtain ⟨b, hb⟩ := get_of_lt (l := M) (i := tN) (by omega)
        have hQs : Q[s]? = some b := by rw [hQ, preS, List.getElem?_map, List.getElem?_range (by omega)]; simp only [Option.map_some, htk, htN]; rw [Int.toNat_natCast, List.getD_eq_getElem?_getD, hb, decide_eq_true (by omega)]; rfl
        refine WpL_guard_yes (oj := _) rfl rfl (by decide) (congrArg Value.bool hpos) ?_
        refine WpL_val rfl rfl (by decide) (r_move (v := (.string (encSw M))) rfl) ?_
        refine WpL_guard_yes (oj := _) rfl rfl (by decide) (congrArg Value.bool hpos) ?_
        refine WpL_val rfl rfl (by decide) (r_move (v := (.int .i64 t)) rfl) ?_
        refine WpL_guard_yes (oj := _) rfl rfl (by decide) (congrArg Value.bool hpos) ?_
        refine WpL_val rfl rfl (by decide) (r_indexStr (n := tN) (c := bitS b) Try.underlying9 rfl (by rw [htN]; rfl) (encS_get hb) (by cases b <;> rfl)) ?_
        refine WpL_guard_yes (oj := _) rfl rfl (by decide) (congrArg Value.bool hpos) ?_
        refine WpL_val rfl rfl (by decide) (r_eql (k := .u8) (a := bitS b) (b := 1) rfl rfl) ?_
        refine WpL_val rfl rfl (by decide) (r_pick (b := decide ((0 : Int) ≤ t)) (v := (.bool (decide ((bitS b : Int) = 1)))) rfl (by rw [hpos]; rfl)) ?_
        refine WpL_nil ?_
        refine Wp_cond (b := decide ((bitS b : Int) = 1)) rfl (fun hbit => ?_) (fun hbit => ?_)
        · have khbit := hbit
          replace hbit := of_decide_eq_true hbit
          have hbt : b = true := by cases b with | true => rfl | false => exact absurd hbit (by decide)
          refine Wp_region ?_
          refine WpL_val rfl rfl (by decide) (r_move (v := (.slice (some ⟨bz, 0, none⟩) n n)) rfl) ?_
          refine WpL_val rfl rfl (by decide) (r_move (v := (.int .i64 ((s : Nat) : Int))) rfl) ?_
          refine WpL_val rfl rfl (by decide) (r_indexSlice (b := bz) (o := 0) (len := n) (cap := n) (i := s) (o' := 0 + s) rfl rfl rfl Try.underlying62 siz5 (by omega) (by omega)) ?_
          refine s_store (b := bz) (o := 0 + s) (c' := ((padS n Q (s + 1)).map (Value.int .u8)).toArray) (v := (.int .u8 1)) rfl rfl rfl siz5 Bz (by have := padS_len hQl hs; simp; omega) (by rw [u8_setD, ← padS_set hQl hQs, hbt]; rfl) ?_
          intro w5 S5
          replace hN := S5.keep (by omega) hN
          replace hB := S5.keep (by omega) hB
          replace E := S5.step E (by first | exact Or.inl (by omega) | exact Or.inr rfl | exact Or.inr (by assumption) | exact Or.inr (by simp) | exact Or.inr (by omega) | exact Or.inr (by dsimp only; omega))
          replace Bz := S5.blk
          refine WpL_val rfl rfl (by decide) (r_assign (v := (.bool true)) rfl) ?_
          refine WpL_nil ?_
          refine inB_normal ?_
          refine thn_normal ?_
          refine Wp_region ?_
          refine WpL_val rfl rfl (by decide) (r_add (k := .i64) (a := ((s : Nat) : Int)) (b := 1) (c := ((s : Nat) : Int) + 1) rfl rfl (wI64 (by omega))) ?_
          refine WpL_val rfl rfl (by decide) (r_move (v := (.int .i64 (((s : Nat) : Int) + 1))) rfl) ?_
          refine WpL_nil ?_
          refine thn_normal ?_
          rw [show true = (Q.take (s + 1)).any id by rw [any_take hQs, hbt, Bool.or_true]]
          exact ⟨n - (s + 1), by omega, s + 1, Fits.out ⟨rfl, rfl, rfl, rfl, rfl, rfl, rfl, trivial⟩, E, hN, hB, Bz, (by omega), rfl⟩
        · have khbit := hbit
          replace hbit := of_decide_eq_false hbit
          have hbf : b = false := by cases b with | false => rfl | true => exact absurd (by decide) hbit
          subst hbf
          rw [padS_keep hQl hQs] at Bz
          rw [show (Q.take s).any id = (Q.take (s + 1)).any id by rw [any_take hQs, Bool.or_false]]
          refine Wp_skip ?_
          refine inB_normal ?_
          refine thn_normal ?_
          refine Wp_region ?_
          refine WpL_val rfl rfl (by decide) (r_add (k := .i64) (a := ((s : Nat) : Int)) (b := 1) (c := ((s : Nat) : Int) + 1) rfl rfl (wI64 (by omega))) ?_
          refine WpL_val rfl rfl (by decide) (r_move (v := (.int .i64 (((s : Nat) : Int) + 1))) rfl) ?_
          refine WpL_nil ?_
          refine thn_normal ?_
          exact ⟨n - (s + 1), by omega, s + 1, Fits.out ⟨rfl, rfl, rfl, rfl, rfl, rfl, rfl, trivial⟩, E, hN, hB, Bz, (by omega), rfl⟩
      · have khpos := hpos
        replace khpos := of_decide_eq_false khpos
        have hQs : Q[s]? = some false := by rw [hQ, preS, List.getElem?_map, List.getElem?_range (by omega)]; simp only [Option.map_some, htk]; rw [decide_eq_false (by omega)]; rfl
        rw [padS_keep hQl hQs] at Bz
        rw [show (Q.take s).any id = (Q.take (s + 1)).any id by rw [any_take hQs, Bool.or_false]]
        refine WpL_guard_no (oj := _) rfl rfl (by decide) (v := .bool false) (congrArg Value.bool hpos) (Or.inl rfl) ?_
        refine WpL_guard_no (oj := _) rfl rfl (by decide) (v := .bool false) (congrArg Value.bool hpos) (Or.inl rfl) ?_
        refine WpL_guard_no (oj := _) rfl rfl (by decide) (v := .bool false) (congrArg Value.bool hpos) (Or.inl rfl) ?_
        refine WpL_guard_no (oj := _) rfl rfl (by decide) (v := .bool false) (congrArg Value.bool hpos) (Or.inl rfl) ?_
        refine WpL_val rfl rfl (by decide) (r_pick (b := decide ((0 : Int) ≤ t)) (v := (.bool false)) rfl (by rw [hpos]; rfl)) ?_
        refine WpL_nil ?_
        refine Wp_cond_false rfl ?_
        refine Wp_skip ?_
        refine inB_normal ?_
        refine thn_normal ?_
        refine Wp_region ?_
        refine WpL_val rfl rfl (by decide) (r_add (k := .i64) (a := ((s : Nat) : Int)) (b := 1) (c := ((s : Nat) : Int) + 1) rfl rfl (wI64 (by omega))) ?_
        refine WpL_val rfl rfl (by decide) (r_move (v := (.int .i64 (((s : Nat) : Int) + 1))) rfl) ?_
        refine WpL_nil ?_
        refine thn_normal ?_
        exact ⟨n - (s + 1), by omega, s + 1, Fits.out ⟨rfl, rfl, rfl, rfl, rfl, rfl, rfl, trivial⟩, E, hN, hB, Bz, (by omega), rfl⟩
    · have khlt := hlt
      replace hlt := of_decide_eq_false hlt
      have hsn : s = n := by omega
      rw [hsn, padS_all hQl] at Bz
      rw [show Q.take s = Q by rw [hsn, ← hQl]; exact List.take_length]
      refine Wp_exit ?_
      refine thn_exit ?_
      refine thn_exit ?_
      refine inB_here ?_
      refine thn_normal ?_
      refine Wp_seq_region ?_
      refine WpL_val rfl rfl (by decide) (r_move (v := (.slice (some ⟨bz, 0, none⟩) n n)) rfl) ?_
      refine WpL_val rfl rfl (by decide) (r_bytesStr (l := Q.map bitS) Try.underlying62 Try.underlying5 Try.underlying9 rfl Bz (by simp [hQl])) ?_
      refine WpL_val rfl rfl (by decide) (r_move (v := (.bool (Q.any id))) rfl) ?_
      refine WpL_val rfl rfl (by decide) (r_assign (v := (.string (encSw Q))) rfl) ?_
      refine WpL_val rfl rfl (by decide) (r_assign (v := (.bool (Q.any id))) rfl) ?_
      refine WpL_nil ?_
      refine Wp_ret ?_
      refine fin_tmp2 Try.results58 (v := (.string (encSw Q))) (v' := (.bool (Q.any id))) rfl rfl ?_
      exact ⟨by rw [hQ], E⟩
theorem back2_c (w0 : World) (n c : Nat) (m : Dfa) (mv : List Value) (M : List Bool) (bm : Nat) (ok : OkD n c m) (h : DfaAt w0 m mv) (hB : Blk w0 bm mv.toArray 25) (hM : M.length = n) :
    Ret Try.prog 59 #[.string (encSw M), .pointer (some ⟨bm, 0, none⟩)] w0 fun r w => r = .int .i64 (accS m (encSw M)) ∧ Ext w0 w := by
  obtain ⟨aa, ac, na, nc, rfl, hacc, hnxt⟩ := h
  have hst := ok.st
  obtain ⟨s0, hs0⟩ := Int.eq_ofNat_of_zero_le hst.1
  obtain ⟨b, hb⟩ := get_of_lt (l := M) (i := s0) (by omega)
  have hac : accS m (encSw M) = bif b then 0 else -1 := by unfold accS; rw [decS_enc, hs0, Int.toNat_natCast, List.getD_eq_getElem?_getD, hb]; rfl
  refine Ret_of Try.func59 rfl Try.ntmps59 (Nat.le_of_ble_eq_true rfl) ?_
  have E : Chg none1 w0 w0 := Chg.refl _ _
  refine Wp_seq_region ?_
  refine WpL_val rfl rfl (by decide) (r_assign (v := (.int .i64 0)) rfl) ?_
  refine WpL_nil ?_
  refine Wp_seq ?_
  refine Wp_seq_region ?_
  refine WpL_val rfl rfl (by decide) (r_move (v := (.string (encSw M))) rfl) ?_
  refine WpL_val rfl rfl (by decide) (r_fieldAddr (b := bm) (o := 0) (o' := 0) rfl Try.underlying25 rfl siz3 rfl) ?_
  refine WpL_val rfl rfl (by decide) (r_load (v := (.int .i64 m.start)) rfl flat3 (hB.cell rfl)) ?_
  refine WpL_val rfl rfl (by decide) (r_indexStr (n := s0) (c := bitS b) Try.underlying9 rfl (by rw [hs0]; rfl) (encS_get hb) (by cases b <;> rfl)) ?_
  refine WpL_val rfl rfl (by decide) (r_eql (k := .u8) (a := bitS b) (b := 1) rfl rfl) ?_
  refine WpL_nil ?_
  refine Wp_cond (b := decide ((bitS b : Int) = 1)) rfl (fun hbit => ?_) (fun hbit => ?_)
  · have khbit := hbit
    replace hbit := of_decide_eq_true hbit
    refine Wp_seq_region ?_
    refine WpL_val rfl rfl (by decide) (r_assign (v := (.int .i64 0)) rfl) ?_
    refine WpL_nil ?_
    refine Wp_ret ?_
    refine thn_ret ?_
    refine fin_tmp Try.results59 (v := (.int .i64 0)) rfl ?_
    exact ⟨int_eq (by rw [hac]; cases b with | true => rfl | false => exact absurd hbit (by decide)), E⟩
  · have khbit := hbit
    replace hbit := of_decide_eq_false hbit
    refine Wp_skip ?_
    refine thn_normal ?_
    refine Wp_seq_region ?_
    refine WpL_val rfl rfl (by decide) (r_assign (v := (.int .i64 (-1))) rfl) ?_
    refine WpL_nil ?_
    refine Wp_ret ?_
    refine fin_tmp Try.results59 (v := (.int .i64 (-1))) rfl ?_
    exact ⟨int_eq (by rw [hac]; cases b with | false => rfl | true => exact absurd (by decide) hbit), E⟩
end Go.Proofs
namespace Go.Proofs
open Go Go.Eng Go.Sort
set_option maxRecDepth 100000
theorem miniMin_c (w0 : World) (n c : Nat) (d : Dfa) (dv : List Value) (ok : OkD n c d) (h : DfaAt w0 d dv) (hn : 1 ≤ n ∧ n ≤ 200) (hc : 1 ≤ c ∧ c ≤ 16) (hac : ∀ x ∈ d.accept, x < 2147483648) :
    Ret Try.prog 22 #[.agg dv.toArray] w0 fun r w => CanE c (beh d d.start) n w0.heap.size r w ∧ Ext w0 w := by
  have h' := h
  obtain ⟨aa, ac, na, nc, rfl, _, _⟩ := h'
  refine Ret_of Try.func22 rfl Try.ntmps22 (Nat.le_of_ble_eq_true rfl) ?_
  have E : Chg none1 w0 w0 := Chg.refl _ _
  refine Wp_seq_region ?_
  refine s_box (v := (.agg #[(.int .i64 d.start), (.slice aa d.accept.length ac), (.slice na d.next.length nc)])) (c := #[(.int .i64 d.start), (.slice aa d.accept.length ac), (.slice na d.next.length nc)]) (by decide) rfl rfl ?_
  intro bp wp Np
  have Fp := Np.ge E
  replace E := E.ext Np.ext
  have Bp := Np.blk
  refine s_alloc (c := #[(.int .i64 0), (.slice none 0 0), (.slice none 0 0)]) (by decide) zer25 rfl ?_
  intro br wr Nr
  have Fr := Nr.ge E
  have Or_bp := Nr.lt Bp
  replace Bp := Nr.keep Bp
  replace E := E.ext Nr.ext
  have Br := Nr.blk
  refine WpL_val rfl rfl (by decide) (r_assign (v := (.int .i64 0)) rfl) ?_
  refine WpL_nil ?_
  refine Wp_seq ?_
  refine Wp_seq_region ?_
  refine WpL_val rfl rfl (by decide) (r_loadAgg (vs := [(.int .i64 d.start), (.slice aa d.accept.length ac), (.slice na d.next.length nc)]) rfl agg25 siz25 rfl (Bp.cells rfl)) ?_
  refine WpL_enter rfl rfl (by decide) (r_callF (vs := [(.agg #[(.int .i64 d.start), (.slice aa d.accept.length ac), (.slice na d.next.length nc)])]) Try.func50 nm50 bd50 rfl) (dcheck_c _ d _ (h.ext E)) ?_
  rintro _ w9 ⟨rfl, X9⟩
  replace Bp := X9.keep Bp
  replace Br := X9.keep Br
  replace E := E.ext X9
  refine WpL_val rfl rfl (by decide) (r_assign (v := (.int .i64 (checkD d))) rfl) ?_
  refine WpL_nil ?_
  refine Wp_seq_region ?_
  refine WpL_val rfl rfl (by decide) (r_move (v := (.int .i64 (checkD d))) rfl) ?_
  refine WpL_val rfl rfl (by decide) (r_neq (k := .i64) (a := checkD d) (b := 0) rfl rfl) ?_
  refine WpL_nil ?_
  have hc1 : (decide ((checkD d : Int) ≠ 0)) = false := decide_eq_false (by rw [okD_check ok hn hc]; decide)
  refine Wp_cond_false (congrArg Value.bool hc1) ?_
  refine Wp_skip ?_
  refine thn_normal ?_
  refine Wp_seq_region ?_
  refine WpL_val rfl rfl (by decide) (r_loadAgg (vs := [(.int .i64 d.start), (.slice aa d.accept.length ac), (.slice na d.next.length nc)]) rfl agg25 siz25 rfl (Bp.cells rfl)) ?_
  obtain ⟨n9, hn9⟩ : ∃ n9, n9 = (w9).heap.size := ⟨_, rfl⟩
  have hn9b : w0.heap.size ≤ n9 ∧ br < n9 := ⟨by rw [hn9]; exact E.size, by rw [hn9]; exact Br.lt⟩
  refine WpL_enter rfl rfl (by decide) (r_callF (vs := [(.agg #[(.int .i64 d.start), (.slice aa d.accept.length ac), (.slice na d.next.length nc)])]) Try.func56 nm56 bd56 rfl) (canon_f _ n c d _ ok (h.ext E) ⟨by omega, hc⟩ hac) ?_
  rintro _ w99 ⟨⟨C, ca, cc, ma, mc, hC, hCl, hCa, rfl, hCN⟩, X99⟩
  replace Bp := X99.keep Bp
  replace Br := X99.keep Br
  replace E := E.ext X99
  rw [← hn9] at hCN
  refine s_storeAgg (b := br) (o := 0) (c' := #[(.int .i64 C.start), (.slice ca C.accept.length cc), (.slice ma C.next.length mc)]) rfl rfl (by simp [Value.oneCell']) siz25 rfl Br (by simp) rfl ?_
  intro w2 S2
  replace hCN := hCN.chg S2.chg fun y h => by have h' : y = br := h; omega
  replace Bp := S2.keep (by omega) Bp
  replace E := S2.step E (by first | exact Or.inl (by omega) | exact Or.inr rfl | exact Or.inr (by assumption) | exact Or.inr (by simp) | exact Or.inr (by omega) | exact Or.inr (by dsimp only; omega))
  replace Br := S2.blk
  refine WpL_val rfl rfl (by decide) (r_assign (v := (.int .i64 0)) rfl) ?_
  refine WpL_nil ?_
  refine Wp_ret ?_
  refine fin_agg_tmp Try.results22 (vs := [(.int .i64 C.start), (.slice ca C.accept.length cc), (.slice ma C.next.length mc)]) (b := br) (v' := (.int .i64 0)) rfl agg25 siz25 rfl (Br.cells rfl) rfl ?_
  exact ⟨⟨C, ca, cc, ma, mc, hC, hCl, hCa, rfl, hCN.low hn9b.1⟩, E⟩
def revB (f : List Nat → Int) (w : List Nat) : Int := if 0 ≤ f w.reverse then 0 else -1
theorem inW.reverse {c : Nat} {w : List Nat} (h : inW c w) : inW c w.reverse := fun x hx => h x (List.mem_reverse.1 hx)
theorem setW_first {n c : Nat} {m : Dfa} (ok : OkD n c m) : setW n m [] = m.accept.map fun a => decide (0 ≤ a) := by
  have hal := ok.al
  apply List.ext_getElem?
  intro i
  unfold setW
  rw [List.getElem?_map, List.getElem?_map]
  rcases Nat.lt_or_ge i n with h | h
  · rw [List.getElem?_range h]
    obtain ⟨a, ha⟩ := get_of_lt (l := m.accept) (i := i) (by omega)
    rw [ha]
    simp only [Option.map_some, List.reverse_nil, beh]
    rw [atD_get ha]
  · rw [List.getElem?_eq_none (by simp; omega), List.getElem?_eq_none (by omega)]; rfl
theorem DfaAt.parts {w : World} {d : Dfa} {s : Int} {ca ma : Option Addr} {cc mc n1 n2 : Nat} (h : DfaAt w d [.int .i64 s, .slice ca n1 cc, .slice ma n2 mc]) : IntsAt w (.slice ca n1 cc) d.accept ∧ IntssAt w (.slice ma n2 mc) d.next := by
  obtain ⟨_, _, _, _, hq, h1, h2⟩ := h
  simp only [List.cons.injEq, Value.slice.injEq, and_true] at hq
  obtain ⟨_, ⟨rfl, rfl, rfl⟩, rfl, rfl, rfl⟩ := hq
  exact ⟨h1, h2⟩
theorem stpS_res (n : Nat) (m : Dfa) (M : List Bool) (x : Nat) : (stpS n m (encSw M) x).isSome = (preS n m M x).any id ∧ ∀ q, stpS n m (encSw M) x = some q → encSw (preS n m M x) = q := by
  unfold stpS
  rw [decS_enc]
  cases (preS n m M x).any id with
  | true => exact ⟨rfl, fun q h => Option.some.inj h⟩
  | false => exact ⟨rfl, fun q h => by cases h⟩
set_option maxHeartbeats 4000000 in
theorem back_c (w0 : World) (n c t : Nat) (d : Dfa) (dv : List Value) (ok : OkD n c d) (h : DfaAt w0 d dv) (hn : 1 ≤ n ∧ n ≤ 200) (hc : 1 ≤ c ∧ c ≤ 16) (hac : ∀ x ∈ d.accept, x < 2147483648) (ht : t ≤ 200) (hfew : ∀ m, CanOf c (beh d d.start) m → m.next.length ≤ n → FewK c (stpS m.next.length m) (encSw (setW m.next.length m [])) t) :
    Ret Try.prog 23 #[.agg dv.toArray] w0 fun r w => CanE c (revB (beh d d.start)) t w0.heap.size r w ∧ Ext w0 w := by
  have h' := h
  obtain ⟨aa, ac, na, nc, rfl, _, _⟩ := h'
  refine Ret_of Try.func23 rfl Try.ntmps23 (Nat.le_of_ble_eq_true rfl) ?_
  have E : Chg none1 w0 w0 := Chg.refl _ _
  refine Wp_seq_region ?_
  refine s_box (v := (.agg #[(.int .i64 d.start), (.slice aa d.accept.length ac), (.slice na d.next.length nc)])) (c := #[(.int .i64 d.start), (.slice aa d.accept.length ac), (.slice na d.next.length nc)]) (by decide) rfl rfl ?_
  intro bp wp Np
  have Fp := Np.ge E
  replace E := E.ext Np.ext
  have Bp := Np.blk
  refine s_alloc (c := #[(.int .i64 0), (.slice none 0 0), (.slice none 0 0)]) (by decide) zer25 rfl ?_
  intro br wr Nr
  have Fr := Nr.ge E
  have Or_bp := Nr.lt Bp
  replace Bp := Nr.keep Bp
  replace E := E.ext Nr.ext
  have Br := Nr.blk
  refine WpL_val rfl rfl (by decide) (r_assign (v := (.int .i64 0)) rfl) ?_
  refine WpL_nil ?_
  refine Wp_seq ?_
  refine Wp_seq_region ?_
  refine WpL_val rfl rfl (by decide) (r_loadAgg (vs := [(.int .i64 d.start), (.slice aa d.accept.length ac), (.slice na d.next.length nc)]) rfl agg25 siz25 rfl (Bp.cells rfl)) ?_
  refine WpL_enter rfl rfl (by decide) (r_callF (vs := [(.agg #[(.int .i64 d.start), (.slice aa d.accept.length ac), (.slice na d.next.length nc)])]) Try.func50 nm50 bd50 rfl) (dcheck_c _ d _ (h.ext E)) ?_
  rintro _ w9 ⟨rfl, X9⟩
  replace Bp := X9.keep Bp
  replace Br := X9.keep Br
  replace E := E.ext X9
  refine WpL_val rfl rfl (by decide) (r_assign (v := (.int .i64 (checkD d))) rfl) ?_
  refine WpL_nil ?_
  refine Wp_seq_region ?_
  refine WpL_val rfl rfl (by decide) (r_move (v := (.int .i64 (checkD d))) rfl) ?_
  refine WpL_val rfl rfl (by decide) (r_neq (k := .i64) (a := checkD d) (b := 0) rfl rfl) ?_
  refine WpL_nil ?_
  have hc1 : (decide ((checkD d : Int) ≠ 0)) = false := decide_eq_false (by rw [okD_check ok hn hc]; decide)
  refine Wp_cond_false (congrArg Value.bool hc1) ?_
  refine Wp_skip ?_
  refine thn_normal ?_
  refine Wp_seq_region ?_
  refine WpL_val rfl rfl (by decide) (r_loadAgg (vs := [(.int .i64 d.start), (.slice aa d.accept.length ac), (.slice na d.next.length nc)]) rfl agg25 siz25 rfl (Bp.cells rfl)) ?_
  refine WpL_enter rfl rfl (by decide) (r_callF (vs := [(.agg #[(.int .i64 d.start), (.slice aa d.accept.length ac), (.slice na d.next.length nc)])]) Try.func56 nm56 bd56 rfl) (canon_f _ n c d _ ok (h.ext E) ⟨by omega, hc⟩ hac) ?_
  rintro _ w99 ⟨⟨m, ca, cc, ma, mc, hm, hml, hma, rfl, hmN⟩, X99⟩
  replace Bp := X99.keep Bp
  replace Br := X99.keep Br
  replace E := E.ext X99
  obtain ⟨okm, stm, bhm, gem⟩ := hm.ok
  obtain ⟨N, hNe⟩ : ∃ N, N = m.next.length := ⟨_, rfl⟩
  have hmD := hmN.at'
  have hal := okm.al
  rw [hal] at hmD
  rw [hal]
  rw [← hNe] at hmD okm hal hml gem
  rw [← hNe]
  have hnl := okm.nl
  obtain ⟨hAcc, hNxt⟩ := hmD.parts
  obtain ⟨ab, ao, rfl, hax⟩ := ints_cells (n := N) hAcc (by omega)
  obtain ⟨nb, no, rfl, hnx⟩ := intss_cells (n := N) hNxt (by omega)
  obtain ⟨row, hrow⟩ := get_of_lt (l := m.next) (i := 0) (by omega)
  have hrl := (okm.row row (List.mem_of_getElem? hrow)).1
  obtain ⟨ra, rc, hcell, hri⟩ := hnx 0 row hrow
  rw [hrl] at hcell hri
  obtain ⟨Q, hQ⟩ : ∃ Q, Q = setW N m [] := ⟨_, rfl⟩
  have hQl : Q.length = N := by rw [hQ]; simp [setW]
  have hQa : Q = m.accept.map fun a => decide (0 ≤ a) := by rw [hQ]; exact setW_first okm
  have E2 : Chg none1 w99 w99 := Chg.refl _ _
  refine s_allocStore (v := (.agg #[(.int .i64 m.start), (.slice (some ⟨ab, ao, none⟩) N cc), (.slice (some ⟨nb, no, none⟩) N mc)])) (c := #[(.int .i64 m.start), (.slice (some ⟨ab, ao, none⟩) N cc), (.slice (some ⟨nb, no, none⟩) N mc)]) (n := 3) (by decide) zer25 rfl siz25 rfl rfl rfl (by simp [Value.oneCell']) ?_
  intro bm wm Nm
  have Fm := Nm.ge E
  have Fm_E2 := Nm.ge E2
  have Om_bp := Nm.lt Bp
  have Om_br := Nm.lt Br
  replace Bp := Nm.keep Bp
  replace Br := Nm.keep Br
  replace E := E.ext Nm.ext
  have Bm := Nm.blk
  replace E2 := E2.ext Nm.ext
  refine WpL_nil ?_
  refine Wp_seq_region ?_
  refine WpL_val rfl rfl (by decide) (r_fieldAddr (b := bm) (o := 0) (o' := 2) rfl Try.underlying25 rfl siz23 rfl) ?_
  refine WpL_val rfl rfl (by decide) (r_load (v := (.slice (some ⟨nb, no, none⟩) N mc)) rfl flat23 (Bm.cell rfl)) ?_
  refine WpL_val rfl rfl (by decide) (r_lenSlice (ad := some ⟨nb, no, none⟩) (n := N) (cap := mc) Try.underlying23 rfl) ?_
  refine s_allocStore (v := (.int .i64 ((N : Nat) : Int))) (c := #[(.int .i64 ((N : Nat) : Int))]) (n := 1) (by decide) zer3 rfl siz3 rfl rfl rfl (by simp [Value.oneCell']) ?_
  intro bk wk Nk
  have Fk := Nk.ge E
  have Fk_E2 := Nk.ge E2
  have Ok_bp := Nk.lt Bp
  have Ok_br := Nk.lt Br
  have Ok_bm := Nk.lt Bm
  replace Bp := Nk.keep Bp
  replace Br := Nk.keep Br
  replace Bm := Nk.keep Bm
  replace E := E.ext Nk.ext
  have Bk := Nk.blk
  replace E2 := E2.ext Nk.ext
  refine WpL_nil ?_
  refine Wp_seq_region ?_
  refine WpL_val rfl rfl (by decide) (r_load (v := (.int .i64 ((N : Nat) : Int))) rfl flat3 (Bk.cell rfl)) ?_
  refine s_make (n := N) (z := (.int .u8 0)) (bytes := 1) (by decide) Try.underlying62 siz5 byt5 zer5 rfl rfl rfl (by omega) (by omega) ?_
  intro bz wz Nz
  have Fz := Nz.ge E
  have Fz_E2 := Nz.ge E2
  have Oz_bp := Nz.lt Bp
  have Oz_br := Nz.lt Br
  have Oz_bm := Nz.lt Bm
  have Oz_bk := Nz.lt Bk
  replace Bp := Nz.keep Bp
  replace Br := Nz.keep Br
  replace Bm := Nz.keep Bm
  replace Bk := Nz.keep Bk
  replace E := E.ext Nz.ext
  have Bz := Nz.blk
  replace E2 := E2.ext Nz.ext
  refine WpL_val rfl rfl (by decide) (r_assign (v := (.slice (some ⟨bz, 0, none⟩) N N)) rfl) ?_
  refine WpL_nil ?_
  refine Wp_seq ?_
  refine Wp_seq_region ?_
  refine WpL_val rfl rfl (by decide) (r_fieldAddr (b := bm) (o := 0) (o' := 1) rfl Try.underlying25 rfl siz22 rfl) ?_
  refine WpL_val rfl rfl (by decide) (r_load (v := (.slice (some ⟨ab, ao, none⟩) N cc)) rfl flat22 (Bm.cell rfl)) ?_
  refine WpL_val rfl rfl (by decide) (r_lenSlice (ad := some ⟨ab, ao, none⟩) (n := N) (cap := cc) Try.underlying22 rfl) ?_
  refine WpL_val rfl rfl (by decide) (r_move (v := (.int .i64 0)) rfl) ?_
  refine WpL_nil ?_
  refine Wp_block ?_
  rw [show List.replicate N (Value.int .u8 0) = (padS N Q 0).map (Value.int .u8) by rw [padS_zero]; simp] at Bz
  refine Wp_loop (fun nn_ σ W2 => ∃ (s : Nat), (∃ jj_, σ = upds jj_ [(2, (.pointer (some ⟨br, 0, none⟩))), (5, (.pointer (some ⟨bm, 0, none⟩))), (6, (.pointer (some ⟨bk, 0, none⟩))), (7, (.slice (some ⟨bz, 0, none⟩) N N)), (26, (.slice (some ⟨ab, ao, none⟩) N cc)), (27, (.int .i64 ((N : Nat) : Int))), (28, (.int .i64 ((s : Nat) : Int)))]) ∧ Chg none1 w0 W2 ∧ Chg none1 w99 W2 ∧ Blk W2 bp #[(.int .i64 d.start), (.slice aa d.accept.length ac), (.slice na d.next.length nc)] 25 ∧ Blk W2 br #[(.int .i64 0), (.slice none 0 0), (.slice none 0 0)] 25 ∧ Blk W2 bm #[(.int .i64 m.start), (.slice (some ⟨ab, ao, none⟩) N cc), (.slice (some ⟨nb, no, none⟩) N mc)] 25 ∧ Blk W2 bk #[(.int .i64 ((N : Nat) : Int))] 3 ∧ Blk W2 bz (((padS N Q s).map (Value.int .u8)).toArray) 5 ∧ (s ≤ N) ∧ nn_ = N - s) (n := N - 0) ?_ ?_
  · exact ⟨0, Fits.out ⟨rfl, rfl, rfl, rfl, rfl, rfl, rfl, trivial⟩, E, E2, Bp, Br, Bm, Bk, Bz, Nat.zero_le _, rfl⟩
  · clear E E2 Bp Br Bm Bk Bz
    rintro _ _ W2 ⟨s, ⟨j2, rfl⟩, E, E2, Bp, Br, Bm, Bk, Bz, hs, rfl⟩
    refine Wp_seq_region ?_
    refine WpL_val rfl rfl (by decide) (r_lss (k := .i64) (a := ((s : Nat) : Int)) (b := ((N : Nat) : Int)) rfl rfl) ?_
    refine WpL_nil ?_
    refine Wp_seq ?_
    refine Wp_cond (b := decide ((((s : Nat) : Int) : Int) < ((N : Nat) : Int))) rfl (fun hlt => ?_) (fun hlt => ?_)
    · have khlt := hlt
      replace hlt := of_decide_eq_true hlt
      obtain ⟨y, hy⟩ := get_of_lt (l := m.accept) (i := s) (by omega)
      have hQs : Q[s]? = some (decide (0 ≤ y)) := by rw [hQa, List.getElem?_map, hy]; rfl
      refine Wp_skip ?_
      refine thn_normal ?_
      refine Wp_seq ?_
      refine Wp_block ?_
      refine Wp_seq_region ?_
      refine WpL_val rfl rfl (by decide) (r_move (v := (.int .i64 ((s : Nat) : Int))) rfl) ?_
      refine WpL_val rfl rfl (by decide) (r_indexSlice (b := ab) (o := ao) (len := N) (cap := cc) (i := s) (o' := ao + s) rfl rfl rfl Try.underlying22 siz3 (by omega) (by omega)) ?_
      refine WpL_val rfl rfl (by decide) (r_load (v := (.int .i64 y)) rfl flat3 (E2.cell (fun f => f) (hax s y hy))) ?_
      refine WpL_val rfl rfl (by decide) (r_assign (v := (.int .i64 ((s : Nat) : Int))) rfl) ?_
      refine WpL_val rfl rfl (by decide) (r_assign (v := (.int .i64 y)) rfl) ?_
      refine WpL_nil ?_
      refine Wp_seq_region ?_
      refine WpL_val rfl rfl (by decide) (r_move (v := (.int .i64 y)) rfl) ?_
      refine WpL_val rfl rfl (by decide) (r_geq (k := .i64) (a := y) (b := 0) rfl rfl) ?_
      refine WpL_nil ?_
      refine Wp_cond (b := decide ((0 : Int) ≤ y)) rfl (fun hpos => ?_) (fun hpos => ?_)
      · have khpos := hpos
        replace hpos := of_decide_eq_true hpos
        rw [decide_eq_true hpos] at hQs
        refine Wp_region ?_
        refine WpL_val rfl rfl (by decide) (r_move (v := (.slice (some ⟨bz, 0, none⟩) N N)) rfl) ?_
        refine WpL_val rfl rfl (by decide) (r_move (v := (.int .i64 ((s : Nat) : Int))) rfl) ?_
        refine WpL_val rfl rfl (by decide) (r_indexSlice (b := bz) (o := 0) (len := N) (cap := N) (i := s) (o' := 0 + s) rfl rfl rfl Try.underlying62 siz5 (by omega) (by omega)) ?_
        refine s_store (b := bz) (o := 0 + s) (c' := ((padS N Q (s + 1)).map (Value.int .u8)).toArray) (v := (.int .u8 1)) rfl rfl rfl siz5 Bz (by have := padS_len hQl hs; simp; omega) (by rw [u8_setD, ← padS_set hQl hQs]; rfl) ?_
        intro w5 S5
        replace Bp := S5.keep (by omega) Bp
        replace Br := S5.keep (by omega) Br
        replace Bm := S5.keep (by omega) Bm
        replace Bk := S5.keep (by omega) Bk
        replace E := S5.step E (by first | exact Or.inl (by omega) | exact Or.inr rfl | exact Or.inr (by assumption) | exact Or.inr (by simp) | exact Or.inr (by omega) | exact Or.inr (by dsimp only; omega))
        replace E2 := S5.step E2 (Or.inl (by omega))
        replace Bz := S5.blk
        refine WpL_nil ?_
        refine inB_normal ?_
        refine thn_normal ?_
        refine Wp_region ?_
        refine WpL_val rfl rfl (by decide) (r_add (k := .i64) (a := ((s : Nat) : Int)) (b := 1) (c := ((s : Nat) : Int) + 1) rfl rfl (wI64 (by omega))) ?_
        refine WpL_val rfl rfl (by decide) (r_move (v := (.int .i64 (((s : Nat) : Int) + 1))) rfl) ?_
        refine WpL_nil ?_
        refine thn_normal ?_
        exact ⟨N - (s + 1), by omega, s + 1, Fits.out ⟨rfl, rfl, rfl, rfl, rfl, rfl, rfl, trivial⟩, E, E2, Bp, Br, Bm, Bk, Bz, (by omega), rfl⟩
      · have khpos := hpos
        replace hpos := of_decide_eq_false hpos
        rw [decide_eq_false hpos] at hQs
        rw [padS_keep hQl hQs] at Bz
        refine Wp_skip ?_
        refine inB_normal ?_
        refine thn_normal ?_
        refine Wp_region ?_
        refine WpL_val rfl rfl (by decide) (r_add (k := .i64) (a := ((s : Nat) : Int)) (b := 1) (c := ((s : Nat) : Int) + 1) rfl rfl (wI64 (by omega))) ?_
        refine WpL_val rfl rfl (by decide) (r_move (v := (.int .i64 (((s : Nat) : Int) + 1))) rfl) ?_
        refine WpL_nil ?_
        refine thn_normal ?_
        exact ⟨N - (s + 1), by omega, s + 1, Fits.out ⟨rfl, rfl, rfl, rfl, rfl, rfl, rfl, trivial⟩, E, E2, Bp, Br, Bm, Bk, Bz, (by omega), rfl⟩
    · have khlt := hlt
      replace hlt := of_decide_eq_false hlt
      have hsn : s = N := by omega
      rw [hsn, padS_all hQl] at Bz
      refine Wp_exit ?_
      refine thn_exit ?_
      refine thn_exit ?_
      refine inB_here ?_
      refine thn_normal ?_
      obtain ⟨n9, hn9⟩ : ∃ n9, n9 = (W2).heap.size := ⟨_, rfl⟩
      have hz_6 : w0.heap.size ≤ W2.heap.size := E.size
      have lz_6_bp : bp < W2.heap.size := Bp.lt
      have lz_6_br : br < W2.heap.size := Br.lt
      have lz_6_bm : bm < W2.heap.size := Bm.lt
      have lz_6_bk : bk < W2.heap.size := Bk.lt
      have lz_6_bz : bz < W2.heap.size := Bz.lt
      refine Wp_seq ?_
      obtain ⟨Fs6, hFs6⟩ : ∃ Fs : List FctS, Fs = [(fun _ _ v _ => v = (.slice (some ⟨bz, 0, none⟩) N N)), (fun _ _ v _ => v = (.string (encSw Q))), (fun _ _ v _ => v = (.pointer (some ⟨bm, 2, none⟩))), (fun _ _ v _ => v = (.slice (some ⟨nb, no, none⟩) N mc)), (fun _ _ v _ => v = (.pointer (some ⟨nb, no + 0, none⟩))), (fun _ _ v _ => v = (.slice ra c rc)), (fun _ _ v _ => v = (.int .i64 ((c : Nat) : Int))), (fun _ _ v _ => v = (.func (.func 58) #[] #[(.pointer (some ⟨bk, 0, none⟩)), (.pointer (some ⟨bm, 0, none⟩))])), (fun _ _ v _ => v = (.func (.func 59) #[] #[(.pointer (some ⟨bm, 0, none⟩))])), (fun S s v w => tupF 14 [(.bool true)] (expG c t (stpS N m) (accS m) (encSw Q) n9) S s v w), (fun S s v w => tupF 14 [(.bool true)] (expG c t (stpS N m) (accS m) (encSw Q) n9) S s v w), (fun S _ v w => S 14 = false → (expG c t (stpS N m) (accS m) (encSw Q) n9) v w), (fun _ _ v _ => v = (.bool true)), (fun S _ v w => S 14 = false → ((alF 25 #[(.int .i64 0), (.slice none 0 0), (.slice none 0 0)] W2.heap.size)) v w), (fun S s v w => putF 10 W2.heap.size 25 (expG c t (stpS N m) (accS m) (encSw Q) n9) S s v w), (fun _ _ v _ => v = undef)] := ⟨_, rfl⟩
      refine Wp_dagS (MsL [(14, (fun y => W2.heap.size ≤ y))]) [true, true, true, true, true, true, true, true, true, true, true, true, true, true, true, false] [15] [40, 41, 42, 43, 44, 45, 46, 47, 48, 49, 39, 50, 51, 10, 71, 72] [[], [0], [], [2], [3], [4], [5], [], [], [1, 6, 7, 8], [9], [10], [10], [], [0, 1, 2, 3, 4, 5, 6, 7, 8, 9, 10, 11, 13], []] [[], [0], [], [2], [3, 2], [4, 3, 2], [5, 4, 3, 2], [], [], [1, 0, 6, 5, 4, 3, 2, 7, 8], [9, 1, 0, 6, 5, 4, 3, 2, 7, 8], [10, 9, 1, 0, 6, 5, 4, 3, 2, 7, 8], [10, 9, 1, 0, 6, 5, 4, 3, 2, 7, 8], [], [0, 1, 2, 3, 4, 5, 6, 7, 8, 9, 10, 11, 13], []] Fs6 hFs6 (by kernel_rfl) mixed (by kernel_rfl) (by kernel_rfl) (by kernel_rfl) (by kernel_rfl) ?_ ?_
      · intro wd X0
        refine DagStepsS.cons (StabS.eq) (LocS.const) (fun S s' w' hi hN X U H => Or.inl ⟨Guarded_none rfl, ?_⟩) ?_
        · replace X := X.mono (M' := none1) (fun y _ h => by
              obtain ⟨j, hj, h⟩ := h
              rcases MsL_or h with ⟨rfl, h0⟩ | h0
              · exact Bool.noConfusion (hj.symm.trans (hN 14 rfl))
              exact h0.elim)
          exact DoesT_pure (r_move (v := (.slice (some ⟨bz, 0, none⟩) N N)) (U 7 rfl)) rfl
        refine DagStepsS.cons (StabS.eq) (LocS.const) (fun S s' w' hi hN X U H => Or.inl ⟨Guarded_none rfl, ?_⟩) ?_
        · replace X := X.mono (M' := none1) (fun y _ h => by
              obtain ⟨j, hj, h⟩ := h
              rcases MsL_or h with ⟨rfl, h0⟩ | h0
              · exact Bool.noConfusion (hj.symm.trans (hN 14 rfl))
              exact h0.elim)
          have e40 : s' 40 = (.slice (some ⟨bz, 0, none⟩) N N) := (H 0 rfl).2 40 (fun _ _ v _ => v = (.slice (some ⟨bz, 0, none⟩) N N)) rfl (by rw [hFs6]; rfl)
          exact DoesT_pure (r_bytesStr (l := Q.map bitS) Try.underlying62 Try.underlying5 Try.underlying9 e40 ((X0.trans X).keep Bz) (by simp [hQl])) rfl
        refine DagStepsS.cons (StabS.eq) (LocS.const) (fun S s' w' hi hN X U H => Or.inl ⟨Guarded_none rfl, ?_⟩) ?_
        · replace X := X.mono (M' := none1) (fun y _ h => by
              obtain ⟨j, hj, h⟩ := h
              rcases MsL_or h with ⟨rfl, h0⟩ | h0
              · exact Bool.noConfusion (hj.symm.trans (hN 14 rfl))
              exact h0.elim)
          exact DoesT_pure (r_fieldAddr (b := bm) (o := 0) (o' := 2) (U 5 rfl) Try.underlying25 rfl siz23 rfl) rfl
        refine DagStepsS.cons (StabS.eq) (LocS.const) (fun S s' w' hi hN X U H => Or.inl ⟨Guarded_none rfl, ?_⟩) ?_
        · replace X := X.mono (M' := none1) (fun y _ h => by
              obtain ⟨j, hj, h⟩ := h
              rcases MsL_or h with ⟨rfl, h0⟩ | h0
              · exact Bool.noConfusion (hj.symm.trans (hN 14 rfl))
              exact h0.elim)
          have e42 : s' 42 = (.pointer (some ⟨bm, 2, none⟩)) := (H 2 rfl).2 42 (fun _ _ v _ => v = (.pointer (some ⟨bm, 2, none⟩))) rfl (by rw [hFs6]; rfl)
          exact DoesT_pure (r_load (v := (.slice (some ⟨nb, no, none⟩) N mc)) e42 flat23 (((X0.trans X).keep Bm).cell rfl)) rfl
        refine DagStepsS.cons (StabS.eq) (LocS.const) (fun S s' w' hi hN X U H => Or.inl ⟨Guarded_none rfl, ?_⟩) ?_
        · replace X := X.mono (M' := none1) (fun y _ h => by
              obtain ⟨j, hj, h⟩ := h
              rcases MsL_or h with ⟨rfl, h0⟩ | h0
              · exact Bool.noConfusion (hj.symm.trans (hN 14 rfl))
              exact h0.elim)
          have e43 : s' 43 = (.slice (some ⟨nb, no, none⟩) N mc) := (H 3 rfl).2 43 (fun _ _ v _ => v = (.slice (some ⟨nb, no, none⟩) N mc)) rfl (by rw [hFs6]; rfl)
          exact DoesT_pure (r_indexSlice (b := nb) (o := no) (len := N) (cap := mc) (i := 0) (o' := no + 0) e43 rfl rfl Try.underlying23 siz22 (by omega) (by omega)) rfl
        refine DagStepsS.cons (StabS.eq) (LocS.const) (fun S s' w' hi hN X U H => Or.inl ⟨Guarded_none rfl, ?_⟩) ?_
        · replace X := X.mono (M' := none1) (fun y _ h => by
              obtain ⟨j, hj, h⟩ := h
              rcases MsL_or h with ⟨rfl, h0⟩ | h0
              · exact Bool.noConfusion (hj.symm.trans (hN 14 rfl))
              exact h0.elim)
          have e44 : s' 44 = (.pointer (some ⟨nb, no + 0, none⟩)) := (H 4 rfl).2 44 (fun _ _ v _ => v = (.pointer (some ⟨nb, no + 0, none⟩))) rfl (by rw [hFs6]; rfl)
          exact DoesT_pure (r_load (v := (.slice ra c rc)) e44 flat22 ((Ext.trans E2 (X0.trans X)).cell hcell)) rfl
        refine DagStepsS.cons (StabS.eq) (LocS.const) (fun S s' w' hi hN X U H => Or.inl ⟨Guarded_none rfl, ?_⟩) ?_
        · replace X := X.mono (M' := none1) (fun y _ h => by
              obtain ⟨j, hj, h⟩ := h
              rcases MsL_or h with ⟨rfl, h0⟩ | h0
              · exact Bool.noConfusion (hj.symm.trans (hN 14 rfl))
              exact h0.elim)
          have e45 : s' 45 = (.slice ra c rc) := (H 5 rfl).2 45 (fun _ _ v _ => v = (.slice ra c rc)) rfl (by rw [hFs6]; rfl)
          exact DoesT_pure (r_lenSlice (ad := ra) (n := c) (cap := rc) Try.underlying22 e45) rfl
        refine DagStepsS.cons (StabS.eq) (LocS.const) (fun S s' w' hi hN X U H => Or.inl ⟨Guarded_none rfl, ?_⟩) ?_
        · replace X := X.mono (M' := none1) (fun y _ h => by
              obtain ⟨j, hj, h⟩ := h
              rcases MsL_or h with ⟨rfl, h0⟩ | h0
              · exact Bool.noConfusion (hj.symm.trans (hN 14 rfl))
              exact h0.elim)
          exact DoesT_pure (r_makeFunc (vs := []) (us := [(.pointer (some ⟨bk, 0, none⟩)), (.pointer (some ⟨bm, 0, none⟩))]) rfl (lst2 (U 6 rfl) (U 5 rfl))) rfl
        refine DagStepsS.cons (StabS.eq) (LocS.const) (fun S s' w' hi hN X U H => Or.inl ⟨Guarded_none rfl, ?_⟩) ?_
        · replace X := X.mono (M' := none1) (fun y _ h => by
              obtain ⟨j, hj, h⟩ := h
              rcases MsL_or h with ⟨rfl, h0⟩ | h0
              · exact Bool.noConfusion (hj.symm.trans (hN 14 rfl))
              exact h0.elim)
          exact DoesT_pure (r_makeFunc (vs := []) (us := [(.pointer (some ⟨bm, 0, none⟩))]) rfl (lst1 (U 5 rfl))) rfl
        refine DagStepsS.cons (StabS.tup (U := none1) (expG_ext) (fun p y hp hw hpc h => by
              rcases MsL_or h with ⟨rfl, h0⟩ | h0
              · exact absurd rfl hpc
              exact h0.elim)) (LocS.const) (fun S s' w' hi hN X U H => Or.inl ⟨Guarded_none rfl, ?_⟩) ?_
        · replace X := X.mono (M' := none1) (fun y _ h => by
              obtain ⟨j, hj, h⟩ := h
              rcases MsL_or h with ⟨rfl, h0⟩ | h0
              · exact Bool.noConfusion (hj.symm.trans (hN 14 rfl))
              exact h0.elim)
          have e41 : s' 41 = (.string (encSw Q)) := (H 1 rfl).2 41 (fun _ _ v _ => v = (.string (encSw Q))) rfl (by rw [hFs6]; rfl)
          have e46 : s' 46 = (.int .i64 ((c : Nat) : Int)) := (H 6 rfl).2 46 (fun _ _ v _ => v = (.int .i64 ((c : Nat) : Int))) rfl (by rw [hFs6]; rfl)
          have e47 : s' 47 = (.func (.func 58) #[] #[(.pointer (some ⟨bk, 0, none⟩)), (.pointer (some ⟨bm, 0, none⟩))]) := (H 7 rfl).2 47 (fun _ _ v _ => v = (.func (.func 58) #[] #[(.pointer (some ⟨bk, 0, none⟩)), (.pointer (some ⟨bm, 0, none⟩))])) rfl (by rw [hFs6]; rfl)
          have e48 : s' 48 = (.func (.func 59) #[] #[(.pointer (some ⟨bm, 0, none⟩))]) := (H 8 rfl).2 48 (fun _ _ v _ => v = (.func (.func 59) #[] #[(.pointer (some ⟨bm, 0, none⟩))])) rfl (by rw [hFs6]; rfl)
          exact DoesT_weakT (DoesT_callE (r_callF (vs := [(.string (encSw Q)), (.int .i64 ((c : Nat) : Int)), (.func (.func 58) #[] #[(.pointer (some ⟨bk, 0, none⟩)), (.pointer (some ⟨bm, 0, none⟩))]), (.func (.func 59) #[] #[(.pointer (some ⟨bm, 0, none⟩))]), (.int .i64 200)]) Try.func57 nm57 bd57 (lst5 e41 e46 e47 e48 rfl)) (R := fun v w => ∃ u, v = .tuple (u :: [(.bool true)]).toArray ∧ (expG c t (stpS N m) (accS m) (encSw Q) n9) u w) ((explS_c _ (encSw Q) c 200 t _ _ (stpS N m) (accS m) hc (by decide) ht (by rw [hQ, hNe]; exact hfew m hm (by omega)) (fun k _ => accS_rng m k) (fun w k x hE hr hx => by obtain ⟨u, hu, rfl⟩ := rch_sets okm (hQ ▸ hr); exact CallV.mk (first := #[]) (cap := #[.pointer (some ⟨bk, 0, none⟩), .pointer (some ⟨bm, 0, none⟩)]) Try.func58 nm58 bd58 rfl ((back1_c w N c m _ (setW N m u) x bk bm okm (hmD.ext (Ext.trans E2 ((X0.trans X).trans hE))) (((X0.trans X).trans hE).keep Bm) (((X0.trans X).trans hE).keep Bk) (by simp [setW]) hx (by omega)).mono fun v w2 h => ⟨⟨encSw (preS N m (setW N m u) x), by rw [(stpS_res N m (setW N m u) x).1]; exact h.1, (stpS_res N m (setW N m u) x).2⟩, h.2⟩)) (fun w k hE hr => by obtain ⟨u, hu, rfl⟩ := rch_sets okm (hQ ▸ hr); exact CallV.mk (first := #[]) (cap := #[.pointer (some ⟨bm, 0, none⟩)]) Try.func59 nm59 bd59 rfl (back2_c w N c m _ (setW N m u) bm okm (hmD.ext (Ext.trans E2 ((X0.trans X).trans hE))) (((X0.trans X).trans hE).keep Bm) (by simp [setW])))).mono (fun v w h => by obtain ⟨⟨D, u, h3, h4, h5⟩, h6⟩ := h; obtain ⟨ea, ec, na, nc, vs, h7, h8⟩ := h5; exact ⟨⟨u, h4, D, ea, ec, na, nc, vs, h7, h3, h8.low (by have := X0.size; have := X.size; omega)⟩, h6⟩))) (fun v w h => by obtain ⟨u, h1, h2⟩ := h; exact ⟨u, h1, fun _ => h2⟩)
        refine DagStepsS.cons (StabS.tup (U := none1) (expG_ext) (fun p y hp hw hpc h => by
              rcases MsL_or h with ⟨rfl, h0⟩ | h0
              · exact absurd rfl hpc
              exact h0.elim)) (LocS.const) (fun S s' w' hi hN X U H => Or.inl ⟨Guarded_none rfl, ?_⟩) ?_
        · replace X := X.mono (M' := none1) (fun y _ h => by
              obtain ⟨j, hj, h⟩ := h
              rcases MsL_or h with ⟨rfl, h0⟩ | h0
              · exact Bool.noConfusion (hj.symm.trans (hN 14 rfl))
              exact h0.elim)
          exact DoesT_pure (r_move (v := s' 49) rfl) (by obtain ⟨u, h1, h2⟩ := (H 9 rfl).2 49 (fun S s v w => tupF 14 [(.bool true)] (expG c t (stpS N m) (accS m) (encSw Q) n9) S s v w) rfl (by rw [hFs6]; rfl); exact ⟨u, h1, fun _ => h2 (hN 14 rfl)⟩)
        refine DagStepsS.cons (StabS.till (U := none1) (expG_ext) (fun p y hp hw hpc h => by
              rcases MsL_or h with ⟨rfl, h0⟩ | h0
              · exact absurd rfl hpc
              exact h0.elim)) (LocS.const) (fun S s' w' hi hN X U H => Or.inl ⟨Guarded_none rfl, ?_⟩) ?_
        · replace X := X.mono (M' := none1) (fun y _ h => by
              obtain ⟨j, hj, h⟩ := h
              rcases MsL_or h with ⟨rfl, h0⟩ | h0
              · exact Bool.noConfusion (hj.symm.trans (hN 14 rfl))
              exact h0.elim)
          obtain ⟨u9, e9, g9⟩ := (H 10 rfl).2 39 (fun S s v w => tupF 14 [(.bool true)] (expG c t (stpS N m) (accS m) (encSw Q) n9) S s v w) rfl (by rw [hFs6]; rfl)
          exact DoesT_pure (r_extract (vs := (u9 :: [(.bool true)]).toArray) (v := u9) e9 rfl) (fun _ => g9 (hN 14 rfl))
        refine DagStepsS.cons (StabS.eq) (LocS.const) (fun S s' w' hi hN X U H => Or.inl ⟨Guarded_none rfl, ?_⟩) ?_
        · replace X := X.mono (M' := (fun y => (fun y => W2.heap.size ≤ y) y)) (fun y _ h => by
              obtain ⟨j, hj, h⟩ := h
              rcases MsL_or h with ⟨rfl, h0⟩ | h0
              · exact h0
              exact h0.elim)
          obtain ⟨u9, e9, _⟩ := (H 10 rfl).2 39 (fun S s v w => tupF 14 [(.bool true)] (expG c t (stpS N m) (accS m) (encSw Q) n9) S s v w) rfl (by rw [hFs6]; rfl)
          exact DoesT_pure (r_extract (vs := (u9 :: [(.bool true)]).toArray) (v := (.bool true)) e9 rfl) rfl
        refine DagStepsS.cons (StabS.till (U := none1) (fun v w w' x h => alF_ext _ _ _ v w w' x h) (fun p y hp hw hpc h => by
              rcases MsL_or h with ⟨rfl, h0⟩ | h0
              · exact absurd rfl hpc
              exact h0.elim)) (LocS.const) (fun S s' w' hi hN X U H => Or.inl ⟨Guarded_none rfl, ?_⟩) ?_
        · replace X := X.mono (M' := none1) (fun y _ h => by
              obtain ⟨j, hj, h⟩ := h
              rcases MsL_or h with ⟨rfl, h0⟩ | h0
              · exact Bool.noConfusion (hj.symm.trans (hN 14 rfl))
              exact h0.elim)
          exact DoesT_weakT (DoesT_alloc (c := #[(.int .i64 0), (.slice none 0 0), (.slice none 0 0)]) (hs := W2.heap.size) zer25 rfl (by have := X0.size; have := X.size; omega)) (R' := fun v w => insS S 13 14 = false → (alF 25 #[(.int .i64 0), (.slice none 0 0), (.slice none 0 0)] W2.heap.size) v w) (fun _ _ h _ => h)
        refine DagStepsS.cons (StabS.put (expG_ext) (fun p y hp hw h => by
              rcases MsL_or h with ⟨rfl, h0⟩ | h0
              · exact absurd rfl hp
              exact h0.elim)) (LocS.put (j := 13) rfl rfl) (fun S s' w' hi hN X U H => Or.inl ⟨Guarded_none rfl, ?_⟩) ?_
        · replace X := X.mono (M' := none1) (fun y _ h => by
              obtain ⟨j, hj, h⟩ := h
              rcases MsL_or h with ⟨rfl, h0⟩ | h0
              · exact Bool.noConfusion (hj.symm.trans hi)
              exact h0.elim)
          obtain ⟨b9, e9, B9, l9⟩ := ((H 13 rfl).2 10 (fun S _ v w => S 14 = false → ((alF 25 #[(.int .i64 0), (.slice none 0 0), (.slice none 0 0)] W2.heap.size)) v w) rfl (by rw [hFs6]; rfl)) hi
          have g9 := ((H 11 rfl).2 50 (fun S _ v w => S 14 = false → (expG c t (stpS N m) (accS m) (encSw Q) n9) v w) rfl (by rw [hFs6]; rfl)) hi
          exact DoesT_weakT (DoesT_bind (n := 3) e9 rfl g9 B9 rfl siz25 (expG_form) (expG_keep) (by exact .inl ⟨rfl, l9⟩)) (fun v w h => by obtain ⟨vs, h1, h2⟩ := h; exact ⟨b9, vs, e9, l9, h1, h2⟩)
        refine DagStepsS.tail ?_
        exact DagStepsS.nil
      · intro s' wd6 w6 X0 X6 U H
        replace X6 := X6.mono (M' := (fun y => (fun y => W2.heap.size ≤ y) y)) (fun y _ h => by
            obtain ⟨j, hj, h⟩ := h
            rcases MsL_or h with ⟨rfl, h0⟩ | h0
            · exact h0
            exact h0.elim)
        have e51 : s' 51 = (.bool true) := H 12 rfl 51 (fun _ _ v _ => v = (.bool true)) rfl (by rw [hFs6]; rfl)
        obtain ⟨b71, vs71, e71, l71, B71, g71⟩ := (show ((fun S s v w => putF 10 W2.heap.size 25 (expG c t (stpS N m) (accS m) (encSw Q) n9) S s v w) : FctS) (allS [true, true, true, true, true, true, true, true, true, true, true, true, true, true, true, false]) s' (s' 71) w6 from H 14 rfl 71 (fun S s v w => putF 10 W2.heap.size 25 (expG c t (stpS N m) (accS m) (encSw Q) n9) S s v w) rfl (by rw [hFs6]; rfl))
        obtain ⟨D71, ea71, ec71, na71, nc71, vs71, q71, p71, o71⟩ := g71
        cases q71
        obtain ⟨j6, rfl⟩ := Fits.out (σ := s') (l := [(2, (.pointer (some ⟨br, 0, none⟩))), (51, (.bool true)), (10, (.pointer (some ⟨b71, 0, none⟩)))]) ⟨U 2 rfl, e51, e71, trivial⟩
        clear U H
        replace Bp := Chg.keep X6 (fun h => by dsimp only at h; omega) (X0.keep Bp)
        replace Br := Chg.keep X6 (fun h => by dsimp only at h; omega) (X0.keep Br)
        replace Bm := Chg.keep X6 (fun h => by dsimp only at h; omega) (X0.keep Bm)
        replace Bk := Chg.keep X6 (fun h => by dsimp only at h; omega) (X0.keep Bk)
        replace Bz := Chg.keep X6 (fun h => by dsimp only at h; omega) (X0.keep Bz)
        replace E := (E.ext X0).step X6 (fun y hy h => by dsimp only at h; omega)
        refine WpL_val rfl rfl (by decide) (r_assign (v := (.bool true)) rfl) ?_
        refine WpL_nil ?_
        refine thn_normal ?_
        refine Wp_seq ?_
        refine Wp_seq_region ?_
        refine WpL_val rfl rfl (by decide) (r_move (v := (.bool true)) rfl) ?_
        refine WpL_val rfl rfl (by decide) (r_not (b := true) rfl) ?_
        refine WpL_nil ?_
        refine Wp_cond_false rfl ?_
        refine Wp_skip ?_
        refine thn_normal ?_
        refine Wp_seq_region ?_
        refine WpL_val rfl rfl (by decide) (r_loadAgg (vs := [(.int .i64 D71.start), (.slice ea71 D71.accept.length ec71), (.slice na71 D71.next.length nc71)]) rfl agg25 siz25 rfl (B71.cells rfl)) ?_
        obtain ⟨n10, hn10⟩ : ∃ n10, n10 = (w6).heap.size := ⟨_, rfl⟩
        have hn10b : w0.heap.size ≤ n10 ∧ br < n10 := ⟨by rw [hn10]; exact E.size, by rw [hn10]; exact Br.lt⟩
        refine WpL_enter rfl rfl (by decide) (r_callF (vs := [(.agg #[(.int .i64 D71.start), (.slice ea71 D71.accept.length ec71), (.slice na71 D71.next.length nc71)])]) Try.func56 nm56 bd56 rfl) (canon_f _ D71.next.length c D71 _ p71.ok o71.dfa ⟨by have := p71.most; omega, hc⟩ p71.acc) ?_
        rintro _ w89 ⟨⟨C, ca2, cc2, ma2, mc2, hC, hCl, hCa, rfl, hCN⟩, X89⟩
        replace Bp := X89.keep Bp
        replace Br := X89.keep Br
        replace Bm := X89.keep Bm
        replace Bk := X89.keep Bk
        replace Bz := X89.keep Bz
        replace B71 := X89.keep B71
        replace o71 := o71.ext X89
        replace E := E.ext X89
        rw [← hn10] at hCN
        refine s_storeAgg (b := br) (o := 0) (c' := #[(.int .i64 C.start), (.slice ca2 C.accept.length cc2), (.slice ma2 C.next.length mc2)]) rfl rfl (by simp [Value.oneCell']) siz25 rfl Br (by simp) rfl ?_
        intro w7 S7
        replace hCN := hCN.chg S7.chg fun y h => by have h' : y = br := h; omega
        replace Bp := S7.keep (by omega) Bp
        replace Bm := S7.keep (by omega) Bm
        replace Bk := S7.keep (by omega) Bk
        replace Bz := S7.keep (by omega) Bz
        replace B71 := S7.keep (by omega) B71
        replace E := S7.step E (by first | exact Or.inl (by omega) | exact Or.inr rfl | exact Or.inr (by assumption) | exact Or.inr (by simp) | exact Or.inr (by omega) | exact Or.inr (by dsimp only; omega))
        replace Br := S7.blk
        refine WpL_val rfl rfl (by decide) (r_assign (v := (.int .i64 0)) rfl) ?_
        refine WpL_nil ?_
        refine Wp_ret ?_
        refine fin_agg_tmp Try.results23 (vs := [(.int .i64 C.start), (.slice ca2 C.accept.length cc2), (.slice ma2 C.next.length mc2)]) (b := br) (v' := (.int .i64 0)) rfl agg25 siz25 rfl (Br.cells rfl) rfl ?_
        exact ⟨⟨C, ca2, cc2, ma2, mc2, hC.congr (fun w hw => by rw [p71.start, p71.beh w hw, hQ, behX_sets okm w, bhm _ hw.reverse]; rfl), by have := p71.most; omega, hCa, rfl, hCN.low hn10b.1⟩, E⟩
end Go.Proofs
namespace Go.Proofs
open Go Go.Eng Go.Sort
set_option maxRecDepth 100000
--BEGIN
def runN (d : Dfa) (s : Int) (w : List Nat) : Int := w.foldl (toD d) s
theorem OkD.runN {n c : Nat} {d : Dfa} (h : OkD n c d) (w : List Nat) : -1 ≤ runN d d.start w ∧ Go.Proofs.runN d d.start w < n := by
  have hst := h.st
  rcases List.eq_nil_or_concat w with rfl | ⟨u, x, rfl⟩
  · show -1 ≤ d.start ∧ d.start < n; omega
  · rw [List.concat_eq_append]
    simp only [Go.Proofs.runN, List.foldl_append, List.foldl_cons, List.foldl_nil]
    exact h.to
def bitsN : List Bool → Nat
  | [] => 0
  | b :: l => (if b then 1 else 0) + 2 * bitsN l
theorem bitsN_lt : ∀ (l : List Bool), bitsN l < 2 ^ l.length
  | [] => by decide
  | b :: l => by
    have := bitsN_lt l
    simp only [bitsN, List.length_cons, Nat.pow_succ]
    split <;> omega
theorem bitsN_inj : ∀ {l m : List Bool}, l.length = m.length → bitsN l = bitsN m → l = m
  | [], [], _, _ => rfl
  | [], _ :: _, h, _ => by simp at h
  | _ :: _, [], h, _ => by simp at h
  | a :: l, b :: m, h, he => by
    simp only [bitsN] at he
    have h1 : a = b := by
      cases a <;> cases b <;> simp at he ⊢ <;> omega
    have h2 : bitsN l = bitsN m := by
      subst h1
      omega
    rw [h1, bitsN_inj (by simpa using h) h2]
theorem few_bits {n c : Nat} {m : Dfa} (ok : OkD n c m) (hn : n ≤ 6) : FewK c (stpS n m) (encSw (setW n m [])) 64 := by
  refine few_sets ok (fun w => bitsN (setW n m w)) (fun w _ => ?_) (fun u w _ _ h => bitsN_inj (by simp [setW]) h)
  have h1 := bitsN_lt (setW n m w)
  have h2 : (setW n m w).length = n := by simp [setW]
  rw [h2] at h1
  have h3 : 2 ^ n ≤ 2 ^ 6 := Nat.pow_le_pow_right (by decide) hn
  show bitsN _ < 64
  omega
theorem first_at {F : List Int} (h : ∀ (k : Nat) x, F[k]? = some x → x ≤ mxL (F.take k) + 1) {j : Int} (hj : 0 < j) : ∀ p : Nat, p ≤ F.length → j ≤ mxL (F.take p) → ∃ k : Nat, k < p ∧ F[k]? = some j ∧ mxL (F.take k) < j
  | 0, _, h1 => by simp [mxL] at h1; omega
  | p + 1, hp, h1 => by
    rcases Int.lt_or_le (mxL (F.take p)) j with h2 | h2
    · obtain ⟨x, hx⟩ := get_of_lt (l := F) (i := p) (by omega)
      rw [take_get_snoc hx, mxL_snoc] at h1
      have h3 := h p x hx
      have : x = j := by omega
      subst this
      exact ⟨p, by omega, hx, h2⟩
    · obtain ⟨k, h3, h4, h5⟩ := first_at h hj p (by omega) h2
      exact ⟨k, by omega, h4, h5⟩
theorem Bfs.reach {n c : Nat} {C : Dfa} (b : Bfs n c C) : ∀ j : Nat, j < n → ∃ u, inW c u ∧ runN C 0 u = ((j : Nat) : Int) := by
  intro j
  induction j using Nat.strongRecOn with
  | ind j ih =>
    intro hj
    rcases Nat.eq_zero_or_pos j with rfl | hp
    · exact ⟨[], inW.nil c, rfl⟩
    · have hfl := flat_len (L := C.next) (c := c) fun r hr => (b.ok.row r hr).1
      rw [b.ok.nl] at hfl
      obtain ⟨k, h1, h2, h3⟩ := first_at b.ord (j := ((j : Nat) : Int)) (by omega) C.next.flatten.length (Nat.le_refl _) (by rw [List.take_length, b.fin]; omega)
      have hc : 0 < c := by
        rcases Nat.eq_zero_or_pos c with h | h
        · subst h; omega
        · exact h
      obtain ⟨i, x, rfl, hx⟩ : ∃ i x, k = i * c + x ∧ x < c := ⟨k / c, k % c, by rw [Nat.mul_comm]; exact (Nat.div_add_mod k c).symm, Nat.mod_lt _ hc⟩
      have hin : i < n := by
        apply Classical.byContradiction
        intro h
        have : n * c ≤ i * c := Nat.mul_le_mul_right c (by omega)
        omega
      have hmono : mxL (C.next.flatten.take (i * c)) ≤ mxL (C.next.flatten.take (i * c + x)) := mxL_take (by omega)
      have hri := b.rch i hin
      obtain ⟨u, hu, hr⟩ := ih i (by omega) hin
      refine ⟨u ++ [x], hu.snoc hx, ?_⟩
      rw [ent_to b.ok hin hx] at h2
      simp only [runN, List.foldl_append, List.foldl_cons, List.foldl_nil] at hr ⊢
      rw [hr]
      exact Option.some.inj h2
def bD : Dfa := ⟨0, [-1, 7], [[1], [-1]]⟩
def bkD : Dfa := ⟨0, [-1, 0], [[1], [-1]]⟩
theorem bD_ok : OkD 2 1 bD := ⟨rfl, rfl, by decide, by decide, by decide⟩
theorem rev_one : ∀ {w : List Nat}, inW 1 w → w.reverse = w := fun {w} h => by
  have : w = List.replicate w.length 0 := List.eq_replicate_iff.2 ⟨rfl, fun x hx => by have := h x hx; omega⟩
  rw [this, List.reverse_replicate]
theorem can_bk : CanOf 1 (revB (beh bD bD.start)) bkD := by
  refine (canB_can (m := 2) (W := [[], [0], [0, 0]]) (by decide)).congr fun w hw => ?_
  unfold revB
  rw [rev_one hw]
  refine beh_one (f := fun y => if 0 ≤ y then 0 else -1) (fun s t => s = t ∧ (s = 0 ∨ s = 1 ∨ s = -1)) (fun s t h => ?_) (fun s t h => ?_) w hw 0 0 ⟨rfl, .inl rfl⟩
  · obtain ⟨rfl, rfl | rfl | rfl⟩ := h <;> decide
  · obtain ⟨rfl, rfl | rfl | rfl⟩ := h <;> decide
--END
end Go.Proofs
namespace Go.Proofs
open Go Go.Eng Go.Sort
set_option maxRecDepth 100000
--BEGIN
def stpB (a b : Dfa) (p : Int × Int) (x : Nat) : Option (Int × Int) := some (toD a p.1 x, toD b p.2 x)
structure BSt (α : Type) where
  work : List α
  ws : List (List Nat)
  i : Nat
  x : Nat
section
variable {α : Type} [DecidableEq α]
def nextB (c : Nat) (stp : α → Nat → Option α) (tgt : α → Bool) (s : BSt α) : Option (BSt α) :=
  match s.work[s.i]?, s.ws[s.i]? with
  | some a, some v =>
    if s.x = 0 ∧ tgt a = true then none
    else if s.x < c then match stp a s.x with
      | none => some { s with x := s.x + 1 }
      | some b => if b ∈ s.work then some { s with x := s.x + 1 } else some ⟨s.work ++ [b], s.ws ++ [v ++ [s.x]], s.i, s.x + 1⟩
    else some { s with i := s.i + 1, x := 0 }
  | _, _ => none
def iterB (c : Nat) (stp : α → Nat → Option α) (tgt : α → Bool) : Nat → BSt α → Option (BSt α)
  | 0, s => some s
  | k + 1, s => (iterB c stp tgt k s).bind (nextB c stp tgt)
def ReachB (c : Nat) (stp : α → Nat → Option α) (tgt : α → Bool) (a0 : α) (s : BSt α) : Prop := ∃ k, iterB c stp tgt k ⟨[a0], [[]], 0, 0⟩ = some s
theorem ReachB.step {c : Nat} {stp : α → Nat → Option α} {tgt : α → Bool} {a0 : α} {s t : BSt α} (h : ReachB c stp tgt a0 s) (hn : nextB c stp tgt s = some t) : ReachB c stp tgt a0 t := by
  obtain ⟨k, hk⟩ := h
  exact ⟨k + 1, by simp only [iterB, hk, Option.bind_some, hn]⟩
variable {c : Nat} {stp : α → Nat → Option α} {tgt : α → Bool} {work : List α} {ws : List (List Nat)} {i x : Nat} {a b : α} {v : List Nat}
end
def tgtB (a b : Dfa) (p : Int × Int) : Bool := decide (atD a p.1 ≠ atD b p.2)
/-- What Same tells. -/
structure SameOf (c : Nat) (a b : Dfa) (ok : Bool) (w : List Nat) : Prop where
  yes : ok = true → w = [] ∧ ∀ u, inW c u → beh a a.start u = beh b b.start u
  no : ok = false → inW c w ∧ beh a a.start w ≠ beh b b.start w ∧ ∀ u, inW c u → u.length < w.length → beh a a.start u = beh b b.start u
  run : ∃ s, ReachB c (stpB a b) (tgtB a b) (a.start, b.start) s ∧ nextB c (stpB a b) (tgtB a b) s = none ∧ (ok = false → s.ws[s.i]? = some w) ∧ (ok = decide (s.work.length ≤ s.i))
/-- The nodes of the list: a pair, where it comes from, and the symbol. -/
structure NdOf (work : List (Int × Int)) (ps : List (Nat × Nat)) (nds : List (Int × Int × Int × Int)) : Prop where
  len : nds.length = work.length
  at' : ∀ (k : Nat) p, work[k]? = some p → ∃ f y, nds[k]? = some (p.1, p.2, f, y) ∧ (k = 0 → f = -1) ∧ (0 < k → ∀ j z, ps[k]? = some (j, z) → f = ((j : Nat) : Int) ∧ y = ((z : Nat) : Int))
theorem NdOf.start (p : Int × Int) (q : Nat × Nat) : NdOf [p] [q] [(p.1, p.2, -1, -1)] := ⟨rfl, fun k r h => by
  obtain ⟨rfl, rfl⟩ := one_get h
  exact ⟨-1, -1, rfl, fun _ => rfl, fun h => by omega⟩⟩
theorem NdOf.push {work : List (Int × Int)} {ps : List (Nat × Nat)} {nds : List (Int × Int × Int × Int)} (h : NdOf work ps nds) (hp : ps.length = work.length) (h0 : 0 < work.length) (p : Int × Int) (i x : Nat) : NdOf (work ++ [p]) (ps ++ [(i, x)]) (nds ++ [(p.1, p.2, ((i : Nat) : Int), ((x : Nat) : Int))]) := by
  refine ⟨by simp [h.len], fun k r hr => ?_⟩
  rcases snoc_get hr with h1 | ⟨h1, h2⟩
  · obtain ⟨f, y, h3, h4, h5⟩ := h.at' k r h1
    refine ⟨f, y, by rw [List.getElem?_append_left (lt_of_get h3)]; exact h3, h4, fun hk j z hj => h5 hk j z ?_⟩
    rwa [List.getElem?_append_left (by have := lt_of_get h1; omega)] at hj
  · subst h2
    refine ⟨((i : Nat) : Int), ((x : Nat) : Int), by rw [h1, ← h.len]; simp, fun hk => by omega, fun _ j z hj => ?_⟩
    rw [h1, ← hp] at hj
    simp at hj
    exact ⟨by rw [hj.1], by rw [hj.2]⟩
end Go.Proofs
namespace Go.Proofs
open Go Go.Eng Go.Sort
set_option maxRecDepth 100000
theorem bD_at {w : World} {a p q n T1 T2 T3 T4 : Nat} (Ba : Blk w a #[.int .i64 (-1), .int .i64 7] T1) (Bp : Blk w p #[.int .i64 1] T2) (Bq : Blk w q #[.int .i64 (-1)] T3) (Bn : Blk w n #[.slice (some ⟨p, 0, none⟩) 1 1, .slice (some ⟨q, 0, none⟩) 1 1] T4) :
    DfaAt w bD [.int .i64 0, .slice (some ⟨a, 0, none⟩) 2 2, .slice (some ⟨n, 0, none⟩) 2 2] := by
  refine ⟨_, _, _, _, rfl, ints_own (l := [-1, 7]) (rest := []) Ba (by decide) (by decide), [.slice (some ⟨p, 0, none⟩) 1 1, .slice (some ⟨q, 0, none⟩) 1 1], ⟨_, _, rfl, by simp, by simp, .inr ⟨n, 0, rfl, ?_⟩⟩, rfl, ?_⟩
  · intro i r hr
    rcases i with _ | _ | i
    · simp at hr; subst hr
      intro j u hu
      cases j with
      | zero => simp at hu; subst hu; exact Bn.cell rfl
      | succ j => simp at hu
    · simp at hr; subst hr
      intro j u hu
      cases j with
      | zero => simp at hu; subst hu; exact Bn.cell rfl
      | succ j => simp at hu
    · simp at hr
  · intro i u l hu hl
    rcases i with _ | _ | i
    · simp [bD] at hu hl; subst hu; subst hl; exact ints_own (l := [1]) (rest := []) Bp (by decide) (by decide)
    · simp [bD] at hu hl; subst hu; subst hl; exact ints_own (l := [-1]) (rest := []) Bq (by decide) (by decide)
    · simp at hu
def evnF : Fct := fun v w => ∃ aa ac na nc, v = .agg #[.int .i64 0, .slice aa 2 ac, .slice na 2 nc] ∧ DfaAt w evnD [.int .i64 0, .slice aa 2 ac, .slice na 2 nc]
theorem evnF_ext : ∀ v w w', Ext w w' → evnF v w → evnF v w' := by
  rintro v w w' e ⟨aa, ac, na, nc, h1, h2⟩
  exact ⟨aa, ac, na, nc, h1, h2.ext e⟩
set_option maxHeartbeats 4000000 in
theorem mbegun_c (w0 : World) : Ret Try.prog 20 #[] w0 fun r w => r = .bool true ∧ Ext w0 w := by
  refine Ret_of Try.func20 rfl Try.ntmps20 (Nat.le_of_ble_eq_true rfl) ?_
  have E : Chg none1 w0 w0 := Chg.refl _ _
  refine Wp_seq_region ?_
  refine WpL_val rfl rfl (by decide) (r_assign (v := (.bool false)) rfl) ?_
  refine WpL_nil ?_
  refine Wp_seq_region ?_
  refine WpL_enter rfl rfl (by decide) (r_callF (vs := []) Try.func27 nm27 bd27 rfl) (evn_d _) ?_
  rintro _ w9 ⟨⟨aa, ac, na, nc, rfl, hv⟩, X9⟩
  replace E := E.ext X9
  refine WpL_enter rfl rfl (by decide) (r_callF (vs := [(.agg #[(.int .i64 0), (.slice aa 2 ac), (.slice na 2 nc)])]) Try.func22 nm22 bd22 rfl) (miniMin_c _ 2 1 evnD _ evn_ok hv (by decide) (by decide) evnD_acc) ?_
  rintro _ w19 ⟨⟨C1, ca1, cc1, ma1, mc1, hC1, hl1, hx1, rfl, hN1⟩, X19⟩
  replace E := E.ext X19
  have hD1 := hN1.at'
  have he1 := CanOf.uniq hC1 can_evn (fun w _ => rfl)
  refine WpL_val rfl rfl (by decide) (r_move (v := (.tuple #[(.agg #[(.int .i64 C1.start), (.slice ca1 C1.accept.length cc1), (.slice ma1 C1.next.length mc1)]), (.int .i64 0)])) rfl) ?_
  refine WpL_val rfl rfl (by decide) (r_extract (vs := #[(.agg #[(.int .i64 C1.start), (.slice ca1 C1.accept.length cc1), (.slice ma1 C1.next.length mc1)]), (.int .i64 0)]) (v := (.agg #[(.int .i64 C1.start), (.slice ca1 C1.accept.length cc1), (.slice ma1 C1.next.length mc1)])) rfl rfl) ?_
  refine WpL_val rfl rfl (by decide) (r_extract (vs := #[(.agg #[(.int .i64 C1.start), (.slice ca1 C1.accept.length cc1), (.slice ma1 C1.next.length mc1)]), (.int .i64 0)]) (v := (.int .i64 0)) rfl rfl) ?_
  refine s_allocStore (v := (.agg #[(.int .i64 C1.start), (.slice ca1 C1.accept.length cc1), (.slice ma1 C1.next.length mc1)])) (c := #[(.int .i64 C1.start), (.slice ca1 C1.accept.length cc1), (.slice ma1 C1.next.length mc1)]) (n := 3) (by decide) zer25 rfl siz25 rfl rfl rfl (by simp [Value.oneCell']) ?_
  intro bd wd Nd
  have Fd := Nd.ge E
  replace hD1 := hD1.ext Nd.ext
  replace E := E.ext Nd.ext
  have Bd := Nd.blk
  refine WpL_val rfl rfl (by decide) (r_assign (v := (.int .i64 0)) rfl) ?_
  refine WpL_nil ?_
  refine Wp_seq_region ?_
  refine s_buildSlice (ps := [(0, (.int .i64 (-1))), (1, (.int .i64 7))]) (c := #[(.int .i64 (-1)), (.int .i64 7)]) (by decide) rfl Try.underlying22 siz3 zer3 (by decide) (by decide) (by kernel_rfl) ?_
  intro bp wp Np
  have Fp := Np.ge E
  have Op_bd := Np.lt Bd
  replace Bd := Np.keep Bd
  replace hD1 := hD1.ext Np.ext
  replace E := E.ext Np.ext
  have Bp := Np.blk
  refine s_buildSlice (ps := [(0, (.int .i64 1))]) (c := #[(.int .i64 1)]) (by decide) rfl Try.underlying22 siz3 zer3 (by decide) (by decide) (by kernel_rfl) ?_
  intro bq wq Nq
  have Fq := Nq.ge E
  have Oq_bd := Nq.lt Bd
  have Oq_bp := Nq.lt Bp
  replace Bd := Nq.keep Bd
  replace Bp := Nq.keep Bp
  replace hD1 := hD1.ext Nq.ext
  replace E := E.ext Nq.ext
  have Bq := Nq.blk
  refine s_buildSlice (ps := [(0, (.int .i64 (-1)))]) (c := #[(.int .i64 (-1))]) (by decide) rfl Try.underlying22 siz3 zer3 (by decide) (by decide) (by kernel_rfl) ?_
  intro br wr Nr
  have Fr := Nr.ge E
  have Or_bd := Nr.lt Bd
  have Or_bp := Nr.lt Bp
  have Or_bq := Nr.lt Bq
  replace Bd := Nr.keep Bd
  replace Bp := Nr.keep Bp
  replace Bq := Nr.keep Bq
  replace hD1 := hD1.ext Nr.ext
  replace E := E.ext Nr.ext
  have Br := Nr.blk
  refine s_buildSlice (ps := [(0, (.slice (some ⟨bq, 0, none⟩) 1 1)), (1, (.slice (some ⟨br, 0, none⟩) 1 1))]) (c := #[(.slice (some ⟨bq, 0, none⟩) 1 1), (.slice (some ⟨br, 0, none⟩) 1 1)]) (by decide) rfl Try.underlying23 siz22 zer22 (by decide) (by decide) (by kernel_rfl) ?_
  intro bs ws Ns
  have Fs := Ns.ge E
  have Os_bd := Ns.lt Bd
  have Os_bp := Ns.lt Bp
  have Os_bq := Ns.lt Bq
  have Os_br := Ns.lt Br
  replace Bd := Ns.keep Bd
  replace Bp := Ns.keep Bp
  replace Bq := Ns.keep Bq
  replace Br := Ns.keep Br
  replace hD1 := hD1.ext Ns.ext
  replace E := E.ext Ns.ext
  have Bs := Ns.blk
  refine WpL_val rfl rfl (by decide) (r_build (ps := [(1, (.slice (some ⟨bp, 0, none⟩) 2 2)), (2, (.slice (some ⟨bs, 0, none⟩) 2 2))]) (v := (.agg #[(.int .i64 0), (.slice (some ⟨bp, 0, none⟩) 2 2), (.slice (some ⟨bs, 0, none⟩) 2 2)])) rfl (by kernel_rfl)) ?_
  refine WpL_enter rfl rfl (by decide) (r_callF (vs := [(.agg #[(.int .i64 0), (.slice (some ⟨bp, 0, none⟩) 2 2), (.slice (some ⟨bs, 0, none⟩) 2 2)])]) Try.func23 nm23 bd23 rfl) (back_c _ 2 1 64 bD _ bD_ok (bD_at Bp Bq Br Bs) (by decide) (by decide) (by decide) (by decide) (fun m hm hl => few_bits hm.ok.1 (by omega))) ?_
  rintro _ w29 ⟨⟨C2, ca2, cc2, ma2, mc2, hC2, hl2, hx2, rfl, hN2⟩, X29⟩
  replace Bd := X29.keep Bd
  replace Bp := X29.keep Bp
  replace Bq := X29.keep Bq
  replace Br := X29.keep Br
  replace Bs := X29.keep Bs
  replace hD1 := hD1.ext X29
  replace E := E.ext X29
  have hD2 := hN2.at'
  have he2 := CanOf.uniq hC2 can_bk (fun w _ => rfl)
  have hlen2 : C2.next.length = 2 ∧ C2.accept.length = 2 := by rw [he2]; exact ⟨rfl, rfl⟩
  obtain ⟨hAcc2, _⟩ := hD2.parts
  obtain ⟨cb, co, rfl, hcx⟩ := ints_cells hAcc2 (by omega)
  have hc1 := hcx 1 0 (by rw [he2]; rfl)
  refine WpL_val rfl rfl (by decide) (r_move (v := (.tuple #[(.agg #[(.int .i64 C2.start), (.slice (some ⟨cb, co, none⟩) C2.accept.length cc2), (.slice ma2 C2.next.length mc2)]), (.int .i64 0)])) rfl) ?_
  refine WpL_val rfl rfl (by decide) (r_extract (vs := #[(.agg #[(.int .i64 C2.start), (.slice (some ⟨cb, co, none⟩) C2.accept.length cc2), (.slice ma2 C2.next.length mc2)]), (.int .i64 0)]) (v := (.agg #[(.int .i64 C2.start), (.slice (some ⟨cb, co, none⟩) C2.accept.length cc2), (.slice ma2 C2.next.length mc2)])) rfl rfl) ?_
  refine WpL_val rfl rfl (by decide) (r_extract (vs := #[(.agg #[(.int .i64 C2.start), (.slice (some ⟨cb, co, none⟩) C2.accept.length cc2), (.slice ma2 C2.next.length mc2)]), (.int .i64 0)]) (v := (.int .i64 0)) rfl rfl) ?_
  refine s_allocStore (v := (.agg #[(.int .i64 C2.start), (.slice (some ⟨cb, co, none⟩) C2.accept.length cc2), (.slice ma2 C2.next.length mc2)])) (c := #[(.int .i64 C2.start), (.slice (some ⟨cb, co, none⟩) C2.accept.length cc2), (.slice ma2 C2.next.length mc2)]) (n := 3) (by decide) zer25 rfl siz25 rfl rfl rfl (by simp [Value.oneCell']) ?_
  intro be we Ne
  have Fe := Ne.ge E
  have Oe_bd := Ne.lt Bd
  have Oe_bp := Ne.lt Bp
  have Oe_bq := Ne.lt Bq
  have Oe_br := Ne.lt Br
  have Oe_bs := Ne.lt Bs
  replace Bd := Ne.keep Bd
  replace Bp := Ne.keep Bp
  replace Bq := Ne.keep Bq
  replace Br := Ne.keep Br
  replace Bs := Ne.keep Bs
  replace hD1 := hD1.ext Ne.ext
  replace hc1 := Ne.ext.cell hc1
  replace E := E.ext Ne.ext
  have Be := Ne.blk
  refine WpL_val rfl rfl (by decide) (r_assign (v := (.int .i64 0)) rfl) ?_
  refine WpL_nil ?_
  have hk1 : decide (((C2.next.length : Nat) : Int) = 2) = true := decide_eq_true (by omega)
  have hq2 : decide (C1 = evnD) = true := decide_eq_true he1
  have hz_1 : w0.heap.size ≤ we.heap.size := E.size
  have lz_1_bd : bd < we.heap.size := Bd.lt
  have lz_1_bp : bp < we.heap.size := Bp.lt
  have lz_1_bq : bq < we.heap.size := Bq.lt
  have lz_1_br : br < we.heap.size := Br.lt
  have lz_1_bs : bs < we.heap.size := Bs.lt
  have lz_1_be : be < we.heap.size := Be.lt
  refine Wp_seq ?_
  obtain ⟨Fs1, hFs1⟩ : ∃ Fs : List FctS, Fs = [(fun _ _ v _ => v = (.int .i64 0)), (fun _ _ v _ => v = (.bool true)), (fun _ _ v _ => v = (.bool true)), (fun _ _ v _ => v = (.int .i64 0)), (fun _ _ v _ => v = (.bool true)), (fun _ _ v _ => v = (.bool true)), (fun _ _ v _ => v = (.bool true)), (fun _ _ v _ => v = (.agg #[(.int .i64 C1.start), (.slice ca1 C1.accept.length cc1), (.slice ma1 C1.next.length mc1)])), (fun _ _ => evnF), (fun _ _ v _ => v = (.bool true)), (fun _ _ v _ => v = (.bool true)), (fun _ _ v _ => v = (.bool true)), (fun _ _ v _ => v = (.pointer (some ⟨be, 2, none⟩))), (fun _ _ v _ => v = (.slice ma2 C2.next.length mc2)), (fun _ _ v _ => v = (.int .i64 ((C2.next.length : Nat) : Int))), (fun _ _ v _ => v = (.bool true)), (fun _ _ v _ => v = (.bool true)), (fun _ _ v _ => v = (.bool true)), (fun _ _ v _ => v = (.pointer (some ⟨be, 1, none⟩))), (fun _ _ v _ => v = (.slice (some ⟨cb, co, none⟩) C2.accept.length cc2)), (fun _ _ v _ => v = (.pointer (some ⟨cb, co + 1, none⟩))), (fun _ _ v _ => v = (.int .i64 0)), (fun _ _ v _ => v = (.bool true)), (fun _ _ v _ => v = (.bool true)), (fun _ _ v _ => v = undef)] := ⟨_, rfl⟩
  refine Wp_dagS (MsL []) [true, true, true, true, true, true, true, true, true, true, true, true, true, true, true, true, true, true, true, true, true, true, true, true, false] [24] [19, 20, 21, 22, 23, 24, 25, 26, 27, 28, 29, 30, 31, 32, 33, 34, 35, 36, 37, 38, 39, 40, 41, 42, 67] [[], [0], [1], [2], [2, 3], [2, 4], [2, 5], [6], [6], [6, 7, 8], [6, 9], [9, 10], [11], [11, 12], [11, 13], [11, 14], [11, 15], [11, 16], [17], [17, 18], [17, 19], [17, 20], [17, 21], [17, 22], []] [[], [0], [1, 0], [2, 1, 0], [2, 1, 0, 3], [2, 1, 0, 4, 3], [2, 1, 0, 5, 4, 3], [6, 2, 1, 0, 5, 4, 3], [6, 2, 1, 0, 5, 4, 3], [6, 2, 1, 0, 5, 4, 3, 7, 8], [6, 2, 1, 0, 5, 4, 3, 9, 7, 8], [9, 6, 2, 1, 0, 5, 4, 3, 7, 8, 10], [11, 9, 6, 2, 1, 0, 5, 4, 3, 7, 8, 10], [11, 9, 6, 2, 1, 0, 5, 4, 3, 7, 8, 10, 12], [11, 9, 6, 2, 1, 0, 5, 4, 3, 7, 8, 10, 13, 12], [11, 9, 6, 2, 1, 0, 5, 4, 3, 7, 8, 10, 14, 13, 12], [11, 9, 6, 2, 1, 0, 5, 4, 3, 7, 8, 10, 15, 14, 13, 12], [11, 9, 6, 2, 1, 0, 5, 4, 3, 7, 8, 10, 16, 15, 14, 13, 12], [17, 11, 9, 6, 2, 1, 0, 5, 4, 3, 7, 8, 10, 16, 15, 14, 13, 12], [17, 11, 9, 6, 2, 1, 0, 5, 4, 3, 7, 8, 10, 16, 15, 14, 13, 12, 18], [17, 11, 9, 6, 2, 1, 0, 5, 4, 3, 7, 8, 10, 16, 15, 14, 13, 12, 19, 18], [17, 11, 9, 6, 2, 1, 0, 5, 4, 3, 7, 8, 10, 16, 15, 14, 13, 12, 20, 19, 18], [17, 11, 9, 6, 2, 1, 0, 5, 4, 3, 7, 8, 10, 16, 15, 14, 13, 12, 21, 20, 19, 18], [17, 11, 9, 6, 2, 1, 0, 5, 4, 3, 7, 8, 10, 16, 15, 14, 13, 12, 22, 21, 20, 19, 18], []] Fs1 hFs1 (by kernel_rfl) mixed (by kernel_rfl) (by kernel_rfl) (by kernel_rfl) (by kernel_rfl) ?_ ?_
  · intro wd X0
    refine DagStepsS.cons (StabS.eq) (LocS.const) (fun S s' w' hi hN X U H => Or.inl ⟨Guarded_none rfl, ?_⟩) ?_
    · replace X := X.mono (M' := none1) (fun y _ h => by
          obtain ⟨j, hj, h⟩ := h
          exact h.elim)
      exact DoesT_pure (r_move (v := (.int .i64 0)) (U 2 rfl)) rfl
    refine DagStepsS.cons (StabS.eq) (LocS.const) (fun S s' w' hi hN X U H => Or.inl ⟨Guarded_none rfl, ?_⟩) ?_
    · replace X := X.mono (M' := none1) (fun y _ h => by
          obtain ⟨j, hj, h⟩ := h
          exact h.elim)
      have e19 : s' 19 = (.int .i64 0) := (H 0 rfl).2 19 (fun _ _ v _ => v = (.int .i64 0)) rfl (by rw [hFs1]; rfl)
      exact DoesT_pure (r_eql (k := .i64) (a := 0) (b := 0) e19 rfl) rfl
    refine DagStepsS.cons (StabS.eq) (LocS.const) (fun S s' w' hi hN X U H => Or.inl ⟨Guarded_none rfl, ?_⟩) ?_
    · replace X := X.mono (M' := none1) (fun y _ h => by
          obtain ⟨j, hj, h⟩ := h
          exact h.elim)
      have e20 : s' 20 = (.bool true) := (H 1 rfl).2 20 (fun _ _ v _ => v = (.bool true)) rfl (by rw [hFs1]; rfl)
      exact DoesT_pure (r_move (v := (.bool true)) e20) rfl
    refine DagStepsS.cons (StabS.eq) (LocS.const) (fun S s' w' hi hN X U H => Or.inl ⟨Guarded_some rfl rfl (d := 21) ((H 2 rfl).2 21 (fun _ _ v _ => v = (.bool true)) rfl (by rw [hFs1]; rfl)), ?_⟩) ?_
    · replace X := X.mono (M' := none1) (fun y _ h => by
          obtain ⟨j, hj, h⟩ := h
          exact h.elim)
      exact DoesT_pure (r_move (v := (.int .i64 0)) (U 4 rfl)) rfl
    refine DagStepsS.cons (StabS.eq) (LocS.const) (fun S s' w' hi hN X U H => Or.inl ⟨Guarded_some rfl rfl (d := 21) ((H 2 rfl).2 21 (fun _ _ v _ => v = (.bool true)) rfl (by rw [hFs1]; rfl)), ?_⟩) ?_
    · replace X := X.mono (M' := none1) (fun y _ h => by
          obtain ⟨j, hj, h⟩ := h
          exact h.elim)
      have e22 : s' 22 = (.int .i64 0) := (H 3 rfl).2 22 (fun _ _ v _ => v = (.int .i64 0)) rfl (by rw [hFs1]; rfl)
      exact DoesT_pure (r_eql (k := .i64) (a := 0) (b := 0) e22 rfl) rfl
    refine DagStepsS.cons (StabS.eq) (LocS.const) (fun S s' w' hi hN X U H => Or.inl ⟨Guarded_none rfl, ?_⟩) ?_
    · replace X := X.mono (M' := none1) (fun y _ h => by
          obtain ⟨j, hj, h⟩ := h
          exact h.elim)
      have e21 : s' 21 = (.bool true) := (H 2 rfl).2 21 (fun _ _ v _ => v = (.bool true)) rfl (by rw [hFs1]; rfl)
      have e23 : s' 23 = (.bool true) := (H 4 rfl).2 23 (fun _ _ v _ => v = (.bool true)) rfl (by rw [hFs1]; rfl)
      exact DoesT_pure (r_pick (b := true) (v := (.bool true)) e21 e23) rfl
    refine DagStepsS.cons (StabS.eq) (LocS.const) (fun S s' w' hi hN X U H => Or.inl ⟨Guarded_none rfl, ?_⟩) ?_
    · replace X := X.mono (M' := none1) (fun y _ h => by
          obtain ⟨j, hj, h⟩ := h
          exact h.elim)
      have e24 : s' 24 = (.bool true) := (H 5 rfl).2 24 (fun _ _ v _ => v = (.bool true)) rfl (by rw [hFs1]; rfl)
      exact DoesT_pure (r_move (v := (.bool true)) e24) rfl
    refine DagStepsS.cons (StabS.eq) (LocS.const) (fun S s' w' hi hN X U H => Or.inl ⟨Guarded_some rfl rfl (d := 25) ((H 6 rfl).2 25 (fun _ _ v _ => v = (.bool true)) rfl (by rw [hFs1]; rfl)), ?_⟩) ?_
    · replace X := X.mono (M' := none1) (fun y _ h => by
          obtain ⟨j, hj, h⟩ := h
          exact h.elim)
      exact DoesT_pure (r_loadAgg (vs := [(.int .i64 C1.start), (.slice ca1 C1.accept.length cc1), (.slice ma1 C1.next.length mc1)]) (U 1 rfl) agg25 siz25 rfl (((X0.trans X).keep Bd).cells rfl)) rfl
    refine DagStepsS.cons (StabS.chg (U := none1) (evnF_ext) (fun p y hp hw h => by
          exact h.elim)) (LocS.const) (fun S s' w' hi hN X U H => Or.inl ⟨Guarded_some rfl rfl (d := 25) ((H 6 rfl).2 25 (fun _ _ v _ => v = (.bool true)) rfl (by rw [hFs1]; rfl)), ?_⟩) ?_
    · replace X := X.mono (M' := none1) (fun y _ h => by
          obtain ⟨j, hj, h⟩ := h
          exact h.elim)
      exact DoesT_callE (r_callF (vs := []) Try.func27 nm27 bd27 rfl) ((evn_d _).mono (fun v w h => h))
    refine DagStepsS.cons (StabS.eq) (LocS.const) (fun S s' w' hi hN X U H => Or.inl ⟨Guarded_some rfl rfl (d := 25) ((H 6 rfl).2 25 (fun _ _ v _ => v = (.bool true)) rfl (by rw [hFs1]; rfl)), ?_⟩) ?_
    · replace X := X.mono (M' := none1) (fun y _ h => by
          obtain ⟨j, hj, h⟩ := h
          exact h.elim)
      have e26 : s' 26 = (.agg #[(.int .i64 C1.start), (.slice ca1 C1.accept.length cc1), (.slice ma1 C1.next.length mc1)]) := (H 7 rfl).2 26 (fun _ _ v _ => v = (.agg #[(.int .i64 C1.start), (.slice ca1 C1.accept.length cc1), (.slice ma1 C1.next.length mc1)])) rfl (by rw [hFs1]; rfl)
      obtain ⟨aa27, ac27, na27, nc27, e27, d27⟩ := (show ((fun _ _ => evnF) : FctS) S s' (s' 27) w' from (H 8 rfl).2 27 (fun _ _ => evnF) rfl (by rw [hFs1]; rfl))
      exact DoesT_callE (r_callF (vs := [(.agg #[(.int .i64 C1.start), (.slice ca1 C1.accept.length cc1), (.slice ma1 C1.next.length mc1)]), (.agg #[(.int .i64 0), (.slice aa27 2 ac27), (.slice na27 2 nc27)])]) Try.func25 nm25 bd25 (lst2 e26 e27)) ((equalD_c _ C1 evnD _ _ (hD1.ext (X0.trans X)) d27 (by omega)).mono (fun v w h => ⟨h.1.trans (by rw [hq2]), h.2⟩))
    refine DagStepsS.cons (StabS.eq) (LocS.const) (fun S s' w' hi hN X U H => Or.inl ⟨Guarded_none rfl, ?_⟩) ?_
    · replace X := X.mono (M' := none1) (fun y _ h => by
          obtain ⟨j, hj, h⟩ := h
          exact h.elim)
      have e25 : s' 25 = (.bool true) := (H 6 rfl).2 25 (fun _ _ v _ => v = (.bool true)) rfl (by rw [hFs1]; rfl)
      have e28 : s' 28 = (.bool true) := (H 9 rfl).2 28 (fun _ _ v _ => v = (.bool true)) rfl (by rw [hFs1]; rfl)
      exact DoesT_pure (r_pick (b := true) (v := (.bool true)) e25 e28) rfl
    refine DagStepsS.cons (StabS.eq) (LocS.const) (fun S s' w' hi hN X U H => Or.inl ⟨Guarded_none rfl, ?_⟩) ?_
    · replace X := X.mono (M' := none1) (fun y _ h => by
          obtain ⟨j, hj, h⟩ := h
          exact h.elim)
      have e29 : s' 29 = (.bool true) := (H 10 rfl).2 29 (fun _ _ v _ => v = (.bool true)) rfl (by rw [hFs1]; rfl)
      exact DoesT_pure (r_move (v := (.bool true)) e29) rfl
    refine DagStepsS.cons (StabS.eq) (LocS.const) (fun S s' w' hi hN X U H => Or.inl ⟨Guarded_some rfl rfl (d := 30) ((H 11 rfl).2 30 (fun _ _ v _ => v = (.bool true)) rfl (by rw [hFs1]; rfl)), ?_⟩) ?_
    · replace X := X.mono (M' := none1) (fun y _ h => by
          obtain ⟨j, hj, h⟩ := h
          exact h.elim)
      exact DoesT_pure (r_fieldAddr (b := be) (o := 0) (o' := 2) (U 3 rfl) Try.underlying25 rfl siz23 rfl) rfl
    refine DagStepsS.cons (StabS.eq) (LocS.const) (fun S s' w' hi hN X U H => Or.inl ⟨Guarded_some rfl rfl (d := 30) ((H 11 rfl).2 30 (fun _ _ v _ => v = (.bool true)) rfl (by rw [hFs1]; rfl)), ?_⟩) ?_
    · replace X := X.mono (M' := none1) (fun y _ h => by
          obtain ⟨j, hj, h⟩ := h
          exact h.elim)
      have e31 : s' 31 = (.pointer (some ⟨be, 2, none⟩)) := (H 12 rfl).2 31 (fun _ _ v _ => v = (.pointer (some ⟨be, 2, none⟩))) rfl (by rw [hFs1]; rfl)
      exact DoesT_pure (r_load (v := (.slice ma2 C2.next.length mc2)) e31 flat23 (((X0.trans X).keep Be).cell rfl)) rfl
    refine DagStepsS.cons (StabS.eq) (LocS.const) (fun S s' w' hi hN X U H => Or.inl ⟨Guarded_some rfl rfl (d := 30) ((H 11 rfl).2 30 (fun _ _ v _ => v = (.bool true)) rfl (by rw [hFs1]; rfl)), ?_⟩) ?_
    · replace X := X.mono (M' := none1) (fun y _ h => by
          obtain ⟨j, hj, h⟩ := h
          exact h.elim)
      have e32 : s' 32 = (.slice ma2 C2.next.length mc2) := (H 13 rfl).2 32 (fun _ _ v _ => v = (.slice ma2 C2.next.length mc2)) rfl (by rw [hFs1]; rfl)
      exact DoesT_pure (r_lenSlice (ad := ma2) (n := C2.next.length) (cap := mc2) Try.underlying23 e32) rfl
    refine DagStepsS.cons (StabS.eq) (LocS.const) (fun S s' w' hi hN X U H => Or.inl ⟨Guarded_some rfl rfl (d := 30) ((H 11 rfl).2 30 (fun _ _ v _ => v = (.bool true)) rfl (by rw [hFs1]; rfl)), ?_⟩) ?_
    · replace X := X.mono (M' := none1) (fun y _ h => by
          obtain ⟨j, hj, h⟩ := h
          exact h.elim)
      have e33 : s' 33 = (.int .i64 ((C2.next.length : Nat) : Int)) := (H 14 rfl).2 33 (fun _ _ v _ => v = (.int .i64 ((C2.next.length : Nat) : Int))) rfl (by rw [hFs1]; rfl)
      exact DoesT_pure (Eq.trans (r_eql (k := .i64) (a := ((C2.next.length : Nat) : Int)) (b := 2) e33 rfl) (by rw [hk1])) rfl
    refine DagStepsS.cons (StabS.eq) (LocS.const) (fun S s' w' hi hN X U H => Or.inl ⟨Guarded_none rfl, ?_⟩) ?_
    · replace X := X.mono (M' := none1) (fun y _ h => by
          obtain ⟨j, hj, h⟩ := h
          exact h.elim)
      have e30 : s' 30 = (.bool true) := (H 11 rfl).2 30 (fun _ _ v _ => v = (.bool true)) rfl (by rw [hFs1]; rfl)
      have e34 : s' 34 = (.bool true) := (H 15 rfl).2 34 (fun _ _ v _ => v = (.bool true)) rfl (by rw [hFs1]; rfl)
      exact DoesT_pure (r_pick (b := true) (v := (.bool true)) e30 e34) rfl
    refine DagStepsS.cons (StabS.eq) (LocS.const) (fun S s' w' hi hN X U H => Or.inl ⟨Guarded_none rfl, ?_⟩) ?_
    · replace X := X.mono (M' := none1) (fun y _ h => by
          obtain ⟨j, hj, h⟩ := h
          exact h.elim)
      have e35 : s' 35 = (.bool true) := (H 16 rfl).2 35 (fun _ _ v _ => v = (.bool true)) rfl (by rw [hFs1]; rfl)
      exact DoesT_pure (r_move (v := (.bool true)) e35) rfl
    refine DagStepsS.cons (StabS.eq) (LocS.const) (fun S s' w' hi hN X U H => Or.inl ⟨Guarded_some rfl rfl (d := 36) ((H 17 rfl).2 36 (fun _ _ v _ => v = (.bool true)) rfl (by rw [hFs1]; rfl)), ?_⟩) ?_
    · replace X := X.mono (M' := none1) (fun y _ h => by
          obtain ⟨j, hj, h⟩ := h
          exact h.elim)
      exact DoesT_pure (r_fieldAddr (b := be) (o := 0) (o' := 1) (U 3 rfl) Try.underlying25 rfl siz22 rfl) rfl
    refine DagStepsS.cons (StabS.eq) (LocS.const) (fun S s' w' hi hN X U H => Or.inl ⟨Guarded_some rfl rfl (d := 36) ((H 17 rfl).2 36 (fun _ _ v _ => v = (.bool true)) rfl (by rw [hFs1]; rfl)), ?_⟩) ?_
    · replace X := X.mono (M' := none1) (fun y _ h => by
          obtain ⟨j, hj, h⟩ := h
          exact h.elim)
      have e37 : s' 37 = (.pointer (some ⟨be, 1, none⟩)) := (H 18 rfl).2 37 (fun _ _ v _ => v = (.pointer (some ⟨be, 1, none⟩))) rfl (by rw [hFs1]; rfl)
      exact DoesT_pure (r_load (v := (.slice (some ⟨cb, co, none⟩) C2.accept.length cc2)) e37 flat22 (((X0.trans X).keep Be).cell rfl)) rfl
    refine DagStepsS.cons (StabS.eq) (LocS.const) (fun S s' w' hi hN X U H => Or.inl ⟨Guarded_some rfl rfl (d := 36) ((H 17 rfl).2 36 (fun _ _ v _ => v = (.bool true)) rfl (by rw [hFs1]; rfl)), ?_⟩) ?_
    · replace X := X.mono (M' := none1) (fun y _ h => by
          obtain ⟨j, hj, h⟩ := h
          exact h.elim)
      have e38 : s' 38 = (.slice (some ⟨cb, co, none⟩) C2.accept.length cc2) := (H 19 rfl).2 38 (fun _ _ v _ => v = (.slice (some ⟨cb, co, none⟩) C2.accept.length cc2)) rfl (by rw [hFs1]; rfl)
      exact DoesT_pure (r_indexSlice (b := cb) (o := co) (len := C2.accept.length) (cap := cc2) (i := 1) (o' := co + 1) e38 rfl rfl Try.underlying22 siz3 (by omega) (by omega)) rfl
    refine DagStepsS.cons (StabS.eq) (LocS.const) (fun S s' w' hi hN X U H => Or.inl ⟨Guarded_some rfl rfl (d := 36) ((H 17 rfl).2 36 (fun _ _ v _ => v = (.bool true)) rfl (by rw [hFs1]; rfl)), ?_⟩) ?_
    · replace X := X.mono (M' := none1) (fun y _ h => by
          obtain ⟨j, hj, h⟩ := h
          exact h.elim)
      have e39 : s' 39 = (.pointer (some ⟨cb, co + 1, none⟩)) := (H 20 rfl).2 39 (fun _ _ v _ => v = (.pointer (some ⟨cb, co + 1, none⟩))) rfl (by rw [hFs1]; rfl)
      exact DoesT_pure (r_load (v := (.int .i64 0)) e39 flat3 ((X0.trans X).cell hc1)) rfl
    refine DagStepsS.cons (StabS.eq) (LocS.const) (fun S s' w' hi hN X U H => Or.inl ⟨Guarded_some rfl rfl (d := 36) ((H 17 rfl).2 36 (fun _ _ v _ => v = (.bool true)) rfl (by rw [hFs1]; rfl)), ?_⟩) ?_
    · replace X := X.mono (M' := none1) (fun y _ h => by
          obtain ⟨j, hj, h⟩ := h
          exact h.elim)
      have e40 : s' 40 = (.int .i64 0) := (H 21 rfl).2 40 (fun _ _ v _ => v = (.int .i64 0)) rfl (by rw [hFs1]; rfl)
      exact DoesT_pure (r_eql (k := .i64) (a := 0) (b := 0) e40 rfl) rfl
    refine DagStepsS.cons (StabS.eq) (LocS.const) (fun S s' w' hi hN X U H => Or.inl ⟨Guarded_none rfl, ?_⟩) ?_
    · replace X := X.mono (M' := none1) (fun y _ h => by
          obtain ⟨j, hj, h⟩ := h
          exact h.elim)
      have e36 : s' 36 = (.bool true) := (H 17 rfl).2 36 (fun _ _ v _ => v = (.bool true)) rfl (by rw [hFs1]; rfl)
      have e41 : s' 41 = (.bool true) := (H 22 rfl).2 41 (fun _ _ v _ => v = (.bool true)) rfl (by rw [hFs1]; rfl)
      exact DoesT_pure (r_pick (b := true) (v := (.bool true)) e36 e41) rfl
    refine DagStepsS.tail ?_
    exact DagStepsS.nil
  · intro s' wd1 w1 X0 X1 U H
    replace X1 := X1.mono (M' := none1) (fun y _ h => by
        obtain ⟨j, hj, h⟩ := h
        exact h.elim)
    have e42 : s' 42 = (.bool true) := H 23 rfl 42 (fun _ _ v _ => v = (.bool true)) rfl (by rw [hFs1]; rfl)
    obtain ⟨j1, rfl⟩ := Fits.out (σ := s') (l := [(42, (.bool true))]) ⟨e42, trivial⟩
    clear U H
    replace Bd := (X0.trans X1).keep Bd
    replace Bp := (X0.trans X1).keep Bp
    replace Bq := (X0.trans X1).keep Bq
    replace Br := (X0.trans X1).keep Br
    replace Bs := (X0.trans X1).keep Bs
    replace Be := (X0.trans X1).keep Be
    replace hD1 := hD1.ext (X0.trans X1)
    replace hc1 := (X0.trans X1).cell hc1
    replace X1 := X0.trans X1
    replace E := E.ext X1
    refine WpL_val rfl rfl (by decide) (r_assign (v := (.bool true)) rfl) ?_
    refine WpL_nil ?_
    refine thn_normal ?_
    refine Wp_ret ?_
    refine fin_tmp Try.results20 (v := (.bool true)) rfl ?_
    exact ⟨rfl, E⟩
end Go.Proofs
namespace Go.Proofs
open Go Go.Eng Go.Sort
set_option maxRecDepth 100000
theorem SameOf.wi {c : Nat} {a b : Dfa} {ok : Bool} {w : List Nat} (h : SameOf c a b ok w) : inW c w := by
  cases ok with
  | true => rw [(h.yes rfl).1]; exact inW.nil c
  | false => exact (h.no rfl).1
end Go.Proofs
namespace Go.Proofs
open Go.Shelf
def Try.sortI_ren : Go.Shelf.Ren := ⟨fun | 189 => 38 | 125 => 73 | 257 => 72 | 128 => 109 | 129 => 110 | 294 => 100 | 295 => 101 | 296 => 102 | 297 => 103 | 298 => 104 | 299 => 105 | 216 => 106 | 300 => 107 | 301 => 108 | 328 => 119 | 329 => 120 | 330 => 121 | 331 => 122 | 332 => 123 | 215 => 112 | 343 => 126 | n => n, fun | 28 => 22 | 3 => 3 | 46 => 106 | 0 => 0 | 51 => 144 | 53 => 110 | 4 => 4 | 183 => 137 | 182 => 136 | 131 => 103 | 5 => 5 | 9 => 9 | 218 => 154 | 222 => 158 | 228 => 164 | 229 => 111 | n => n, fun | n => n⟩
theorem Try.sortI : Go.Proofs.Lays.n189 Try.prog Try.sortI_ren := {
  mixed := by kernel_rfl
  f125 := Try.func73.trans (congrArg some (by kernel_rfl))
  f128 := Try.func109.trans (congrArg some (by kernel_rfl))
  f129 := Try.func110.trans (congrArg some (by kernel_rfl))
  f189 := Try.func38.trans (congrArg some (by kernel_rfl))
  f215 := Try.func112.trans (congrArg some (by kernel_rfl))
  f216 := Try.func106.trans (congrArg some (by kernel_rfl))
  f257 := Try.func72.trans (congrArg some (by kernel_rfl))
  f294 := Try.func100.trans (congrArg some (by kernel_rfl))
  f295 := Try.func101.trans (congrArg some (by kernel_rfl))
  f296 := Try.func102.trans (congrArg some (by kernel_rfl))
  f297 := Try.func103.trans (congrArg some (by kernel_rfl))
  f298 := Try.func104.trans (congrArg some (by kernel_rfl))
  f299 := Try.func105.trans (congrArg some (by kernel_rfl))
  f300 := Try.func107.trans (congrArg some (by kernel_rfl))
  f301 := Try.func108.trans (congrArg some (by kernel_rfl))
  f328 := Try.func119.trans (congrArg some (by kernel_rfl))
  f329 := Try.func120.trans (congrArg some (by kernel_rfl))
  f330 := Try.func121.trans (congrArg some (by kernel_rfl))
  f331 := Try.func122.trans (congrArg some (by kernel_rfl))
  f332 := Try.func123.trans (congrArg some (by kernel_rfl))
  f343 := Try.func126.trans (congrArg some (by kernel_rfl))
  t0 := Try.underlying0
  a0 := Try.isAgg0
  z0 := Try.sizeOf0
  v0 := Try.zeroValue0
  t3 := Try.underlying3
  a3 := Try.isAgg3
  z3 := Try.sizeOf3
  v3 := Try.zeroValue3
  t4 := Try.underlying4
  a4 := Try.isAgg4
  z4 := Try.sizeOf4
  v4 := Try.zeroValue4
  t5 := Try.underlying5
  a5 := Try.isAgg5
  z5 := Try.sizeOf5
  v5 := Try.zeroValue5
  t9 := Try.underlying9
  a9 := Try.isAgg9
  z9 := Try.sizeOf9
  v9 := Try.zeroValue9
  t28 := Try.underlying22
  a28 := Try.isAgg22
  z28 := Try.sizeOf22
  v28 := Try.zeroValue22
  t46 := Try.underlying106
  a46 := Try.isAgg106
  z46 := Try.sizeOf106
  v46 := Try.zeroValue106
  t51 := Try.underlying144
  a51 := Try.isAgg144
  z51 := Try.sizeOf144
  v51 := Try.zeroValue144
  t53 := Try.underlying110
  a53 := Try.isAgg110
  z53 := Try.sizeOf110
  v53 := Try.zeroValue110
  t131 := Try.underlying103
  a131 := Try.isAgg103
  z131 := Try.sizeOf103
  v131 := Try.zeroValue103
  t182 := Try.underlying136
  a182 := Try.isAgg136
  z182 := Try.sizeOf136
  v182 := Try.zeroValue136
  t183 := Try.underlying137
  a183 := Try.isAgg137
  z183 := Try.sizeOf137
  v183 := Try.zeroValue137
  t218 := Try.underlying154
  a218 := Try.isAgg154
  z218 := Try.sizeOf154
  v218 := Try.zeroValue154
  t222 := Try.underlying158
  a222 := Try.isAgg158
  z222 := Try.sizeOf158
  v222 := Try.zeroValue158
  t228 := Try.underlying164
  a228 := Try.isAgg164
  z228 := Try.sizeOf164
  v228 := Try.zeroValue164
  t229 := Try.underlying111
  a229 := Try.isAgg111
  z229 := Try.sizeOf111
  v229 := Try.zeroValue111 }
def Try.compI_ren : Go.Shelf.Ren := ⟨fun | 20 => 39 | n => n, fun | 22 => 22 | 3 => 3 | 4 => 4 | 0 => 0 | n => n, fun | n => n⟩
theorem Try.compI : Go.Proofs.Lays2.n20 Try.prog Try.compI_ren := {
  mixed := by kernel_rfl
  f20 := Try.func39.trans (congrArg some (by kernel_rfl))
  t0 := Try.underlying0
  a0 := Try.isAgg0
  z0 := Try.sizeOf0
  v0 := Try.zeroValue0
  t3 := Try.underlying3
  a3 := Try.isAgg3
  z3 := Try.sizeOf3
  v3 := Try.zeroValue3
  t4 := Try.underlying4
  a4 := Try.isAgg4
  z4 := Try.sizeOf4
  v4 := Try.zeroValue4
  t22 := Try.underlying22
  a22 := Try.isAgg22
  z22 := Try.sizeOf22
  v22 := Try.zeroValue22
  i3 := by kernel_rfl }
end Go.Proofs
namespace Go.Proofs
open Go Go.Eng Go.Sort
set_option maxRecDepth 100000
--BEGIN
theorem keysG_len {α : Type} : ∀ (ks : List α) (n : Nat), (keysG ks n).length = ks.length
  | [], _ => rfl
  | _ :: ks, n => by simp only [keysG, List.length_cons]; rw [keysG_len ks]
theorem keysG_last {α : Type} [DecidableEq α] {ks : List α} {m : α} (h : m ∉ ks) : getM (keysG ks 0) m = none ∧ putM (keysG ks 0) m ((ks.length : Nat) : Int) = keysG (ks ++ [m]) 0 ∧ getM (keysG (ks ++ [m]) 0) m = some ((ks.length : Nat) : Int) := by
  have hg : getM (keysG ks 0) m = none := by
    cases hg : getM (keysG ks 0) m with
    | none => rfl
    | some v =>
      obtain ⟨j, _, h2⟩ := keysG_get hg
      exact absurd (List.mem_of_getElem? h2) h
  have hp := (keysG_none hg).2
  refine ⟨hg, hp, ?_⟩
  rw [← hp, getM_put, if_pos rfl]
theorem not_mem_take {α : Type} {l : List α} (hd : l.Nodup) {k : Nat} {x : α} (hx : l[k]? = some x) : x ∉ l.take k := fun hm => by
  obtain ⟨j, hj⟩ := List.getElem?_of_mem hm
  have hjl := lt_of_get hj
  rw [List.length_take] at hjl
  rw [List.getElem?_take_of_lt (by omega)] at hj
  obtain ⟨p1, p2⟩ := List.getElem?_eq_some_iff.1 hj
  obtain ⟨q1, q2⟩ := List.getElem?_eq_some_iff.1 hx
  have := (List.getElem_inj hd).1 (p2.trans q2.symm)
  omega
theorem putRow_chg {α : Type} [Inhabited α] (enc : α → Value) (w : World) (g off m : Nat) (dk : Array α) (os : Array Obj) : Chg (fun x => x = g) w (grow (putRow enc (Sort.ahead w m) g off dk) os) := by
  refine ⟨rfl, rfl, rfl, Nat.le_add_right _ _, ?_, fun b hb hne => ?_⟩
  · simp [grow, putRow, mapBlock, Sort.ahead]
  · simp only [grow, putRow, mapBlock, Sort.ahead]
    rw [Array.getElem?_append_left (by simpa using hb), Array.getElem?_modify, if_neg (fun h => hne h.symm)]
theorem compact_up' {l : List Int} (hs : l.Pairwise (· < ·)) : ∀ m, m ≤ l.length → Lib.compactUpTo l.toArray m = l.take m := by
  intro m
  induction m with
  | zero => intro _; simp [Lib.compactUpTo]
  | succ m ih =>
    intro hm
    have hx : l[m]? = some l[m] := List.getElem?_eq_getElem (by omega)
    have hg : l.toArray[m]! = l[m] := by rw [getElem!_pos _ m (by simp; omega)]; simp
    rw [Lib.compactUpTo_succ, ih (by omega), hg, List.take_add_one, hx]
    have hk : Lib.keeps l.toArray m = true := by
      unfold Lib.keeps
      rw [decide_eq_true_eq]
      rcases Nat.eq_zero_or_pos m with h0 | h0
      · exact .inl h0
      · right
        rw [hg, getElem!_pos _ (m - 1) (by simp; omega)]
        have h9 := List.pairwise_iff_getElem.1 hs (m - 1) m (by omega) (by omega) (by omega)
        simp only [List.getElem_toArray]
        omega
    rw [if_pos hk]
    rfl
theorem compact_up {l : List Int} (hs : l.Pairwise (· < ·)) : Lib.compact l = l := by
  have h := compact_up' hs l.length (Nat.le_refl _)
  rw [List.take_length] at h
  simpa [Lib.compact] using h
--END
set_option maxHeartbeats 1000000 in
theorem index_c (w0 : World) (n c : Nat) (d : Dfa) (dv : List Value) (ok : OkD n c d) (h : DfaAt w0 d dv) (hn : 1 ≤ n ∧ n ≤ 200) (hc : 1 ≤ c ∧ c ≤ 16) (hac : ∀ x ∈ d.accept, x < 2147483648) (hnd : ∀ p, PartsOf n c d p → p.Nodup) :
    Ret Try.prog 37 #[.agg dv.toArray] w0 fun r w => (∃ a cc, r = .tuple #[.slice a n cc, .int .i64 0] ∧ w.ownsRow w0.heap.size TDI 1 (.slice a n cc) n ((toI (List.range n)).map (Value.int .i64))) ∧ Ext w0 w := by
  have h' := h
  obtain ⟨aa, ac, na, nc, rfl, _, _⟩ := h'
  refine Ret_of Try.func37 rfl Try.ntmps37 (Nat.le_of_ble_eq_true rfl) ?_
  have E : Chg none1 w0 w0 := Chg.refl _ _
  refine Wp_seq_region ?_
  refine s_box (v := (.agg #[(.int .i64 d.start), (.slice aa d.accept.length ac), (.slice na d.next.length nc)])) (c := #[(.int .i64 d.start), (.slice aa d.accept.length ac), (.slice na d.next.length nc)]) (by decide) rfl rfl ?_
  intro bq wq Nq
  have Fq := Nq.ge E
  replace E := E.ext Nq.ext
  have Bq := Nq.blk
  refine WpL_val rfl rfl (by decide) (r_assign (v := (.slice none 0 0)) rfl) ?_
  refine WpL_val rfl rfl (by decide) (r_assign (v := (.int .i64 0)) rfl) ?_
  refine WpL_nil ?_
  refine Wp_seq ?_
  refine Wp_seq_region ?_
  refine WpL_val rfl rfl (by decide) (r_loadAgg (vs := [(.int .i64 d.start), (.slice aa d.accept.length ac), (.slice na d.next.length nc)]) rfl agg25 siz25 rfl (Bq.cells rfl)) ?_
  refine WpL_enter rfl rfl (by decide) (r_callF (vs := [(.agg #[(.int .i64 d.start), (.slice aa d.accept.length ac), (.slice na d.next.length nc)])]) Try.func50 nm50 bd50 rfl) (dcheck_c _ d _ (h.ext E)) ?_
  rintro _ w9 ⟨rfl, X9⟩
  replace Bq := X9.keep Bq
  replace E := E.ext X9
  refine WpL_val rfl rfl (by decide) (r_assign (v := (.int .i64 (checkD d))) rfl) ?_
  refine WpL_nil ?_
  refine Wp_seq_region ?_
  refine WpL_val rfl rfl (by decide) (r_move (v := (.int .i64 (checkD d))) rfl) ?_
  refine WpL_val rfl rfl (by decide) (r_neq (k := .i64) (a := checkD d) (b := 0) rfl rfl) ?_
  refine WpL_nil ?_
  have hc1 : (decide ((checkD d : Int) ≠ 0)) = false := decide_eq_false (by rw [okD_check ok hn hc]; decide)
  refine Wp_cond_false (congrArg Value.bool hc1) ?_
  refine Wp_skip ?_
  refine thn_normal ?_
  refine Wp_seq_region ?_
  refine s_makeMap kInt kInt (by decide) ?_
  intro bm wm Nm
  have Fm := Nm.ge E
  have Om_bq := Nm.lt Bq
  replace Bq := Nm.keep Bq
  replace E := E.ext Nm.ext
  intro Mm
  refine WpL_val rfl rfl (by decide) (r_assign (v := (.map (some bm))) rfl) ?_
  refine WpL_nil ?_
  refine Wp_seq_region ?_
  refine WpL_val rfl rfl (by decide) (r_assign (v := (.slice none 0 0)) rfl) ?_
  refine WpL_nil ?_
  refine Wp_seq ?_
  refine Wp_seq_region ?_
  refine WpL_val rfl rfl (by decide) (r_loadAgg (vs := [(.int .i64 d.start), (.slice aa d.accept.length ac), (.slice na d.next.length nc)]) rfl agg25 siz25 rfl (Bq.cells rfl)) ?_
  have hbmw : bm < (wm).heap.size := Mm.lt
  refine WpL_enter rfl rfl (by decide) (r_callF (vs := [(.agg #[(.int .i64 d.start), (.slice aa d.accept.length ac), (.slice na d.next.length nc)])]) Try.func71 nm71 bd71 rfl) (parts_c _ n c d _ ok (h.ext E) (by omega) hac) ?_
  rintro _ w19 ⟨⟨p, b1, hPt, rfl, hb1, hPB⟩, X19⟩
  replace Bq := X19.keep Bq
  replace Mm := X19.keepM Mm
  replace E := E.ext X19
  have hpl := hPt.len
  have hpd := hnd p hPt
  refine WpL_val rfl rfl (by decide) (r_lenSlice (ad := some ⟨b1, 0, none⟩) (n := n) (cap := n) Try.underlying22 rfl) ?_
  refine WpL_val rfl rfl (by decide) (r_move (v := (.int .i64 0)) rfl) ?_
  refine WpL_nil ?_
  refine Wp_block ?_
  obtain ⟨n1, hn1⟩ : ∃ n1, n1 = (w19).heap.size := ⟨_, rfl⟩
  have hn1b : bq < n1 ∧ bm < n1 ∧ b1 < n1 ∧ bm < b1 := ⟨by rw [hn1]; exact Bq.lt, by rw [hn1]; exact Mm.lt, by rw [hn1]; exact hPB.lt, by omega⟩
  refine Wp_loop (fun nn_ σ W2 => ∃ (k : Nat) (oa : Option Addr) (oc : Nat), (∃ jj_, σ = upds jj_ [(5, (.map (some bm))), (18, (.slice (some ⟨b1, 0, none⟩) n n)), (19, (.int .i64 ((n : Nat) : Int))), (20, (.int .i64 ((k : Nat) : Int))), (6, (.slice oa k oc))]) ∧ Chg none1 w0 W2 ∧ Blk W2 bq #[(.int .i64 d.start), (.slice aa d.accept.length ac), (.slice na d.next.length nc)] 25 ∧ MapAt W2 bm kInt kInt (keysG (p.take k) 0) ∧ Blk W2 b1 ((p.map (Value.int .i64)).toArray) 3 ∧ (k ≤ n) ∧ (W2.ownsRow n1 TDI 1 (.slice oa k oc) k ((toI (List.range k)).map (Value.int .i64))) ∧ (n1 ≤ W2.heap.size) ∧ nn_ = n - k) (n := n - 0) ?_ ?_
  · exact ⟨0, none, 0, Fits.out ⟨rfl, rfl, rfl, rfl, rfl, trivial⟩, E, Bq, Mm, hPB, Nat.zero_le _, World.ownsRow_nil _ _ _ _, (by omega), rfl⟩
  · clear E Bq Mm hPB
    rintro _ _ W2 ⟨k, oa, oc, ⟨j2, rfl⟩, E, Bq, Mm, hPB, hk, hO, hsz, rfl⟩
    refine Wp_seq_region ?_
    refine WpL_val rfl rfl (by decide) (r_lss (k := .i64) (a := ((k : Nat) : Int)) (b := ((n : Nat) : Int)) rfl rfl) ?_
    refine WpL_nil ?_
    refine Wp_seq ?_
    refine Wp_cond (b := decide ((((k : Nat) : Int) : Int) < ((n : Nat) : Int))) rfl (fun hlt => ?_) (fun hlt => ?_)
    · have khlt := hlt
      replace hlt := of_decide_eq_true hlt
      obtain ⟨x, hx⟩ := get_of_lt (l := p) (i := k) (by omega)
      have hnm := not_mem_take hpd hx
      obtain ⟨hg1, hg2, hg3⟩ := keysG_last hnm
      have hkl : (p.take k).length = k := by simp; omega
      refine Wp_skip ?_
      refine thn_normal ?_
      refine Wp_seq ?_
      refine Wp_block ?_
      refine Wp_seq_region ?_
      refine WpL_val rfl rfl (by decide) (r_indexSlice (b := b1) (o := 0) (len := n) (cap := n) (i := k) (o' := 0 + k) rfl rfl rfl Try.underlying22 siz3 (by omega) (by omega)) ?_
      refine WpL_val rfl rfl (by decide) (r_load (v := (.int .i64 x)) rfl flat3 (ints_at_blk hPB hx)) ?_
      refine WpL_val rfl rfl (by decide) (r_assign (v := (.int .i64 x)) rfl) ?_
      refine WpL_nil ?_
      refine Wp_seq ?_
      refine Wp_seq_region ?_
      refine WpL_val rfl rfl (by decide) (r_move (v := (.map (some bm))) rfl) ?_
      refine WpL_val rfl rfl (by decide) (r_move (v := (.int .i64 x)) rfl) ?_
      refine WpL_val (v := (.tuple #[(.int .i64 ((getM (keysG (p.take k) 0) x).getD 0)), (.bool ((getM (keysG (p.take k) 0) x).isSome))])) rfl rfl (by decide) (r_lookup2 (k := x) (z := 0) Try.underlying101 (keyInt Try.underlying3) zer3 Mm rfl rfl) ?_
      refine WpL_val rfl rfl (by decide) (r_move (v := (.tuple #[(.int .i64 ((getM (keysG (p.take k) 0) x).getD 0)), (.bool ((getM (keysG (p.take k) 0) x).isSome))])) rfl) ?_
      refine WpL_val rfl rfl (by decide) (r_extract (vs := #[(.int .i64 ((getM (keysG (p.take k) 0) x).getD 0)), (.bool ((getM (keysG (p.take k) 0) x).isSome))]) (v := (.int .i64 ((getM (keysG (p.take k) 0) x).getD 0))) rfl rfl) ?_
      refine WpL_val rfl rfl (by decide) (r_extract (vs := #[(.int .i64 ((getM (keysG (p.take k) 0) x).getD 0)), (.bool ((getM (keysG (p.take k) 0) x).isSome))]) (v := (.bool ((getM (keysG (p.take k) 0) x).isSome))) rfl rfl) ?_
      refine WpL_val rfl rfl (by decide) (r_assign (v := (.int .i64 ((getM (keysG (p.take k) 0) x).getD 0))) rfl) ?_
      refine WpL_val rfl rfl (by decide) (r_assign (v := (.bool ((getM (keysG (p.take k) 0) x).isSome))) rfl) ?_
      refine WpL_nil ?_
      refine Wp_seq_region ?_
      refine WpL_val rfl rfl (by decide) (r_move (v := (.bool ((getM (keysG (p.take k) 0) x).isSome))) rfl) ?_
      refine WpL_val rfl rfl (by decide) (r_not (b := (getM (keysG (p.take k) 0) x).isSome) rfl) ?_
      refine WpL_nil ?_
      refine Wp_cond (b := !((getM (keysG (p.take k) 0) x).isSome)) rfl (fun hnew => ?_) (fun hnew => ?_)
      · have khnew := hnew
        replace hnew := by simpa using hnew
        refine Wp_region ?_
        refine WpL_val rfl rfl (by decide) (r_move (v := (.map (some bm))) rfl) ?_
        refine WpL_val rfl rfl (by decide) (r_move (v := (.int .i64 x)) rfl) ?_
        refine WpL_val rfl rfl (by decide) (r_move (v := (.map (some bm))) rfl) ?_
        refine WpL_val (v := (.int .i64 (((keysG (p.take k) 0).length : Nat) : Int))) rfl rfl (by decide) (r_lenMap Try.underlying101 Mm rfl) ?_
        refine s_mapUpdate (k := x) (v := (((keysG (p.take k) 0).length : Nat) : Int)) Try.underlying101 (keyInt Try.underlying3) Mm rfl rfl rfl ?_
        intro w5 S5 H5
        replace hO := own_chg hO S5.chg fun b hb h => by have := (hO.lt b hb).1; have h' : b = bm := h; omega
        replace hsz := Nat.le_trans hsz S5.chg.size
        replace Bq := S5.keep (by omega) Bq
        replace hPB := S5.keep (by omega) hPB
        replace E := S5.step E (by first | exact Or.inl (by omega) | exact Or.inr rfl | exact Or.inr (by assumption) | exact Or.inr (by simp) | exact Or.inr (by omega) | exact Or.inr (by dsimp only; omega))
        replace Mm := H5
        refine WpL_nil ?_
        refine thn_normal ?_
        refine Wp_region ?_
        refine WpL_val rfl rfl (by decide) (r_move (v := (.slice oa k oc)) rfl) ?_
        refine WpL_val rfl rfl (by decide) (r_move (v := (.map (some bm))) rfl) ?_
        refine WpL_val rfl rfl (by decide) (r_move (v := (.int .i64 x)) rfl) ?_
        refine WpL_val (v := (.int .i64 ((getM (putM (keysG (p.take k) 0) x (((keysG (p.take k) 0).length : Nat) : Int)) x).getD 0))) rfl rfl (by decide) (r_lookup (k := x) (z := 0) Try.underlying101 (keyInt Try.underlying3) zer3 Mm rfl rfl) ?_
        refine s_buildSlice (ps := [(0, (.int .i64 ((getM (putM (keysG (p.take k) 0) x (((keysG (p.take k) 0).length : Nat) : Int)) x).getD 0)))]) (c := #[(.int .i64 ((getM (putM (keysG (p.take k) 0) x (((keysG (p.take k) 0).length : Nat) : Int)) x).getD 0))]) (by decide) rfl Try.underlying22 siz3 zer3 (by decide) (by decide) (by kernel_rfl) ?_
        intro b6 w6 N6
        have F6 := N6.ge E
        have O6_bq := N6.lt Bq
        have O6_bm := N6.ltM Mm
        have O6_b1 := N6.lt hPB
        replace Bq := N6.keep Bq
        replace Mm := N6.keepM Mm
        replace hPB := N6.keep hPB
        replace hO := own_ext hO N6.ext
        replace hsz := Nat.le_trans hsz N6.ext.size
        replace E := E.ext N6.ext
        have B6 := N6.blk
        refine s_append (base := n1) (n := k) (m := 1) (xs := ((toI (List.range k)).map (Value.int .i64))) (news := [(.int .i64 ((getM (putM (keysG (p.take k) 0) x (((keysG (p.take k) 0).length : Nat) : Int)) x).getD 0))]) (size := 1) (bytes := 8) (v := (.slice oa k oc)) (by decide) Try.underlying22 siz3 byt3 zer3 rfl (by decide) rfl hO rfl (rfl) (B6.cells rfl) (by simp [Value.oneCell']) (by unfold maxLen; omega) (by omega) (hsz) ?_
        intro v7 w59 Ov7 Cv7 Dv7
        replace Bq := Cv7.keep (fun h => by have := (hO.lt _ h).1; omega) Bq
        replace Mm := Cv7.keepM (fun h => by have := (hO.lt _ h).1; omega) Mm
        replace hPB := Cv7.keep (fun h => by have := (hO.lt _ h).1; omega) hPB
        replace E := E.step Cv7 (fun x hx h => absurd (hO.lt x h).1 (by omega))
        obtain ⟨sa3, sc3, rfl⟩ := own_form Ov7
        rw [keysG_len, hg2, show p.take k ++ [x] = p.take (k + 1) from by rw [List.take_add_one, hx]; rfl] at Mm
        rw [keysG_len, hg2, hg3, hkl] at Ov7
        refine WpL_val rfl rfl (by decide) (r_assign (v := (.slice sa3 (k + 1) sc3)) rfl) ?_
        refine WpL_nil ?_
        refine inB_normal ?_
        refine thn_normal ?_
        refine Wp_region ?_
        refine WpL_val rfl rfl (by decide) (r_add (k := .i64) (a := ((k : Nat) : Int)) (b := 1) (c := ((k : Nat) : Int) + 1) rfl rfl (wI64 (by omega))) ?_
        refine WpL_val rfl rfl (by decide) (r_move (v := (.int .i64 (((k : Nat) : Int) + 1))) rfl) ?_
        refine WpL_nil ?_
        refine thn_normal ?_
        exact ⟨n - (k + 1), by omega, k + 1, sa3, sc3, Fits.out ⟨rfl, rfl, rfl, rfl, rfl, trivial⟩, E, Bq, Mm, hPB, (by omega), (by rw [List.range_succ]; simpa [toI] using Ov7), Nat.le_trans hsz Cv7.size, rfl⟩
      · have khnew := hnew
        replace hnew := by simpa using hnew
        rw [hg1] at hnew; cases hnew
    · have khlt := hlt
      replace hlt := of_decide_eq_false hlt
      have hkn : k = n := by omega
      subst hkn
      refine Wp_exit ?_
      refine thn_exit ?_
      refine thn_exit ?_
      refine inB_here ?_
      refine thn_normal ?_
      refine Wp_seq_region ?_
      refine WpL_val rfl rfl (by decide) (r_move (v := (.slice oa k oc)) rfl) ?_
      refine WpL_val rfl rfl (by decide) (r_assign (v := (.slice oa k oc)) rfl) ?_
      refine WpL_val rfl rfl (by decide) (r_assign (v := (.int .i64 0)) rfl) ?_
      refine WpL_nil ?_
      refine Wp_ret ?_
      refine fin_tmp2 Try.results37 (v := (.slice oa k oc)) (v' := (.int .i64 0)) rfl rfl ?_
      exact ⟨⟨oa, oc, rfl, own_low hO (by omega)⟩, E⟩
set_option maxHeartbeats 400000 in
theorem sorti_up (w0 : World) (base c : Nat) (oa : Option Addr) (l : List Int) (h : w0.ownsRow base TDI 1 (.slice oa l.length c) l.length (l.map (Value.int .i64))) (hne : l ≠ []) (hs : l.Pairwise (· < ·)) (hl : l.length ≤ 17592186044416) :
    Ret Try.prog 38 #[.slice oa l.length c] w0 fun r w => r = .tuple #[] ∧ (∃ g, oa = some ⟨g, 0, none⟩ ∧ Sort.Holds (Value.int .i64) w g 0 l.toArray ∧ l.length ≤ c) ∧ Chg (fun x => (Value.slice oa l.length c).ownBlock = some x) w0 w := by
  rcases h.2 with ⟨h1, h0⟩ | ⟨g, cap, cur, hv, hbg, hg, hnc, hcm, hcs, htake⟩
  · exact absurd (List.eq_nil_of_length_eq_zero h0) hne
  · simp only [Value.slice.injEq] at hv
    obtain ⟨rfl, _, rfl⟩ := hv
    have hblk : g < w0.heap.size := (Array.getElem?_eq_some_iff.1 hg).1
    have hH : Sort.Holds (Value.int .i64) w0 g 0 l.toArray := by
      intro j hj
      simp only [List.size_toArray] at hj
      have hx : l[j]? = some l[j] := List.getElem?_eq_getElem hj
      have h1 := h.cells (g := g) rfl j (.int .i64 l[j]) (by simp [hx])
      rw [Addr.add_lit] at h1
      have he : l.toArray[j]! = l[j] := by rw [getElem!_pos l.toArray j (by simpa using hj)]; simp
      rw [he]
      exact ⟨h1, by simp [World.frozen?, hg]⟩
    refine Calls.mono (Any.slices_Sort_int Try.sortI g 0 c l w0 hH hblk (by omega)) ?_
    rintro e w' ⟨rfl, n, os, rfl⟩
    have hms : (l.mergeSort fun x y => decide (x ≤ y)) = l := List.mergeSort_of_pairwise (le := fun x y => decide (x ≤ y)) (hs.imp fun {a b} h => by simp; omega)
    rw [hms]
    refine ⟨_, rfl, rfl, ⟨g, rfl, ?_, hnc⟩, (putRow_chg _ w0 g 0 n _ os).mono fun x _ hx => by subst hx; rfl⟩
    exact holds_grow _ _ os g 0 _ (by simpa [putRow, mapBlock, Sort.ahead] using hblk) (holds_putRow _ (Sort.ahead w0 n) g 0 l.toArray _ hH (by simp))
theorem compi_up (w0 : World) (g c : Nat) (l : List Int) (hH : Sort.Holds (Value.int .i64) w0 g 0 l.toArray) (hs : l.Pairwise (· < ·)) (hc : l.length ≤ c ∧ c ≤ 9223372036854775807) :
    Ret Try.prog 39 #[.slice (some ⟨g, 0, none⟩) l.length c] w0 fun r w => r = .slice (some ⟨g, 0, none⟩) l.length c ∧ Chg (fun x => x = g) w0 w := by
  refine Calls.mono (Any.slices_Compact_int Try.compI g 0 c l w0 hH (by omega) hc.1) ?_
  rintro e w' ⟨rfl, q, rfl⟩
  rw [compact_up hs]
  have hcg := putRow_chg (Value.int .i64) w0 g 0 q (l ++ List.replicate (l.length - l.length) 0).toArray #[]
  have hgr : ∀ w : World, grow w #[] = w := fun w => by simp [grow]
  rw [hgr] at hcg
  exact ⟨_, rfl, rfl, hcg⟩
theorem holds_ext {w w' : World} {g : Nat} {l : List Int} (h : Sort.Holds (Value.int .i64) w g 0 l.toArray) (hg : g < w.heap.size) (e : Ext w w') : Sort.Holds (Value.int .i64) w' g 0 l.toArray := fun j hj => by
  obtain ⟨h1, h2⟩ := h j hj
  refine ⟨Chg.cell e (fun f => f) h1, ?_⟩
  rw [← h2]
  have := e.blk g hg (fun f => f)
  simp only [World.frozen?, this]
theorem mkDfa_d (w0 : World) (v : Value) (l : List Int) (hl : IntsAt w0 v l) :
    Ret Try.prog 36 #[v] w0 fun r w => (∃ n c d ga ac gn nc ra rc, (1 ≤ n ∧ n ≤ 6) ∧ (1 ≤ c ∧ c ≤ 3) ∧ OkD n c d ∧ (∀ x ∈ d.accept, x < 2147483648) ∧ r = .agg #[.int .i64 d.start, .slice (some ⟨ga, 0, none⟩) n ac, .slice (some ⟨gn, 0, none⟩) n nc] ∧ DfaAt w d [.int .i64 d.start, .slice (some ⟨ga, 0, none⟩) n ac, .slice (some ⟨gn, 0, none⟩) n nc] ∧ w.cell? ⟨gn, 0, none⟩ = some (.slice ra c rc)) ∧ Ext w0 w :=
  (mkDfa_o w0 v l hl).mono fun r w h => by
    obtain ⟨n, c, d, ga, ac, gn, nc, base, top, h1, h2, h3, rfl, _, h5, h6⟩ := h
    have hD := MSt.done (start := d.start) h5 h3.2.1 h3.1
    have hD' := hD
    obtain ⟨aa, ac', na, nc', he, _, hnxt⟩ := hD'
    simp only [List.cons.injEq, Value.slice.injEq, and_true, true_and] at he
    obtain ⟨_, e1, e2, e3⟩ := he
    rw [h3.1] at hnxt
    obtain ⟨row, hrow⟩ := get_of_lt (l := d.next) (i := 0) (by omega)
    have hrl := (h3.2.2.2.2 row (List.mem_of_getElem? hrow)).1
    obtain ⟨nb, no, rfl, hnx⟩ := intss_cells hnxt (by omega)
    obtain ⟨ra, rc, h7, _⟩ := hnx 0 row hrow
    rw [hrl] at h7
    simp only [Option.some.injEq, Addr.mk.injEq, and_true] at e1
    obtain ⟨rfl, rfl⟩ := e1
    exact ⟨⟨n, c, d, ga, ac, gn, nc, ra, rc, h1, h2, ⟨h3.1, h3.2.1, h3.2.2.1, fun x hx => (h3.2.2.2.1 x hx).1, h3.2.2.2.2⟩, fun x hx => by have := (h3.2.2.2.1 x hx).2; omega, rfl, hD, h7⟩, h6⟩
theorem CanOf.nodup {c : Nat} {f : List Nat → Int} {C : Dfa} (h : CanOf c f C) (p : List Int) (hp : PartsOf C.next.length c C p) : p.Nodup := by
  obtain ⟨m, b, _, hr, _⟩ := h
  have hm : C.next.length = m := b.ok.nl
  rw [hm] at hp
  rw [List.nodup_iff_pairwise_ne, List.pairwise_iff_getElem]
  intro i j hi hj hij e
  have hl := hp.len
  have hq : ∀ i (hi : i < p.length), ptD p ((i : Nat) : Int) = p[i] := fun i hi => by
    unfold ptD
    rw [if_neg (by omega), Int.toNat_natCast, List.getD_eq_getElem?_getD, List.getElem?_eq_getElem hi]; rfl
  have := hr ((i : Nat) : Int) ((j : Nat) : Int) (by omega) (by omega) (by omega) (by omega) ((hp.iff _ _ (by omega) (by omega)).1 (by rw [hq i hi, hq j hj, e]))
  omega
end Go.Proofs
namespace Go.Proofs
open Go Go.Eng Go.Sort
set_option maxRecDepth 100000
theorem range_up (n : Nat) : (toI (List.range n)).Pairwise (· < ·) := by
  unfold toI
  rw [List.pairwise_map]
  exact List.pairwise_lt_range.imp fun {a b} h => by simpa using h
theorem index_n (w0 : World) (n c : Nat) (d : Dfa) (dv : List Value) (ok : OkD n c d) (h : DfaAt w0 d dv) (hn : 1 ≤ n ∧ n ≤ 200) (hc : 1 ≤ c ∧ c ≤ 16) (hac : ∀ x ∈ d.accept, x < 2147483648) (hnd : ∀ p, PartsOf n c d p → p.Nodup) :
    Ret Try.prog 37 #[.agg dv.toArray] w0 fun r w => (∃ g cc, r = .tuple #[.slice (some ⟨g, 0, none⟩) n cc, .int .i64 0] ∧ w.ownsRow w0.heap.size TDI 1 (.slice (some ⟨g, 0, none⟩) n cc) n ((toI (List.range n)).map (Value.int .i64))) ∧ Ext w0 w :=
  (index_c w0 n c d dv ok h hn hc hac hnd).mono fun r w h => by
    obtain ⟨⟨a, cc, rfl, hO⟩, e⟩ := h
    obtain ⟨g, rfl, _, _⟩ := own_cells hO (by omega)
    exact ⟨⟨g, cc, rfl, hO⟩, e⟩
theorem own_caps9 {w : World} {base e size n c : Nat} {a : Option Addr} {xs : List Value} (h : w.ownsRow base e size (.slice a n c) n xs) : n ≤ c ∧ c ≤ 9223372036854775807 := by
  rcases h.2 with ⟨h1, h0⟩ | ⟨g, cap, cur, hv, _, _, hnc, hcm, _⟩
  · simp only [Value.slice.injEq] at h1; omega
  · simp only [Value.slice.injEq] at hv
    obtain ⟨_, _, rfl⟩ := hv
    exact ⟨hnc, hcm⟩
theorem sorti_n (w0 : World) (base c n : Nat) (oa : Option Addr) (l : List Int) (h : w0.ownsRow base TDI 1 (.slice oa n c) n (l.map (Value.int .i64))) (hn : l.length = n) (hne : l ≠ []) (hs : l.Pairwise (· < ·)) (hl : n ≤ 17592186044416) :
    Ret Try.prog 38 #[.slice oa n c] w0 fun r w => r = .tuple #[] ∧ (∃ g, oa = some ⟨g, 0, none⟩ ∧ Sort.Holds (Value.int .i64) w g 0 l.toArray ∧ n ≤ c) ∧ Chg (fun x => (Value.slice oa n c).ownBlock = some x) w0 w := by
  subst hn
  exact sorti_up w0 base c oa l h hne hs hl
theorem compi_n (w0 : World) (g c n : Nat) (l : List Int) (hH : Sort.Holds (Value.int .i64) w0 g 0 l.toArray) (hn : l.length = n) (hs : l.Pairwise (· < ·)) (hc : n ≤ c ∧ c ≤ 9223372036854775807) :
    Ret Try.prog 39 #[.slice (some ⟨g, 0, none⟩) n c] w0 fun r w => r = .slice (some ⟨g, 0, none⟩) n c ∧ Chg (fun x => x = g) w0 w := by
  subst hn
  exact compi_up w0 g c l hH hs hc
set_option maxHeartbeats 8000000 in
theorem nerode_c (w0 : World) (v1 v2 : Value) (l1 l2 : List Int) (h1 : IntsAt w0 v1 l1) (h2 : IntsAt w0 v2 l2) :
    Ret Try.prog 8 #[v1, v2] w0 fun r w => r = .bool true ∧ Ext w0 w := by
  refine Ret_of Try.func8 rfl Try.ntmps8 (Nat.le_of_ble_eq_true rfl) ?_
  have E : Chg none1 w0 w0 := Chg.refl _ _
  refine Wp_seq_region ?_
  refine WpL_val rfl rfl (by decide) (r_assign (v := (.bool false)) rfl) ?_
  refine WpL_nil ?_
  refine Wp_seq ?_
  refine Wp_seq_region ?_
  refine WpL_enter rfl rfl (by decide) (r_callF (vs := []) Try.func20 nm20 bd20 rfl) (mbegun_c _) ?_
  rintro _ w9 ⟨rfl, X9⟩
  replace E := E.ext X9
  refine WpL_val rfl rfl (by decide) (r_not (b := true) rfl) ?_
  refine WpL_val rfl rfl (by decide) (r_move (v := (.bool false)) rfl) ?_
  refine WpL_guard_yes (oj := _) rfl rfl (by decide) rfl ?_
  refine WpL_enter rfl rfl (by decide) (r_callF (vs := []) Try.func32 nm32 bd32 rfl) (dfbegun_c _) ?_
  rintro _ w19 ⟨rfl, X19⟩
  replace E := E.ext X19
  refine WpL_guard_yes (oj := _) rfl rfl (by decide) rfl ?_
  refine WpL_val rfl rfl (by decide) (r_not (b := true) rfl) ?_
  refine WpL_val rfl rfl (by decide) (r_pick (b := false) (v := (.bool false)) rfl rfl) ?_
  refine WpL_nil ?_
  refine Wp_cond_false rfl ?_
  refine Wp_skip ?_
  refine thn_normal ?_
  refine Wp_seq_region ?_
  refine WpL_val rfl rfl (by decide) (r_move (v := v1) rfl) ?_
  refine WpL_enter rfl rfl (by decide) (r_callF (vs := [v1]) Try.func36 nm36 bd36 rfl) (mkDfa_d _ _ l1 (h1.ext E)) ?_
  rintro _ w29 ⟨⟨n, c, d, ga, ac, gn, nc, ra, rc, hn, hc, okd, hla, rfl, hDa, hrc⟩, X29⟩
  replace E := E.ext X29
  have E2 : Chg none1 w29 w29 := Chg.refl _ _
  refine s_allocStore (v := (.agg #[(.int .i64 d.start), (.slice (some ⟨ga, 0, none⟩) n ac), (.slice (some ⟨gn, 0, none⟩) n nc)])) (c := #[(.int .i64 d.start), (.slice (some ⟨ga, 0, none⟩) n ac), (.slice (some ⟨gn, 0, none⟩) n nc)]) (n := 3) (by decide) zer25 rfl siz25 rfl rfl rfl (by simp [Value.oneCell']) ?_
  intro ba wa Na
  have Fa := Na.ge E
  have Fa_E2 := Na.ge E2
  replace E := E.ext Na.ext
  have Ba := Na.blk
  replace E2 := E2.ext Na.ext
  refine WpL_nil ?_
  refine Wp_seq_region ?_
  refine WpL_val rfl rfl (by decide) (r_loadAgg (vs := [(.int .i64 d.start), (.slice (some ⟨ga, 0, none⟩) n ac), (.slice (some ⟨gn, 0, none⟩) n nc)]) rfl agg25 siz25 rfl (Ba.cells rfl)) ?_
  have hA := hDa.ext E2
  have hR := E2.cell (fun f => f) hrc
  refine WpL_enter rfl rfl (by decide) (r_callF (vs := [(.agg #[(.int .i64 d.start), (.slice (some ⟨ga, 0, none⟩) n ac), (.slice (some ⟨gn, 0, none⟩) n nc)])]) Try.func22 nm22 bd22 rfl) (miniMin_c _ n c d _ okd hA (by omega) (by omega) hla) ?_
  rintro _ w59 ⟨⟨C1, ca1, cc1, ma1, mc1, hC1, hl1, hx1, rfl, hN1⟩, X59⟩
  replace Ba := X59.keep Ba
  replace hA := hA.ext X59
  replace hR := Chg.cell X59 (fun f => f) hR
  replace E := E.ext X59
  have hD1 := hN1.at'
  obtain ⟨okC, hCs, hCb, hCn⟩ := hC1.ok
  have hCa := okC.al
  refine WpL_val rfl rfl (by decide) (r_move (v := (.tuple #[(.agg #[(.int .i64 C1.start), (.slice ca1 C1.accept.length cc1), (.slice ma1 C1.next.length mc1)]), (.int .i64 0)])) rfl) ?_
  refine WpL_val rfl rfl (by decide) (r_extract (vs := #[(.agg #[(.int .i64 C1.start), (.slice ca1 C1.accept.length cc1), (.slice ma1 C1.next.length mc1)]), (.int .i64 0)]) (v := (.agg #[(.int .i64 C1.start), (.slice ca1 C1.accept.length cc1), (.slice ma1 C1.next.length mc1)])) rfl rfl) ?_
  refine WpL_val rfl rfl (by decide) (r_extract (vs := #[(.agg #[(.int .i64 C1.start), (.slice ca1 C1.accept.length cc1), (.slice ma1 C1.next.length mc1)]), (.int .i64 0)]) (v := (.int .i64 0)) rfl rfl) ?_
  refine s_allocStore (v := (.agg #[(.int .i64 C1.start), (.slice ca1 C1.accept.length cc1), (.slice ma1 C1.next.length mc1)])) (c := #[(.int .i64 C1.start), (.slice ca1 C1.accept.length cc1), (.slice ma1 C1.next.length mc1)]) (n := 3) (by decide) zer25 rfl siz25 rfl rfl rfl (by simp [Value.oneCell']) ?_
  intro bb wb Nb
  have Fb := Nb.ge E
  have Ob_ba := Nb.lt Ba
  replace Ba := Nb.keep Ba
  replace hA := hA.ext Nb.ext
  replace hR := Chg.cell Nb.ext (fun f => f) hR
  replace hD1 := hD1.ext Nb.ext
  replace E := E.ext Nb.ext
  have Bb := Nb.blk
  refine WpL_val rfl rfl (by decide) (r_assign (v := (.int .i64 0)) rfl) ?_
  refine WpL_nil ?_
  refine Wp_seq ?_
  refine Wp_seq_region ?_
  refine WpL_val rfl rfl (by decide) (r_move (v := (.int .i64 0)) rfl) ?_
  refine WpL_val rfl rfl (by decide) (r_neq (k := .i64) (a := 0) (b := 0) rfl rfl) ?_
  refine WpL_val rfl rfl (by decide) (r_move (v := (.bool false)) rfl) ?_
  refine WpL_guard_yes (oj := _) rfl rfl (by decide) rfl ?_
  refine WpL_val rfl rfl (by decide) (r_fieldAddr (b := bb) (o := 0) (o' := 2) rfl Try.underlying25 rfl siz23 rfl) ?_
  refine WpL_guard_yes (oj := _) rfl rfl (by decide) rfl ?_
  refine WpL_val rfl rfl (by decide) (r_load (v := (.slice ma1 C1.next.length mc1)) rfl flat23 (Bb.cell rfl)) ?_
  refine WpL_guard_yes (oj := _) rfl rfl (by decide) rfl ?_
  refine WpL_val rfl rfl (by decide) (r_lenSlice (ad := ma1) (n := C1.next.length) (cap := mc1) Try.underlying23 rfl) ?_
  refine WpL_guard_yes (oj := _) rfl rfl (by decide) rfl ?_
  refine WpL_val rfl rfl (by decide) (r_fieldAddr (b := ba) (o := 0) (o' := 2) rfl Try.underlying25 rfl siz23 rfl) ?_
  refine WpL_guard_yes (oj := _) rfl rfl (by decide) rfl ?_
  refine WpL_val rfl rfl (by decide) (r_load (v := (.slice (some ⟨gn, 0, none⟩) n nc)) rfl flat23 (Ba.cell rfl)) ?_
  refine WpL_guard_yes (oj := _) rfl rfl (by decide) rfl ?_
  refine WpL_val rfl rfl (by decide) (r_lenSlice (ad := some ⟨gn, 0, none⟩) (n := n) (cap := nc) Try.underlying23 rfl) ?_
  refine WpL_guard_yes (oj := _) rfl rfl (by decide) rfl ?_
  obtain ⟨e1, he1⟩ : ∃ e, (decide ((((n : Nat) : Int) : Int) < ((C1.next.length : Nat) : Int))) = e := ⟨_, rfl⟩
  refine WpL_val rfl rfl (by decide) ((r_gtr (k := .i64) (a := ((C1.next.length : Nat) : Int)) (b := ((n : Nat) : Int)) rfl rfl).trans (by rw [he1]; try rfl)) ?_
  refine WpL_val rfl rfl (by decide) (r_pick (b := false) (v := (.bool e1)) rfl rfl) ?_
  refine WpL_nil ?_
  subst he1
  have hc2 : ((decide ((((n : Nat) : Int) : Int) < ((C1.next.length : Nat) : Int)))) = false := decide_eq_false (by omega)
  refine Wp_cond_false (congrArg Value.bool hc2) ?_
  refine Wp_skip ?_
  refine thn_normal ?_
  refine Wp_seq_region ?_
  refine WpL_val rfl rfl (by decide) (r_fieldAddr (b := ba) (o := 0) (o' := 2) rfl Try.underlying25 rfl siz23 rfl) ?_
  refine WpL_val rfl rfl (by decide) (r_load (v := (.slice (some ⟨gn, 0, none⟩) n nc)) rfl flat23 (Ba.cell rfl)) ?_
  refine WpL_val rfl rfl (by decide) (r_indexSlice (b := gn) (o := 0) (len := n) (cap := nc) (i := 0) (o' := 0) rfl rfl rfl Try.underlying23 siz22 (by omega) (by omega)) ?_
  refine WpL_val rfl rfl (by decide) (r_load (v := (.slice ra c rc)) rfl flat22 (hR)) ?_
  refine WpL_val rfl rfl (by decide) (r_lenSlice (ad := ra) (n := c) (cap := rc) Try.underlying22 rfl) ?_
  refine WpL_val rfl rfl (by decide) (r_move (v := v2) rfl) ?_
  refine WpL_enter rfl rfl (by decide) (r_callF (vs := [(.int .i64 ((c : Nat) : Int)), (.int .i64 12), v2]) Try.func35 nm35 bd35 rfl) (word_c _ _ l2 c 12 (h2.ext E) (by omega) (by omega)) ?_
  rintro _ w99 ⟨⟨u, ua, uc, rfl, hu, huw, hul⟩, X99⟩
  replace Ba := X99.keep Ba
  replace Bb := X99.keep Bb
  replace hA := hA.ext X99
  replace hR := Chg.cell X99 (fun f => f) hR
  replace hD1 := hD1.ext X99
  replace E := E.ext X99
  have hul3 : (toI u).length ≤ 4000 := by simp [toI]; omega
  refine WpL_val rfl rfl (by decide) (r_assign (v := (.slice ua u.length uc)) rfl) ?_
  refine WpL_nil ?_
  refine Wp_seq_region ?_
  refine WpL_val rfl rfl (by decide) (r_loadAgg (vs := [(.int .i64 d.start), (.slice (some ⟨ga, 0, none⟩) n ac), (.slice (some ⟨gn, 0, none⟩) n nc)]) rfl agg25 siz25 rfl (Ba.cells rfl)) ?_
  refine WpL_val rfl rfl (by decide) (r_move (v := (.slice ua u.length uc)) rfl) ?_
  refine WpL_enter rfl rfl (by decide) (r_callF (vs := [(.agg #[(.int .i64 d.start), (.slice (some ⟨ga, 0, none⟩) n ac), (.slice (some ⟨gn, 0, none⟩) n nc)]), (.slice ua u.length uc)]) Try.func31 nm31 bd31 rfl) (dfrun_c _ n c d _ _ (toI u) okd hA (by omega) (by omega) hu hul3 (toI_rng huw)) ?_
  rintro _ wpp ⟨rfl, Xp⟩
  replace Ba := Xp.keep Ba
  replace Bb := Xp.keep Bb
  replace hA := hA.ext Xp
  replace hR := Chg.cell Xp (fun f => f) hR
  replace hD1 := hD1.ext Xp
  replace hu := hu.ext Xp
  replace E := E.ext Xp
  refine WpL_val rfl rfl (by decide) (r_move (v := (.tuple #[(.int .i64 (beh d d.start ((toI u).map Int.toNat))), (.int .i64 0)])) rfl) ?_
  refine WpL_val rfl rfl (by decide) (r_extract (vs := #[(.int .i64 (beh d d.start ((toI u).map Int.toNat))), (.int .i64 0)]) (v := (.int .i64 (beh d d.start ((toI u).map Int.toNat)))) rfl rfl) ?_
  refine WpL_val rfl rfl (by decide) (r_extract (vs := #[(.int .i64 (beh d d.start ((toI u).map Int.toNat))), (.int .i64 0)]) (v := (.int .i64 0)) rfl rfl) ?_
  refine WpL_val rfl rfl (by decide) (r_assign (v := (.int .i64 (beh d d.start ((toI u).map Int.toNat)))) rfl) ?_
  refine WpL_val rfl rfl (by decide) (r_assign (v := (.int .i64 0)) rfl) ?_
  refine WpL_nil ?_
  refine Wp_seq_region ?_
  refine WpL_val rfl rfl (by decide) (r_loadAgg (vs := [(.int .i64 C1.start), (.slice ca1 C1.accept.length cc1), (.slice ma1 C1.next.length mc1)]) rfl agg25 siz25 rfl (Bb.cells rfl)) ?_
  refine WpL_val rfl rfl (by decide) (r_move (v := (.slice ua u.length uc)) rfl) ?_
  refine WpL_enter rfl rfl (by decide) (r_callF (vs := [(.agg #[(.int .i64 C1.start), (.slice ca1 C1.accept.length cc1), (.slice ma1 C1.next.length mc1)]), (.slice ua u.length uc)]) Try.func31 nm31 bd31 rfl) (dfrun_c _ C1.next.length c C1 _ _ (toI u) okC hD1 (by omega) (by omega) hu hul3 (toI_rng huw)) ?_
  rintro _ wqq ⟨rfl, Xq⟩
  replace Ba := Xq.keep Ba
  replace Bb := Xq.keep Bb
  replace hA := hA.ext Xq
  replace hR := Chg.cell Xq (fun f => f) hR
  replace hD1 := hD1.ext Xq
  replace hu := hu.ext Xq
  replace E := E.ext Xq
  refine WpL_val rfl rfl (by decide) (r_move (v := (.tuple #[(.int .i64 (beh C1 C1.start ((toI u).map Int.toNat))), (.int .i64 0)])) rfl) ?_
  refine WpL_val rfl rfl (by decide) (r_extract (vs := #[(.int .i64 (beh C1 C1.start ((toI u).map Int.toNat))), (.int .i64 0)]) (v := (.int .i64 (beh C1 C1.start ((toI u).map Int.toNat)))) rfl rfl) ?_
  refine WpL_val rfl rfl (by decide) (r_extract (vs := #[(.int .i64 (beh C1 C1.start ((toI u).map Int.toNat))), (.int .i64 0)]) (v := (.int .i64 0)) rfl rfl) ?_
  refine WpL_val rfl rfl (by decide) (r_assign (v := (.int .i64 (beh C1 C1.start ((toI u).map Int.toNat)))) rfl) ?_
  refine WpL_val rfl rfl (by decide) (r_assign (v := (.int .i64 0)) rfl) ?_
  refine WpL_nil ?_
  refine Wp_seq_region ?_
  refine WpL_val rfl rfl (by decide) (r_loadAgg (vs := [(.int .i64 C1.start), (.slice ca1 C1.accept.length cc1), (.slice ma1 C1.next.length mc1)]) rfl agg25 siz25 rfl (Bb.cells rfl)) ?_
  refine WpL_enter rfl rfl (by decide) (r_callF (vs := [(.agg #[(.int .i64 C1.start), (.slice ca1 C1.accept.length cc1), (.slice ma1 C1.next.length mc1)])]) Try.func22 nm22 bd22 rfl) (miniMin_c _ C1.next.length c C1 _ okC hD1 (by omega) (by omega) hx1) ?_
  rintro _ w69 ⟨⟨C2, ca2, cc2, ma2, mc2, hC2, hl2, hx2, rfl, hN2⟩, X69⟩
  replace Ba := X69.keep Ba
  replace Bb := X69.keep Bb
  replace hA := hA.ext X69
  replace hR := Chg.cell X69 (fun f => f) hR
  replace hD1 := hD1.ext X69
  replace hu := hu.ext X69
  replace E := E.ext X69
  have hD2 := hN2.at'
  refine WpL_val rfl rfl (by decide) (r_move (v := (.tuple #[(.agg #[(.int .i64 C2.start), (.slice ca2 C2.accept.length cc2), (.slice ma2 C2.next.length mc2)]), (.int .i64 0)])) rfl) ?_
  refine WpL_val rfl rfl (by decide) (r_extract (vs := #[(.agg #[(.int .i64 C2.start), (.slice ca2 C2.accept.length cc2), (.slice ma2 C2.next.length mc2)]), (.int .i64 0)]) (v := (.agg #[(.int .i64 C2.start), (.slice ca2 C2.accept.length cc2), (.slice ma2 C2.next.length mc2)])) rfl rfl) ?_
  refine WpL_val rfl rfl (by decide) (r_extract (vs := #[(.agg #[(.int .i64 C2.start), (.slice ca2 C2.accept.length cc2), (.slice ma2 C2.next.length mc2)]), (.int .i64 0)]) (v := (.int .i64 0)) rfl rfl) ?_
  refine s_allocStore (v := (.agg #[(.int .i64 C2.start), (.slice ca2 C2.accept.length cc2), (.slice ma2 C2.next.length mc2)])) (c := #[(.int .i64 C2.start), (.slice ca2 C2.accept.length cc2), (.slice ma2 C2.next.length mc2)]) (n := 3) (by decide) zer25 rfl siz25 rfl rfl rfl (by simp [Value.oneCell']) ?_
  intro be we Ne
  have Fe := Ne.ge E
  have Oe_ba := Ne.lt Ba
  have Oe_bb := Ne.lt Bb
  replace Ba := Ne.keep Ba
  replace Bb := Ne.keep Bb
  replace hA := hA.ext Ne.ext
  replace hR := Chg.cell Ne.ext (fun f => f) hR
  replace hD1 := hD1.ext Ne.ext
  replace hu := hu.ext Ne.ext
  replace hD2 := hD2.ext Ne.ext
  replace E := E.ext Ne.ext
  have Be := Ne.blk
  refine WpL_val rfl rfl (by decide) (r_assign (v := (.int .i64 0)) rfl) ?_
  refine WpL_nil ?_
  refine Wp_seq_region ?_
  refine WpL_val rfl rfl (by decide) (r_loadAgg (vs := [(.int .i64 C1.start), (.slice ca1 C1.accept.length cc1), (.slice ma1 C1.next.length mc1)]) rfl agg25 siz25 rfl (Bb.cells rfl)) ?_
  obtain ⟨hz0, hz1, hz2⟩ : w0.heap.size ≤ (we).heap.size ∧ ba < (we).heap.size ∧ bb < (we).heap.size := ⟨E.size, Ba.lt, Bb.lt⟩
  refine WpL_enter rfl rfl (by decide) (r_callF (vs := [(.agg #[(.int .i64 C1.start), (.slice ca1 C1.accept.length cc1), (.slice ma1 C1.next.length mc1)])]) Try.func37 nm37 bd37 rfl) (index_n _ C1.next.length c C1 _ okC hD1 (by omega) (by omega) hx1 hC1.nodup) ?_
  rintro _ w79 ⟨⟨g9, oc, rfl, hO⟩, X79⟩
  replace Ba := X79.keep Ba
  replace Bb := X79.keep Bb
  replace Be := X79.keep Be
  replace hA := hA.ext X79
  replace hR := Chg.cell X79 (fun f => f) hR
  replace hD1 := hD1.ext X79
  replace hu := hu.ext X79
  replace hD2 := hD2.ext X79
  replace E := E.ext X79
  refine WpL_val rfl rfl (by decide) (r_move (v := (.tuple #[(.slice (some ⟨g9, 0, none⟩) C1.next.length oc), (.int .i64 0)])) rfl) ?_
  refine WpL_val rfl rfl (by decide) (r_extract (vs := #[(.slice (some ⟨g9, 0, none⟩) C1.next.length oc), (.int .i64 0)]) (v := (.slice (some ⟨g9, 0, none⟩) C1.next.length oc)) rfl rfl) ?_
  refine WpL_val rfl rfl (by decide) (r_extract (vs := #[(.slice (some ⟨g9, 0, none⟩) C1.next.length oc), (.int .i64 0)]) (v := (.int .i64 0)) rfl rfl) ?_
  refine WpL_val rfl rfl (by decide) (r_assign (v := (.slice (some ⟨g9, 0, none⟩) C1.next.length oc)) rfl) ?_
  refine WpL_val rfl rfl (by decide) (r_assign (v := (.int .i64 0)) rfl) ?_
  refine WpL_nil ?_
  refine Wp_seq ?_
  refine Wp_seq_region ?_
  refine WpL_val rfl rfl (by decide) (r_move (v := (.int .i64 0)) rfl) ?_
  refine WpL_val rfl rfl (by decide) (r_move (v := (.int .i64 0)) rfl) ?_
  refine WpL_val rfl rfl (by decide) (r_move (v := (.int .i64 0)) rfl) ?_
  refine WpL_val rfl rfl (by decide) (r_move (v := (.int .i64 0)) rfl) ?_
  refine s_buildSlice (ps := [(0, (.int .i64 0)), (1, (.int .i64 0)), (2, (.int .i64 0)), (3, (.int .i64 0))]) (c := #[(.int .i64 0), (.int .i64 0), (.int .i64 0), (.int .i64 0)]) (by decide) rfl Try.underlying85 siz26 zer26 (by decide) (by decide) (by kernel_rfl) ?_
  intro bg wg Ng
  have Fg := Ng.ge E
  have Og_ba := Ng.lt Ba
  have Og_bb := Ng.lt Bb
  have Og_be := Ng.lt Be
  replace Ba := Ng.keep Ba
  replace Bb := Ng.keep Bb
  replace Be := Ng.keep Be
  replace hA := hA.ext Ng.ext
  replace hR := Chg.cell Ng.ext (fun f => f) hR
  replace hD1 := hD1.ext Ng.ext
  replace hu := hu.ext Ng.ext
  replace hD2 := hD2.ext Ng.ext
  replace hO := own_ext hO Ng.ext
  replace E := E.ext Ng.ext
  have Bg := Ng.blk
  refine WpL_enter rfl rfl (by decide) (r_callF (vs := [(.slice (some ⟨bg, 0, none⟩) 4 4)]) Try.func24 nm24 bd24 rfl) (good_c _ _ [0, 0, 0, 0] (ints_of_blk [0, 0, 0, 0] Bg (by decide) (by decide))) ?_
  rintro _ wg2 ⟨rfl, Xg2⟩
  replace Ba := Xg2.keep Ba
  replace Bb := Xg2.keep Bb
  replace Be := Xg2.keep Be
  replace Bg := Xg2.keep Bg
  replace hA := hA.ext Xg2
  replace hR := Chg.cell Xg2 (fun f => f) hR
  replace hD1 := hD1.ext Xg2
  replace hu := hu.ext Xg2
  replace hD2 := hD2.ext Xg2
  replace hO := own_ext hO Xg2
  replace E := E.ext Xg2
  have heq : C2 = C1 := CanOf.uniq hC2 hC1 hCb
  have hbe : beh d d.start ((toI u).map Int.toNat) = beh C1 C1.start ((toI u).map Int.toNat) := by rw [toI_nat, hCb u huw]
  refine WpL_val rfl rfl (by decide) (r_not (b := true) rfl) ?_
  refine WpL_val rfl rfl (by decide) (r_move (v := (.bool false)) rfl) ?_
  refine WpL_guard_yes (oj := _) rfl rfl (by decide) rfl ?_
  refine WpL_val rfl rfl (by decide) (r_move (v := (.int .i64 (beh d d.start ((toI u).map Int.toNat)))) rfl) ?_
  refine WpL_guard_yes (oj := _) rfl rfl (by decide) rfl ?_
  refine WpL_val rfl rfl (by decide) (r_move (v := (.int .i64 (beh C1 C1.start ((toI u).map Int.toNat)))) rfl) ?_
  refine WpL_guard_yes (oj := _) rfl rfl (by decide) rfl ?_
  refine WpL_val rfl rfl (by decide) (r_neq (k := .i64) (a := beh d d.start ((toI u).map Int.toNat)) (b := beh C1 C1.start ((toI u).map Int.toNat)) rfl rfl) ?_
  refine WpL_val rfl rfl (by decide) (r_pick (b := false) (v := (.bool (decide ((beh d d.start ((toI u).map Int.toNat) : Int) ≠ beh C1 C1.start ((toI u).map Int.toNat))))) rfl rfl) ?_
  refine WpL_val rfl rfl (by decide) (r_move (v := (.bool (decide ((beh d d.start ((toI u).map Int.toNat) : Int) ≠ beh C1 C1.start ((toI u).map Int.toNat))))) rfl) ?_
  have hg3 : (decide ((beh d d.start ((toI u).map Int.toNat) : Int) ≠ beh C1 C1.start ((toI u).map Int.toNat))) = false := decide_eq_false (by rw [hbe]; simp)
  refine WpL_guard_yes (oj := _) rfl rfl (by decide) (congrArg Value.bool hg3) ?_
  refine WpL_val rfl rfl (by decide) (r_loadAgg (vs := [(.int .i64 C2.start), (.slice ca2 C2.accept.length cc2), (.slice ma2 C2.next.length mc2)]) rfl agg25 siz25 rfl (Be.cells rfl)) ?_
  refine WpL_guard_yes (oj := _) rfl rfl (by decide) (congrArg Value.bool hg3) ?_
  refine WpL_val rfl rfl (by decide) (r_loadAgg (vs := [(.int .i64 C1.start), (.slice ca1 C1.accept.length cc1), (.slice ma1 C1.next.length mc1)]) rfl agg25 siz25 rfl (Bb.cells rfl)) ?_
  refine WpL_guard_yes (oj := _) rfl rfl (by decide) (congrArg Value.bool hg3) ?_
  refine WpL_enter rfl rfl (by decide) (r_callF (vs := [(.agg #[(.int .i64 C2.start), (.slice ca2 C2.accept.length cc2), (.slice ma2 C2.next.length mc2)]), (.agg #[(.int .i64 C1.start), (.slice ca1 C1.accept.length cc1), (.slice ma1 C1.next.length mc1)])]) Try.func25 nm25 bd25 rfl) (equalD_c _ C2 C1 _ _ hD2 hD1 (by omega)) ?_
  rintro _ w89 ⟨rfl, X89⟩
  replace Ba := X89.keep Ba
  replace Bb := X89.keep Bb
  replace Be := X89.keep Be
  replace Bg := X89.keep Bg
  replace hA := hA.ext X89
  replace hR := Chg.cell X89 (fun f => f) hR
  replace hD1 := hD1.ext X89
  replace hu := hu.ext X89
  replace hD2 := hD2.ext X89
  replace hO := own_ext hO X89
  replace E := E.ext X89
  refine WpL_guard_yes (oj := _) rfl rfl (by decide) (congrArg Value.bool hg3) ?_
  refine WpL_val rfl rfl (by decide) (r_not (b := decide (C2 = C1)) rfl) ?_
  refine WpL_val rfl rfl (by decide) (r_pick (b := decide ((beh d d.start ((toI u).map Int.toNat) : Int) ≠ beh C1 C1.start ((toI u).map Int.toNat))) (v := (.bool (!(decide (C2 = C1))))) rfl (by rw [hg3]; rfl)) ?_
  refine WpL_nil ?_
  have hc4 : (!(decide (C2 = C1))) = false := by rw [decide_eq_true heq]; rfl
  refine Wp_cond_false (congrArg Value.bool hc4) ?_
  refine Wp_skip ?_
  refine thn_normal ?_
  refine Wp_seq_region ?_
  refine WpL_val rfl rfl (by decide) (r_move (v := (.slice (some ⟨g9, 0, none⟩) C1.next.length oc)) rfl) ?_
  have hlN : (toI (List.range C1.next.length)).length = C1.next.length := by simp [toI]
  have hne : toI (List.range C1.next.length) ≠ [] := fun h => by rw [h] at hlN; simp at hlN; omega
  refine WpL_enter rfl rfl (by decide) (r_callF (vs := [(.slice (some ⟨g9, 0, none⟩) C1.next.length oc)]) Try.func38 nm38 bd38 rfl) (sorti_n _ _ oc C1.next.length _ _ hO hlN hne (range_up _) (by omega)) ?_
  rintro _ w109 ⟨rfl, ⟨gg, hgg, hHo, hoc⟩, C109⟩
  replace Ba := C109.keep (fun h => by have := (hO.lt _ h).1; omega) Ba
  replace Bb := C109.keep (fun h => by have := (hO.lt _ h).1; omega) Bb
  replace E := E.step C109 (fun x hx h => absurd (hO.lt x h).1 (by omega))
  have hgg9 : g9 = gg := by simpa using hgg
  subst hgg9
  have hg9l : g9 < (w109).heap.size := by have := (hO.lt g9 rfl).2; have := C109.size; omega
  have hcm := own_caps9 hO
  have hg9b := (hO.lt g9 rfl).1
  refine WpL_nil ?_
  have hz_5 : w0.heap.size ≤ w109.heap.size := E.size
  have lz_5_ba : ba < w109.heap.size := Ba.lt
  have lz_5_bb : bb < w109.heap.size := Bb.lt
  refine Wp_seq ?_
  obtain ⟨Fs5, hFs5⟩ : ∃ Fs : List FctS, Fs = [(fun _ _ v _ => v = (.slice (some ⟨g9, 0, none⟩) C1.next.length oc)), (fun _ _ v _ => v = (.slice (some ⟨g9, 0, none⟩) C1.next.length oc)), (fun _ _ v _ => v = (.int .i64 ((C1.next.length : Nat) : Int))), (fun _ _ v _ => v = (.pointer (some ⟨bb, 2, none⟩))), (fun _ _ v _ => v = (.slice ma1 C1.next.length mc1)), (fun _ _ v _ => v = (.int .i64 ((C1.next.length : Nat) : Int))), (fun _ _ v _ => v = (.bool (decide ((((C1.next.length : Nat) : Int) : Int) = ((C1.next.length : Nat) : Int))))), (fun _ _ v _ => v = (.bool (decide ((((C1.next.length : Nat) : Int) : Int) = ((C1.next.length : Nat) : Int)))))] := ⟨_, rfl⟩
  refine Wp_dagS (MsL [(1, (fun y => y = g9))]) [true, true, true, true, true, true, true, true] [] [90, 91, 92, 93, 94, 95, 96, 4] [[], [0], [1], [], [3], [4], [2, 5], [0, 1, 2, 3, 4, 5, 6]] [[], [0], [1, 0], [], [3], [4, 3], [2, 1, 0, 5, 4, 3], [0, 1, 2, 3, 4, 5, 6]] Fs5 hFs5 (by kernel_rfl) mixed (by kernel_rfl) (by kernel_rfl) (by kernel_rfl) (by kernel_rfl) ?_ ?_
  · intro wd X0
    refine DagStepsS.cons (StabS.eq) (LocS.const) (fun S s' w' hi hN X U H => Or.inl ⟨Guarded_none rfl, ?_⟩) ?_
    · replace X := X.mono (M' := none1) (fun y _ h => by
          obtain ⟨j, hj, h⟩ := h
          rcases MsL_or h with ⟨rfl, h0⟩ | h0
          · exact Bool.noConfusion (hj.symm.trans (hN 1 rfl))
          exact h0.elim)
      exact DoesT_pure (r_move (v := (.slice (some ⟨g9, 0, none⟩) C1.next.length oc)) (U 15 rfl)) rfl
    refine DagStepsS.cons (StabS.eq) (LocS.const) (fun S s' w' hi hN X U H => Or.inl ⟨Guarded_none rfl, ?_⟩) ?_
    · replace X := X.mono (M' := none1) (fun y _ h => by
          obtain ⟨j, hj, h⟩ := h
          rcases MsL_or h with ⟨rfl, h0⟩ | h0
          · exact Bool.noConfusion (hj.symm.trans hi)
          exact h0.elim)
      have e90 : s' 90 = (.slice (some ⟨g9, 0, none⟩) C1.next.length oc) := (H 0 rfl).2 90 (fun _ _ v _ => v = (.slice (some ⟨g9, 0, none⟩) C1.next.length oc)) rfl (by rw [hFs5]; rfl)
      exact DoesT_enter (r_callF (vs := [(.slice (some ⟨g9, 0, none⟩) C1.next.length oc)]) Try.func39 nm39 bd39 (lst1 e90)) ((compi_n _ g9 oc C1.next.length _ (holds_ext hHo hg9l (X0.trans X)) hlN (range_up _) (by omega)).mono (fun v w h => ⟨h.1, h.2.mono fun x _ hx => .inl ⟨rfl, hx⟩⟩))
    refine DagStepsS.cons (StabS.eq) (LocS.const) (fun S s' w' hi hN X U H => Or.inl ⟨Guarded_none rfl, ?_⟩) ?_
    · replace X := X.mono (M' := (fun y => (fun y => y = g9) y)) (fun y _ h => by
          obtain ⟨j, hj, h⟩ := h
          rcases MsL_or h with ⟨rfl, h0⟩ | h0
          · exact h0
          exact h0.elim)
      have e91 : s' 91 = (.slice (some ⟨g9, 0, none⟩) C1.next.length oc) := (H 1 rfl).2 91 (fun _ _ v _ => v = (.slice (some ⟨g9, 0, none⟩) C1.next.length oc)) rfl (by rw [hFs5]; rfl)
      exact DoesT_pure (r_lenSlice (ad := some ⟨g9, 0, none⟩) (n := C1.next.length) (cap := oc) Try.underlying22 e91) rfl
    refine DagStepsS.cons (StabS.eq) (LocS.const) (fun S s' w' hi hN X U H => Or.inl ⟨Guarded_none rfl, ?_⟩) ?_
    · replace X := X.mono (M' := (fun y => (fun y => y = g9) y)) (fun y _ h => by
          obtain ⟨j, hj, h⟩ := h
          rcases MsL_or h with ⟨rfl, h0⟩ | h0
          · exact h0
          exact h0.elim)
      exact DoesT_pure (r_fieldAddr (b := bb) (o := 0) (o' := 2) (U 6 rfl) Try.underlying25 rfl siz23 rfl) rfl
    refine DagStepsS.cons (StabS.eq) (LocS.const) (fun S s' w' hi hN X U H => Or.inl ⟨Guarded_none rfl, ?_⟩) ?_
    · replace X := X.mono (M' := (fun y => (fun y => y = g9) y)) (fun y _ h => by
          obtain ⟨j, hj, h⟩ := h
          rcases MsL_or h with ⟨rfl, h0⟩ | h0
          · exact h0
          exact h0.elim)
      have e93 : s' 93 = (.pointer (some ⟨bb, 2, none⟩)) := (H 3 rfl).2 93 (fun _ _ v _ => v = (.pointer (some ⟨bb, 2, none⟩))) rfl (by rw [hFs5]; rfl)
      exact DoesT_pure (r_load (v := (.slice ma1 C1.next.length mc1)) e93 flat23 ((Chg.keep X (fun h => by have h' : bb = g9 := h; omega) (X0.keep Bb)).cell rfl)) rfl
    refine DagStepsS.cons (StabS.eq) (LocS.const) (fun S s' w' hi hN X U H => Or.inl ⟨Guarded_none rfl, ?_⟩) ?_
    · replace X := X.mono (M' := (fun y => (fun y => y = g9) y)) (fun y _ h => by
          obtain ⟨j, hj, h⟩ := h
          rcases MsL_or h with ⟨rfl, h0⟩ | h0
          · exact h0
          exact h0.elim)
      have e94 : s' 94 = (.slice ma1 C1.next.length mc1) := (H 4 rfl).2 94 (fun _ _ v _ => v = (.slice ma1 C1.next.length mc1)) rfl (by rw [hFs5]; rfl)
      exact DoesT_pure (r_lenSlice (ad := ma1) (n := C1.next.length) (cap := mc1) Try.underlying23 e94) rfl
    refine DagStepsS.cons (StabS.eq) (LocS.const) (fun S s' w' hi hN X U H => Or.inl ⟨Guarded_none rfl, ?_⟩) ?_
    · replace X := X.mono (M' := (fun y => (fun y => y = g9) y)) (fun y _ h => by
          obtain ⟨j, hj, h⟩ := h
          rcases MsL_or h with ⟨rfl, h0⟩ | h0
          · exact h0
          exact h0.elim)
      have e92 : s' 92 = (.int .i64 ((C1.next.length : Nat) : Int)) := (H 2 rfl).2 92 (fun _ _ v _ => v = (.int .i64 ((C1.next.length : Nat) : Int))) rfl (by rw [hFs5]; rfl)
      have e95 : s' 95 = (.int .i64 ((C1.next.length : Nat) : Int)) := (H 5 rfl).2 95 (fun _ _ v _ => v = (.int .i64 ((C1.next.length : Nat) : Int))) rfl (by rw [hFs5]; rfl)
      exact DoesT_pure (r_eql (k := .i64) (a := ((C1.next.length : Nat) : Int)) (b := ((C1.next.length : Nat) : Int)) e92 e95) rfl
    refine DagStepsS.cons (StabS.eq) (LocS.const) (fun S s' w' hi hN X U H => Or.inl ⟨Guarded_none rfl, ?_⟩) ?_
    · replace X := X.mono (M' := (fun y => (fun y => y = g9) y)) (fun y _ h => by
          obtain ⟨j, hj, h⟩ := h
          rcases MsL_or h with ⟨rfl, h0⟩ | h0
          · exact h0
          exact h0.elim)
      have e96 : s' 96 = (.bool (decide ((((C1.next.length : Nat) : Int) : Int) = ((C1.next.length : Nat) : Int)))) := (H 6 rfl).2 96 (fun _ _ v _ => v = (.bool (decide ((((C1.next.length : Nat) : Int) : Int) = ((C1.next.length : Nat) : Int))))) rfl (by rw [hFs5]; rfl)
      exact DoesT_pure (r_assign (v := (.bool (decide ((((C1.next.length : Nat) : Int) : Int) = ((C1.next.length : Nat) : Int))))) e96) rfl
    exact DagStepsS.nil
  · intro s' wd5 w5 X0 X5 U H
    replace X5 := X5.mono (M' := (fun y => (fun y => y = g9) y)) (fun y _ h => by
        obtain ⟨j, hj, h⟩ := h
        rcases MsL_or h with ⟨rfl, h0⟩ | h0
        · exact h0
        exact h0.elim)
    have e4 : s' 4 = (.bool (decide ((((C1.next.length : Nat) : Int) : Int) = ((C1.next.length : Nat) : Int)))) := H 7 rfl 4 (fun _ _ v _ => v = (.bool (decide ((((C1.next.length : Nat) : Int) : Int) = ((C1.next.length : Nat) : Int))))) rfl (by rw [hFs5]; rfl)
    obtain ⟨j5, rfl⟩ := Fits.out (σ := s') (l := [(4, (.bool (decide ((((C1.next.length : Nat) : Int) : Int) = ((C1.next.length : Nat) : Int)))))]) ⟨e4, trivial⟩
    clear U H
    replace Ba := Chg.keep X5 (fun h => by dsimp only at h; omega) (X0.keep Ba)
    replace Bb := Chg.keep X5 (fun h => by have h' : bb = g9 := h; omega) (X0.keep Bb)
    replace E := (E.ext X0).step X5 (fun y hy h => by dsimp only at h; omega)
    refine WpL_nil ?_
    refine thn_normal ?_
    refine Wp_ret ?_
    refine fin_tmp Try.results8 (v := (.bool (decide ((((C1.next.length : Nat) : Int) : Int) = ((C1.next.length : Nat) : Int))))) rfl ?_
    exact ⟨bool_eq (decide_eq_true rfl), E⟩
end Go.Proofs
