/- Regions in which two operations change memory, the second behind the first, and all come in any order but for that. Generic: no program is named. -/
import Derived.Test.YtncmfkibflogkaaDagT
namespace Go.Eng
open Go

def two (c1 c2 : Nat) (M1 M2 : Nat → Prop) (p : Nat) : Nat → Prop := bif Nat.beq p c1 then M1 else bif Nat.beq p c2 then M2 else none1
/-- An operation that is sure to be yet to come when operation i is done. -/
def gone (wss : List (List Nat)) (i j : Nat) : Bool := Nat.beq j i || (wss.getD j []).contains i
def Past (wss : List (List Nat)) (Ms : Nat → Nat → Prop) (i : Nat) : Nat → Prop := fun y => ∃ j, gone wss i j = false ∧ Ms j y
theorem two_or {c1 c2 : Nat} {M1 M2 : Nat → Prop} {p y : Nat} (h : two c1 c2 M1 M2 p y) : (p = c1 ∧ M1 y) ∨ (p = c2 ∧ M2 y) := by
  unfold two at h
  cases h1 : Nat.beq p c1 with
  | true => rw [h1] at h; exact .inl ⟨Nat.eq_of_beq_eq_true h1, h⟩
  | false =>
    rw [h1] at h
    cases h2 : Nat.beq p c2 with
    | true => rw [h2] at h; exact .inr ⟨Nat.eq_of_beq_eq_true h2, h⟩
    | false => rw [h2] at h; exact h.elim
section
variable {wss : List (List Nat)} {c1 c2 i y : Nat} {M1 M2 : Nat → Prop}
theorem Past.or (h : Past wss (two c1 c2 M1 M2) i y) : M1 y ∨ M2 y := by
  obtain ⟨j, _, h2⟩ := h
  rcases two_or h2 with h | h
  · exact .inl h.2
  · exact .inr h.2
theorem Past.fst (hg : gone wss i c2 = true) (h : Past wss (two c1 c2 M1 M2) i y) : M1 y := by
  obtain ⟨j, h1, h2⟩ := h
  rcases two_or h2 with h | h
  · exact h.2
  · rw [h.1, hg] at h1; cases h1
theorem Past.none (hg : gone wss i c1 = true) (hg2 : gone wss i c2 = true) (h : Past wss (two c1 c2 M1 M2) i y) : False := by
  obtain ⟨j, h1, h2⟩ := h
  rcases two_or h2 with h | h
  · rw [h.1, hg] at h1; cases h1
  · rw [h.1, hg2] at h1; cases h1
theorem two_ext {p : Nat} {w w' : World} (h : Chg (two c1 c2 M1 M2 p) w w') : (p = c1 ∧ Chg M1 w w') ∨ (p = c2 ∧ Chg M2 w w') ∨ Ext w w' := by
  unfold two at h
  cases h1 : Nat.beq p c1 with
  | true => rw [h1] at h; exact .inl ⟨Nat.eq_of_beq_eq_true h1, h⟩
  | false =>
    rw [h1] at h
    cases h2 : Nat.beq p c2 with
    | true => rw [h2] at h; exact .inr (.inl ⟨Nat.eq_of_beq_eq_true h2, h⟩)
    | false => rw [h2] at h; exact .inr (.inr h)
end
/-- A fact of a value that may also speak of the values of the operations ahead of it. -/
abbrev FctE := Env → Fct
def HoldsX (ds : List Nat) (Fs : List FctE) (j : Nat) (σ : Env) (w : World) : Prop := ∀ d F, ds[j]? = some d → Fs[j]? = some F → F σ (σ d) w
def DagStepX (P : Program) (N : Nat) (ds : List Nat) (Fs : List FctE) (σ : Env) (w : World) (Ms : Nat → Nat → Prop) (all : List (List Nat)) (i : Nat) (o : Oper) (ws : List Nat) (F : FctE) : Prop :=
  ∀ σ' w', Chg (Past all Ms i) w w' → (∀ t, ds.contains t = false → σ' t = σ t) → (∀ j, ws.contains j = true → HoldsX ds Fs j σ' w') → DoesT (Ms i) P N o (fun v w => F σ' (valOf o v) w) σ' w'
def StabX (Ms : Nat → Nat → Prop) (i : Nat) (ws : List Nat) (F : FctE) : Prop := ∀ p, p ≠ i → ws.contains p = false → ∀ σ v w w', Chg (Ms p) w w' → F σ v w → F σ v w'
def LocX (ds : List Nat) (ws : List Nat) (F : FctE) : Prop := ∀ σ1 σ2 : Env, (∀ j d, ws.contains j = true → ds[j]? = some d → σ2 d = σ1 d) → ∀ v w, F σ1 v w → F σ2 v w
theorem StabX.eq {Ms : Nat → Nat → Prop} {i : Nat} {ws : List Nat} {u : Value} : StabX Ms i ws (fun _ v _ => v = u) := fun _ _ _ _ _ _ _ _ h => h
theorem LocX.const {ds ws : List Nat} {G : Fct} : LocX ds ws (fun _ => G) := fun _ _ _ _ _ h => h
inductive DagStepsX (P : Program) (N : Nat) (ds : List Nat) (Fs : List FctE) (σ : Env) (w : World) (Ms : Nat → Nat → Prop) (all : List (List Nat)) : Nat → List Oper → List (List Nat) → List FctE → Prop where
  | nil {i : Nat} : DagStepsX P N ds Fs σ w Ms all i [] [] []
  | cons {i : Nat} {o : Oper} {l : List Oper} {ws : List Nat} {wss : List (List Nat)} {F : FctE} {Gs : List FctE} (s : StabX Ms i ws F) (lc : LocX ds ws F) (h : DagStepX P N ds Fs σ w Ms all i o ws F) (t : DagStepsX P N ds Fs σ w Ms all (i + 1) l wss Gs) : DagStepsX P N ds Fs σ w Ms all i (o :: l) (ws :: wss) (F :: Gs)
theorem DagStepsX.get {P : Program} {N : Nat} {ds : List Nat} {Fs : List FctE} {σ : Env} {w : World} {Ms : Nat → Nat → Prop} {all : List (List Nat)} : ∀ {i : Nat} {l : List Oper} {wss : List (List Nat)} {Gs : List FctE}, DagStepsX P N ds Fs σ w Ms all i l wss Gs → ∀ {j : Nat} {o : Oper}, l[j]? = some o → ∃ ws F, wss[j]? = some ws ∧ Gs[j]? = some F ∧ StabX Ms (i + j) ws F ∧ LocX ds ws F ∧ DagStepX P N ds Fs σ w Ms all (i + j) o ws F
  | _, _, _, _, .nil, j, o, h => by simp at h
  | i, _, _, _, .cons s lc h t, 0, o, ho => by
    simp at ho; subst ho
    exact ⟨_, _, rfl, rfl, s, lc, h⟩
  | i, _, _, _, .cons s lc h t, j + 1, o, ho => by
    simp at ho
    obtain ⟨ws, F, h1, h2, h3, h5, h4⟩ := DagStepsX.get t ho
    exact ⟨ws, F, by simpa using h1, by simpa using h2, by rw [show i + (j + 1) = i + 1 + j from by omega]; exact h3, h5, by rw [show i + (j + 1) = i + 1 + j from by omega]; exact h4⟩
/-- Waits that follow from the given ones. -/
def closB1 (wss cl : List (List Nat)) (i : Nat) : Bool := (cl.getD i []).all fun c => (wss.getD i []).contains c || (wss.getD i []).any fun e => (cl.getD e []).contains c
def closB (wss cl : List (List Nat)) : Bool := (List.range wss.length).all (closB1 wss cl)
theorem closB_get {wss cl : List (List Nat)} (h : closB wss cl = true) {i c : Nat} {ws : List Nat} (hw : wss[i]? = some ws) (hc : (cl.getD i []).contains c = true) : c ∈ ws ∨ ∃ e ∈ ws, (cl.getD e []).contains c = true := by
  have h1 := List.all_eq_true.1 h i (List.mem_range.2 (lt_of_get hw))
  have h2 := List.all_eq_true.1 h1 c (by simpa using hc)
  rw [List.getD_eq_getElem?_getD, hw, Option.getD_some, Bool.or_eq_true] at h2
  rcases h2 with h2 | h2
  · exact .inl (by simpa using h2)
  · obtain ⟨e, he, h3⟩ := List.any_eq_true.1 h2
    exact .inr ⟨e, he, h3⟩
theorem Wp_dagX {P : Program} {N : Nat} {Q : Post} {σ : Env} {w : World} {id : Nat} {l : List Oper} (Ms : Nat → Nat → Prop) (n : Nat) (ds : List Nat) (wss cl : List (List Nat)) (Fs : List FctE) {Gs : List FctE} (hG : Fs = Gs) (hC : closB wss cl = true) (hm : P.follows .mixedOrders = true) (hB : dagBT N 0 (l.take n) ds wss = true) (hn : nodupB ds = true)
    (hT : (decide (n < l.length) && Region.sinkB .any l.toArray n && Region.chainB .any l.toArray n && Region.seqB .any l.toArray (l.length - n) n (headDone n l.length)) = true)
    (steps : ∀ w1, Ext w w1 → DagStepsX P N ds Fs σ w1 Ms cl 0 (l.take n) cl Gs)
    (k : ∀ σ' w1 w', Ext w w1 → Chg (fun y => ∃ j, Ms j y) w1 w' → (∀ t, ds.contains t = false → σ' t = σ t) → (∀ j, HoldsX ds Fs j σ' w') → WpL P N l.toArray (Q .normal) Q (l.drop n) σ' w') : Wp P N (.region id l.toArray true) Q σ w := by
  intro a ha he
  have eQ : lift N (thn (Q .normal) Q) = lift N Q := by funext e a w; cases e <;> rfl
  refine wp_region_any hm ?_
  obtain ⟨w1, hw1⟩ : ∃ w1 : World, w1 = { w with drawn := w.drawn + 1 } := ⟨_, rfl⟩
  have hE1 : Ext w w1 := by rw [hw1]; exact drew_ext w
  rw [← hw1]
  have hst := steps w1 hE1
  rw [← hG] at hst
  simp only [Bool.and_eq_true, decide_eq_true_eq] at hT
  obtain ⟨⟨⟨hnl, hs⟩, hc⟩, hseq⟩ := hT
  have hlen : ds.length = n := by rw [dagBT_len hB]; simp; omega
  have key : ∀ (m : Nat) (listed : Array Bool) (a : Act) (w' : World), (listed.toList.take n).count false = m → HeadInv .any l.toArray n listed → Ok N a → Chg (fun y => ∃ j, listed.getD j false = true ∧ Ms j y) w1 w' → (∀ t, ds.contains t = false → env a t = σ t) → (∀ j, listed.getD j false = true → HoldsX ds Fs j (env a) w') →
      wpAny P .any l.toArray (lift N Q) (m + (l.length - n)) listed a w' := by
    intro m
    induction m with
    | zero =>
      intro listed a w' hc0 inv ha hx hu hh
      have hsz : listed.size = l.length := by simpa using inv.size
      have hl : listed = headDone n l.length := by
        apply Array.ext'
        rw [headDone]
        have := head_all (l := listed.toList) (n := n) (by simp; omega) hc0 (by
          intro t h1 h2
          have h2' : t < listed.size := by simpa using h2
          have := inv.tail t h1 (by simpa [hsz] using h2')
          simp only [Array.getD_eq_getD_getElem?, Array.getElem?_eq_getElem h2', Option.getD_some] at this
          simp [h2', this])
        rw [this]; simp [hsz]
      rw [Nat.zero_add]
      have h1 := k (env a) w1 w' hE1 (hx.mono fun y _ h => by obtain ⟨j, _, h⟩ := h; exact ⟨j, h⟩) hu (fun j d F hd hF => by
        have hj : j < n := by have := lt_of_get hd; omega
        exact hh j (by
          rw [hl, headDone]
          simp [Array.getD_eq_getD_getElem?, List.getElem?_append_left, hj]) d F hd hF) a ha rfl
      rw [eQ] at h1
      have := wpAny_of_seq (P := P) (md := .any) (ops := l.toArray) (Q' := lift N Q) (l.drop n) n listed a w' (fun j => by simp [List.getElem?_drop]) (by rw [List.length_drop, hl]; exact hseq) h1
      rwa [List.length_drop] at this
    | succ m ih =>
      intro listed a w' hcm inv ha hx hu hh
      have hsz : listed.size = l.length := by simpa using inv.size
      obtain ⟨i0, hi0n, hi0⟩ : ∃ i, i < n ∧ listed.getD i true = false := by
        have : 0 < (listed.toList.take n).count false := by omega
        rw [List.count_pos_iff] at this
        obtain ⟨i, hi, he⟩ := List.getElem_of_mem this
        have hin : i < n := by simp at hi; omega
        refine ⟨i, hin, ?_⟩
        have hil : i < listed.size := by simp at hi; omega
        simp only [Array.getD_eq_getD_getElem?, Array.getElem?_eq_getElem hil, Option.getD_some]
        simpa using he
      rw [show m + 1 + (l.length - n) = (m + (l.length - n)) + 1 by omega]
      refine ⟨fun hr => ?_, fun i hi => ?_⟩
      · exfalso
        have hall : ∀ i, i < n → listed.getD i true = true := by
          intro i
          induction i using Nat.strongRecOn with
          | _ i ihi =>
            intro hi
            cases hv : listed.getD i true with
            | true => rfl
            | false =>
              exfalso
              obtain ⟨o, ho⟩ := get_of_lt (l := l) (i := i) (by omega)
              have ho' : (l.take n)[i]? = some o := by rw [List.getElem?_take_of_lt hi]; exact ho
              obtain ⟨d, ws, _, _, h3⟩ := dagBT_get hB ho'
              have : i ∈ Region.ready .any l.toArray listed := by
                refine mem_ready.2 ⟨hv, o, by simpa using ho, fun e he hb => ?_⟩
                simp only [dagOneT, Bool.and_eq_true, Array.all_eq_true_iff_forall_mem, Bool.or_eq_true, Bool.not_eq_true', Nat.zero_add] at h3
                have := (h3.1.1.2 e he).resolve_left (by simp [hb])
                have hlt : e.on < i := by simpa [Nat.blt_eq] using this
                have h4 := ihi e.on hlt (by omega)
                have hj : e.on < listed.size := by omega
                simpa only [Array.getD_eq_getD_getElem?, Array.getElem?_eq_getElem hj, Option.getD_some] using h4
              rw [hr] at this
              cases this
        rw [hall i0 hi0n] at hi0
        cases hi0
      · have hin : i < n := by
          rcases Nat.lt_or_ge i n with h | h
          · exact h
          · exact absurd hi (tail_waits hs hc (by simpa using hnl) inv _ i0 rfl hi0n hi0 i h)
        obtain ⟨h1, o, h2, h3⟩ := mem_ready.1 hi
        have hil : i < listed.size := by omega
        have ho : l[i]? = some o := by simpa using h2
        have ho' : (l.take n)[i]? = some o := by rw [List.getElem?_take_of_lt hin]; exact ho
        obtain ⟨d, ws, hd, hws, h4⟩ := dagBT_get hB ho'
        obtain ⟨ws', F, hws', hF, hstab, hloc, hstep⟩ := hst.get ho'
        simp only [Nat.zero_add] at hstep hstab
        simp only [dagOneT, Bool.and_eq_true, List.all_eq_true, Array.any_eq_true', Array.all_eq_true_iff_forall_mem, Bool.or_eq_true, Bool.not_eq_true', Nat.zero_add] at h4
        obtain ⟨⟨⟨hdst, _⟩, hwait⟩, hgd⟩ := h4
        have hgd : o.guard = none := by simpa using hgd
        have hcl : ∀ j, listed.getD j false = true → ∀ c, (cl.getD j []).contains c = true → listed.getD c false = true := by
          intro j
          induction j using Nat.strongRecOn with
          | _ j ihj =>
            intro hlj c hc
            have hcn : j < n := by
              rcases Nat.lt_or_ge j n with h | h
              · exact h
              · rcases Nat.lt_or_ge j l.length with h' | h'
                · have := getD_both (inv.tail j h (by simpa using h')); rw [this] at hlj; cases hlj
                · simp [Array.getElem?_eq_none (show listed.size ≤ j by omega)] at hlj
            obtain ⟨oc, hoc⟩ := get_of_lt (l := l) (i := j) (by omega)
            have hoc' : (l.take n)[j]? = some oc := by rw [List.getElem?_take_of_lt hcn]; exact hoc
            obtain ⟨dc, wsc, _, hwsc, h5⟩ := dagBT_get hB hoc'
            simp only [dagOneT, Bool.and_eq_true, List.all_eq_true, Array.any_eq_true', Array.all_eq_true_iff_forall_mem, Bool.or_eq_true, Bool.not_eq_true', Nat.zero_add] at h5
            have hdir : ∀ e' ∈ wsc, listed.getD e' false = true ∧ e' < j := by
              intro e' he'
              obtain ⟨e, he, hb1, hb2⟩ := h5.1.2 e' he'
              have hei : e.on = e' := Nat.eq_of_beq_eq_true hb2
              have h6 := inv.closed j oc (by simpa using hoc) hlj e he hb1
              have h7 := (h5.1.1.2 e he).resolve_left (by simp [hb1])
              rw [hei] at h6 h7
              exact ⟨h6, by simpa [Nat.blt_eq] using h7⟩
            rcases closB_get hC hwsc hc with h6 | ⟨e', he', h6⟩
            · exact (hdir c h6).1
            · exact ihj e' (hdir e' he').2 (hdir e' he').1 c h6
        have hgone : ∀ j, listed.getD j false = true → gone cl i j = false := by
          intro j hlj
          cases hg : gone cl i j with
          | false => rfl
          | true =>
            exfalso
            simp only [gone, Bool.or_eq_true] at hg
            rcases hg with hg | hg
            · have : j = i := Nat.eq_of_beq_eq_true hg
              rw [this, getD_both h1] at hlj; cases hlj
            · have := hcl j hlj i hg
              rw [getD_both h1] at this; cases this
        have hclo : ∀ j, ws'.contains j = true → listed.getD j false = true := by
          intro j hj
          have hj' : (cl.getD i []).contains j = true := by rw [List.getD_eq_getElem?_getD, hws', Option.getD_some]; exact hj
          have hdir : ∀ e' ∈ ws, listed.getD e' false = true := by
            intro e' he'
            obtain ⟨e, he, hb1, hb2⟩ := hwait e' he'
            have : e.on = e' := Nat.eq_of_beq_eq_true hb2
            exact this ▸ h3 e he hb1
          rcases closB_get hC hws hj' with h6 | ⟨e', he', h6⟩
          · exact hdir j h6
          · exact hcl e' (hdir e' he') j h6
        have hH : ∀ j, ws'.contains j = true → HoldsX ds Fs j (env a) w' := fun j hj => hh j (hclo j hj)
        have hstep2 : ∀ w2, Chg (Ms i) w' w2 → Chg (fun y => ∃ j, (listed.setIfInBounds i true).getD j false = true ∧ Ms j y) w1 w2 := by
          intro w2 hx2
          have hg : (listed.setIfInBounds i true).getD i false = true := by simp [Array.getD_eq_getD_getElem?, hil]
          refine Chg.step (hx.mono fun y _ h => ?_) hx2 (fun y _ h => ⟨i, hg, h⟩)
          obtain ⟨j, h5, h6⟩ := h
          by_cases hij : j = i
          · exact ⟨i, hg, hij ▸ h6⟩
          · exact ⟨j, by rw [getD_set_ne _ (Ne.symm hij)]; exact h5, h6⟩
        have cont : ∀ v w2, Chg (Ms i) w' w2 → F (env a) (valOf o v) w2 → wpAny P .any l.toArray (lift N Q) (m + (l.length - n)) (listed.setIfInBounds i true) (a.put o.dst v) w2 := by
          intro v w2 hx2 hv
          have henv : (∀ t, t ≠ d → env (a.put o.dst v) t = env a t) ∧ env (a.put o.dst v) d = valOf o v := by
            cases hod : o.dst with
            | none =>
              rw [hod] at hdst
              have hNd : N ≤ d := Nat.le_of_ble_eq_true hdst
              refine ⟨fun t _ => rfl, ?_⟩
              simp only [valOf, hod]
              show a.tmps.getD d undef = undef
              have : a.tmps.size ≤ d := by rw [ha.size]; exact hNd
              simp [Array.getElem?_eq_none this]
            | some d' =>
              rw [hod] at hdst
              simp only [Bool.and_eq_true] at hdst
              have hd1 : d' = d := Nat.eq_of_beq_eq_true hdst.1
              have hd2 : d < N := by simpa [Nat.blt_eq] using hdst.2
              subst hd1
              rw [env_put ha hd2 v]
              refine ⟨fun t ht => ?_, ?_⟩
              · have : Nat.beq t d' = false := by cases hb : Nat.beq t d'; rfl; exact absurd (Nat.eq_of_beq_eq_true hb) ht
                simp [upd, this]
              · simp [upd, valOf, hod]
          refine ih _ _ _ ?_ (inv.set hi hin) (ha.put _ _) (hstep2 w2 hx2) ?_ ?_
          · have hl : listed.toList[i]? = some false := by
              simp only [Array.getD_eq_getD_getElem?, Array.getElem?_eq_getElem hil, Option.getD_some] at h1
              simp [hil, h1]
            have := count_take_set (l := listed.toList) hin (by simp; omega) hl
            rw [Array.toList_setIfInBounds]
            omega
          · intro t ht
            rw [henv.1 t (fun h => by
              subst h
              have := List.mem_of_getElem? hd
              simp [this] at ht), hu t ht]
          · intro j hj d' F' hd' hF'
            by_cases hij : j = i
            · subst hij
              rw [hd] at hd'; cases hd'
              rw [hF] at hF'; cases hF'
              rw [henv.2]
              refine hloc (env a) _ (fun j' d' hj' hd' => henv.1 d' fun he => ?_) _ _ hv
              have := nodupB_get hn (he ▸ hd') hd
              subst this
              have := hclo j' hj'
              rw [getD_both h1] at this
              cases this
            · have hne : d' ≠ d := by
                intro h
                subst h
                exact hij (nodupB_get hn hd' hd)
              rw [henv.1 d' hne]
              rw [getD_set_ne _ (Ne.symm hij)] at hj
              have h6 := hh j hj d' F' hd' hF'
              have hjn : j < n := by have := lt_of_get hd'; omega
              obtain ⟨oj, hoj⟩ := get_of_lt (l := l) (i := j) (by omega)
              have hoj' : (l.take n)[j]? = some oj := by rw [List.getElem?_take_of_lt hjn]; exact hoj
              obtain ⟨dj, wsj, _, hwsj, h5⟩ := dagBT_get hB hoj'
              obtain ⟨wsj', Fj, hwsj', hFj, hsj, hlj, _⟩ := hst.get hoj'
              rw [hF'] at hFj; cases hFj
              simp only [Nat.zero_add] at hsj
              have hci : wsj'.contains i = false := by
                cases hci : wsj'.contains i with
                | false => rfl
                | true =>
                  exfalso
                  have := hgone j hj
                  have hgc : cl.getD j [] = wsj' := by simp [hwsj']
                  simp only [gone, hgc, hci, Bool.or_true] at this
                  cases this
              refine hlj (env a) _ (fun j' d' hj' hd' => henv.1 d' fun he => ?_) _ _ (hsj i (Ne.symm hij) hci _ _ _ _ hx2 h6)
              have := nodupB_get hn (he ▸ hd') hd
              subst this
              rw [hci] at hj'
              cases hj'
        have hx0 : Chg (Past cl Ms i) w1 w' := hx.mono fun y _ h => by
          obtain ⟨j, h5, h6⟩ := h
          exact ⟨j, hgone j h5, h6⟩
        have hdo := hstep (env a) w' hx0 hu hH
        have hw : Region.wanted o (yielded l.toArray a.tmps) = true := by simp [Region.wanted, hgd]
        unfold wpOp
        simp only [h2, hw, if_true]
        exact Or.inl (hdo a ha rfl _ _ cont)
  have inv0 : HeadInv .any l.toArray n (Array.replicate l.toArray.size false) :=
    ⟨by simp, fun j oj _ hl => (by rw [getD_replicate_false] at hl; cases hl), fun t _ ht => getD_in (by simpa using ht) (getD_replicate_false _ _)⟩
  have h1 := key n (Array.replicate l.toArray.size false) a w1 (by simp; omega) inv0 ha (Chg.refl _ _) (fun t _ => by rw [he]) (fun j hj => by rw [getD_replicate_false] at hj; cases hj)
  have e3 : n + (l.length - n) = l.toArray.size := by simp; omega
  rw [e3] at h1
  exact h1
end Go.Eng
