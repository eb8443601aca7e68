/- Regions that draw their order, whose operations only add to memory: one fact an operation, each shown from the facts of the operations it waits for. Generic: no program is named. -/
import Derived.Test.YtncmfkibflogkaaDat
namespace Go.Eng
open Go

abbrev Fct := Value → World → Prop
def Stable (F : Fct) : Prop := ∀ v w w', Ext w w' → F v w → F v w'
inductive Fact where
  | eq (v : Value)
  | re (t : Re)
  | res (ts : List Re)
  | gen (F : Fct) (h : Stable F)
def Fact.In : Fact → Fct
  | .eq u, v, _ => v = u
  | .re t, v, w => ∃ vs, v = .agg vs.toArray ∧ ReAt w t vs
  | .res ts, v, w => ∃ b, v = .slice (some ⟨b, 0, none⟩) ts.length ts.length ∧ ResAt w b 0 ts
  | .gen F _, v, w => F v w
theorem Fact.ext {F : Fact} {v : Value} {w w' : World} (h : F.In v w) (e : Ext w w') : F.In v w' := by
  cases F with
  | eq u => exact h
  | re t => obtain ⟨vs, h1, h2⟩ := h; exact ⟨vs, h1, ReAt.ext e t h2⟩
  | res ts => obtain ⟨b, h1, h2⟩ := h; exact ⟨b, h1, ResAt.ext e ts h2⟩
  | gen F hF => exact hF _ _ _ e h

def Does (P : Program) (N : Nat) (o : Oper) (R : Fct) (σ : Env) (w : World) : Prop :=
  ∀ a, Ok N a → env a = σ → ∀ (Q : Exit → Act → World → Prop) (K : Act → World → Prop), (∀ v w', Ext w w' → R v w' → K (a.put o.dst v) w') → o.wp P a w K Q
def Holds (ds : List Nat) (Fs : List Fact) (j : Nat) (σ : Env) (w : World) : Prop := ∀ d F, ds[j]? = some d → Fs[j]? = some F → F.In (σ d) w
def Guarded (ds : List Nat) (o : Oper) (σ : Env) : Prop := ∀ j b, o.guard = some (j, b) → ∃ d, ds[j]? = some d ∧ σ d = .bool b

def Unmet (ds : List Nat) (o : Oper) (σ : Env) : Prop := ∃ j b d, o.guard = some (j, b) ∧ ds[j]? = some d ∧ (σ d = .bool (!b) ∨ σ d = undef)
theorem Unmet_mk {ds : List Nat} {o : Oper} {σ : Env} {j : Nat} {b : Bool} {d : Nat} (h : o.guard = some (j, b)) (hd : ds[j]? = some d) (hv : σ d = .bool (!b) ∨ σ d = undef) : Unmet ds o σ := ⟨j, b, d, h, hd, hv⟩

section
variable {P : Program} {N : Nat} {o : Oper} {R : Fct} {σ : Env} {w : World}
theorem Does_val {v : Value} {w' : World} (hr : (execOp (ev σ) o).run P w = .ok (.value v) w') (hx : Ext w w') (h : R v w') : Does P N o R σ w := by
  intro a ha he Q K hK
  unfold Oper.wp
  rw [eval_env, he, hr]
  simp only [Oper.upon]
  exact hK _ _ hx h
theorem Does_enter {f : FuncId} {args : Array Value} (hr : (execOp (ev σ) o).run P w = .ok (.enter f args) w) (hc : Ret P f args w fun v w' => R v w' ∧ Ext w w') : Does P N o R σ w := by
  intro a ha he Q K hK
  unfold Oper.wp
  rw [eval_env, he, hr]
  simp only [Oper.upon]
  refine Calls.mono hc ?_
  rintro e w' ⟨v, rfl, r, x⟩
  exact hK _ _ x r
theorem Guarded_none {ds : List Nat} (h : o.guard = none) : Guarded ds o σ := fun j b hj => by rw [h] at hj; cases hj
theorem Guarded_some {ds : List Nat} {j : Nat} {b : Bool} {d : Nat} (h : o.guard = some (j, b)) (hd : ds[j]? = some d) (hv : σ d = .bool b) : Guarded ds o σ := fun j' b' hj => by
  rw [h] at hj; cases hj; exact ⟨d, hd, hv⟩
end

def dagOne (N i : Nat) (o : Oper) (d : Nat) (ws : List Nat) : Bool :=
  (match o.dst with | some d' => Nat.beq d' d | none => false) && Nat.blt d N && (o.after.all fun e => !Region.binds .any e || Nat.blt e.on i) && ws.all fun j => o.after.any fun e => Region.binds .any e && Nat.beq e.on j
def dagB (N : Nat) : Nat → List Oper → List Nat → List (List Nat) → Bool
  | _, [], [], [] => true
  | i, o :: l, d :: ds, ws :: wss => dagOne N i o d ws && dagB N (i + 1) l ds wss
  | _, _, _, _ => false
def nodupB : List Nat → Bool
  | [] => true
  | d :: ds => !ds.contains d && nodupB ds
theorem nodupB_get : ∀ {ds : List Nat}, nodupB ds = true → ∀ {i j d : Nat}, ds[i]? = some d → ds[j]? = some d → i = j
  | [], _, i, _, _, h, _ => by simp at h
  | x :: ds, hn, i, j, d, hi, hj => by
    simp only [nodupB, Bool.and_eq_true, Bool.not_eq_true', List.contains_eq_mem, decide_eq_false_iff_not] at hn
    cases i with
    | zero =>
      cases j with
      | zero => rfl
      | succ j => simp at hi hj; subst hi; exact absurd (List.mem_of_getElem? hj) hn.1
    | succ i =>
      cases j with
      | zero => simp at hi hj; subst hj; exact absurd (List.mem_of_getElem? hi) hn.1
      | succ j => simp at hi hj; rw [nodupB_get hn.2 hi hj]
theorem dagB_get {N : Nat} : ∀ {i : Nat} {l : List Oper} {ds : List Nat} {wss : List (List Nat)}, dagB N i l ds wss = true → ∀ {j : Nat} {o : Oper}, l[j]? = some o → ∃ d ws, ds[j]? = some d ∧ wss[j]? = some ws ∧ dagOne N (i + j) o d ws = true
  | _, [], _, _, _, j, o, h => by simp at h
  | i, x :: l, [], _, hB, _, _, _ => by simp [dagB] at hB
  | i, x :: l, d :: ds, [], hB, _, _, _ => by simp [dagB] at hB
  | i, x :: l, d :: ds, ws :: wss, hB, j, o, h => by
    simp only [dagB, Bool.and_eq_true] at hB
    cases j with
    | zero => simp at h; subst h; exact ⟨d, ws, rfl, rfl, hB.1⟩
    | succ j =>
      simp at h
      obtain ⟨d', ws', h1, h2, h3⟩ := dagB_get hB.2 h
      exact ⟨d', ws', by simpa using h1, by simpa using h2, by rw [show i + (j + 1) = i + 1 + j from by omega]; exact h3⟩
theorem dagB_len {N : Nat} : ∀ {i : Nat} {l : List Oper} {ds : List Nat} {wss : List (List Nat)}, dagB N i l ds wss = true → ds.length = l.length
  | _, [], [], [], _ => rfl
  | _, [], [], _ :: _, hB => by simp [dagB] at hB
  | _, [], _ :: _, _, hB => by simp [dagB] at hB
  | i, x :: l, [], _, hB => by simp [dagB] at hB
  | i, x :: l, d :: ds, [], hB => by simp [dagB] at hB
  | i, x :: l, d :: ds, ws :: wss, hB => by
    simp only [dagB, Bool.and_eq_true] at hB
    simp [dagB_len hB.2]

def DagStep (P : Program) (N : Nat) (ds : List Nat) (Fs : List Fact) (σ : Env) (w : World) (o : Oper) (ws : List Nat) (F : Fact) : Prop :=
  ∀ σ' w', Ext w w' → (∀ t, ds.contains t = false → σ' t = σ t) → (∀ j, ws.contains j = true → Holds ds Fs j σ' w') → (Guarded ds o σ' ∧ Does P N o F.In σ' w') ∨ (Unmet ds o σ' ∧ F.In undef w')
inductive DagSteps (P : Program) (N : Nat) (ds : List Nat) (Fs : List Fact) (σ : Env) (w : World) : List Oper → List (List Nat) → List Fact → Prop where
  | nil : DagSteps P N ds Fs σ w [] [] []
  | cons {o : Oper} {ws : List Nat} {F : Fact} {l : List Oper} {wss : List (List Nat)} {Gs : List Fact} : DagStep P N ds Fs σ w o ws F → DagSteps P N ds Fs σ w l wss Gs → DagSteps P N ds Fs σ w (o :: l) (ws :: wss) (F :: Gs)
theorem DagSteps.get {P : Program} {N : Nat} {ds : List Nat} {Fs : List Fact} {σ : Env} {w : World} : ∀ {l : List Oper} {wss : List (List Nat)} {Gs : List Fact}, DagSteps P N ds Fs σ w l wss Gs → ∀ {j : Nat} {o : Oper}, l[j]? = some o → ∃ ws F, wss[j]? = some ws ∧ Gs[j]? = some F ∧ DagStep P N ds Fs σ w o ws F
  | _, _, _, .nil, j, o, h => by simp at h
  | _, _, _, .cons h1 h2, 0, o, h => by simp at h; subst h; exact ⟨_, _, rfl, rfl, h1⟩
  | _, _, _, .cons h1 h2, j + 1, o, h => by
    obtain ⟨ws, F, a, b, c⟩ := h2.get (j := j) (by simpa using h)
    exact ⟨ws, F, by simpa using a, by simpa using b, c⟩

theorem Wp_dag {P : Program} {N : Nat} {Q : Post} {σ : Env} {w : World} {id : Nat} {l : List Oper} (ds : List Nat) (wss : List (List Nat)) (Fs : List Fact) {Gs : List Fact} (hG : Fs = Gs) (hm : P.follows .mixedOrders = true) (hB : dagB N 0 l ds wss = true) (hn : nodupB ds = true)
    (steps : ∀ w1, Ext w w1 → DagSteps P N ds Fs σ w1 l wss Gs)
    (k : ∀ σ' w', Ext w w' → (∀ t, ds.contains t = false → σ' t = σ t) → (∀ j, Holds ds Fs j σ' w') → Q .normal σ' w') : Wp P N (.region id l.toArray true) Q σ w := by
  intro a ha he
  refine wp_region_any hm ?_
  obtain ⟨w1, hw1⟩ : ∃ w1 : World, w1 = { w with drawn := w.drawn + 1 } := ⟨_, rfl⟩
  have hE1 : Ext w w1 := by rw [hw1]; exact drew_ext w
  rw [← hw1]
  have hst := steps w1 hE1
  rw [← hG] at hst
  have hlen := dagB_len hB
  have key : ∀ (fuel : Nat) (listed : Array Bool) (a : Act) (w' : World), listed.size = l.length → listed.toList.count false ≤ fuel → Ok N a → Ext w1 w' → (∀ t, ds.contains t = false → env a t = σ t) → (∀ j, listed.getD j false = true → Holds ds Fs j (env a) w') →
      wpAny P .any l.toArray (lift N Q) fuel listed a w' := by
    intro fuel
    have all : ∀ (listed : Array Bool) (a : Act) (w' : World), listed.size = l.length → Ok N a → Ext w1 w' → (∀ t, ds.contains t = false → env a t = σ t) → (∀ j, listed.getD j false = true → Holds ds Fs j (env a) w') → listed.toList.count false = 0 → lift N Q .normal a w' := by
      intro listed a w' hs ha hx hu hh hc
      refine ⟨ha, k _ _ (hE1.trans hx) hu fun j => ?_⟩
      intro d F hd hF
      have hj : j < listed.size := by have := lt_of_get hd; omega
      refine hh j ?_ d F hd hF
      rw [List.count_eq_zero] at hc
      have : listed[j] ≠ false := fun h => hc (by rw [← h]; exact Array.getElem_mem_toList hj)
      simp only [Array.getD_eq_getD_getElem?, Array.getElem?_eq_getElem hj, Option.getD_some]
      simpa using this
    induction fuel with
    | zero =>
      intro listed a w' hs hc ha hx hu hh
      have hc0 : listed.toList.count false = 0 := by omega
      refine ⟨?_, all listed a w' hs ha hx hu hh hc0⟩
      rw [List.eq_nil_iff_forall_not_mem]
      intro i hi
      obtain ⟨h1, o, h2, _⟩ := mem_ready.1 hi
      have hj : i < listed.size := by have := (Array.getElem?_eq_some_iff.1 h2).1; simp at this; omega
      simp only [Array.getD_eq_getD_getElem?, Array.getElem?_eq_getElem hj, Option.getD_some] at h1
      rw [List.count_eq_zero] at hc0
      exact hc0 (by rw [← h1]; exact Array.getElem_mem_toList hj)
    | succ fuel ih =>
      intro listed a w' hs hc ha hx hu hh
      refine ⟨fun hr => all listed a w' hs ha hx hu hh ?_, fun i hi => ?_⟩
      · -- none is ready: all are listed
        have hall : ∀ i, i < listed.size → listed.getD i true = true := by
          intro i
          induction i using Nat.strongRecOn with
          | _ i ihi =>
            intro hi
            cases hv : listed.getD i true with
            | true => rfl
            | false =>
              exfalso
              obtain ⟨o, ho⟩ := get_of_lt (l := l) (i := i) (by omega)
              obtain ⟨d, ws, _, _, h3⟩ := dagB_get hB ho
              have : i ∈ Region.ready .any l.toArray listed := by
                refine mem_ready.2 ⟨hv, o, by simpa using ho, fun e he hb => ?_⟩
                simp only [dagOne, Bool.and_eq_true, Array.all_eq_true_iff_forall_mem, Bool.or_eq_true, Bool.not_eq_true', Nat.zero_add] at h3
                have := (h3.1.2 e he).resolve_left (by simp [hb])
                have hlt : e.on < i := by simpa [Nat.blt_eq] using this
                have h4 := ihi e.on hlt (by omega)
                have hj : e.on < listed.size := by omega
                simpa only [Array.getD_eq_getD_getElem?, Array.getElem?_eq_getElem hj, Option.getD_some] using h4
              rw [hr] at this
              cases this
        rw [List.count_eq_zero]
        intro hmem
        obtain ⟨i, hi, he⟩ := List.getElem_of_mem hmem
        have hj : i < listed.size := by simpa using hi
        have := hall i hj
        simp only [Array.getD_eq_getD_getElem?, Array.getElem?_eq_getElem hj, Option.getD_some] at this
        simp at he
        rw [this] at he
        cases he
      · obtain ⟨h1, o, h2, h3⟩ := mem_ready.1 hi
        have ho : l[i]? = some o := by simpa using h2
        have hil : i < l.length := lt_of_get ho
        obtain ⟨d, ws, hd, hws, h4⟩ := dagB_get hB ho
        obtain ⟨ws', F, hws', hF, hstep⟩ := hst.get ho
        rw [hws] at hws'
        cases hws'
        simp only [dagOne, Bool.and_eq_true, List.all_eq_true, Array.any_eq_true', Array.all_eq_true_iff_forall_mem, Bool.or_eq_true, Bool.not_eq_true', Nat.zero_add] at h4
        obtain ⟨⟨⟨hdst, hdN⟩, _⟩, hwait⟩ := h4
        have hdst : o.dst = some d := by
          split at hdst
          · rename_i d' h; rw [h, Nat.eq_of_beq_eq_true hdst]
          · cases hdst
        have hdN : d < N := by simpa [Nat.blt_eq] using hdN
        have hH : ∀ j, ws.contains j = true → Holds ds Fs j (env a) w' := by
          intro j hj
          have hj' : j ∈ ws := by simpa using hj
          obtain ⟨e, he, hb⟩ := hwait j hj'
          obtain ⟨hb1, hb2⟩ := hb
          have : e.on = j := Nat.eq_of_beq_eq_true hb2
          exact hh j (this ▸ h3 e he hb1)
        have cont : ∀ v w2, Ext w' w2 → F.In v w2 → wpAny P .any l.toArray (lift N Q) fuel (listed.setIfInBounds i true) (a.put o.dst v) w2 := by
          intro v w2 hx2 hv
          have henv : env (a.put o.dst v) = upd (env a) d v := by rw [hdst]; exact env_put ha hdN v
          refine ih _ _ _ (by simpa using hs) ?_ (ha.put _ _) (hx.trans hx2) ?_ ?_
          · have hi' : i < listed.toList.length := by simp; omega
            have hl : listed.toList[i] = false := by
              have hj : i < listed.size := by omega
              simp only [Array.getD_eq_getD_getElem?, Array.getElem?_eq_getElem hj, Option.getD_some] at h1
              simpa using h1
            rw [Array.toList_setIfInBounds, List.count_set hi', hl, if_pos (by rfl), if_neg (by decide)]
            omega
          · intro t ht
            rw [henv, ← hu t ht]
            simp only [upd]
            cases hb : Nat.beq t d
            · rfl
            · exfalso
              have : t = d := Nat.eq_of_beq_eq_true hb
              subst this
              have := List.mem_of_getElem? hd
              simp [this] at ht
          · intro j hj d' F' hd' hF'
            rw [henv]
            by_cases hij : j = i
            · subst hij
              rw [hd] at hd'; cases hd'
              rw [hF] at hF'; cases hF'
              simp only [upd, Nat.beq_refl, cond_true]
              exact hv
            · have hne : Nat.beq d' d = false := by
                cases hb : Nat.beq d' d
                · rfl
                · exfalso
                  have : d' = d := Nat.eq_of_beq_eq_true hb
                  subst this
                  exact hij (nodupB_get hn hd' hd)
              simp only [upd, hne, cond_false]
              rw [getD_set_ne _ (Ne.symm hij)] at hj
              exact Fact.ext (hh j hj d' F' hd' hF') hx2
        rcases hstep (env a) w' hx hu hH with ⟨hg, hdo⟩ | ⟨⟨j, b, dj, hgd, hdj, hvj⟩, hund⟩
        · have hw : Region.wanted o (yielded l.toArray a.tmps) = true := by
            cases hgd : o.guard with
            | none => simp [Region.wanted, hgd]
            | some p =>
              obtain ⟨j, b⟩ := p
              obtain ⟨dj, hdj, hvj⟩ := hg j b hgd
              obtain ⟨oj, hoj⟩ := get_of_lt (l := l) (i := j) (by have := lt_of_get hdj; omega)
              obtain ⟨dj', _, hdj', _, h5⟩ := dagB_get hB hoj
              rw [hdj] at hdj'
              cases hdj'
              simp only [dagOne, Bool.and_eq_true] at h5
              obtain ⟨⟨⟨hdst2, hdN2⟩, _⟩, _⟩ := h5
              have hdst2 : oj.dst = some dj := by
                split at hdst2
                · rename_i d' h; rw [h, Nat.eq_of_beq_eq_true hdst2]
                · cases hdst2
              have hdN2 : dj < N := by simpa [Nat.blt_eq] using hdN2
              have h6 : a.tmps[dj]? = some (Value.bool b) := by
                have h2 : a.tmps.getD dj undef = .bool b := hvj
                have hlt : dj < a.tmps.size := by rw [ha.size]; exact hdN2
                rw [Array.getElem?_eq_getElem hlt]
                simpa [hlt] using h2
              simp [Region.wanted, hgd, yielded, hoj, hdst2, h6]
          unfold wpOp
          simp only [h2, hw, if_true]
          exact Or.inl (hdo a ha rfl _ _ cont)
        · have hw : Region.wanted o (yielded l.toArray a.tmps) = false := by
            obtain ⟨oj, hoj⟩ := get_of_lt (l := l) (i := j) (by have := lt_of_get hdj; omega)
            obtain ⟨dj', _, hdj', _, h5⟩ := dagB_get hB hoj
            rw [hdj] at hdj'
            cases hdj'
            simp only [dagOne, Bool.and_eq_true] at h5
            obtain ⟨⟨⟨hdst2, hdN2⟩, _⟩, _⟩ := h5
            have hdst2 : oj.dst = some dj := by
              split at hdst2
              · rename_i d' h; rw [h, Nat.eq_of_beq_eq_true hdst2]
              · cases hdst2
            have hdN2 : dj < N := by simpa [Nat.blt_eq] using hdN2
            have hlt : dj < a.tmps.size := by rw [ha.size]; exact hdN2
            have h6 : a.tmps[dj]? = some (env a dj) := by
              rw [Array.getElem?_eq_getElem hlt]
              simp [env, hlt]
            rcases hvj with hvj | hvj
            · rw [hvj] at h6
              cases b <;> simp [Region.wanted, hgd, yielded, hoj, hdst2, h6]
            · rw [hvj] at h6
              simp [Region.wanted, hgd, yielded, hoj, hdst2, h6, undef]
          unfold wpOp
          simp only [h2, hw, Bool.false_eq_true, if_false]
          exact cont undef w' (Ext.refl _) hund
  refine key _ _ _ _ (by simp) (by simp) ha (Ext.refl _) (fun t _ => by rw [he]) ?_
  intro j hj
  exfalso
  simp only [Array.getD_eq_getD_getElem?, Array.getElem?_replicate] at hj
  split at hj <;> simp at hj

theorem lst1 {x a : Value} (h : x = a) : [x] = [a] := by rw [h]
theorem lst2 {x y a b : Value} (h : x = a) (h' : y = b) : [x, y] = [a, b] := by rw [h, h']
theorem lst3 {x y z a b c : Value} (h : x = a) (h' : y = b) (h'' : z = c) : [x, y, z] = [a, b, c] := by rw [h, h', h'']
theorem lst4 {x y z u a b c d : Value} (h : x = a) (h' : y = b) (h'' : z = c) (h3 : u = d) : [x, y, z, u] = [a, b, c, d] := by rw [h, h', h'', h3]
section
variable {P : Program} {N : Nat} {σ : Env} {w : World} {dst : Option Tmp} {ty : TypeId} {pos : String} {af : Array Edge} {g : Option (Nat × Bool)} {t : TypeId} {x y : Operand}
abbrev reZ : Value := .agg #[.int .i64 0, .slice none 0 0, .slice none 0 0, .int .i64 0, .int .i64 0, .bool false]
theorem re_zero (w : World) : ReAt w (.mk 0 [] [] 0 0 false) [.int .i64 0, .slice none 0 0, .slice none 0 0, .int .i64 0, .int .i64 0, .bool false] :=
  ReAt.of (set := []) (args := []) (SlAt.nil _ _ _ _) (by simp) (.inl rfl)
theorem run_buildSlice {e : TypeId} {len n : Nat} {z : Value} {parts : List (Nat × Operand)} {ps : List (Nat × Value)} {c : Array Value} (hp : (parts.map fun (i, x) => (i, ev σ x)) = ps) (hu : P.underlying t = some (.slice e)) (hs : Siz P e n) (hz : Zer P e z) (hl : ¬ (len * n > 2 ^ 24)) (h0 : len * n ≠ 0)
    (hc : Instr.fill (fun i => some (i * n, n)) ((Array.range (len * n)).map (z.cells[· % z.cells.size]!)) ps = some c) :
    (execOp (ev σ) ⟨dst, .buildSlice t len parts.toArray, ty, pos, af, g⟩).run P w = .ok (.value (.slice (some ⟨w.heap.size, 0, none⟩) len len)) { w with heap := w.heap.push (.cells c e (0, 0)) } := by
  subst hp
  simp only [execOp, Instr.buildSlice, List.map_toArray, Sem.run_bind, run_underlying hu, Result.andThen_ok, hs.run, hl, h0, if_false, Sem.run_pure, hz.run, hc]
  simp [newRow]
theorem Does_res1 {e : TypeId} {s : Re} {vs : List Value} (hu : P.underlying t = some (.slice e)) (hs : Siz P e 6) (hz : Zer P e reZ) (hx : ev σ x = .agg vs.toArray) (h1 : ReAt w s vs) :
    Does P N ⟨dst, .buildSlice t 1 #[(0, x)], ty, pos, af, g⟩ (Fact.res [s]).In σ w := by
  have h1' := h1
  obtain ⟨sa, sc, aa, ac, rfl, _⟩ := h1.form
  have hn := New.mk' w #[.int .i64 s.kind, .slice sa s.set.length sc, .slice aa s.args.length ac, .int .i64 s.mn, .int .i64 s.mx, .bool s.neg] e
  refine Does_val (run_buildSlice (parts := [(0, x)]) (ps := [(0, .agg #[.int .i64 s.kind, .slice sa s.set.length sc, .slice aa s.args.length ac, .int .i64 s.mn, .int .i64 s.mx, .bool s.neg])]) (by simp only [List.map, hx]) hu hs hz (by decide) (by decide) (by kernel_rfl)) hn.ext ⟨_, rfl, ?_⟩
  simp only [ResAt]
  exact ⟨⟨_, hn.blk.cells (by rfl), ReAt.ext hn.ext _ h1'⟩, trivial⟩
theorem Does_res2 {e : TypeId} {s s' : Re} {vs vs' : List Value} (hu : P.underlying t = some (.slice e)) (hs : Siz P e 6) (hz : Zer P e reZ) (hx : ev σ x = .agg vs.toArray) (hy : ev σ y = .agg vs'.toArray) (h1 : ReAt w s vs) (h2 : ReAt w s' vs') :
    Does P N ⟨dst, .buildSlice t 2 #[(0, x), (1, y)], ty, pos, af, g⟩ (Fact.res [s, s']).In σ w := by
  have h1' := h1
  have h2' := h2
  obtain ⟨sa, sc, aa, ac, rfl, _⟩ := h1.form
  obtain ⟨sa', sc', aa', ac', rfl, _⟩ := h2.form
  have hn := New.mk' w #[.int .i64 s.kind, .slice sa s.set.length sc, .slice aa s.args.length ac, .int .i64 s.mn, .int .i64 s.mx, .bool s.neg, .int .i64 s'.kind, .slice sa' s'.set.length sc', .slice aa' s'.args.length ac', .int .i64 s'.mn, .int .i64 s'.mx, .bool s'.neg] e
  refine Does_val (run_buildSlice (parts := [(0, x), (1, y)]) (ps := [(0, .agg #[.int .i64 s.kind, .slice sa s.set.length sc, .slice aa s.args.length ac, .int .i64 s.mn, .int .i64 s.mx, .bool s.neg]), (1, .agg #[.int .i64 s'.kind, .slice sa' s'.set.length sc', .slice aa' s'.args.length ac', .int .i64 s'.mn, .int .i64 s'.mx, .bool s'.neg])]) (by simp only [List.map, hx, hy]) hu hs hz (by decide) (by decide) (by kernel_rfl)) hn.ext ⟨_, rfl, ?_⟩
  simp only [ResAt]
  exact ⟨⟨_, hn.blk.cells (by rfl), ReAt.ext hn.ext _ h1'⟩, ⟨_, hn.blk.cells (by rfl), ReAt.ext hn.ext _ h2'⟩, trivial⟩
end
end Go.Eng
