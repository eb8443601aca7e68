/- Contracts and plain lemmas, part 1. -/
import Derived.Tactics
import Derived.Deep.Quiet
import Derived.Laws.AppendOwn
import Derived.KernelRfl
import Derived.Laws.Entries
import Derived.Laws.Build
import Derived.Below
import Derived.RowKit3
import Derived.StillTail
import Derived.Sort.Grow
import Derived.Deep.Draws
import Derived.Test.YtllhcafmcbibbaaChecked
import Derived.Laws.StructEq
import Derived.Laws.MakeOwn
import Derived.MapKept
import Derived.Laws.BytesArg
import Derived.Laws.CopyRow
import Derived.DeepKeys3
import Derived.OpenShut
import Derived.ChangeSlices
namespace Go.Eng
open Go
abbrev Env := Nat → Value
abbrev Post := Exit → Env → World → Prop
def upd (σ : Env) (d : Nat) (v : Value) : Env := fun t => bif Nat.beq t d then v else σ t
def ev (σ : Env) : Operand → Value
  | .tmp t => σ t
  | .const v => v
  | .global g => .pointer (some ⟨g, 0, none⟩)
  | .func f => .func (.func f) #[] #[]
def env (a : Act) : Env := fun t => a.tmps.getD t undef
def lk (t : Nat) : List (Nat × Value) → Value → Value
  | [], d => d
  | (k, v) :: r, d => bif Nat.beq t k then v else lk t r d
def upds (σ : Env) (l : List (Nat × Value)) : Env := fun t => lk t l (σ t)
theorem upds_self (σ : Env) (l : List (Nat × Value)) (h : ∀ p ∈ l, σ p.1 = p.2) : upds σ l = σ := by
  funext t
  unfold upds
  induction l with
  | nil => rfl
  | cons p r ih =>
    obtain ⟨k, v⟩ := p
    simp only [lk]
    cases hb : Nat.beq t k
    · simp only [cond_false]
      exact ih fun p hp => h p (List.mem_cons_of_mem _ hp)
    · have : t = k := Nat.eq_of_beq_eq_true hb
      subst this
      simp only [cond_true]
      exact (h (t, v) List.mem_cons_self).symm
def Fits (σ : Env) : List (Nat × Value) → Prop
  | [] => True
  | (k, v) :: r => σ k = v ∧ Fits σ r
theorem Fits.all {σ : Env} : ∀ {l : List (Nat × Value)}, Fits σ l → ∀ p ∈ l, σ p.1 = p.2
  | [], _, _, hp => by cases hp
  | (k, v) :: r, h, p, hp => by
    cases hp with
    | head => exact h.1
    | tail _ hp => exact Fits.all h.2 p hp
theorem Fits.out {σ : Env} {l : List (Nat × Value)} (h : Fits σ l) : ∃ j, σ = upds j l := ⟨σ, (upds_self σ l h.all).symm⟩
theorem eval_env (a : Act) : a.eval = ev (env a) := by
  funext x
  cases x <;> rfl
structure Ok (dz : List Deferred) (N : Nat) (a : Act) : Prop where
  size : a.tmps.size = N
  defers : a.defers = dz
theorem env_put {dz : List Deferred} {N : Nat} {a : Act} (h : Ok dz N a) {d : Nat} (hd : d < N) (v : Value) : env (a.put (some d) v) = upd (env a) d v := by
  funext t
  have hs := h.size
  simp only [env, upd, Act.put]
  cases hb : Nat.beq t d
  · have hne : d ≠ t := fun e => by subst e; rw [Nat.beq_refl] at hb; cases hb
    simp [Array.getElem?_setIfInBounds_ne hne]
  · have : t = d := Nat.eq_of_beq_eq_true hb
    subst this
    simp [hs, hd]
theorem Ok.put {dz : List Deferred} {N : Nat} {a : Act} (h : Ok dz N a) (d : Option Nat) (v : Value) : Ok dz N (a.put d v) := by
  cases d with
  | none => exact h
  | some d => exact ⟨by simp [Act.put, h.size], h.defers⟩
def lift (dz : List Deferred) (N : Nat) (Q : Post) : Exit → Act → World → Prop := fun e a w => Ok dz N a ∧ Q e (env a) w
def Wp (P : Program) (N : Nat) (c : Code) (Q : Post) (σ : Env) (w : World) : Prop :=
  ∀ dz a, Ok dz N a → env a = σ → c.wp P (lift dz N Q) a w
def thn (K : Env → World → Prop) (Q : Post) : Post
  | .normal => K
  | e => Q e
def inB (id : Nat) (Q : Post) : Post
  | .exit j => if j = id then Q .normal else Q (.exit j)
  | e => Q e
section
variable {P : Program} {N : Nat} {Q : Post} {σ : Env} {w : World} {K : Env → World → Prop}
theorem thn_normal (h : K σ w) : thn K Q .normal σ w := h
theorem thn_exit {j : Nat} (h : Q (.exit j) σ w) : thn K Q (.exit j) σ w := h
theorem thn_ret (h : Q .ret σ w) : thn K Q .ret σ w := h
theorem inB_normal {id : Nat} (h : Q .normal σ w) : inB id Q .normal σ w := h
theorem inB_ret {id : Nat} (h : Q .ret σ w) : inB id Q .ret σ w := h
theorem inB_here {id : Nat} (h : Q .normal σ w) : inB id Q (.exit id) σ w := by unfold inB; simp only [if_true]; exact h
theorem inB_there {id j : Nat} (hne : j ≠ id) (h : Q (.exit j) σ w) : inB id Q (.exit j) σ w := by unfold inB; simp only [hne, if_false]; exact h
theorem Wp_mono {c : Code} {Q' : Post} (h : Wp P N c Q σ w) (hq : ∀ e σ w, Q e σ w → Q' e σ w) : Wp P N c Q' σ w :=
  fun dz a ha he => Code.wp_mono (fun _ _ _ ⟨o, q⟩ => ⟨o, hq _ _ _ q⟩) (h dz a ha he)
theorem Wp_seq {x y : Code} (h : Wp P N x (thn (Wp P N y Q) Q) σ w) : Wp P N (.seq x y) Q σ w := by
  intro dz a ha he
  refine wp_seq (Code.wp_mono ?_ (h dz a ha he))
  rintro e a w ⟨o, q⟩
  cases e <;> first | exact q dz a o rfl | exact ⟨o, q⟩
theorem Wp_skip (h : Q .normal σ w) : Wp P N .skip Q σ w := fun _ _ ha he => wp_skip ⟨ha, he ▸ h⟩
theorem Wp_exit {id : Nat} (h : Q (.exit id) σ w) : Wp P N (.exit id) Q σ w := fun _ _ ha he => wp_exit ⟨ha, he ▸ h⟩
theorem Wp_ret (h : Q .ret σ w) : Wp P N .ret Q σ w := fun _ _ ha he => wp_ret ⟨ha, he ▸ h⟩
theorem Wp_block {id : Nat} {c : Code} (h : Wp P N c (inB id Q) σ w) : Wp P N (.block id c) Q σ w := by
  intro dz a ha he
  refine wp_block (Code.wp_mono ?_ (h dz a ha he))
  rintro e a w ⟨o, q⟩
  cases e with
  | exit j =>
    unfold Exit.inBlock
    unfold inB at q
    by_cases hj : j = id
    · simp only [hj, if_true] at q ⊢; exact ⟨o, q⟩
    · simp only [hj, if_false] at q ⊢; exact ⟨o, q⟩
  | normal => exact ⟨o, q⟩
  | goto l => exact ⟨o, q⟩
  | ret => exact ⟨o, q⟩
  | panic c => exact ⟨o, q⟩
  | outgrown => exact ⟨o, q⟩
theorem Wp_cond {c : Operand} {x y : Code} {b : Bool} (hc : ev σ c = .bool b) (ht : b = true → Wp P N x Q σ w) (hf : b = false → Wp P N y Q σ w) :
    Wp P N (.cond c x y) Q σ w := by
  intro dz a ha he
  refine wp_cond_split (t := b) (by rw [eval_env, he]; exact hc) (fun h => ht h dz a ha he) (fun h => hf h dz a ha he)
theorem Wp_cond_true {c : Operand} {x y : Code} (hc : ev σ c = .bool true) (h : Wp P N x Q σ w) : Wp P N (.cond c x y) Q σ w :=
  Wp_cond hc (fun _ => h) (fun h => by cases h)
theorem Wp_cond_false {c : Operand} {x y : Code} (hc : ev σ c = .bool false) (h : Wp P N y Q σ w) : Wp P N (.cond c x y) Q σ w :=
  Wp_cond hc (fun h => by cases h) (fun _ => h)
/-- A loop, by a relation that is indexed by a number that falls in every round. -/
theorem Wp_loop {c : Code} (I : Nat → Env → World → Prop) {n : Nat} (h0 : I n σ w)
    (round : ∀ n σ w, I n σ w → Wp P N c (thn (fun σ' w' => ∃ m, m < n ∧ I m σ' w') Q) σ w) : Wp P N (.loop c) Q σ w := by
  intro dz a ha he b k cs
  have key : ∀ n a w, Ok dz N a → I n (env a) w →
      ∃ e a' w', lift dz N Q e a' w' ∧ Arrives P (lone (b.at a (.code c :: .inLoop c :: k)) cs w) b k cs e a' w' := by
    intro n
    induction n using Nat.strongRecOn with
    | _ n ih =>
      intro a w ha hI
      obtain ⟨e, a1, w1, ⟨ho, hq⟩, harr⟩ := round n _ w hI dz a ha rfl b (.inLoop c :: k) cs
      cases e with
      | normal =>
        obtain ⟨m, hlt, hI1⟩ := hq
        obtain ⟨e2, a2, w2, hq2, harr2⟩ := ih m hlt a1 w1 ho hI1
        exact ⟨e2, a2, w2, hq2, .of_steps (Steps.trans harr (.one step_inLoop)) harr2⟩
      | exit id => exact ⟨_, a1, w1, ⟨ho, hq⟩, .pass (x := .inLoop c) rfl (fun _ _ => .inl (by simp)) harr⟩
      | goto l => exact ⟨_, a1, w1, ⟨ho, hq⟩, .pass (x := .inLoop c) rfl (fun _ _ => .inl (by simp)) harr⟩
      | ret => exact ⟨_, a1, w1, ⟨ho, hq⟩, .pass (x := .inLoop c) rfl (fun _ _ => .inl (by simp)) harr⟩
      | panic ch => exact ⟨_, a1, w1, ⟨ho, hq⟩, .pass (x := .inLoop c) rfl (fun _ _ => .inl (by simp)) harr⟩
      | outgrown => exact ⟨_, a1, w1, ⟨ho, hq⟩, .pass (x := .inLoop c) rfl (fun _ _ => .inl (by simp)) harr⟩
  obtain ⟨e, a', w', hq, harr⟩ := key n a w ha (he ▸ h0)
  exact ⟨e, a', w', hq, .of_steps (.one step_loop) harr⟩
end
def WpL (P : Program) (N : Nat) (ops : Array Oper) (K : Env → World → Prop) (Q : Post) (l : List Oper) (σ : Env) (w : World) : Prop :=
  ∀ dz a, Ok dz N a → env a = σ → wpList P ops (lift dz N (thn K Q)) l a w
section
variable {P : Program} {N : Nat} {Q : Post} {σ : Env} {w : World} {K : Env → World → Prop} {ops : Array Oper} {rest : List Oper}
theorem Wp_region {id : Nat} {l : List Oper} (h : WpL P N l.toArray (Q .normal) Q l σ w) : Wp P N (.region id l.toArray false) Q σ w := by
  intro dz a ha he
  refine wp_region_lit ?_
  have := h dz a ha he
  have e : lift dz N (thn (Q .normal) Q) = lift dz N Q := by funext e a w; cases e <;> rfl
  rwa [e] at this
theorem Wp_seq_region {id : Nat} {l : List Oper} {y : Code} (h : WpL P N l.toArray (Wp P N y Q) Q l σ w) : Wp P N (.seq (.region id l.toArray false) y) Q σ w := by
  refine Wp_seq ?_
  intro dz a ha he
  exact wp_region_lit (h dz a ha he)
theorem WpL_nil (h : K σ w) : WpL P N ops K Q [] σ w := fun dz a ha he => ⟨ha, by subst he; exact h⟩
theorem WpL_val {o : Oper} (hg : o.guard = none) {d : Nat} (hd : o.dst = some d) (hN : d < N) {v : Value} {w' : World}
    (hr : (execOp (ev σ) o).run P w = .ok (.value v) w') (k : WpL P N ops K Q rest (upd σ d v) w') : WpL P N ops K Q (o :: rest) σ w := by
  intro dz a ha he
  refine wpList_plain hg fun K' hK => ?_
  unfold Oper.wp
  rw [eval_env, he, hr]
  simp only [Oper.upon, hd]
  exact hK _ _ (k dz _ (ha.put _ _) (by rw [env_put ha hN, he]))
theorem WpL_skip {o : Oper} (hg : o.guard = none) (hd : o.dst = none) {w' : World}
    (hr : (execOp (ev σ) o).run P w = .ok .skip w') (k : WpL P N ops K Q rest σ w') : WpL P N ops K Q (o :: rest) σ w := by
  intro dz a ha he
  refine wpList_plain hg fun K' hK => ?_
  unfold Oper.wp
  rw [eval_env, he, hr]
  simp only [Oper.upon, hd]
  exact hK _ _ (k dz a ha he)
/-- The contract of a call: it returns a value, and what is said of it and of the world holds. -/
def Ret (P : Program) (f : FuncId) (args : Array Value) (w : World) (R : Value → World → Prop) : Prop :=
  Calls P f args w fun e w' => ∃ v, e = .returned v ∧ R v w'
theorem Ret.mono {f : FuncId} {args : Array Value} {R R' : Value → World → Prop} (h : Ret P f args w R) (hr : ∀ v w', R v w' → R' v w') : Ret P f args w R' :=
  Calls.mono h fun _ _ ⟨v, e, r⟩ => ⟨v, e, hr _ _ r⟩
theorem WpL_enter {o : Oper} (hg : o.guard = none) {d : Nat} (hd : o.dst = some d) (hN : d < N) {f : FuncId} {args : Array Value} {R : Value → World → Prop}
    (hr : (execOp (ev σ) o).run P w = .ok (.enter f args) w) (hc : Ret P f args w R) (k : ∀ v w', R v w' → WpL P N ops K Q rest (upd σ d v) w') : WpL P N ops K Q (o :: rest) σ w := by
  intro dz a ha he
  refine wpList_plain hg fun K' hK => ?_
  unfold Oper.wp
  rw [eval_env, he, hr]
  simp only [Oper.upon, hd]
  refine Calls.mono hc ?_
  rintro e w' ⟨v, rfl, r⟩
  exact hK _ _ (k v w' r dz _ (ha.put _ _) (by rw [env_put ha hN, he]))
/-- An operation that is guarded: carried out. -/
theorem WpL_guard_yes {dst : Option Tmp} {op : Op} {ty : TypeId} {pos : String} {af : Array Edge} {j : Nat} {b : Bool} {oj : Oper} {dj : Nat}
    (hj : ops[j]? = some oj) (hdj : oj.dst = some dj) (hN : dj < N) (hy : σ dj = .bool b)
    (k : WpL P N ops K Q (⟨dst, op, ty, pos, af, none⟩ :: rest) σ w) : WpL P N ops K Q (⟨dst, op, ty, pos, af, some (j, b)⟩ :: rest) σ w := by
  intro dz a ha he
  have h1 := k dz a ha he
  have hw : Region.wanted ⟨dst, op, ty, pos, af, some (j, b)⟩ (yielded ops a.tmps) = true := by
    simp only [Region.wanted, yielded, hj, hdj, Option.bind_some]
    have : a.tmps[dj]? = some (Value.bool b) := by
      have h2 : a.tmps.getD dj undef = .bool b := by rw [← hy, ← he]; rfl
      have hlt : dj < a.tmps.size := by rw [ha.size]; exact hN
      rw [Array.getElem?_eq_getElem hlt]
      simpa [hlt] using h2
    simp [this]
  unfold wpList at h1 ⊢
  rw [if_pos hw]
  rw [if_pos (by rfl)] at h1
  exact h1
/-- An operation that is guarded: passed over. -/
theorem WpL_guard_no {d : Nat} {op : Op} {ty : TypeId} {pos : String} {af : Array Edge} {j : Nat} {b : Bool} {oj : Oper} {dj : Nat} {v : Value}
    (hj : ops[j]? = some oj) (hdj : oj.dst = some dj) (hd : d < N) (hy : σ dj = v) (hv : v = .bool (!b) ∨ v = undef)
    (k : WpL P N ops K Q rest (upd σ d undef) w) : WpL P N ops K Q (⟨some d, op, ty, pos, af, some (j, b)⟩ :: rest) σ w := by
  intro dz a ha he
  have hw : Region.wanted ⟨some d, op, ty, pos, af, some (j, b)⟩ (yielded ops a.tmps) = false := by
    simp only [Region.wanted, yielded, hj, hdj, Option.bind_some]
    have h2 : a.tmps.getD dj undef = v := by rw [← hy, ← he]; rfl
    cases hx : a.tmps[dj]? with
    | none => simp
    | some u =>
      have : u = v := by simpa [hx] using h2
      subst this
      rcases hv with rfl | rfl
      · cases b <;> simp
      · simp [undef]
  unfold wpList
  rw [hw, if_neg (by simp)]
  exact k dz _ (ha.put _ _) (by rw [env_put ha hd, he])
/-- An operation that is guarded, whether it is carried out or not. -/
theorem WpL_guard_any {d : Nat} {op : Op} {ty : TypeId} {pos : String} {af : Array Edge} {j : Nat} {b : Bool} {oj : Oper} {dj : Nat} {gv u : Value}
    (hj : ops[j]? = some oj) (hdj : oj.dst = some dj) (hN : dj < N) (hd : d < N) (hy : σ dj = gv)
    (h : (gv = .bool b ∧ (execOp (ev σ) ⟨some d, op, ty, pos, af, none⟩).run P w = .ok (.value u) w) ∨ ((gv = .bool (!b) ∨ gv = undef) ∧ u = undef))
    (k : WpL P N ops K Q rest (upd σ d u) w) : WpL P N ops K Q (⟨some d, op, ty, pos, af, some (j, b)⟩ :: rest) σ w := by
  rcases h with ⟨h1, h2⟩ | ⟨h1, rfl⟩
  · exact WpL_guard_yes hj hdj hN (hy.trans h1) (WpL_val rfl rfl hd h2 k)
  · exact WpL_guard_no hj hdj hd hy h1 k
end
def fin (P : Program) (fn : Func) (R : Value → World → Prop) : Post
  | .normal, σ, w | .ret, σ, w => ∃ v, (∀ a : Act, env a = σ → (results fn a.tmps).run P w = .ok v w) ∧ R v w
  | _, _, _ => False
theorem Ret_of {P : Program} {f : FuncId} {fn : Func} {c : Code} {N : Nat} {args : Array Value} {w : World} {R : Value → World → Prop}
    (hf : P.funcs[f]? = some fn) (hb : fn.body = some c) (hn : fn.ntmps = N) (hsz : args.size ≤ N)
    (h : Wp P N c (fin P fn R) (fun t => args.getD t undef) w) : Ret P f args w R := by
  refine calls_of_wp hf hb ?_
  refine Code.wp_mono ?_ (h [] _ ⟨?_, rfl⟩ ?_)
  · rintro e a w ⟨o, q⟩
    cases e <;> simp only [fin] at q
    · obtain ⟨v, hv, r⟩ := q; exact ⟨o.defers, v, hv a rfl, v, rfl, r⟩
    · obtain ⟨v, hv, r⟩ := q; exact ⟨o.defers, v, hv a rfl, v, rfl, r⟩
  · simp [hn]; omega
  · funext t
    simp only [env, Array.getD_eq_getD_getElem?, Array.getElem?_append]
    split
    · rfl
    · rename_i hlt
      rw [Array.getElem?_replicate, Array.getElem?_eq_none (xs := args) (by omega)]
      split <;> rfl
theorem fin_tmp {P : Program} {fn : Func} {R : Value → World → Prop} {t : Nat} (hr : fn.results = #[.tmp t]) {σ : Env} {w : World} {v : Value} (hv : σ t = v) (h : R v w) : fin P fn R .ret σ w :=
  ⟨v, fun a ha => by rw [results_tmp hr]; subst ha; rw [← hv]; rfl, h⟩
theorem fin_tmp2 {P : Program} {fn : Func} {R : Value → World → Prop} {t u : Nat} (hr : fn.results = #[.tmp t, .tmp u]) {σ : Env} {w : World} {v v' : Value} (hv : σ t = v) (hv' : σ u = v') (h : R (.tuple #[v, v']) w) : fin P fn R .ret σ w :=
  ⟨.tuple #[v, v'], fun a ha => by rw [results_tmp2 hr]; subst ha; rw [← hv, ← hv']; rfl, h⟩
theorem fin_none {P : Program} {fn : Func} {R : Value → World → Prop} (hr : fn.results = #[]) {σ : Env} {w : World} (h : R (.tuple #[]) w) : fin P fn R .normal σ w :=
  ⟨.tuple #[], fun a ha => by rw [results_none hr], h⟩
theorem fin_noneR {P : Program} {fn : Func} {R : Value → World → Prop} (hr : fn.results = #[]) {σ : Env} {w : World} (h : R (.tuple #[]) w) : fin P fn R .ret σ w :=
  ⟨.tuple #[], fun a ha => by rw [results_none hr], h⟩
end Go.Eng
namespace Go.Eng
open Go
/-- From w to w' only blocks in M may have changed, and blocks may have been made. -/
structure Chg (M : Nat → Prop) (w w' : World) : Prop where
  os : w'.os = w.os
  tape : w'.tape = w.tape
  output : w'.output = w.output
  drw : w.drawn ≤ w'.drawn
  size : w.heap.size ≤ w'.heap.size
  blk : ∀ b, b < w.heap.size → ¬ M b → w'.heap[b]? = w.heap[b]?
def none1 : Nat → Prop := fun _ => False
def Ext (w w' : World) : Prop := Chg none1 w w'
def Blk (w : World) (b : Nat) (c : Array Value) (t : TypeId) : Prop := w.heap[b]? = some (.cells c t (0, 0))
theorem Chg.refl (M : Nat → Prop) (w : World) : Chg M w w := ⟨rfl, rfl, rfl, Nat.le_refl _, Nat.le_refl _, fun _ _ _ => rfl⟩
theorem Ext.refl (w : World) : Ext w w := Chg.refl _ w
theorem Chg.step {M M' : Nat → Prop} {a b c : World} (h : Chg M a b) (k : Chg M' b c) (hm : ∀ x, x < a.heap.size → M' x → M x) : Chg M a c :=
  ⟨k.os.trans h.os, k.tape.trans h.tape, k.output.trans h.output, Nat.le_trans h.drw k.drw, Nat.le_trans h.size k.size,
    fun x hx hn => (k.blk x (Nat.lt_of_lt_of_le hx h.size) (fun hm' => hn (hm x hx hm'))).trans (h.blk x hx hn)⟩
theorem Chg.trans {M : Nat → Prop} {a b c : World} (h : Chg M a b) (k : Chg M b c) : Chg M a c := h.step k fun _ _ x => x
theorem Chg.ext {M : Nat → Prop} {a b c : World} (h : Chg M a b) (k : Ext b c) : Chg M a c := h.step k fun _ _ x => x.elim
theorem Ext.trans {a b c : World} (h : Ext a b) (k : Ext b c) : Ext a c := Chg.trans h k
theorem Ext.chg {M : Nat → Prop} {a b : World} (h : Ext a b) : Chg M a b := ⟨h.os, h.tape, h.output, h.drw, h.size, fun x hx _ => h.blk x hx (fun f => f)⟩
theorem Chg.mono {M M' : Nat → Prop} {a b : World} (h : Chg M a b) (hm : ∀ x, x < a.heap.size → M x → M' x) : Chg M' a b :=
  ⟨h.os, h.tape, h.output, h.drw, h.size, fun x hx hn => h.blk x hx fun m => hn (hm x hx m)⟩
theorem Blk.lt {w : World} {b : Nat} {c : Array Value} {t : TypeId} (h : Blk w b c t) : b < w.heap.size := (Array.getElem?_eq_some_iff.1 h).1
theorem Chg.keep {M : Nat → Prop} {w w' : World} (h : Chg M w w') {b : Nat} {c : Array Value} {t : TypeId} (hm : ¬ M b) (hb : Blk w b c t) : Blk w' b c t :=
  (h.blk b hb.lt hm).trans hb
theorem Ext.keep {w w' : World} (h : Ext w w') {b : Nat} {c : Array Value} {t : TypeId} (hb : Blk w b c t) : Blk w' b c t := Chg.keep h (fun f => f) hb
theorem Chg.cell {M : Nat → Prop} {w w' : World} (h : Chg M w w') {a : Addr} {v : Value} (hm : ¬ M a.block) (hc : w.cell? a = some v) : w'.cell? a = some v :=
  (World.cell?_of_block (w := w) (h.blk a.block (World.block_lt_of_cell? w a hc) hm)).trans hc
theorem Ext.cell {w w' : World} (h : Ext w w') {a : Addr} {v : Value} (hc : w.cell? a = some v) : w'.cell? a = some v := Chg.cell h (fun f => f) hc
theorem Blk.cell {w : World} {b : Nat} {c : Array Value} {t : TypeId} (h : Blk w b c t) {o : Nat} {v : Value} (hv : c[o]? = some v) : w.cell? ⟨b, o, none⟩ = some v := by
  unfold Blk at h
  simp [World.cell?, h, hv]
theorem Ext.below {w w' : World} (h : Ext w w') : RowKit.Below w.heap.size w w' := ⟨h.os, h.tape, h.output, h.size, fun k hk => h.blk k hk fun f => f⟩
/-- A new block. -/
structure New (w w' : World) (b : Nat) (c : Array Value) (t : TypeId) : Prop where
  blk : Blk w' b c t
  ext : Ext w w'
  eq : b = w.heap.size
  size : w'.heap.size = w.heap.size + 1
theorem New.mk' (w : World) (c : Array Value) (t : TypeId) : New w { w with heap := w.heap.push (.cells c t (0, 0)) } w.heap.size c t :=
  ⟨by unfold Blk; simp, ⟨rfl, rfl, rfl, Nat.le_refl _, by simp, fun x hx _ => by simp [Array.getElem?_push, Nat.ne_of_lt hx]⟩, rfl, by simp⟩
theorem New.keep {w w' : World} {b : Nat} {c : Array Value} {t : TypeId} (h : New w w' b c t) {b' : Nat} {c' : Array Value} {t' : TypeId} (hb : Blk w b' c' t') : Blk w' b' c' t' := h.ext.keep hb
theorem New.lt {w w' : World} {b : Nat} {c : Array Value} {t : TypeId} (h : New w w' b c t) {b' : Nat} {c' : Array Value} {t' : TypeId} (hb : Blk w b' c' t') : b' < b := by rw [h.eq]; exact hb.lt
theorem New.ge {w0 w w' : World} {b : Nat} {c : Array Value} {t : TypeId} (h : New w w' b c t) {M : Nat → Prop} (e : Chg M w0 w) : w0.heap.size ≤ b := by rw [h.eq]; exact e.size
/-- A block is written. -/
structure Put (w w' : World) (b : Nat) (c : Array Value) (t : TypeId) : Prop where
  blk : Blk w' b c t
  chg : Chg (fun x => x = b) w w'
  size : w'.heap.size = w.heap.size
theorem Put.of_setRow {w : World} {b : Nat} {c : Array Value} {t : TypeId} (h : Blk w b c t) (c' : Array Value) : Put w (w.setRow b c') b c' t :=
  ⟨setRow_heap w b c c' t _ h, ⟨rfl, rfl, rfl, Nat.le_refl _, by simp [World.setRow], fun x _ hn => setRow_other w b x c' hn⟩, by simp [World.setRow]⟩
theorem Put.keep {w w' : World} {b : Nat} {c : Array Value} {t : TypeId} (h : Put w w' b c t) {b' : Nat} {c' : Array Value} {t' : TypeId} (hne : b' ≠ b) (hb : Blk w b' c' t') : Blk w' b' c' t' := h.chg.keep hne hb
theorem Put.ext {w0 w w' : World} {b : Nat} {c : Array Value} {t : TypeId} (h : Put w w' b c t) {M : Nat → Prop} (e : Chg M w0 w) (hb : w0.heap.size ≤ b) : Chg M w0 w' :=
  e.step h.chg fun x hx hm => by subst hm; omega
theorem Put.step {w0 w w' : World} {b : Nat} {c : Array Value} {t : TypeId} (h : Put w w' b c t) {M : Nat → Prop} (e : Chg M w0 w) (hb : w0.heap.size ≤ b ∨ M b) : Chg M w0 w' :=
  e.step h.chg fun x hx hm => by subst hm; rcases hb with hb | hb; omega; exact hb
/-- Cells in a row. -/
def CellsAt (w : World) (b o : Nat) (vs : List Value) : Prop := ∀ i v, vs[i]? = some v → w.cell? ⟨b, o + i, none⟩ = some v
theorem CellsAt.chg {M : Nat → Prop} {w w' : World} {b o : Nat} {vs : List Value} (h : CellsAt w b o vs) (e : Chg M w w') (hm : ¬ M b) : CellsAt w' b o vs :=
  fun i v hv => e.cell hm (h i v hv)
theorem CellsAt.ext {w w' : World} {b o : Nat} {vs : List Value} (h : CellsAt w b o vs) (e : Ext w w') : CellsAt w' b o vs := h.chg e fun f => f
theorem Blk.cells {w : World} {b : Nat} {c : Array Value} {t : TypeId} (h : Blk w b c t) {o : Nat} {vs : List Value} (hv : (c.toList.drop o).take vs.length = vs) : CellsAt w b o vs := by
  intro i v hi
  refine h.cell ?_
  have hlt : i < vs.length := by
    rcases Nat.lt_or_ge i vs.length with h | h
    · exact h
    · simp [List.getElem?_eq_none h] at hi
  rw [← hv, List.getElem?_take_of_lt hlt, List.getElem?_drop] at hi
  simpa using hi
def Siz (P : Program) (t : TypeId) (n : Nat) : Prop := (P.info? t).map (fun i => i.size) = some n
def Byt (P : Program) (t : TypeId) (n : Nat) : Prop := (P.info? t).map (fun i => i.bytes) = some n
def Zer (P : Program) (t : TypeId) (z : Value) : Prop := (P.info? t).bind (fun i => i.zero) = some z
def flatB (P : Program) (t : TypeId) : Bool := match P.underlying t with
  | some (.struct _) | some (.array _ _) | none => false
  | some _ => true
def aggB (P : Program) (t : TypeId) : Bool := match P.underlying t with
  | some (.struct _) | some (.array _ _) => true
  | _ => false
theorem Siz.run {P : Program} {t : TypeId} {n : Nat} (h : Siz P t n) (w : World) : (sizeOf t).run P w = .ok n w := by
  unfold Siz at h
  cases hi : P.info? t with
  | none => simp [hi] at h
  | some i => simp [hi] at h; simp [sizeOf, typeInfo, hi, h]
theorem Zer.run {P : Program} {t : TypeId} {z : Value} (h : Zer P t z) (w : World) : (zeroValue t).run P w = .ok z w := by
  unfold Zer at h
  cases hi : P.info? t with
  | none => simp [hi] at h
  | some i => simp [hi] at h; simp [zeroValue, typeInfo, hi, h]
theorem flatB.run {P : Program} {t : TypeId} (h : flatB P t = true) (w : World) : (isAgg t).run P w = .ok false w := by
  unfold flatB at h
  cases hi : P.underlying t with
  | none => simp [hi] at h
  | some d => cases d <;> simp [hi] at h <;> simp [isAgg, run_underlying hi]
theorem aggB.run {P : Program} {t : TypeId} (h : aggB P t = true) (w : World) : (isAgg t).run P w = .ok true w := by
  unfold aggB at h
  cases hi : P.underlying t with
  | none => simp [hi] at h
  | some d => cases d <;> simp [hi] at h <;> simp [isAgg, run_underlying hi]
section
variable {P : Program} {σ : Env} {w : World} {dst : Option Tmp} {ty : TypeId} {pos : String} {af : Array Edge} {g : Option (Nat × Bool)}
theorem r_move {x : Operand} {v : Value} (hx : ev σ x = v) : (execOp (ev σ) ⟨dst, .move x, ty, pos, af, g⟩).run P w = .ok (.value v) w := by subst hx; rfl
theorem r_assign {x : Operand} {v : Value} (hx : ev σ x = v) : (execOp (ev σ) ⟨dst, .assign x, ty, pos, af, g⟩).run P w = .ok (.value v) w := by subst hx; rfl
theorem r_pick {c x y : Operand} {b : Bool} {v : Value} (hc : ev σ c = .bool b) (hv : (if b then ev σ x else ev σ y) = v) : (execOp (ev σ) ⟨dst, .pick c x y, ty, pos, af, g⟩).run P w = .ok (.value v) w := by
  subst hv; simp only [execOp, hc, asBool]; cases b <;> rfl
theorem r_not {t : TypeId} {x : Operand} {b : Bool} (hx : ev σ x = .bool b) : (execOp (ev σ) ⟨dst, .unOp .not t x, ty, pos, af, g⟩).run P w = .ok (.value (.bool (!b))) w := by
  simp only [execOp, hx]; rfl
theorem r_convInt {s t : TypeId} {x : Operand} {k k' : IntKind} {n c : Int} (hs : ∃ d, P.underlying s = some d) (ht : P.underlying t = some (.int k')) (hx : ev σ x = .int k n) (hw : k'.wrap n = c) :
    (execOp (ev σ) ⟨dst, .convert s t x, ty, pos, af, g⟩).run P w = .ok (.value (.int k' c)) w := by
  obtain ⟨d, hd⟩ := hs
  subst hw; simp only [execOp, hx, convert, Sem.run_bind, run_underlying hd, run_underlying ht, Result.andThen_ok]; rfl
variable {t t' : TypeId} {x y : Operand} {k : IntKind} {a b c : Int}
theorem r_add (hx : ev σ x = .int k a) (hy : ev σ y = .int k b) (hw : k.wrap (a + b) = c) : (execOp (ev σ) ⟨dst, .binOp .add t x y t', ty, pos, af, g⟩).run P w = .ok (.value (.int k c)) w := by
  subst hw; simp only [execOp, hx, hy, eqGuard, binOp]; simp [Op.intArith]
theorem r_sub (hx : ev σ x = .int k a) (hy : ev σ y = .int k b) (hw : k.wrap (a - b) = c) : (execOp (ev σ) ⟨dst, .binOp .sub t x y t', ty, pos, af, g⟩).run P w = .ok (.value (.int k c)) w := by
  subst hw; simp only [execOp, hx, hy, eqGuard, binOp]; simp [Op.intArith]
theorem r_mul (hx : ev σ x = .int k a) (hy : ev σ y = .int k b) (hw : k.wrap (a * b) = c) : (execOp (ev σ) ⟨dst, .binOp .mul t x y t', ty, pos, af, g⟩).run P w = .ok (.value (.int k c)) w := by
  subst hw; simp only [execOp, hx, hy, eqGuard, binOp]; simp [Op.intArith]
theorem r_rem (hx : ev σ x = .int k a) (hy : ev σ y = .int k b) (h0 : b ≠ 0) (hw : a.tmod b = c) : (execOp (ev σ) ⟨dst, .binOp .rem t x y t', ty, pos, af, g⟩).run P w = .ok (.value (.int k c)) w := by
  subst hw; simp only [execOp, hx, hy, eqGuard, binOp]; simp [Op.intDiv, h0]
theorem r_quo (hx : ev σ x = .int k a) (hy : ev σ y = .int k b) (h0 : b ≠ 0) (hw : k.wrap (a.tdiv b) = c) : (execOp (ev σ) ⟨dst, .binOp .quo t x y t', ty, pos, af, g⟩).run P w = .ok (.value (.int k c)) w := by
  subst hw; simp only [execOp, hx, hy, eqGuard, binOp]; simp [Op.intDiv, h0]
theorem r_lss (hx : ev σ x = .int k a) (hy : ev σ y = .int k b) : (execOp (ev σ) ⟨dst, .binOp .lss t x y t', ty, pos, af, g⟩).run P w = .ok (.value (.bool (decide (a < b)))) w := by
  simp only [execOp, hx, hy, eqGuard, binOp]; simp [Op.intCmp]
theorem r_leq (hx : ev σ x = .int k a) (hy : ev σ y = .int k b) : (execOp (ev σ) ⟨dst, .binOp .leq t x y t', ty, pos, af, g⟩).run P w = .ok (.value (.bool (decide (a ≤ b)))) w := by
  simp only [execOp, hx, hy, eqGuard, binOp]; simp [Op.intCmp]
theorem r_gtr (hx : ev σ x = .int k a) (hy : ev σ y = .int k b) : (execOp (ev σ) ⟨dst, .binOp .gtr t x y t', ty, pos, af, g⟩).run P w = .ok (.value (.bool (decide (b < a)))) w := by
  simp only [execOp, hx, hy, eqGuard, binOp]; simp [Op.intCmp]
theorem r_geq (hx : ev σ x = .int k a) (hy : ev σ y = .int k b) : (execOp (ev σ) ⟨dst, .binOp .geq t x y t', ty, pos, af, g⟩).run P w = .ok (.value (.bool (decide (b ≤ a)))) w := by
  simp only [execOp, hx, hy, eqGuard, binOp]; simp [Op.intCmp]
theorem r_eql (hx : ev σ x = .int k a) (hy : ev σ y = .int k b) : (execOp (ev σ) ⟨dst, .binOp .eql t x y t', ty, pos, af, g⟩).run P w = .ok (.value (.bool (decide (a = b)))) w := by
  have : (a == b) = decide (a = b) := by rw [Bool.eq_iff_iff]; simp
  rw [← this]; simp only [execOp, hx, hy, eqGuard, binOp]; simp [Op.intCmp]
theorem r_neq (hx : ev σ x = .int k a) (hy : ev σ y = .int k b) : (execOp (ev σ) ⟨dst, .binOp .neq t x y t', ty, pos, af, g⟩).run P w = .ok (.value (.bool (decide (a ≠ b)))) w := by
  have : (a != b) = decide (a ≠ b) := by rw [Bool.eq_iff_iff]; simp
  rw [← this]; simp only [execOp, hx, hy, eqGuard, binOp]; simp [Op.intCmp]
theorem equalIn_bool {p q : Bool} (d : Nat) (hu : P.underlying t = some .bool) : (Op.equalIn (d + 1) t (.bool p) (.bool q)).run P w = .ok (p == q) w := by
  simp only [Op.equalIn, Sem.run_bind, run_underlying hu, Result.andThen_ok]; rfl
theorem r_neqB {p q : Bool} (hu : P.underlying t = some .bool) (hx : ev σ x = .bool p) (hy : ev σ y = .bool q) : (execOp (ev σ) ⟨dst, .binOp .neq t x y t', ty, pos, af, g⟩).run P w = .ok (.value (.bool (p != q))) w := by
  have h := equalIn_bool (P := P) (w := w) (p := p) (q := q) 9999 hu
  simp only [execOp, hx, hy, eqGuard, binOp, Op.equal, Op.maxDepth]; simp [h, bne]
theorem r_shr {k' : IntKind} (hx : ev σ x = .int k a) (hy : ev σ y = .int k' b) (h0 : 0 ≤ b) (hw : a.fdiv (2 ^ (min b.toNat k.bits)) = c) :
    (execOp (ev σ) ⟨dst, .binOp .shr t x y t', ty, pos, af, g⟩).run P w = .ok (.value (.int k c)) w := by
  subst hw; simp only [execOp, hx, hy, eqGuard, binOp]; simp [Op.shift, Int.not_lt.2 h0]
theorem r_lenSlice {e : TypeId} {ad : Option Addr} {n cap : Nat} (hu : P.underlying t = some (.slice e)) (hx : ev σ x = .slice ad n cap) :
    (execOp (ev σ) ⟨dst, .call ⟨.builtin .len, #[x], #[t]⟩, ty, pos, af, g⟩).run P w = .ok (.value (.int .i64 n)) w := by
  simp only [execOp, resolve, List.map_toArray, List.map_cons, List.map_nil, hx]
  simp [invoke, builtin, Builtin.len_, run_underlying hu, goInt]
theorem r_fieldAddr {fs : Array Field} {f : Field} {i n b o o' : Nat} (hx : ev σ x = .pointer (some ⟨b, o, none⟩)) (hu : P.underlying t = some (.struct fs)) (hf : fs[i]? = some f) (hs : Siz P f.type (n + 1)) (ho : o + f.offset = o') :
    (execOp (ev σ) ⟨dst, .fieldAddr t x i, ty, pos, af, g⟩).run P w = .ok (.value (.pointer (some ⟨b, o', none⟩))) w := by
  subst ho
  simp [execOp, hx, Instr.fieldAt, run_underlying hu, hf, Instr.sureAddr, fieldPlace, hs.run, Addr.add_lit]
theorem r_indexSlice {e : TypeId} {n b o o' len cap i : Nat} {k : IntKind} {a : Int} (hx : ev σ x = .slice (some ⟨b, o, none⟩) len cap) (hy : ev σ y = .int k a) (ha : a = (i : Int)) (hu : P.underlying t = some (.slice e)) (hs : Siz P e n) (hi : i < len) (ho : o + i * n = o') :
    (execOp (ev σ) ⟨dst, .indexAddr t x y, ty, pos, af, g⟩).run P w = .ok (.value (.pointer (some ⟨b, o', none⟩))) w := by
  subst ho; subst ha
  have h1 : (0 : Int) ≤ (i : Int) ∧ (i : Int) < (len : Int) := by omega
  simp [execOp, hx, hy, Instr.indexAt, asIntOf, run_underlying hu, hs.run, Addr.add_lit, hi]
theorem r_indexArr {e : TypeId} {n b o o' len i : Nat} {k : IntKind} {a : Int} (hx : ev σ x = .pointer (some ⟨b, o, none⟩)) (hy : ev σ y = .int k a) (ha : a = (i : Int)) (hu : P.underlying t = some (.array len e)) (hs : Siz P e n) (hi : i < len) (ho : o + i * n = o') :
    (execOp (ev σ) ⟨dst, .indexAddr t x y, ty, pos, af, g⟩).run P w = .ok (.value (.pointer (some ⟨b, o', none⟩))) w := by
  subst ho; subst ha
  simp [execOp, hx, hy, Instr.indexAt, Instr.sureAddr, asIntOf, run_underlying hu, hs.run, Addr.add_lit, hi]
theorem r_sliceLo {e : TypeId} {a a' : Option Addr} {n len cap lo n' c' : Nat} {k : IntKind} {l : Int} (hu : P.underlying t = some (.slice e)) (hs : Siz P e n) (hx : ev σ x = .slice a len cap) (hy : ev σ y = .int k l) (hl : l = (lo : Int)) (h1 : lo ≤ len) (ha : (if cap = lo then a else a.map (·.add (lo * n))) = a') (hn : len - lo = n') (hc : cap - lo = c') :
    (execOp (ev σ) ⟨dst, .slice t x (some y) none none, ty, pos, af, g⟩).run P w = .ok (.value (.slice a' n' c')) w := by
  subst ha; subst hn; subst hc; subst hl
  have h2 : (0 : Int) ≤ (lo : Int) ∧ (lo : Int) ≤ (len : Int) := by omega
  simp [execOp, hx, hy, Instr.sliceAt, Instr.slice, run_underlying hu, Instr.sliceBounds, Instr.sliceBound, asIntOf, h1, hs.run]
theorem r_sliceHi {e : TypeId} {a a' : Option Addr} {n len cap hi : Nat} {k : IntKind} {l : Int} (hu : P.underlying t = some (.slice e)) (hs : Siz P e n) (hx : ev σ x = .slice a len cap) (hy : ev σ y = .int k l) (hl : l = (hi : Int)) (h1 : hi ≤ cap) (ha : (if cap = 0 then a else a.map (·.add (0 * n))) = a') :
    (execOp (ev σ) ⟨dst, .slice t x none (some y) none, ty, pos, af, g⟩).run P w = .ok (.value (.slice a' hi cap)) w := by
  subst ha; subst hl
  simp [execOp, hx, hy, Instr.sliceAt, Instr.slice, run_underlying hu, Instr.sliceBounds, Instr.sliceBound, asIntOf, h1, hs.run]
theorem r_load {ad : Addr} {v : Value} (hx : ev σ x = .pointer (some ad)) (hf : flatB P t = true) (hc : w.cell? ad = some v) :
    (execOp (ev σ) ⟨dst, .load t x, ty, pos, af, g⟩).run P w = .ok (.value v) w := by
  simp [execOp, hx, Instr.loadAt, Instr.sureAddr, loadVar, flatB.run hf, hc]
theorem r_loadAgg {b o n : Nat} {vs : List Value} (hx : ev σ x = .pointer (some ⟨b, o, none⟩)) (hf : aggB P t = true) (hs : Siz P t n) (hn : vs.length = n) (hc : CellsAt w b o vs) :
    (execOp (ev σ) ⟨dst, .load t x, ty, pos, af, g⟩).run P w = .ok (.value (.agg vs.toArray)) w := by
  subst hn
  have h1 := run_loadCells_list (P := P) w ⟨b, o, none⟩ vs (fun j v hj => by rw [Addr.add_lit]; exact hc j v hj)
  simp [execOp, hx, Instr.loadAt, Instr.sureAddr, loadVar, aggB.run hf, hs.run, h1]
theorem r_makeFunc {fn : Fn} {first captured : List Operand} {vs us : List Value} (h1 : first.map (ev σ) = vs) (h2 : captured.map (ev σ) = us) :
    (execOp (ev σ) ⟨dst, .makeFunc fn first.toArray captured.toArray, ty, pos, af, g⟩).run P w = .ok (.value (.func fn vs.toArray us.toArray)) w := by
  subst h1; subst h2; simp [execOp, Instr.makeFunc]
theorem r_extract {i : Nat} {vs : Array Value} {v : Value} (hx : ev σ x = .tuple vs) (hv : vs[i]? = some v) :
    (execOp (ev σ) ⟨dst, .extract x i, ty, pos, af, g⟩).run P w = .ok (.value v) w := by
  simp [execOp, hx, Instr.extract, hv]
theorem r_build {parts : List (Nat × Operand)} {ps : List (Nat × Value)} {v : Value} (hp : (parts.map fun (i, x) => (i, ev σ x)) = ps) (hb : (Instr.build t ps.toArray).run P w = .ok v w) :
    (execOp (ev σ) ⟨dst, .build t parts.toArray, ty, pos, af, g⟩).run P w = .ok (.value v) w := by
  subst hp; simp [execOp, hb]
theorem run_callF {f : FuncId} {fn : Func} {vs : Array Value} (hf : P.funcs[f]? = some fn) (hn : (fn.name == "runtime.NumGoroutine") = false) (hb : fn.body.isNone = false) :
    (callFunc f vs).run P w = .ok (.enter f vs) w := by
  simp only [callFunc, Sem.run_bind, run_program, Result.andThen_ok, hf, hn, hb, Bool.false_eq_true, if_false]; rfl
/-- The call of a function of the program by its number. -/
theorem r_callF {f : FuncId} {fn : Func} {args : List Operand} {tys : Array TypeId} {vs : List Value} (hf : P.funcs[f]? = some fn) (hn : (fn.name == "runtime.NumGoroutine") = false) (hb : fn.body.isNone = false) (ha : args.map (ev σ) = vs) :
    (execOp (ev σ) ⟨dst, .call ⟨.value (.func f), args.toArray, tys⟩, ty, pos, af, g⟩).run P w = .ok (.enter f vs.toArray) w := by
  subst ha; simp [execOp, resolve, ev, Deferred.ofValue, invoke, run_callF hf hn hb]
/-- The call of a function value. -/
theorem r_callV {f : FuncId} {fn : Func} {z : Operand} {args : List Operand} {tys : Array TypeId} {first cap ws : Array Value} {vs : List Value} (hz : ev σ z = .func (.func f) first cap) (hf : P.funcs[f]? = some fn) (hn : (fn.name == "runtime.NumGoroutine") = false) (hb : fn.body.isNone = false) (ha : args.map (ev σ) = vs) (hws : first ++ vs.toArray ++ cap = ws) :
    (execOp (ev σ) ⟨dst, .call ⟨.value z, args.toArray, tys⟩, ty, pos, af, g⟩).run P w = .ok (.enter f ws) w := by
  subst ha; subst hws; simp [execOp, resolve, hz, Deferred.ofValue, invoke, run_callF hf hn hb]
end
section
variable {P : Program} {N : Nat} {Q : Post} {σ : Env} {w : World} {K : Env → World → Prop} {ops : Array Oper} {rest : List Oper} {d : Nat} {ty : TypeId} {pos : String} {af : Array Edge} {t : TypeId} {x y : Operand}
theorem s_box {v : Value} {c : Array Value} (hN : d < N) (hx : ev σ x = v) (hc : v.cells = c) (k : ∀ b w', New w w' b c t → WpL P N ops K Q rest (upd σ d (.pointer (some ⟨b, 0, none⟩))) w') :
    WpL P N ops K Q (⟨some d, .box t x, ty, pos, af, none⟩ :: rest) σ w := by
  subst hc
  refine WpL_val (v := .pointer (some ⟨w.heap.size, 0, none⟩)) (w' := { w with heap := w.heap.push (.cells v.cells t (0, 0)) }) rfl rfl hN ?_ (k _ _ (New.mk' w v.cells t))
  simp [execOp, hx, Instr.box, newVar, newRow]
theorem s_alloc {z : Value} {c : Array Value} (hN : d < N) (hz : Zer P t z) (hc : z.cells = c) (k : ∀ b w', New w w' b c t → WpL P N ops K Q rest (upd σ d (.pointer (some ⟨b, 0, none⟩))) w') :
    WpL P N ops K Q (⟨some d, .alloc t, ty, pos, af, none⟩ :: rest) σ w := by
  subst hc
  refine WpL_val (v := .pointer (some ⟨w.heap.size, 0, none⟩)) (w' := { w with heap := w.heap.push (.cells z.cells t (0, 0)) }) rfl rfl hN ?_ (k _ _ (New.mk' w z.cells t))
  simp [execOp, Instr.alloc, hz.run, newVar, newRow]
theorem s_store {b o : Nat} {v : Value} {c c' : Array Value} {e : TypeId} (hx : ev σ x = .pointer (some ⟨b, o, none⟩)) (hy : ev σ y = v) (h1 : v.oneCell' = true) (hs : Siz P t 1) (hB : Blk w b c e) (ho : o < c.size) (hc : c.setIfInBounds o v = c')
    (k : ∀ w', Put w w' b c' e → WpL P N ops K Q rest σ w') : WpL P N ops K Q (⟨none, .store t x y, ty, pos, af, none⟩ :: rest) σ w := by
  subst hc
  refine WpL_skip (w' := w.setRow b (c.setIfInBounds o v)) rfl rfl ?_ (k _ (Put.of_setRow hB _))
  have hcs : v.cells = #[v] := by cases v <;> first | rfl | (simp [Value.oneCell'] at h1; done)
  have hst := run_storeCells_at P b o e [v] 0 c w hB (by simp; omega) (by simpa using h1)
  have he : (c.toList.take (o + 0) ++ [v] ++ c.toList.drop (o + 0 + [v].length)).toArray = c.setIfInBounds o v := by
    apply Array.ext'
    simp only [Nat.add_zero, List.length_singleton, Array.toList_setIfInBounds]
    rw [List.set_eq_take_append_cons_drop, if_pos (by simpa using ho)]
    simp
  rw [he] at hst
  simp [execOp, hx, hy, Instr.storeAt, Instr.sureAddr, storeVar, hs.run, hcs, hst]
theorem s_storeAgg {b o n : Nat} {vs c c' : Array Value} {e : TypeId} (hx : ev σ x = .pointer (some ⟨b, o, none⟩)) (hy : ev σ y = .agg vs) (h1 : ∀ v ∈ vs.toList, v.oneCell' = true) (hs : Siz P t n) (hn : vs.size = n) (hB : Blk w b c e) (ho : o + n ≤ c.size) (hc : (c.toList.take o ++ vs.toList ++ c.toList.drop (o + n)).toArray = c')
    (k : ∀ w', Put w w' b c' e → WpL P N ops K Q rest σ w') : WpL P N ops K Q (⟨none, .store t x y, ty, pos, af, none⟩ :: rest) σ w := by
  subst hc; subst hn
  refine WpL_skip (w' := w.setRow b _) rfl rfl ?_ (k _ (Put.of_setRow hB _))
  have hst := run_storeCells_at P b o e vs.toList 0 c w hB (by simpa using ho) h1
  simp only [Nat.add_zero, Array.length_toList] at hst
  simp [execOp, hx, hy, Instr.storeAt, Instr.sureAddr, storeVar, hs.run, Value.cells, hst]
/-- A variable is made and stored into at once. -/
theorem s_allocStore {z v : Value} {n : Nat} {c : Array Value} {ty' : TypeId} {pos' : String} {af' : Array Edge} (hN : d < N) (hz : Zer P t z) (hzs : z.cells.size = n) (hs : Siz P t n) (hy : ev (upd σ d (.pointer (some ⟨w.heap.size, 0, none⟩))) y = v) (hc : v.cells = c) (hn : c.size = n) (h1 : ∀ u ∈ c.toList, u.oneCell' = true)
    (k : ∀ b w', New w w' b c t → WpL P N ops K Q rest (upd σ d (.pointer (some ⟨b, 0, none⟩))) w') :
    WpL P N ops K Q (⟨some d, .alloc t, ty, pos, af, none⟩ :: ⟨none, .store t (.tmp d) y, ty', pos', af', none⟩ :: rest) σ w := by
  subst hc
  refine WpL_val (v := .pointer (some ⟨w.heap.size, 0, none⟩)) (w' := { w with heap := w.heap.push (.cells z.cells t (0, 0)) }) rfl rfl hN ?_ ?_
  · simp [execOp, Instr.alloc, hz.run, newVar, newRow]
  · refine WpL_skip (w' := { w with heap := w.heap.push (.cells v.cells t (0, 0)) }) rfl rfl ?_ (k _ _ (New.mk' w v.cells t))
    have hB : Blk { w with heap := w.heap.push (.cells z.cells t (0, 0)) } w.heap.size z.cells t := (New.mk' w z.cells t).blk
    have hst := run_storeCells_at P w.heap.size 0 t v.cells.toList 0 z.cells _ hB (by simp [hn, hzs]) h1
    have hd : ev (upd σ d (.pointer (some ⟨w.heap.size, 0, none⟩))) (.tmp d) = .pointer (some ⟨w.heap.size, 0, none⟩) := by simp [ev, upd]
    have hw : World.setRow { w with heap := w.heap.push (.cells z.cells t (0, 0)) } w.heap.size (z.cells.toList.take (0 + 0) ++ v.cells.toList ++ z.cells.toList.drop (0 + 0 + v.cells.toList.length)).toArray = { w with heap := w.heap.push (.cells v.cells t (0, 0)) } := by
      have e : (z.cells.toList.take (0 + 0) ++ v.cells.toList ++ z.cells.toList.drop (0 + 0 + v.cells.toList.length)).toArray = v.cells := by
        apply Array.ext'
        simp [hn, ← hzs]
      rw [e]
      simp only [World.setRow]
      congr 1
      apply Array.ext
      · simp
      · intro i h1 h2
        simp only [Array.getElem_modify, Array.getElem_push]
        by_cases hi : i < w.heap.size
        · simp [hi, Nat.ne_of_gt hi]
        · have : i = w.heap.size := by simp at h2; omega
          simp [this]
    rw [hw] at hst
    have hst' : (storeCells ⟨w.heap.size, 0, none⟩ v.cells.toList).run P (w.alloc (.cells z.cells t)) = .ok () (w.alloc (.cells v.cells t)) := hst
    simp [execOp, hd, hy, Instr.storeAt, Instr.sureAddr, storeVar, hs.run, hn, hst']
theorem s_buildSlice {e : TypeId} {len n : Nat} {z : Value} {parts : List (Nat × Operand)} {ps : List (Nat × Value)} {c : Array Value} (hN : d < N) (hp : (parts.map fun (i, x) => (i, ev σ x)) = ps) (hu : P.underlying t = some (.slice e)) (hs : Siz P e n) (hz : Zer P e z) (hl : ¬ (len * n > 2 ^ 24)) (h0 : len * n ≠ 0)
    (hc : Instr.fill (fun i => some (i * n, n)) ((Array.range (len * n)).map (z.cells[· % z.cells.size]!)) ps = some c)
    (k : ∀ b w', New w w' b c e → WpL P N ops K Q rest (upd σ d (.slice (some ⟨b, 0, none⟩) len len)) w') : WpL P N ops K Q (⟨some d, .buildSlice t len parts.toArray, ty, pos, af, none⟩ :: rest) σ w := by
  subst hp
  refine WpL_val (v := .slice (some ⟨w.heap.size, 0, none⟩) len len) (w' := { w with heap := w.heap.push (.cells c e (0, 0)) }) rfl rfl hN ?_ (k _ _ (New.mk' w c e))
  simp only [execOp, Instr.buildSlice, List.map_toArray, Sem.run_bind, run_underlying hu, Result.andThen_ok, hs.run, hl, h0, if_false, Sem.run_pure, hz.run, hc]
  simp [newRow]
end
theorem wpStill_post {P : Program} {ops : Array Oper} {w : World} {R R' : Act → Prop} (h : ∀ a, R a → R' a) : ∀ (l : List Oper) (a : Act), wpStill P ops w R l a → wpStill P ops w R' l a
  | [], a, hr => h a hr
  | o :: rest, a, hr => by
    unfold wpStill at hr ⊢
    split
    · rename_i hw
      rw [if_pos hw] at hr
      exact Oper.still_mono (fun a' => wpStill_post h rest a') hr
    · rename_i hw
      rw [if_neg hw] at hr
      exact wpStill_post h rest _ hr
def WpS (P : Program) (N : Nat) (ops : Array Oper) (w : World) (K : Env → Prop) (l : List Oper) (σ : Env) : Prop :=
  ∀ dz a, Ok dz N a → env a = σ → wpStill P ops w (fun a' => Ok dz N a' ∧ K (env a')) l a
def WpT (P : Program) (N : Nat) (ops : Array Oper) (w : World) (K : Env → World → Prop) (Q : Post) : Nat → List Oper → Env → Prop
  | n, l, σ => WpS P N ops w (fun σ' => WpL P N ops K Q (l.drop n) σ' w) (l.take n) σ
section
variable {P : Program} {N : Nat} {Q : Post} {σ : Env} {w : World} {K : Env → World → Prop} {ops : Array Oper} {rest : List Oper} {n : Nat}
theorem WpT_zero {l : List Oper} (h : WpL P N ops K Q l σ w) : WpT P N ops w K Q 0 l σ := fun dz a ha he => by
  simp only [List.take_zero, List.drop_zero]; exact ⟨ha, he ▸ h⟩
theorem WpT_val {o : Oper} (hg : o.guard = none) {d : Nat} (hd : o.dst = some d) (hN : d < N) {v : Value}
    (hr : (execOp (ev σ) o).run P w = .ok (.value v) w) (k : WpT P N ops w K Q n rest (upd σ d v)) : WpT P N ops w K Q (n + 1) (o :: rest) σ := by
  intro dz a ha he
  simp only [List.take_succ_cons, List.drop_succ_cons]
  unfold wpStill
  rw [if_pos (by simp [Region.wanted, hg])]
  unfold Oper.still
  rw [eval_env, he, hr]
  refine ⟨rfl, ?_⟩
  rw [hd]
  exact k dz _ (ha.put _ _) (by rw [env_put ha hN, he])
theorem drew_ext (w : World) : Ext w { w with drawn := w.drawn + 1 } := ⟨rfl, rfl, rfl, Nat.le_succ _, Nat.le_refl _, fun _ _ _ => rfl⟩
theorem Wp_draw {id : Nat} {l : List Oper} (n : Nat) (hm : P.follows .mixedOrders = true) (hB : Region.lexTailB .any l.toArray n = true)
    (h : ∀ w', Ext w w' → w'.heap = w.heap → WpT P N l.toArray w' (Q .normal) Q n l σ) : Wp P N (.region id l.toArray true) Q σ w := by
  intro dz a ha he
  have e : lift dz N (thn (Q .normal) Q) = lift dz N Q := by funext e a w; cases e <;> rfl
  refine wp_region_still_tail n hm hB ?_
  have h1 := h _ (drew_ext w) rfl dz a ha he
  have : (fun a' => Ok dz N a' ∧ WpL P N l.toArray (Q .normal) Q (l.drop n) (env a') { w with drawn := w.drawn + 1 }) = (fun a' => Ok dz N a' ∧ WpL P N l.toArray (Q .normal) Q (l.drop n) (env a') { w with drawn := w.drawn + 1 }) := rfl
  refine wpStill_post ?_ _ _ h1
  rintro a' ⟨ha', hk⟩
  have := hk dz a' ha' rfl
  rwa [e] at this
theorem Wp_seq_draw {id : Nat} {l : List Oper} {y : Code} (n : Nat) (hm : P.follows .mixedOrders = true) (hB : Region.lexTailB .any l.toArray n = true)
    (h : ∀ w', Ext w w' → w'.heap = w.heap → WpT P N l.toArray w' (Wp P N y Q) Q n l σ) : Wp P N (.seq (.region id l.toArray true) y) Q σ w := by
  refine Wp_seq ?_
  refine Wp_draw n hm hB fun w' e he => ?_
  have : thn (Wp P N y Q) Q .normal = Wp P N y Q := rfl
  intro dz a ha hae
  have h1 := h w' e he dz a ha hae
  refine wpStill_post ?_ _ _ h1
  rintro a' ⟨ha', hk⟩
  refine ⟨ha', fun dz2 a2 h2 h3 => ?_⟩
  have h4 := hk dz2 a2 h2 h3
  have e2 : lift dz2 N (thn (thn (Wp P N y Q) Q .normal) (thn (Wp P N y Q) Q)) = lift dz2 N (thn (Wp P N y Q) Q) := by funext e a w; cases e <;> rfl
  rw [e2]
  exact h4
end
theorem wI64 {n : Int} (h : -9223372036854775808 ≤ n ∧ n ≤ 9223372036854775807) : IntKind.i64.wrap n = n := by
  simp only [IntKind.wrap, IntKind.bits, IntKind.signed, Bool.true_and, Bool.false_and, decide_eq_true_eq, ge_iff_le, Int.reducePow, Nat.reduceSub, Bool.false_eq_true, if_false]
  split <;> omega
theorem wU64 {n : Int} (h : 0 ≤ n ∧ n ≤ 18446744073709551615) : IntKind.u64.wrap n = n := by
  simp only [IntKind.wrap, IntKind.bits, IntKind.signed, Bool.true_and, Bool.false_and, decide_eq_true_eq, ge_iff_le, Int.reducePow, Nat.reduceSub, Bool.false_eq_true, if_false]
  omega
theorem Wp_cut {P : Program} {N : Nat} {Q : Post} {σ : Env} {w : World} {x y : Code} (J : Env → World → Prop) (h : Wp P N x (thn J Q) σ w) (k : ∀ σ' w', J σ' w' → Wp P N y Q σ' w') : Wp P N (.seq x y) Q σ w :=
  Wp_seq (Wp_mono h fun e σ' w' q => by cases e <;> first | exact k _ _ q | exact q)
theorem run_loadVar {P : Program} {w : World} {b o n : Nat} {t : TypeId} {vs : List Value} (hf : aggB P t = true) (hs : Siz P t n) (hn : vs.length = n) (hc : CellsAt w b o vs) : (loadVar t ⟨b, o, none⟩).run P w = .ok (.agg vs.toArray) w := by
  subst hn
  have h1 := run_loadCells_list (P := P) w ⟨b, o, none⟩ vs (fun j v hj => by rw [Addr.add_lit]; exact hc j v hj)
  simp [loadVar, aggB.run hf, hs.run, h1]
theorem fin_agg {P : Program} {fn : Func} {R : Value → World → Prop} {a0 t b n : Nat} (hr : fn.results = #[.cell a0 t]) {σ : Env} {w : World} {vs : List Value} (hv : σ a0 = .pointer (some ⟨b, 0, none⟩)) (hf : aggB P t = true) (hs : Siz P t n) (hn : vs.length = n) (hc : CellsAt w b 0 vs) (h : R (.agg vs.toArray) w) : fin P fn R .ret σ w :=
  ⟨.agg vs.toArray, fun a ha => by
    subst ha
    have hv' : a.tmps.getD a0 undef = .pointer (some ⟨b, 0, none⟩) := hv
    simp only [Array.getD_eq_getD_getElem?] at hv'
    simp [results, hr, hv', asAddr, run_loadVar hf hs hn hc], h⟩
theorem fin_agg_tmp {P : Program} {fn : Func} {R : Value → World → Prop} {a0 t b n u : Nat} (hr : fn.results = #[.cell a0 t, .tmp u]) {σ : Env} {w : World} {vs : List Value} {v' : Value} (hv : σ a0 = .pointer (some ⟨b, 0, none⟩)) (hf : aggB P t = true) (hs : Siz P t n) (hn : vs.length = n) (hc : CellsAt w b 0 vs) (hv' : σ u = v') (h : R (.tuple #[.agg vs.toArray, v']) w) : fin P fn R .ret σ w :=
  ⟨.tuple #[.agg vs.toArray, v'], fun a ha => by
    subst ha
    have h0 : a.tmps.getD a0 undef = .pointer (some ⟨b, 0, none⟩) := hv
    have h1 : a.tmps.getD u undef = v' := hv'
    simp only [Array.getD_eq_getD_getElem?] at h0 h1
    simp [results, hr, h0, h1, asAddr, run_loadVar hf hs hn hc], h⟩
end Go.Eng
namespace Go.Eng
open Go
inductive Re where
  | mk (kind : Int) (set : List (Int × Int)) (args : List Re) (mn mx : Int) (neg : Bool)
namespace Re
def kind : Re → Int | .mk k _ _ _ _ _ => k
def set : Re → List (Int × Int) | .mk _ s _ _ _ _ => s
def args : Re → List Re | .mk _ _ a _ _ _ => a
def mn : Re → Int | .mk _ _ _ m _ _ => m
def mx : Re → Int | .mk _ _ _ _ m _ => m
def neg : Re → Bool | .mk _ _ _ _ _ n => n
mutual
def size : Re → Nat
  | .mk _ _ a _ _ _ => sizes a + 1
def sizes : List Re → Nat
  | [] => 0
  | t :: ts => size t + sizes ts
end
end Re
theorem lt_of_get {α : Type} {l : List α} {i : Nat} {y : α} (h : l[i]? = some y) : i < l.length := by
  rcases Nat.lt_or_ge i l.length with h' | h'
  · exact h'
  · simp [List.getElem?_eq_none h'] at h
/-- A slice value that reads as a list of rows of k cells. -/
def SlAt (w : World) (k : Nat) (v : Value) (rows : List (List Value)) : Prop :=
  ∃ a cap, v = .slice a rows.length cap ∧ rows.length ≤ 9223372036854775807 ∧ rows.length ≤ cap ∧ (rows = [] ∨ ∃ b o, a = some ⟨b, o, none⟩ ∧ ∀ i r, rows[i]? = some r → CellsAt w b (o + i * k) r)
theorem SlAt.ext {w w' : World} {k : Nat} {v : Value} {rows : List (List Value)} (h : SlAt w k v rows) (e : Ext w w') : SlAt w' k v rows := by
  obtain ⟨a, cap, hv, hl, hc, h⟩ := h
  refine ⟨a, cap, hv, hl, hc, ?_⟩
  rcases h with h | ⟨b, o, ha, hc⟩
  · exact .inl h
  · exact .inr ⟨b, o, ha, fun i r hr => (hc i r hr).ext e⟩
theorem SlAt.nil (w : World) (k : Nat) (a : Option Addr) (cap : Nat) : SlAt w k (.slice a 0 cap) [] := ⟨a, cap, rfl, by simp, by simp, .inl rfl⟩
/-- Where there is an element the slice has an address. -/
theorem SlAt.at {w : World} {k : Nat} {a : Option Addr} {n cap : Nat} {rows : List (List Value)} (h : SlAt w k (.slice a n cap) rows) (hn : 0 < n) :
    ∃ b o, a = some ⟨b, o, none⟩ ∧ ∀ i r, rows[i]? = some r → CellsAt w b (o + i * k) r := by
  obtain ⟨a', cap', hv, _, _, h⟩ := h
  simp only [Value.slice.injEq] at hv
  obtain ⟨rfl, rfl, rfl⟩ := hv
  rcases h with rfl | h
  · simp at hn
  · exact h
theorem SlAt.le {w : World} {k : Nat} {v : Value} {rows : List (List Value)} (h : SlAt w k v rows) : rows.length ≤ 9223372036854775807 := let ⟨_, _, _, h, _⟩ := h; h
theorem SlAt.cap {w : World} {k : Nat} {a : Option Addr} {n c : Nat} {rows : List (List Value)} (h : SlAt w k (.slice a n c) rows) : n ≤ c ∧ rows.length = n := by
  obtain ⟨a', cap', hv, _, hc, _⟩ := h
  simp only [Value.slice.injEq] at hv
  obtain ⟨rfl, rfl, rfl⟩ := hv
  exact ⟨hc, rfl⟩
/-- A part of a slice. -/
theorem SlAt.cut {w : World} {k : Nat} {a a' : Option Addr} {n c lo hi n' c' : Nat} {rows : List (List Value)} (h : SlAt w k (.slice a n c) rows) (h1 : lo ≤ hi) (h2 : hi ≤ n) (ha : (if c = lo then a else a.map (·.add (lo * k))) = a') (hn : hi - lo = n') (hc : c - lo = c') :
    SlAt w k (.slice a' n' c') ((rows.drop lo).take n') := by
  obtain ⟨h3, h4⟩ := h.cap
  have hl := h.le
  have hlen : ((rows.drop lo).take n').length = n' := by simp; omega
  refine ⟨a', c', by rw [hlen], by rw [hlen]; omega, by rw [hlen]; omega, ?_⟩
  rcases Nat.eq_zero_or_pos n' with h0 | h0
  · left; subst h0; simp
  · obtain ⟨b, o, rfl, hcells⟩ := h.at (by omega)
    rw [if_neg (by omega)] at ha
    refine .inr ⟨b, o + lo * k, ?_, fun i r hr => ?_⟩
    · rw [← ha]; simp [Addr.add_lit]
    · have hi' := lt_of_get hr
      rw [hlen] at hi'
      rw [List.getElem?_take_of_lt hi', List.getElem?_drop] at hr
      have := hcells (lo + i) r hr
      rwa [show o + (lo + i) * k = o + lo * k + i * k from by rw [Nat.add_mul]; omega] at this
theorem SlAt.form {w : World} {k : Nat} {v : Value} {rows : List (List Value)} (h : SlAt w k v rows) : ∃ a cap, v = .slice a rows.length cap := let ⟨a, c, h, _⟩ := h; ⟨a, c, h⟩
def intV (x : Int) : List Value := [.int .i64 x]
def spanV (s : Int × Int) : List Value := [.int .i64 s.1, .int .i64 s.2]
def IntsAt (w : World) (v : Value) (l : List Int) : Prop := SlAt w 1 v (l.map intV)
def SpansAt (w : World) (v : Value) (l : List (Int × Int)) : Prop := SlAt w 2 v (l.map spanV)
theorem IntsAt.ext {w w' : World} {v : Value} {l : List Int} (h : IntsAt w v l) (e : Ext w w') : IntsAt w' v l := SlAt.ext h e
theorem SpansAt.ext {w w' : World} {v : Value} {l : List (Int × Int)} (h : SpansAt w v l) (e : Ext w w') : SpansAt w' v l := SlAt.ext h e
mutual
/-- The cells of an expression. -/
def ReAt (w : World) : Re → List Value → Prop
  | .mk k set args mn mx ng, vs => ∃ sa sc aa ac, vs = [.int .i64 k, .slice sa set.length sc, .slice aa args.length ac, .int .i64 mn, .int .i64 mx, .bool ng] ∧ SpansAt w (.slice sa set.length sc) set ∧ (args.length ≤ ac ∧ ac ≤ 9223372036854775807) ∧
      (args = [] ∨ ∃ b o, aa = some ⟨b, o, none⟩ ∧ ResAt w b o args)
/-- Expressions one behind the other. -/
def ResAt (w : World) (b : Nat) : Nat → List Re → Prop
  | _, [] => True
  | o, t :: ts => (∃ vs, CellsAt w b o vs ∧ ReAt w t vs) ∧ ResAt w b (o + 6) ts
end
mutual
theorem ReAt.ext {w w' : World} (e : Ext w w') : ∀ (t : Re) {vs : List Value}, ReAt w t vs → ReAt w' t vs
  | .mk k set args mn mx ng, vs, h => by
    simp only [ReAt] at h ⊢
    obtain ⟨sa, sc, aa, ac, hv, hs, hl, ha⟩ := h
    refine ⟨sa, sc, aa, ac, hv, hs.ext e, hl, ?_⟩
    rcases ha with h | ⟨b, o, h1, h2⟩
    · exact .inl h
    · exact .inr ⟨b, o, h1, ResAt.ext e args h2⟩
theorem ResAt.ext {w w' : World} (e : Ext w w') {b : Nat} : ∀ (ts : List Re) {o : Nat}, ResAt w b o ts → ResAt w' b o ts
  | [], _, _ => by simp only [ResAt]
  | t :: ts, o, h => by
    simp only [ResAt] at h ⊢
    obtain ⟨⟨vs, h1, h2⟩, h3⟩ := h
    exact ⟨⟨vs, h1.ext e, ReAt.ext e t h2⟩, ResAt.ext e ts h3⟩
end
/-- A call of a function value. -/
def CallV (P : Program) (fv : Value) (args : Array Value) (w : World) (R : Value → World → Prop) : Prop :=
  ∃ f fn first cap, fv = .func (.func f) first cap ∧ P.funcs[f]? = some fn ∧ (fn.name == "runtime.NumGoroutine") = false ∧ fn.body.isNone = false ∧ Ret P f (first ++ args ++ cap) w R
theorem CallV.mk {P : Program} {f : FuncId} {fn : Func} {first cap args ws : Array Value} {w : World} {R : Value → World → Prop} (hf : P.funcs[f]? = some fn) (hn : (fn.name == "runtime.NumGoroutine") = false) (hb : fn.body.isNone = false) (hw : first ++ args ++ cap = ws) (h : Ret P f ws w R) :
    CallV P (.func (.func f) first cap) args w R := ⟨f, fn, first, cap, rfl, hf, hn, hb, hw ▸ h⟩
theorem WpL_callV {P : Program} {N : Nat} {Q : Post} {σ : Env} {w : World} {K : Env → World → Prop} {ops : Array Oper} {rest : List Oper} {d : Nat} {z : Operand} {args : List Operand} {tys : Array TypeId} {ty : TypeId} {pos : String} {af : Array Edge} {fv : Value} {vs : List Value} {R : Value → World → Prop}
    (hN : d < N) (hz : ev σ z = fv) (ha : args.map (ev σ) = vs) (hc : CallV P fv vs.toArray w R) (k : ∀ v w', R v w' → WpL P N ops K Q rest (upd σ d v) w') :
    WpL P N ops K Q (⟨some d, .call ⟨.value z, args.toArray, tys⟩, ty, pos, af, none⟩ :: rest) σ w := by
  obtain ⟨f, fn, first, cap, rfl, hf, hn, hb, hr⟩ := hc
  exact WpL_enter rfl rfl hN (r_callV hz hf hn hb ha rfl) hr k
/-- The first place at which a test holds, or -1. -/
def idx {α : Type} (p : α → Bool) (l : List α) : Int := match l.findIdx? p with
  | some i => i
  | none => -1
theorem idx_any {α : Type} (p : α → Bool) (l : List α) : decide (0 ≤ idx p l) = l.any p := by
  unfold idx
  cases h : l.findIdx? p with
  | none =>
    have h' : l.any p = false := by
      rw [List.findIdx?_eq_none_iff] at h
      rw [List.any_eq_false]
      intro x hx
      simp [h x hx]
    rw [h']
    decide
  | some i =>
    have h' : l.any p = true := by
      rw [List.findIdx?_eq_some_iff_getElem] at h
      obtain ⟨hi, hp, _⟩ := h
      rw [List.any_eq_true]
      exact ⟨_, List.getElem_mem hi, hp⟩
    rw [h']
    simp
theorem idx_hit {α : Type} {p : α → Bool} {l : List α} {k : Nat} {x : α} (hk : l[k]? = some x) (hp : p x = true) (hb : ∀ i y, i < k → l[i]? = some y → p y = false) : idx p l = k := by
  unfold idx
  have hlt : k < l.length := by
    rcases Nat.lt_or_ge k l.length with h | h
    · exact h
    · simp [List.getElem?_eq_none h] at hk
  have : l.findIdx? p = some k := by
    rw [List.findIdx?_eq_some_iff_getElem]
    refine ⟨hlt, ?_, fun j hj => ?_⟩
    · rw [List.getElem?_eq_getElem hlt] at hk; cases hk; exact hp
    · have := hb j l[j] hj (List.getElem?_eq_getElem (by omega)); simp [this]
  rw [this]
theorem idx_miss {α : Type} {p : α → Bool} {l : List α} (hb : ∀ (i : Nat) (y : α), l[i]? = some y → p y = false) : idx p l = -1 := by
  unfold idx
  have : l.findIdx? p = none := by
    rw [List.findIdx?_eq_none_iff]
    intro x hx
    obtain ⟨i, hi⟩ := List.mem_iff_getElem?.1 hx
    simp [hb i x hi]
  rw [this]
theorem int_eq {a b : Int} (h : a = b) : Value.int .i64 a = .int .i64 b := by rw [h]
theorem bool_eq {a b : Bool} (h : a = b) : Value.bool a = .bool b := by rw [h]
theorem ints_cells {w : World} {a : Option Addr} {n c : Nat} {l : List Int} (h : IntsAt w (.slice a n c) l) (hn : 0 < n) :
    ∃ b o, a = some ⟨b, o, none⟩ ∧ ∀ i x, l[i]? = some x → w.cell? ⟨b, o + i, none⟩ = some (.int .i64 x) := by
  obtain ⟨b, o, ha, h⟩ := SlAt.at h hn
  refine ⟨b, o, ha, fun i x hx => ?_⟩
  have := h i (intV x) (by simp [hx]) 0 _ rfl
  simpa using this
theorem get_of_lt {α : Type} {l : List α} {i : Nat} (h : i < l.length) : ∃ x, l[i]? = some x := ⟨_, List.getElem?_eq_getElem h⟩
theorem drop_cons {α : Type} {l : List α} {k : Nat} {x : α} (h : l[k]? = some x) : l.drop k = x :: l.drop (k + 1) := by
  have hlt := lt_of_get h
  rw [List.drop_eq_getElem_cons hlt]; rw [List.getElem?_eq_getElem hlt] at h; cases h; rfl
theorem below_next {α : Type} {p : α → Bool} {l : List α} {k : Nat} {x : α} (hx : l[k]? = some x) (hp : p x = false) (hno : ∀ (i : Nat) (y : α), i < k → l[i]? = some y → p y = false) : ∀ (i : Nat) (y : α), i < k + 1 → l[i]? = some y → p y = false := by
  intro i y hi hy
  rcases Nat.lt_or_ge i k with h | h
  · exact hno i y h hy
  · obtain rfl : i = k := by omega
    rw [hx] at hy; cases hy; exact hp
theorem slat_of_blk {w : World} {b t k cap : Nat} {rows : List (List Value)} (h : Blk w b rows.flatten.toArray t) (hk : ∀ r ∈ rows, r.length = k) (hl : rows.length ≤ 9223372036854775807) (hcap : rows.length ≤ cap) : SlAt w k (.slice (some ⟨b, 0, none⟩) rows.length cap) rows := by
  refine ⟨_, cap, rfl, hl, hcap, .inr ⟨b, 0, rfl, fun i r hr j u hu => ?_⟩⟩
  have hc : (rows.flatten)[i * k + j]? = some u := by
    clear h hl hcap
    induction rows generalizing i with
    | nil => simp at hr
    | cons x rs ih =>
      have hx : x.length = k := hk x (by simp)
      cases i with
      | zero =>
        simp at hr; subst hr
        have hj := lt_of_get hu
        simp only [List.flatten_cons, Nat.zero_mul, Nat.zero_add]
        rw [List.getElem?_append_left hj]; exact hu
      | succ i =>
        simp at hr
        simp only [List.flatten_cons]
        rw [List.getElem?_append_right (by rw [hx, Nat.succ_mul]; omega)]
        rw [show (i + 1) * k + j - x.length = i * k + j from by rw [hx, Nat.succ_mul]; omega]
        exact ih (fun r hr => hk r (by simp [hr])) _ hr
  rw [Nat.zero_add]
  exact h.cell (by simpa using hc)
end Go.Eng
namespace Go.Proofs
open Go Go.Eng
structure Dfa where
  start : Int
  accept : List Int
  next : List (List Int)
/-- The symbols of the entries of a row, the first k symbols. -/
def idxsN (row : List Int) (k : Nat) : List Nat := (List.range k).filter fun c => decide (0 ≤ row.getD c (-1))
def idxs (row : List Int) : List Nat := idxsN row row.length
theorem mem_idxsN {row : List Int} {k c : Nat} (hk : k ≤ row.length) : c ∈ idxsN row k ↔ c < k ∧ ∃ x, row[c]? = some x ∧ 0 ≤ x := by
  unfold idxsN
  rw [List.mem_filter, List.mem_range, decide_eq_true_eq]
  constructor
  · rintro ⟨h1, h2⟩
    refine ⟨h1, row[c]'(by omega), List.getElem?_eq_getElem _, ?_⟩
    rwa [List.getD_eq_getElem?_getD, List.getElem?_eq_getElem (by omega), Option.getD_some] at h2
  · rintro ⟨h1, x, h2, h3⟩
    refine ⟨h1, ?_⟩
    rw [List.getD_eq_getElem?_getD, h2]; exact h3
theorem mem_idxs {row : List Int} {c : Nat} : c ∈ idxs row ↔ ∃ x, row[c]? = some x ∧ 0 ≤ x := by
  unfold idxs
  rw [mem_idxsN (Nat.le_refl _)]
  constructor
  · rintro ⟨_, h⟩; exact h
  · rintro ⟨x, h1, h2⟩; exact ⟨lt_of_get h1, x, h1, h2⟩
theorem idxsN_succ {row : List Int} {k : Nat} {x : Int} (hx : row[k]? = some x) : idxsN row (k + 1) = idxsN row k ++ (if 0 ≤ x then [k] else []) := by
  unfold idxsN
  rw [List.range_succ, List.filter_append]
  congr 1
  have : row.getD k (-1) = x := by rw [List.getD_eq_getElem?_getD, hx]; rfl
  by_cases h : 0 ≤ x
  · rw [if_pos h]; simp only [List.filter_cons, this, h, decide_true, if_true, List.filter_nil]
  · rw [if_neg h]; simp only [List.filter_cons, this, h, decide_false, List.filter_nil]; rfl
theorem idxs_nodup (row : List Int) : (idxs row).Nodup := List.Pairwise.filter _ List.nodup_range
theorem idxsN_le (row : List Int) (k : Nat) : (idxsN row k).length ≤ k := by
  have := List.length_filter_le (fun c => decide (0 ≤ row.getD c (-1))) (List.range k)
  rw [List.length_range] at this
  exact this
/-- Slots that hold the entries of a list. -/
structure Packed (rows : List (List Int)) (P : List (Nat × Nat)) (owner nxt : List Int) (bs : List Nat) : Prop where
  len : owner.length = nxt.length
  slot : ∀ i, i < owner.length → (owner[i]? = some (-1) ∧ nxt[i]? = some (-1)) ∨ ∃ s c b x row, (s, c) ∈ P ∧ bs[s]? = some b ∧ i = b + c ∧ owner[i]? = some (s : Int) ∧ rows[s]? = some row ∧ row[c]? = some x ∧ 0 ≤ x ∧ nxt[i]? = some x
  own : ∀ s c, (s, c) ∈ P → ∃ b, bs[s]? = some b ∧ owner[b + c]? = some (s : Int)
  count : owner.countP (fun o => decide (0 ≤ o)) = P.length
theorem Packed.nil (rows : List (List Int)) (bs : List Nat) : Packed rows [] [] [] bs :=
  ⟨rfl, fun i h => by simp at h, fun s c h => by simp at h, rfl⟩
theorem Packed.pad {rows : List (List Int)} {P : List (Nat × Nat)} {owner nxt : List Int} {bs : List Nat} (h : Packed rows P owner nxt bs) : Packed rows P (owner ++ [-1]) (nxt ++ [-1]) bs := by
  refine ⟨by simp [h.len], fun i hi => ?_, fun s c hs => ?_, ?_⟩
  · rcases Nat.lt_or_ge i owner.length with h1 | h1
    · rw [List.getElem?_append_left h1, List.getElem?_append_left (by rw [← h.len]; exact h1)]
      exact h.slot i h1
    · have : i = owner.length := by simp at hi; omega
      left
      subst this
      rw [List.getElem?_append_right (Nat.le_refl _), List.getElem?_append_right (by rw [h.len]; exact Nat.le_refl _), h.len]
      simp
  · obtain ⟨b, h1, h2⟩ := h.own s c hs
    exact ⟨b, h1, by rw [List.getElem?_append_left (lt_of_get h2)]; exact h2⟩
  · rw [List.countP_append, h.count]; simp
theorem Packed.put {rows : List (List Int)} {P : List (Nat × Nat)} {owner nxt : List Int} {bs : List Nat} (h : Packed rows P owner nxt bs) {s c b : Nat} {row : List Int} {x : Int} (hb : bs[s]? = some b) (hi : owner[b + c]? = some (-1)) (hrow : rows[s]? = some row) (hx : row[c]? = some x) (h0 : 0 ≤ x) :
    Packed rows (P ++ [(s, c)]) (owner.set (b + c) (s : Int)) (nxt.set (b + c) x) bs := by
  have hlt := lt_of_get hi
  refine ⟨by simp [h.len], fun i hi2 => ?_, fun s' c' hs => ?_, ?_⟩
  · by_cases he : i = b + c
    · subst he
      right
      refine ⟨s, c, b, x, row, by simp, hb, rfl, List.getElem?_set_self hlt, hrow, hx, h0, List.getElem?_set_self (by rw [← h.len]; exact hlt)⟩
    · rw [List.getElem?_set_ne (by omega), List.getElem?_set_ne (by omega)]
      rcases h.slot i (by simpa using hi2) with h1 | ⟨s', c', b', x', row', h1, h2⟩
      · exact .inl h1
      · exact .inr ⟨s', c', b', x', row', by simp [h1], h2⟩
  · rcases List.mem_append.1 hs with hs | hs
    · obtain ⟨b', h1, h2⟩ := h.own s' c' hs
      refine ⟨b', h1, ?_⟩
      rw [List.getElem?_set_ne]
      · exact h2
      · intro he
        rw [← he, hi] at h2
        simp at h2
    · simp at hs
      obtain ⟨rfl, rfl⟩ := hs
      exact ⟨b, hb, List.getElem?_set_self hlt⟩
  · have h1 : owner = owner.take (b + c) ++ (-1) :: owner.drop (b + c + 1) := by rw [← drop_cons hi, List.take_append_drop]
    have h2 : owner.set (b + c) (s : Int) = owner.take (b + c) ++ (s : Int) :: owner.drop (b + c + 1) := List.set_eq_take_append_cons_drop.trans (if_pos hlt)
    have h3 := h.count
    rw [h1, List.countP_append, List.countP_cons] at h3
    rw [h2, List.countP_append, List.countP_cons, List.length_append]
    simp at h3 ⊢
    omega
theorem Packed.base {rows : List (List Int)} {P : List (Nat × Nat)} {owner nxt : List Int} {bs : List Nat} (h : Packed rows P owner nxt bs) {s : Nat} (hs : ∀ c, (s, c) ∉ P) (b : Nat) : Packed rows P owner nxt (bs.set s b) := by
  refine ⟨h.len, fun i hi => ?_, fun s' c hc => ?_, h.count⟩
  · rcases h.slot i hi with h1 | ⟨s', c', b', x', row', h1, h2, h3⟩
    · exact .inl h1
    · exact .inr ⟨s', c', b', x', row', h1, by rw [List.getElem?_set_ne (fun he => hs c' (by rw [he]; exact h1))]; exact h2, h3⟩
  · obtain ⟨b', h1, h2⟩ := h.own s' c hc
    exact ⟨b', by rw [List.getElem?_set_ne (fun he => hs c (by rw [he]; exact hc))]; exact h1, h2⟩
def rowF (rows : List (List Int)) (s : Nat) : List (Nat × Nat) := (idxs (rows.getD s [])).map fun c => (s, c)
def allFp (rows : List (List Int)) (order : List Nat) : List (Nat × Nat) := order.flatMap (rowF rows)
theorem mem_rowF {rows : List (List Int)} {s s' c : Nat} : (s', c) ∈ rowF rows s ↔ s' = s ∧ c ∈ idxs (rows.getD s []) := by
  unfold rowF
  rw [List.mem_map]
  constructor
  · rintro ⟨c', h, he⟩; simp at he; obtain ⟨rfl, rfl⟩ := he; exact ⟨rfl, h⟩
  · rintro ⟨rfl, h⟩; exact ⟨c, h, rfl⟩
theorem mem_allF {rows : List (List Int)} {order : List Nat} {s c : Nat} : (s, c) ∈ allFp rows order ↔ s ∈ order ∧ c ∈ idxs (rows.getD s []) := by
  unfold allFp
  rw [List.mem_flatMap]
  constructor
  · rintro ⟨s', h, h2⟩; rw [mem_rowF] at h2; obtain ⟨rfl, h2⟩ := h2; exact ⟨h, h2⟩
  · rintro ⟨h, h2⟩; exact ⟨s, h, mem_rowF.2 ⟨rfl, h2⟩⟩
theorem allF_take {rows : List (List Int)} {order : List Nat} {j s : Nat} (h : order[j]? = some s) : allFp rows (order.take (j + 1)) = allFp rows (order.take j) ++ rowF rows s := by
  unfold allFp
  rw [List.take_add_one, h, List.flatMap_append]; simp
theorem allF_perm {rows : List (List Int)} {l m : List Nat} (h : List.Perm l m) : (allFp rows l).length = (allFp rows m).length := (h.flatMap_right _).length_eq
/-- What is read out of a table. -/
def atT (owner nxt : List Int) (bs : List Nat) (s c : Nat) : Int :=
  match bs[s]? with
  | some b => if owner[b + c]? = some (s : Int) then nxt.getD (b + c) (-1) else -1
  | none => -1
theorem Packed.at {rows : List (List Int)} {order : List Nat} {owner nxt : List Int} {bs : List Nat} (h : Packed rows (allFp rows order) owner nxt bs) {s c : Nat} {row : List Int} {x : Int} (hrow : rows[s]? = some row) (hx : row[c]? = some x) (hx1 : -1 ≤ x) (hall : s ∈ order) (hbs : s < bs.length) : atT owner nxt bs s c = x := by
  have hg : rows.getD s [] = row := by rw [List.getD_eq_getElem?_getD, hrow]; rfl
  have key : ∀ b, bs[s]? = some b → owner[b + c]? = some (s : Int) → nxt[b + c]? = some x ∧ 0 ≤ x := by
    intro b hb ho
    rcases h.slot (b + c) (lt_of_get ho) with ⟨h1, _⟩ | ⟨s', c', b', x', row', h1, h2, h3, h4, h5, h6, h7, h8⟩
    · rw [h1] at ho; simp at ho
    · rw [h4] at ho
      have hss : s' = s := by simp at ho; omega
      subst hss
      rw [hb] at h2; cases h2
      have : c' = c := by omega
      subst this
      rw [hrow] at h5; cases h5
      rw [hx] at h6; cases h6
      exact ⟨h8, h7⟩
  unfold atT
  rw [List.getElem?_eq_getElem hbs]
  simp only
  by_cases h0 : 0 ≤ x
  · obtain ⟨b, hb, ho⟩ := h.own s c (mem_allF.2 ⟨hall, by rw [hg]; exact mem_idxs.2 ⟨x, hx, h0⟩⟩)
    rw [List.getElem?_eq_getElem hbs] at hb
    have hb2 : bs[s] = b := by simpa using hb
    rw [hb2, if_pos ho, List.getD_eq_getElem?_getD, (key b (by rw [List.getElem?_eq_getElem hbs, hb2]) ho).1]
    rfl
  · rw [if_neg]
    · omega
    · intro ho
      exact h0 (key _ (List.getElem?_eq_getElem hbs) ho).2
end Go.Proofs
namespace Go.Proofs
open Go Go.Eng
--BEGIN
def fitsO (O : Nat → Int) (row : List Int) (b : Nat) : Prop := ∀ c ∈ idxs row, O (b + c) < 0
def putO (O : Nat → Int) (s : Nat) (row : List Int) (b i : Nat) : Int := if b ≤ i ∧ i - b ∈ idxs row then ((s : Nat) : Int) else O i
def putX (X : Nat → Int) (row : List Int) (b i : Nat) : Int := if b ≤ i ∧ i - b ∈ idxs row then row.getD (i - b) (-1) else X i
/-- The rows of a list (the last first) are packed: the owners, the next states, the bases. -/
inductive PkR (rows : List (List Int)) : List Nat → (Nat → Int) → (Nat → Int) → (Nat → Nat) → Prop
  | nil : PkR rows [] (fun _ => -1) (fun _ => -1) (fun _ => 0)
  | cons {l : List Nat} {O X : Nat → Int} {B : Nat → Nat} {s b : Nat} {row : List Int} : PkR rows l O X B → rows[s]? = some row → fitsO O row b → (∀ b', b' < b → ¬ fitsO O row b') → PkR rows (s :: l) (putO O s row b) (putX X row b) (fun t => if t = s then b else B t)
theorem PkR.uniq {rows : List (List Int)} : ∀ {l : List Nat} {O X O' X' : Nat → Int} {B B' : Nat → Nat}, PkR rows l O X B → PkR rows l O' X' B' → O = O' ∧ X = X' ∧ B = B'
  | [], _, _, _, _, _, _, h, k => by cases h; cases k; exact ⟨rfl, rfl, rfl⟩
  | s :: l, _, _, _, _, _, _, h, k => by
    cases h with
    | cons h1 h2 h3 h4 =>
      cases k with
      | cons k1 k2 k3 k4 =>
        obtain ⟨rfl, rfl, rfl⟩ := PkR.uniq h1 k1
        rw [h2] at k2
        cases k2
        rename_i b row b'
        have : b = b' := by
          rcases Nat.lt_trichotomy b b' with h5 | h5 | h5
          · exact absurd h3 (k4 b h5)
          · exact h5
          · exact absurd k3 (h4 b' h5)
        subst this
        exact ⟨rfl, rfl, rfl⟩
theorem putO_nn {O : Nat → Int} {s b i : Nat} {row : List Int} (h : 0 ≤ O i) : 0 ≤ putO O s row b i := by
  unfold putO; split <;> omega
/-- Two lists that agree and end with what is used are the same. -/
theorem tight_eq {l l' : List Int} {O : Nat → Int} (h : ∀ i, l.getD i (-1) = O i) (h' : ∀ i, l'.getD i (-1) = O i) (t : ∀ i, i < l.length → ∃ j, i ≤ j ∧ 0 ≤ O j) (t' : ∀ i, i < l'.length → ∃ j, i ≤ j ∧ 0 ≤ O j) : l = l' := by
  have key : ∀ {l l' : List Int}, (∀ i, l.getD i (-1) = O i) → (∀ i, l'.getD i (-1) = O i) → (∀ i, i < l.length → ∃ j, i ≤ j ∧ 0 ≤ O j) → l.length ≤ l'.length := fun {l l'} h h' t => by
    refine Nat.not_lt.1 fun hlt => ?_
    obtain ⟨j, h1, h2⟩ := t l'.length hlt
    rw [← h' j, List.getD_eq_getElem?_getD, List.getElem?_eq_none h1] at h2
    exact absurd h2 (by decide)
  have hl : l.length = l'.length := Nat.le_antisymm (key h h' t) (key h' h t')
  apply List.ext_getElem?
  intro i
  rcases Nat.lt_or_ge i l.length with h1 | h1
  · have h2 := (h i).trans (h' i).symm
    rw [List.getD_eq_getElem?_getD, List.getD_eq_getElem?_getD, List.getElem?_eq_getElem h1, List.getElem?_eq_getElem (by omega)] at h2
    rw [List.getElem?_eq_getElem h1, List.getElem?_eq_getElem (show i < l'.length by omega)]
    simpa using h2
  · rw [List.getElem?_eq_none h1, List.getElem?_eq_none (by omega)]
theorem getD_eq {l l' : List Int} {X : Nat → Int} (h : ∀ i, l.getD i (-1) = X i) (h' : ∀ i, l'.getD i (-1) = X i) (hl : l.length = l'.length) : l = l' := by
  apply List.ext_getElem?
  intro i
  rcases Nat.lt_or_ge i l.length with h1 | h1
  · have h2 := (h i).trans (h' i).symm
    rw [List.getD_eq_getElem?_getD, List.getD_eq_getElem?_getD, List.getElem?_eq_getElem h1, List.getElem?_eq_getElem (by omega)] at h2
    rw [List.getElem?_eq_getElem h1, List.getElem?_eq_getElem (show i < l'.length by omega)]
    simpa using h2
  · rw [List.getElem?_eq_none h1, List.getElem?_eq_none (by omega)]
theorem getD_snoc (l : List Int) (i : Nat) : (l ++ [-1]).getD i (-1) = l.getD i (-1) := by
  rw [List.getD_eq_getElem?_getD, List.getD_eq_getElem?_getD]
  rcases Nat.lt_or_ge i l.length with h | h
  · rw [List.getElem?_append_left h]
  · rw [List.getElem?_append_right h, List.getElem?_eq_none h]
    cases hi : i - l.length with
    | zero => rfl
    | succ j => simp
theorem getD_set {l : List Int} {i j : Nat} {x : Int} (h : i < l.length) : (l.set i x).getD j (-1) = if j = i then x else l.getD j (-1) := by
  rw [List.getD_eq_getElem?_getD, List.getElem?_set]
  by_cases h1 : i = j
  · subst h1; rw [if_pos rfl, if_pos h, if_pos rfl]; rfl
  · rw [if_neg h1, if_neg (fun e => h1 e.symm), List.getD_eq_getElem?_getD]
def doneR (rows : List (List Int)) (order : List Nat) (j : Nat) : List Nat := ((order.take j).filter fun s => decide (idxs (rows.getD s []) ≠ [])).reverse
theorem doneR_skip {rows : List (List Int)} {order : List Nat} {j s : Nat} {row : List Int} (hs : order[j]? = some s) (hr : rows[s]? = some row) (h0 : idxs row = []) : doneR rows order (j + 1) = doneR rows order j := by
  unfold doneR
  rw [List.take_add_one, hs, List.filter_append]
  simp only [Option.toList_some, List.filter_cons, List.filter_nil]
  rw [if_neg (by rw [decide_eq_true_iff, List.getD_eq_getElem?_getD, hr, Option.getD_some, h0]; simp), List.append_nil]
theorem doneR_put {rows : List (List Int)} {order : List Nat} {j s : Nat} {row : List Int} (hs : order[j]? = some s) (hr : rows[s]? = some row) (h0 : idxs row ≠ []) : doneR rows order (j + 1) = s :: doneR rows order j := by
  unfold doneR
  rw [List.take_add_one, hs, List.filter_append]
  simp only [Option.toList_some, List.filter_cons, List.filter_nil]
  rw [if_pos (by rw [decide_eq_true_iff, List.getD_eq_getElem?_getD, hr, Option.getD_some]; exact h0), List.reverse_append]
  rfl
/-- The state between two rows. -/
structure PTr (rows : List (List Int)) (order : List Nat) (j : Nat) (owner nxt : List Int) (bs : List Nat) : Prop where
  tr : ∃ O X B, PkR rows (doneR rows order j) O X B ∧ (∀ i, owner.getD i (-1) = O i) ∧ (∀ i, nxt.getD i (-1) = X i) ∧ (∀ t, t < rows.length → bs[t]? = some (B t)) ∧ (∀ i, i < owner.length → ∃ k, i ≤ k ∧ 0 ≤ O k)
  nl : nxt.length = owner.length
theorem PTr.start (rows : List (List Int)) (order : List Nat) : PTr rows order 0 [] [] (List.replicate rows.length 0) :=
  ⟨⟨_, _, _, by simpa [doneR] using PkR.nil, fun i => rfl, fun i => rfl, fun t ht => by rw [List.getElem?_replicate, if_pos ht], fun i h => absurd h (Nat.not_lt_zero _)⟩, rfl⟩
theorem PTr.skip {rows : List (List Int)} {order : List Nat} {j s : Nat} {owner nxt : List Int} {bs : List Nat} {row : List Int} (h : PTr rows order j owner nxt bs) (hs : order[j]? = some s) (hr : rows[s]? = some row) (h0 : idxs row = []) : PTr rows order (j + 1) owner nxt bs := by
  refine ⟨?_, h.nl⟩
  rw [doneR_skip hs hr h0]
  exact h.tr
/-- The state within a row: q entries are placed. -/
structure QTr (rows : List (List Int)) (order : List Nat) (j s m : Nat) (row : List Int) (q : Nat) (owner nxt : List Int) (bs : List Nat) : Prop where
  tr : ∃ O X B, PkR rows (doneR rows order j) O X B ∧ fitsO O row m ∧ (∀ b', b' < m → ¬ fitsO O row b') ∧ (∀ i, owner.getD i (-1) = if m ≤ i ∧ i - m ∈ (idxs row).take q then ((s : Nat) : Int) else O i) ∧ (∀ i, nxt.getD i (-1) = if m ≤ i ∧ i - m ∈ (idxs row).take q then row.getD (i - m) (-1) else X i) ∧ (∀ t, t < rows.length → bs[t]? = some (if t = s then m else B t)) ∧ (∀ i, i < owner.length → ∃ k, i ≤ k ∧ 0 ≤ putO O s row m k)
  nl : nxt.length = owner.length
theorem QTr.start {rows : List (List Int)} {order : List Nat} {j s m : Nat} {owner nxt : List Int} {bs : List Nat} {row : List Int} (h : PTr rows order j owner nxt bs) (hsl : s < rows.length) (hbl : bs.length = rows.length) (hf : ∀ c ∈ idxs row, owner.getD (m + c) (-1) < 0) (hm : ∀ b', b' < m → ∃ c ∈ idxs row, 0 ≤ owner.getD (b' + c) (-1)) : QTr rows order j s m row 0 owner nxt (bs.set s m) := by
  obtain ⟨⟨O, X, B, h1, h2, h3, h4, h5⟩, h6⟩ := h
  refine ⟨⟨O, X, B, h1, fun c hc => by rw [← h2]; exact hf c hc, fun b' hb hfit => ?_, fun i => by rw [if_neg (by simp)]; exact h2 i, fun i => by rw [if_neg (by simp)]; exact h3 i, fun t ht => ?_, fun i hi => ?_⟩, h6⟩
  · obtain ⟨c, hc, h7⟩ := hm b' hb
    have := hfit c hc
    rw [h2] at h7
    omega
  · rw [List.getElem?_set]
    by_cases e : s = t
    · subst e; rw [if_pos rfl, if_pos (by omega), if_pos rfl]
    · rw [if_neg e, if_neg (fun h => e h.symm)]; exact h4 t ht
  · obtain ⟨k, hk, h7⟩ := h5 i hi
    exact ⟨k, hk, putO_nn h7⟩
theorem QTr.pad {rows : List (List Int)} {order : List Nat} {j s m q c : Nat} {owner nxt : List Int} {bs : List Nat} {row : List Int} (h : QTr rows order j s m row q owner nxt bs) (hlen : owner.length ≤ m + c) (hc : c ∈ idxs row) : QTr rows order j s m row q (owner ++ [-1]) (nxt ++ [-1]) bs := by
  obtain ⟨⟨O, X, B, h1, h2, h3, h4, h5, h6, h7⟩, h8⟩ := h
  refine ⟨⟨O, X, B, h1, h2, h3, fun i => by rw [getD_snoc]; exact h4 i, fun i => by rw [getD_snoc]; exact h5 i, h6, fun i hi => ?_⟩, by simp [h8]⟩
  refine ⟨m + c, ?_, ?_⟩
  · simp at hi; omega
  · unfold putO
    rw [if_pos ⟨Nat.le_add_right _ _, by rw [Nat.add_sub_cancel_left]; exact hc⟩]
    omega
theorem QTr.put {rows : List (List Int)} {order : List Nat} {j s m q c : Nat} {owner nxt : List Int} {bs : List Nat} {row : List Int} {x : Int} (h : QTr rows order j s m row q owner nxt bs) (hq : (idxs row)[q]? = some c) (hx : row[c]? = some x) (hlen : m + c < owner.length) : QTr rows order j s m row (q + 1) (owner.set (m + c) ((s : Nat) : Int)) (nxt.set (m + c) x) bs := by
  obtain ⟨⟨O, X, B, h1, h2, h3, h4, h5, h6, h7⟩, h8⟩ := h
  have ht : (idxs row).take (q + 1) = (idxs row).take q ++ [c] := by rw [List.take_add_one, hq]; rfl
  refine ⟨⟨O, X, B, h1, h2, h3, fun i => ?_, fun i => ?_, h6, fun i hi => h7 i (by simpa using hi)⟩, by simp [h8]⟩
  · rw [getD_set hlen, ht]
    by_cases e : i = m + c
    · subst e
      rw [if_pos rfl, if_pos ⟨Nat.le_add_right _ _, by rw [Nat.add_sub_cancel_left]; simp⟩]
    · rw [if_neg e, h4 i]
      by_cases e2 : m ≤ i ∧ i - m ∈ (idxs row).take q
      · rw [if_pos e2, if_pos ⟨e2.1, List.mem_append_left _ e2.2⟩]
      · rw [if_neg e2, if_neg]
        rintro ⟨g1, g2⟩
        rcases List.mem_append.1 g2 with g3 | g3
        · exact e2 ⟨g1, g3⟩
        · rw [List.mem_singleton] at g3; omega
  · rw [getD_set (by omega), ht]
    by_cases e : i = m + c
    · subst e
      rw [if_pos rfl, if_pos ⟨Nat.le_add_right _ _, by rw [Nat.add_sub_cancel_left]; simp⟩, Nat.add_sub_cancel_left, List.getD_eq_getElem?_getD, hx]; rfl
    · rw [if_neg e, h5 i]
      by_cases e2 : m ≤ i ∧ i - m ∈ (idxs row).take q
      · rw [if_pos e2, if_pos ⟨e2.1, List.mem_append_left _ e2.2⟩]
      · rw [if_neg e2, if_neg]
        rintro ⟨g1, g2⟩
        rcases List.mem_append.1 g2 with g3 | g3
        · exact e2 ⟨g1, g3⟩
        · rw [List.mem_singleton] at g3; omega
theorem QTr.done {rows : List (List Int)} {order : List Nat} {j s m : Nat} {owner nxt : List Int} {bs : List Nat} {row : List Int} (h : QTr rows order j s m row (idxs row).length owner nxt bs) (hs : order[j]? = some s) (hr : rows[s]? = some row) (h0 : idxs row ≠ []) : PTr rows order (j + 1) owner nxt bs := by
  obtain ⟨⟨O, X, B, h1, h2, h3, h4, h5, h6, h7⟩, h8⟩ := h
  rw [List.take_length] at h4 h5
  refine ⟨⟨_, _, _, ?_, h4, h5, h6, h7⟩, h8⟩
  rw [doneR_put hs hr h0]
  exact PkR.cons h1 hr h2 h3
--END
end Go.Proofs
namespace Go.Proofs
open Go Go.Eng
set_option maxRecDepth 100000
theorem siz3 : Siz Try.prog 3 1 := by unfold Siz; kernel_rfl
theorem byt3 : Byt Try.prog 3 8 := by unfold Byt; kernel_rfl
theorem zer3 : Zer Try.prog 3 (.int .i64 0) := by unfold Zer; kernel_rfl
theorem flat3 : flatB Try.prog 3 = true := by kernel_rfl
theorem siz5 : Siz Try.prog 5 1 := by unfold Siz; kernel_rfl
theorem byt5 : Byt Try.prog 5 1 := by unfold Byt; kernel_rfl
theorem zer5 : Zer Try.prog 5 (.int .u8 0) := by unfold Zer; kernel_rfl
theorem flat5 : flatB Try.prog 5 = true := by kernel_rfl
theorem siz26 : Siz Try.prog 26 1 := by unfold Siz; kernel_rfl
theorem byt26 : Byt Try.prog 26 24 := by unfold Byt; kernel_rfl
theorem zer26 : Zer Try.prog 26 (.slice none 0 0) := by unfold Zer; kernel_rfl
theorem flat26 : flatB Try.prog 26 = true := by kernel_rfl
theorem siz42 : Siz Try.prog 42 1 := by unfold Siz; kernel_rfl
theorem flat42 : flatB Try.prog 42 = true := by kernel_rfl
theorem siz44 : Siz Try.prog 44 3 := by unfold Siz; kernel_rfl
theorem zer44 : Zer Try.prog 44 (.agg #[(.int .i64 0), (.slice none 0 0), (.slice none 0 0)]) := by unfold Zer; kernel_rfl
theorem agg44 : aggB Try.prog 44 = true := by kernel_rfl
theorem siz46 : Siz Try.prog 46 6 := by unfold Siz; kernel_rfl
theorem zer46 : Zer Try.prog 46 (.agg #[(.int .i64 0), (.int .i64 0), (.slice none 0 0), (.slice none 0 0), (.slice none 0 0), (.slice none 0 0)]) := by unfold Zer; kernel_rfl
theorem agg46 : aggB Try.prog 46 = true := by kernel_rfl
theorem siz88 : Siz Try.prog 88 2 := by unfold Siz; kernel_rfl
theorem byt88 : Byt Try.prog 88 16 := by unfold Byt; kernel_rfl
theorem zer88 : Zer Try.prog 88 (.agg #[(.int .i64 0), (.int .i64 0)]) := by unfold Zer; kernel_rfl
theorem agg88 : aggB Try.prog 88 = true := by kernel_rfl
theorem siz97 : Siz Try.prog 97 1 := by unfold Siz; kernel_rfl
theorem zer97 : Zer Try.prog 97 .nilFunc := by unfold Zer; kernel_rfl
theorem flat97 : flatB Try.prog 97 = true := by kernel_rfl
theorem siz100 : Siz Try.prog 100 1 := by unfold Siz; kernel_rfl
theorem zer100 : Zer Try.prog 100 .nilFunc := by unfold Zer; kernel_rfl
theorem flat100 : flatB Try.prog 100 = true := by kernel_rfl
theorem nm15 : (Try.f15.name == "runtime.NumGoroutine") = false := by kernel_rfl
theorem bd15 : Try.f15.body.isNone = false := by kernel_rfl
theorem nm16 : (Try.f16.name == "runtime.NumGoroutine") = false := by kernel_rfl
theorem bd16 : Try.f16.body.isNone = false := by kernel_rfl
theorem nm17 : (Try.f17.name == "runtime.NumGoroutine") = false := by kernel_rfl
theorem bd17 : Try.f17.body.isNone = false := by kernel_rfl
theorem nm18 : (Try.f18.name == "runtime.NumGoroutine") = false := by kernel_rfl
theorem bd18 : Try.f18.body.isNone = false := by kernel_rfl
theorem nm19 : (Try.f19.name == "runtime.NumGoroutine") = false := by kernel_rfl
theorem bd19 : Try.f19.body.isNone = false := by kernel_rfl
theorem nm20 : (Try.f20.name == "runtime.NumGoroutine") = false := by kernel_rfl
theorem bd20 : Try.f20.body.isNone = false := by kernel_rfl
theorem nm21 : (Try.f21.name == "runtime.NumGoroutine") = false := by kernel_rfl
theorem bd21 : Try.f21.body.isNone = false := by kernel_rfl
theorem nm22 : (Try.f22.name == "runtime.NumGoroutine") = false := by kernel_rfl
theorem bd22 : Try.f22.body.isNone = false := by kernel_rfl
theorem nm23 : (Try.f23.name == "runtime.NumGoroutine") = false := by kernel_rfl
theorem bd23 : Try.f23.body.isNone = false := by kernel_rfl
theorem nm28 : (Try.f28.name == "runtime.NumGoroutine") = false := by kernel_rfl
theorem bd28 : Try.f28.body.isNone = false := by kernel_rfl
theorem nm39 : (Try.f39.name == "runtime.NumGoroutine") = false := by kernel_rfl
theorem bd39 : Try.f39.body.isNone = false := by kernel_rfl
theorem nm48 : (Try.f48.name == "runtime.NumGoroutine") = false := by kernel_rfl
theorem bd48 : Try.f48.body.isNone = false := by kernel_rfl
theorem nm49 : (Try.f49.name == "runtime.NumGoroutine") = false := by kernel_rfl
theorem bd49 : Try.f49.body.isNone = false := by kernel_rfl
theorem nm50 : (Try.f50.name == "runtime.NumGoroutine") = false := by kernel_rfl
theorem bd50 : Try.f50.body.isNone = false := by kernel_rfl
theorem nm51 : (Try.f51.name == "runtime.NumGoroutine") = false := by kernel_rfl
theorem bd51 : Try.f51.body.isNone = false := by kernel_rfl
theorem nm52 : (Try.f52.name == "runtime.NumGoroutine") = false := by kernel_rfl
theorem bd52 : Try.f52.body.isNone = false := by kernel_rfl
theorem nm53 : (Try.f53.name == "runtime.NumGoroutine") = false := by kernel_rfl
theorem bd53 : Try.f53.body.isNone = false := by kernel_rfl
theorem nm54 : (Try.f54.name == "runtime.NumGoroutine") = false := by kernel_rfl
theorem bd54 : Try.f54.body.isNone = false := by kernel_rfl
theorem nm55 : (Try.f55.name == "runtime.NumGoroutine") = false := by kernel_rfl
theorem bd55 : Try.f55.body.isNone = false := by kernel_rfl
theorem nm56 : (Try.f56.name == "runtime.NumGoroutine") = false := by kernel_rfl
theorem bd56 : Try.f56.body.isNone = false := by kernel_rfl
theorem nm57 : (Try.f57.name == "runtime.NumGoroutine") = false := by kernel_rfl
theorem bd57 : Try.f57.body.isNone = false := by kernel_rfl
theorem nm58 : (Try.f58.name == "runtime.NumGoroutine") = false := by kernel_rfl
theorem bd58 : Try.f58.body.isNone = false := by kernel_rfl
theorem nm59 : (Try.f59.name == "runtime.NumGoroutine") = false := by kernel_rfl
theorem bd59 : Try.f59.body.isNone = false := by kernel_rfl
theorem nm60 : (Try.f60.name == "runtime.NumGoroutine") = false := by kernel_rfl
theorem bd60 : Try.f60.body.isNone = false := by kernel_rfl
theorem nm61 : (Try.f61.name == "runtime.NumGoroutine") = false := by kernel_rfl
theorem bd61 : Try.f61.body.isNone = false := by kernel_rfl
theorem nm62 : (Try.f62.name == "runtime.NumGoroutine") = false := by kernel_rfl
theorem bd62 : Try.f62.body.isNone = false := by kernel_rfl
theorem nm63 : (Try.f63.name == "runtime.NumGoroutine") = false := by kernel_rfl
theorem bd63 : Try.f63.body.isNone = false := by kernel_rfl
theorem nm89 : (Try.f89.name == "runtime.NumGoroutine") = false := by kernel_rfl
theorem bd89 : Try.f89.body.isNone = false := by kernel_rfl
theorem nm90 : (Try.f90.name == "runtime.NumGoroutine") = false := by kernel_rfl
theorem bd90 : Try.f90.body.isNone = false := by kernel_rfl
theorem nm91 : (Try.f91.name == "runtime.NumGoroutine") = false := by kernel_rfl
theorem bd91 : Try.f91.body.isNone = false := by kernel_rfl
theorem nm92 : (Try.f92.name == "runtime.NumGoroutine") = false := by kernel_rfl
theorem bd92 : Try.f92.body.isNone = false := by kernel_rfl
theorem nm93 : (Try.f93.name == "runtime.NumGoroutine") = false := by kernel_rfl
theorem bd93 : Try.f93.body.isNone = false := by kernel_rfl
theorem nm94 : (Try.f94.name == "runtime.NumGoroutine") = false := by kernel_rfl
theorem bd94 : Try.f94.body.isNone = false := by kernel_rfl
theorem nm116 : (Try.f116.name == "runtime.NumGoroutine") = false := by kernel_rfl
theorem bd116 : Try.f116.body.isNone = false := by kernel_rfl
theorem nm117 : (Try.f117.name == "runtime.NumGoroutine") = false := by kernel_rfl
theorem bd117 : Try.f117.body.isNone = false := by kernel_rfl
theorem nm126 : (Try.f126.name == "runtime.NumGoroutine") = false := by kernel_rfl
theorem bd126 : Try.f126.body.isNone = false := by kernel_rfl
theorem nm128 : (Try.f128.name == "runtime.NumGoroutine") = false := by kernel_rfl
theorem bd128 : Try.f128.body.isNone = false := by kernel_rfl
theorem mixed : Try.prog.follows .mixedOrders = true := by kernel_rfl
end Go.Proofs
namespace Go.Eng
open Go
theorem own_form {w : World} {base e size n : Nat} {v : Value} {xs : List Value} (h : w.ownsRow base e size v n xs) : ∃ a c, v = .slice a n c := by
  rcases h.2 with ⟨rfl, rfl⟩ | ⟨g, cap, cur, rfl, _⟩
  · exact ⟨_, _, rfl⟩
  · exact ⟨_, _, rfl⟩
theorem own_chg {M : Nat → Prop} {w w' : World} {base e size n : Nat} {v : Value} {xs : List Value} (h : w.ownsRow base e size v n xs) (c : Chg M w w') (hm : ∀ k, v.ownBlock = some k → ¬ M k) : w'.ownsRow base e size v n xs := by
  refine ⟨h.1, ?_⟩
  rcases h.2 with hn | ⟨g, cap, cur, rfl, hb, hgg, rest⟩
  · exact .inl hn
  · refine .inr ⟨g, cap, cur, rfl, hb, ?_, rest⟩
    rw [c.blk g (Array.getElem?_eq_some_iff.1 hgg).1 (hm g rfl)]
    exact hgg
/-- A slice of one's own, cut at its end. -/
theorem own_cut {w : World} {base e size n m cap : Nat} {a : Option Addr} {xs : List Value} (h : w.ownsRow base e size (.slice a n cap) n xs) (hm : m ≤ n) (h0 : 0 < n) : w.ownsRow base e size (.slice a m cap) m (xs.take (m * size)) := by
  rcases h.2 with ⟨h1, rfl⟩ | ⟨g, cap', cur, hv, hb, hgg, hnc, hcm, hcs, htake⟩
  · omega
  · simp only [Value.slice.injEq] at hv
    obtain ⟨rfl, _, rfl⟩ := hv
    have hle : m * size ≤ n * size := Nat.mul_le_mul_right _ hm
    refine ⟨by rw [List.length_take, h.1]; omega, .inr ⟨g, cap, cur, rfl, hb, hgg, by omega, hcm, hcs, ?_⟩⟩
    rw [← htake, List.take_take, Nat.min_eq_left hle]
theorem own_ext {w w' : World} {base e size n : Nat} {v : Value} {xs : List Value} (h : w.ownsRow base e size v n xs) (c : Ext w w') : w'.ownsRow base e size v n xs := own_chg h c fun _ _ f => f
theorem own_cells {w : World} {base e size n : Nat} {a : Option Addr} {c : Nat} {xs : List Value} (h : w.ownsRow base e size (.slice a n c) n xs) (hn : 0 < n) :
    ∃ g, a = some ⟨g, 0, none⟩ ∧ base ≤ g ∧ CellsAt w g 0 xs := by
  rcases h.2 with ⟨h1, rfl⟩ | ⟨g, cap, cur, hv, hb, hgg, _, _, _, htake⟩
  · omega
  · simp only [Value.slice.injEq] at hv
    obtain ⟨rfl, _, rfl⟩ := hv
    refine ⟨g, rfl, hb, fun i v hv => ?_⟩
    have := h.cells (g := g) rfl i v hv
    rwa [Addr.add_lit] at this
theorem own_slat {w : World} {base e k n : Nat} {v : Value} {rows : List (List Value)} (h : w.ownsRow base e k v n rows.flatten) (hk : ∀ r ∈ rows, r.length = k) (hn : rows.length = n) (hpos : 0 < k) : SlAt w k v rows := by
  obtain ⟨h1, h2⟩ := h
  rcases h2 with ⟨rfl, rfl⟩ | ⟨g, cap, cur, rfl, hb, hgg, hnc, hcm, hcs, htake⟩
  · have : rows = [] := List.eq_nil_of_length_eq_zero hn
    subst this
    exact SlAt.nil w k _ _
  · refine ⟨_, cap, by rw [hn], by simp only [maxLen] at hcm; omega, by omega, .inr ⟨g, 0, rfl, fun i r hr j u hu => ?_⟩⟩
    have hc : (rows.flatten)[i * k + j]? = some u := by
      clear htake hgg h1 hn
      induction rows generalizing i with
      | nil => simp at hr
      | cons x rs ih =>
        have hx : x.length = k := hk x (by simp)
        cases i with
        | zero =>
          simp at hr; subst hr
          have hj := lt_of_get hu
          simp only [List.flatten_cons, Nat.zero_mul, Nat.zero_add]
          rw [List.getElem?_append_left hj]; exact hu
        | succ i =>
          simp at hr
          simp only [List.flatten_cons]
          rw [List.getElem?_append_right (by rw [hx, Nat.succ_mul]; omega)]
          rw [show (i + 1) * k + j - x.length = i * k + j from by rw [hx, Nat.succ_mul]; omega]
          exact ih (fun r hr => hk r (by simp [hr])) _ hr
    rw [← htake] at hc
    have hlt : i * k + j < n * k := by
      have := lt_of_get hc
      simp at this; omega
    rw [List.getElem?_take_of_lt hlt] at hc
    show w.cell? ⟨g, 0 + i * k + j, none⟩ = some u
    rw [Nat.zero_add]
    simp only [World.cell?, hgg]
    simpa using hc
/-- Where the slice lies behind an append. -/
theorem append_where {P : Program} {w w' : World} {base t ty e size bytes n m c : Nat} {i : TypeInfo} {z v v' : Value} {xs news : List Value} {a : Addr} (ht : P.underlying t = some (.slice e)) (hi : P.info? e = some i) (hz : i.zero = some z) (hsize : i.size = size) (hby : i.bytes = bytes) (hzs : z.cells.size = size) (hsz : 0 < size)
    (hown : w.ownsRow base e size v n xs) (hl : news.length = m * size) (hnews : ∀ j u, news[j]? = some u → w.cell? (a.add j) = some u) (h1 : ∀ u ∈ news, u.oneCell' = true) (h63 : n + m ≤ maxLen) (hbytes : (n + m) * bytes ≤ 140737488355328)
    (hr : (Builtin.append_ #[t, t] ty #[v, .slice (some a) m c]).run P w = .ok v' w') : ∀ k, v'.ownBlock = some k → v.ownBlock = some k ∨ w.heap.size ≤ k := by
  rcases hown.2 with ⟨rfl, rfl⟩ | ⟨g, cap, cur, rfl, hbg, hg, hnc, hcm, hcs, htake⟩
  · have hx : xs = [] := List.eq_nil_of_length_eq_zero (by simpa using hown.1)
    subst hx
    obtain ⟨v2, w2, hr2, ho2, _⟩ := run_append_own (P := P) w w.heap.size t ty e i z size bytes ht hi hz hsize hby hzs hsz (.slice none 0 0) 0 [] (World.ownsRow_nil w w.heap.size e size) a m c news hl hnews h1 h63 hbytes (Nat.le_refl _)
    rw [hr2] at hr
    cases hr
    intro k hk
    exact .inr (ho2.lt k hk).1
  · have hsmall : n + m ≤ 9223372036854775807 := by simp only [maxLen] at h63; omega
    subst hsize; subst hby
    by_cases hroom : n + m ≤ cap
    · have hfit : n * i.size + news.length ≤ cur.size := by rw [hl, hcs, ← Nat.add_mul]; exact Nat.mul_le_mul_right _ hroom
      have hr2 := run_append_room (P := P) w t ty e i ht hi g n cap cur hg a m c news hl hnews h1 hroom hfit
      rw [hr2] at hr
      cases hr
      intro k hk
      exact .inl hk
    · have holds : ∀ j u, xs[j]? = some u → w.cell? ((⟨g, 0, none⟩ : Addr).add j) = some u := hown.cells (g := g) rfl
      have hr2 := run_append_grow (P := P) w t ty e i z ht hi hz ⟨g, 0, none⟩ n cap xs hown.1 holds a m c news hl hnews (by omega) (by omega) (growslice_fits (by omega) hbytes)
      rw [hr2] at hr
      cases hr
      intro k hk
      simp only [Value.ownBlock, Option.some.injEq] at hk
      exact .inr (by omega)
/-- An append never draws less than nothing. -/
theorem append_drawn {P : Program} {w w' : World} {base t ty e size bytes n m c : Nat} {i : TypeInfo} {z v v' : Value} {xs news : List Value} {a : Addr} (ht : P.underlying t = some (.slice e)) (hi : P.info? e = some i) (hz : i.zero = some z) (hsize : i.size = size) (hby : i.bytes = bytes)
    (hown : w.ownsRow base e size v n xs) (hl : news.length = m * size) (hnews : ∀ j u, news[j]? = some u → w.cell? (a.add j) = some u) (h1 : ∀ u ∈ news, u.oneCell' = true) (h63 : n + m ≤ maxLen) (hbytes : (n + m) * bytes ≤ 140737488355328)
    (hr : (Builtin.append_ #[t, t] ty #[v, .slice (some a) m c]).run P w = .ok v' w') : w.drawn ≤ w'.drawn := by
  have hsmall : n + m ≤ 9223372036854775807 := by simp only [maxLen] at h63; omega
  subst hsize; subst hby
  rcases hown.2 with ⟨rfl, rfl⟩ | ⟨g, cap, cur, rfl, hbg, hg, hnc, hcm, hcs, htake⟩
  · by_cases hm : m = 0
    · subst hm
      have h2 : (Builtin.append_ #[t, t] ty #[.slice none 0 0, .slice (some a) 0 c]).run P w = .ok (.slice none 0 0) w := by
        simp [Builtin.append_, run_underlying ht, sizeOf, typeInfo, hi, Builtin.lenOf, Builtin.firstCells, loadCells, loadCellsFrom]
      rw [h2] at hr; cases hr; exact Nat.le_refl _
    · have hr2 := run_append_nil (P := P) w t ty e i z ht hi hz a m c news hl hnews (by omega) (by omega) (by have hb := hbytes; simp only [Nat.zero_add] at hb; omega)
      rw [hr2] at hr; cases hr; exact Nat.le_succ _
  · by_cases hroom : n + m ≤ cap
    · have hfit : n * i.size + news.length ≤ cur.size := by rw [hl, hcs, ← Nat.add_mul]; exact Nat.mul_le_mul_right _ hroom
      have hr2 := run_append_room (P := P) w t ty e i ht hi g n cap cur hg a m c news hl hnews h1 hroom hfit
      rw [hr2] at hr; cases hr; exact Nat.le_refl _
    · have holds : ∀ j u, xs[j]? = some u → w.cell? ((⟨g, 0, none⟩ : Addr).add j) = some u := hown.cells (g := g) rfl
      have hr2 := run_append_grow (P := P) w t ty e i z ht hi hz ⟨g, 0, none⟩ n cap xs hown.1 holds a m c news hl hnews (by omega) (by omega) (growslice_fits (by omega) hbytes)
      rw [hr2] at hr; cases hr; exact Nat.le_succ _
/-- One append to a slice of the call's own. -/
theorem s_append {P : Program} {N : Nat} {Q : Post} {σ : Env} {w : World} {K : Env → World → Prop} {ops : Array Oper} {rest : List Oper} {d : Nat} {ty : TypeId} {pos : String} {af : Array Edge} {t : TypeId} {s x : Operand}
    {base e size bytes n m c bx ox : Nat} {z v : Value} {xs news : List Value} (hN : d < N) (hu : P.underlying t = some (.slice e)) (hsz : Siz P e size) (hby : Byt P e bytes) (hz : Zer P e z) (hzs : z.cells.size = size) (h0 : 0 < size)
    (hs : ev σ s = v) (hown : w.ownsRow base e size v n xs) (hx : ev σ x = .slice (some ⟨bx, ox, none⟩) m c) (hl : news.length = m * size) (hnews : CellsAt w bx ox news) (h1 : ∀ u ∈ news, u.oneCell' = true)
    (h63 : n + m ≤ maxLen) (hbytes : (n + m) * bytes ≤ 140737488355328) (hbase : base ≤ w.heap.size)
    (k : ∀ v' w', w'.ownsRow base e size v' (n + m) (xs ++ news) → Chg (fun x => v.ownBlock = some x) w w' → (∀ k, v'.ownBlock = some k → v.ownBlock = some k ∨ w.heap.size ≤ k) → WpL P N ops K Q rest (upd σ d v') w') :
    WpL P N ops K Q (⟨some d, .call ⟨.builtin .append, #[s, x], #[t, t]⟩, ty, pos, af, none⟩ :: rest) σ w := by
  unfold Siz at hsz; unfold Byt at hby; unfold Zer at hz
  cases hi : P.info? e with
  | none => rw [hi] at hsz; simp at hsz
  | some i =>
  rw [hi] at hsz hby hz
  simp at hsz hby hz
  obtain ⟨v', w', hr, h2, h3, _⟩ := run_append_own (P := P) w base t ty e i z size bytes hu hi hz hsz hby hzs h0 v n xs hown ⟨bx, ox, none⟩ m c news hl (fun j u hj => by rw [Addr.add_lit]; exact hnews j u hj) h1 h63 hbytes hbase
  refine WpL_val (v := v') (w' := w') rfl rfl hN ?_ (k v' w' h2 ⟨h3.os, h3.tape, h3.output, append_drawn (P := P) hu hi hz hsz hby hown hl (fun j u hj => by rw [Addr.add_lit]; exact hnews j u hj) h1 h63 hbytes hr, h3.size, fun b hb hn => h3.block b hb (fun h => hn h.symm)⟩ (append_where (P := P) hu hi hz hsz hby hzs h0 hown hl (fun j u hj => by rw [Addr.add_lit]; exact hnews j u hj) h1 h63 hbytes hr))
  simp [execOp, resolve, invoke, builtin, hs, hx, hr]
end Go.Eng
namespace Go.Eng
open Go
abbrev Fct := Value → World → Prop
def Stable (F : Fct) : Prop := ∀ v w w', Ext w w' → F v w → F v w'
inductive Fact where
  | eq (v : Value)
  | re (t : Re)
  | res (ts : List Re)
  | gen (F : Fct) (h : Stable F)
def Fact.In : Fact → Fct
  | .eq u, v, _ => v = u
  | .re t, v, w => ∃ vs, v = .agg vs.toArray ∧ ReAt w t vs
  | .res ts, v, w => ∃ b, v = .slice (some ⟨b, 0, none⟩) ts.length ts.length ∧ ResAt w b 0 ts
  | .gen F _, v, w => F v w
theorem Fact.ext {F : Fact} {v : Value} {w w' : World} (h : F.In v w) (e : Ext w w') : F.In v w' := by
  cases F with
  | eq u => exact h
  | re t => obtain ⟨vs, h1, h2⟩ := h; exact ⟨vs, h1, ReAt.ext e t h2⟩
  | res ts => obtain ⟨b, h1, h2⟩ := h; exact ⟨b, h1, ResAt.ext e ts h2⟩
  | gen F hF => exact hF _ _ _ e h
def Does (P : Program) (N : Nat) (o : Oper) (R : Fct) (σ : Env) (w : World) : Prop :=
  ∀ dz a, Ok dz N a → env a = σ → ∀ (Q : Exit → Act → World → Prop) (K : Act → World → Prop), (∀ v w', Ext w w' → R v w' → K (a.put o.dst v) w') → o.wp P a w K Q
def Holds (ds : List Nat) (Fs : List Fact) (j : Nat) (σ : Env) (w : World) : Prop := ∀ d F, ds[j]? = some d → Fs[j]? = some F → F.In (σ d) w
def Guarded (ds : List Nat) (o : Oper) (σ : Env) : Prop := ∀ j b, o.guard = some (j, b) → ∃ d, ds[j]? = some d ∧ σ d = .bool b
def Unmet (ds : List Nat) (o : Oper) (σ : Env) : Prop := ∃ j b d, o.guard = some (j, b) ∧ ds[j]? = some d ∧ (σ d = .bool (!b) ∨ σ d = undef)
theorem Unmet_mk {ds : List Nat} {o : Oper} {σ : Env} {j : Nat} {b : Bool} {d : Nat} (h : o.guard = some (j, b)) (hd : ds[j]? = some d) (hv : σ d = .bool (!b) ∨ σ d = undef) : Unmet ds o σ := ⟨j, b, d, h, hd, hv⟩
section
variable {P : Program} {N : Nat} {o : Oper} {R : Fct} {σ : Env} {w : World}
theorem Does_val {v : Value} {w' : World} (hr : (execOp (ev σ) o).run P w = .ok (.value v) w') (hx : Ext w w') (h : R v w') : Does P N o R σ w := by
  intro dz a ha he Q K hK
  unfold Oper.wp
  rw [eval_env, he, hr]
  simp only [Oper.upon]
  exact hK _ _ hx h
theorem Does_enter {f : FuncId} {args : Array Value} (hr : (execOp (ev σ) o).run P w = .ok (.enter f args) w) (hc : Ret P f args w fun v w' => R v w' ∧ Ext w w') : Does P N o R σ w := by
  intro dz a ha he Q K hK
  unfold Oper.wp
  rw [eval_env, he, hr]
  simp only [Oper.upon]
  refine Calls.mono hc ?_
  rintro e w' ⟨v, rfl, r, x⟩
  exact hK _ _ x r
theorem Guarded_none {ds : List Nat} (h : o.guard = none) : Guarded ds o σ := fun j b hj => by rw [h] at hj; cases hj
theorem Guarded_some {ds : List Nat} {j : Nat} {b : Bool} {d : Nat} (h : o.guard = some (j, b)) (hd : ds[j]? = some d) (hv : σ d = .bool b) : Guarded ds o σ := fun j' b' hj => by
  rw [h] at hj; cases hj; exact ⟨d, hd, hv⟩
end
def dagOne (N i : Nat) (o : Oper) (d : Nat) (ws : List Nat) : Bool :=
  (match o.dst with | some d' => Nat.beq d' d | none => false) && Nat.blt d N && (o.after.all fun e => !Region.binds .any e || Nat.blt e.on i) && ws.all fun j => o.after.any fun e => Region.binds .any e && Nat.beq e.on j
def dagB (N : Nat) : Nat → List Oper → List Nat → List (List Nat) → Bool
  | _, [], [], [] => true
  | i, o :: l, d :: ds, ws :: wss => dagOne N i o d ws && dagB N (i + 1) l ds wss
  | _, _, _, _ => false
def nodupB : List Nat → Bool
  | [] => true
  | d :: ds => !ds.contains d && nodupB ds
theorem nodupB_get : ∀ {ds : List Nat}, nodupB ds = true → ∀ {i j d : Nat}, ds[i]? = some d → ds[j]? = some d → i = j
  | [], _, i, _, _, h, _ => by simp at h
  | x :: ds, hn, i, j, d, hi, hj => by
    simp only [nodupB, Bool.and_eq_true, Bool.not_eq_true', List.contains_eq_mem, decide_eq_false_iff_not] at hn
    cases i with
    | zero =>
      cases j with
      | zero => rfl
      | succ j => simp at hi hj; subst hi; exact absurd (List.mem_of_getElem? hj) hn.1
    | succ i =>
      cases j with
      | zero => simp at hi hj; subst hj; exact absurd (List.mem_of_getElem? hi) hn.1
      | succ j => simp at hi hj; rw [nodupB_get hn.2 hi hj]
theorem dagB_get {N : Nat} : ∀ {i : Nat} {l : List Oper} {ds : List Nat} {wss : List (List Nat)}, dagB N i l ds wss = true → ∀ {j : Nat} {o : Oper}, l[j]? = some o → ∃ d ws, ds[j]? = some d ∧ wss[j]? = some ws ∧ dagOne N (i + j) o d ws = true
  | _, [], _, _, _, j, o, h => by simp at h
  | i, x :: l, [], _, hB, _, _, _ => by simp [dagB] at hB
  | i, x :: l, d :: ds, [], hB, _, _, _ => by simp [dagB] at hB
  | i, x :: l, d :: ds, ws :: wss, hB, j, o, h => by
    simp only [dagB, Bool.and_eq_true] at hB
    cases j with
    | zero => simp at h; subst h; exact ⟨d, ws, rfl, rfl, hB.1⟩
    | succ j =>
      simp at h
      obtain ⟨d', ws', h1, h2, h3⟩ := dagB_get hB.2 h
      exact ⟨d', ws', by simpa using h1, by simpa using h2, by rw [show i + (j + 1) = i + 1 + j from by omega]; exact h3⟩
theorem dagB_len {N : Nat} : ∀ {i : Nat} {l : List Oper} {ds : List Nat} {wss : List (List Nat)}, dagB N i l ds wss = true → ds.length = l.length
  | _, [], [], [], _ => rfl
  | _, [], [], _ :: _, hB => by simp [dagB] at hB
  | _, [], _ :: _, _, hB => by simp [dagB] at hB
  | i, x :: l, [], _, hB => by simp [dagB] at hB
  | i, x :: l, d :: ds, [], hB => by simp [dagB] at hB
  | i, x :: l, d :: ds, ws :: wss, hB => by
    simp only [dagB, Bool.and_eq_true] at hB
    simp [dagB_len hB.2]
def DagStep (P : Program) (N : Nat) (ds : List Nat) (Fs : List Fact) (σ : Env) (w : World) (o : Oper) (ws : List Nat) (F : Fact) : Prop :=
  ∀ σ' w', Ext w w' → (∀ t, ds.contains t = false → σ' t = σ t) → (∀ j, ws.contains j = true → Holds ds Fs j σ' w') → (Guarded ds o σ' ∧ Does P N o F.In σ' w') ∨ (Unmet ds o σ' ∧ F.In undef w')
inductive DagSteps (P : Program) (N : Nat) (ds : List Nat) (Fs : List Fact) (σ : Env) (w : World) : List Oper → List (List Nat) → List Fact → Prop where
  | nil : DagSteps P N ds Fs σ w [] [] []
  | cons {o : Oper} {ws : List Nat} {F : Fact} {l : List Oper} {wss : List (List Nat)} {Gs : List Fact} : DagStep P N ds Fs σ w o ws F → DagSteps P N ds Fs σ w l wss Gs → DagSteps P N ds Fs σ w (o :: l) (ws :: wss) (F :: Gs)
theorem DagSteps.get {P : Program} {N : Nat} {ds : List Nat} {Fs : List Fact} {σ : Env} {w : World} : ∀ {l : List Oper} {wss : List (List Nat)} {Gs : List Fact}, DagSteps P N ds Fs σ w l wss Gs → ∀ {j : Nat} {o : Oper}, l[j]? = some o → ∃ ws F, wss[j]? = some ws ∧ Gs[j]? = some F ∧ DagStep P N ds Fs σ w o ws F
  | _, _, _, .nil, j, o, h => by simp at h
  | _, _, _, .cons h1 h2, 0, o, h => by simp at h; subst h; exact ⟨_, _, rfl, rfl, h1⟩
  | _, _, _, .cons h1 h2, j + 1, o, h => by
    obtain ⟨ws, F, a, b, c⟩ := h2.get (j := j) (by simpa using h)
    exact ⟨ws, F, by simpa using a, by simpa using b, c⟩
theorem Wp_dag {P : Program} {N : Nat} {Q : Post} {σ : Env} {w : World} {id : Nat} {l : List Oper} (ds : List Nat) (wss : List (List Nat)) (Fs : List Fact) {Gs : List Fact} (hG : Fs = Gs) (hm : P.follows .mixedOrders = true) (hB : dagB N 0 l ds wss = true) (hn : nodupB ds = true)
    (steps : ∀ w1, Ext w w1 → DagSteps P N ds Fs σ w1 l wss Gs)
    (k : ∀ σ' w', Ext w w' → (∀ t, ds.contains t = false → σ' t = σ t) → (∀ j, Holds ds Fs j σ' w') → Q .normal σ' w') : Wp P N (.region id l.toArray true) Q σ w := by
  intro dz a ha he
  refine wp_region_any hm ?_
  obtain ⟨w1, hw1⟩ : ∃ w1 : World, w1 = { w with drawn := w.drawn + 1 } := ⟨_, rfl⟩
  have hE1 : Ext w w1 := by rw [hw1]; exact drew_ext w
  rw [← hw1]
  have hst := steps w1 hE1
  rw [← hG] at hst
  have hlen := dagB_len hB
  have key : ∀ (fuel : Nat) (listed : Array Bool) (a : Act) (w' : World), listed.size = l.length → listed.toList.count false ≤ fuel → Ok dz N a → Ext w1 w' → (∀ t, ds.contains t = false → env a t = σ t) → (∀ j, listed.getD j false = true → Holds ds Fs j (env a) w') →
      wpAny P .any l.toArray (lift dz N Q) fuel listed a w' := by
    intro fuel
    have all : ∀ (listed : Array Bool) (a : Act) (w' : World), listed.size = l.length → Ok dz N a → Ext w1 w' → (∀ t, ds.contains t = false → env a t = σ t) → (∀ j, listed.getD j false = true → Holds ds Fs j (env a) w') → listed.toList.count false = 0 → lift dz N Q .normal a w' := by
      intro listed a w' hs ha hx hu hh hc
      refine ⟨ha, k _ _ (hE1.trans hx) hu fun j => ?_⟩
      intro d F hd hF
      have hj : j < listed.size := by have := lt_of_get hd; omega
      refine hh j ?_ d F hd hF
      rw [List.count_eq_zero] at hc
      have : listed[j] ≠ false := fun h => hc (by rw [← h]; exact Array.getElem_mem_toList hj)
      simp only [Array.getD_eq_getD_getElem?, Array.getElem?_eq_getElem hj, Option.getD_some]
      simpa using this
    induction fuel with
    | zero =>
      intro listed a w' hs hc ha hx hu hh
      have hc0 : listed.toList.count false = 0 := by omega
      refine ⟨?_, all listed a w' hs ha hx hu hh hc0⟩
      rw [List.eq_nil_iff_forall_not_mem]
      intro i hi
      obtain ⟨h1, o, h2, _⟩ := mem_ready.1 hi
      have hj : i < listed.size := by have := (Array.getElem?_eq_some_iff.1 h2).1; simp at this; omega
      simp only [Array.getD_eq_getD_getElem?, Array.getElem?_eq_getElem hj, Option.getD_some] at h1
      rw [List.count_eq_zero] at hc0
      exact hc0 (by rw [← h1]; exact Array.getElem_mem_toList hj)
    | succ fuel ih =>
      intro listed a w' hs hc ha hx hu hh
      refine ⟨fun hr => all listed a w' hs ha hx hu hh ?_, fun i hi => ?_⟩
      · -- none is ready: all are listed
        have hall : ∀ i, i < listed.size → listed.getD i true = true := by
          intro i
          induction i using Nat.strongRecOn with
          | _ i ihi =>
            intro hi
            cases hv : listed.getD i true with
            | true => rfl
            | false =>
              exfalso
              obtain ⟨o, ho⟩ := get_of_lt (l := l) (i := i) (by omega)
              obtain ⟨d, ws, _, _, h3⟩ := dagB_get hB ho
              have : i ∈ Region.ready .any l.toArray listed := by
                refine mem_ready.2 ⟨hv, o, by simpa using ho, fun e he hb => ?_⟩
                simp only [dagOne, Bool.and_eq_true, Array.all_eq_true_iff_forall_mem, Bool.or_eq_true, Bool.not_eq_true', Nat.zero_add] at h3
                have := (h3.1.2 e he).resolve_left (by simp [hb])
                have hlt : e.on < i := by simpa [Nat.blt_eq] using this
                have h4 := ihi e.on hlt (by omega)
                have hj : e.on < listed.size := by omega
                simpa only [Array.getD_eq_getD_getElem?, Array.getElem?_eq_getElem hj, Option.getD_some] using h4
              rw [hr] at this
              cases this
        rw [List.count_eq_zero]
        intro hmem
        obtain ⟨i, hi, he⟩ := List.getElem_of_mem hmem
        have hj : i < listed.size := by simpa using hi
        have := hall i hj
        simp only [Array.getD_eq_getD_getElem?, Array.getElem?_eq_getElem hj, Option.getD_some] at this
        simp at he
        rw [this] at he
        cases he
      · obtain ⟨h1, o, h2, h3⟩ := mem_ready.1 hi
        have ho : l[i]? = some o := by simpa using h2
        have hil : i < l.length := lt_of_get ho
        obtain ⟨d, ws, hd, hws, h4⟩ := dagB_get hB ho
        obtain ⟨ws', F, hws', hF, hstep⟩ := hst.get ho
        rw [hws] at hws'
        cases hws'
        simp only [dagOne, Bool.and_eq_true, List.all_eq_true, Array.any_eq_true', Array.all_eq_true_iff_forall_mem, Bool.or_eq_true, Bool.not_eq_true', Nat.zero_add] at h4
        obtain ⟨⟨⟨hdst, hdN⟩, _⟩, hwait⟩ := h4
        have hdst : o.dst = some d := by
          split at hdst
          · rename_i d' h; rw [h, Nat.eq_of_beq_eq_true hdst]
          · cases hdst
        have hdN : d < N := by simpa [Nat.blt_eq] using hdN
        have hH : ∀ j, ws.contains j = true → Holds ds Fs j (env a) w' := by
          intro j hj
          have hj' : j ∈ ws := by simpa using hj
          obtain ⟨e, he, hb⟩ := hwait j hj'
          obtain ⟨hb1, hb2⟩ := hb
          have : e.on = j := Nat.eq_of_beq_eq_true hb2
          exact hh j (this ▸ h3 e he hb1)
        have cont : ∀ v w2, Ext w' w2 → F.In v w2 → wpAny P .any l.toArray (lift dz N Q) fuel (listed.setIfInBounds i true) (a.put o.dst v) w2 := by
          intro v w2 hx2 hv
          have henv : env (a.put o.dst v) = upd (env a) d v := by rw [hdst]; exact env_put ha hdN v
          refine ih _ _ _ (by simpa using hs) ?_ (ha.put _ _) (hx.trans hx2) ?_ ?_
          · have hi' : i < listed.toList.length := by simp; omega
            have hl : listed.toList[i] = false := by
              have hj : i < listed.size := by omega
              simp only [Array.getD_eq_getD_getElem?, Array.getElem?_eq_getElem hj, Option.getD_some] at h1
              simpa using h1
            rw [Array.toList_setIfInBounds, List.count_set hi', hl, if_pos (by rfl), if_neg (by decide)]
            omega
          · intro t ht
            rw [henv, ← hu t ht]
            simp only [upd]
            cases hb : Nat.beq t d
            · rfl
            · exfalso
              have : t = d := Nat.eq_of_beq_eq_true hb
              subst this
              have := List.mem_of_getElem? hd
              simp [this] at ht
          · intro j hj d' F' hd' hF'
            rw [henv]
            by_cases hij : j = i
            · subst hij
              rw [hd] at hd'; cases hd'
              rw [hF] at hF'; cases hF'
              simp only [upd, Nat.beq_refl, cond_true]
              exact hv
            · have hne : Nat.beq d' d = false := by
                cases hb : Nat.beq d' d
                · rfl
                · exfalso
                  have : d' = d := Nat.eq_of_beq_eq_true hb
                  subst this
                  exact hij (nodupB_get hn hd' hd)
              simp only [upd, hne, cond_false]
              rw [getD_set_ne _ (Ne.symm hij)] at hj
              exact Fact.ext (hh j hj d' F' hd' hF') hx2
        rcases hstep (env a) w' hx hu hH with ⟨hg, hdo⟩ | ⟨⟨j, b, dj, hgd, hdj, hvj⟩, hund⟩
        · have hw : Region.wanted o (yielded l.toArray a.tmps) = true := by
            cases hgd : o.guard with
            | none => simp [Region.wanted, hgd]
            | some p =>
              obtain ⟨j, b⟩ := p
              obtain ⟨dj, hdj, hvj⟩ := hg j b hgd
              obtain ⟨oj, hoj⟩ := get_of_lt (l := l) (i := j) (by have := lt_of_get hdj; omega)
              obtain ⟨dj', _, hdj', _, h5⟩ := dagB_get hB hoj
              rw [hdj] at hdj'
              cases hdj'
              simp only [dagOne, Bool.and_eq_true] at h5
              obtain ⟨⟨⟨hdst2, hdN2⟩, _⟩, _⟩ := h5
              have hdst2 : oj.dst = some dj := by
                split at hdst2
                · rename_i d' h; rw [h, Nat.eq_of_beq_eq_true hdst2]
                · cases hdst2
              have hdN2 : dj < N := by simpa [Nat.blt_eq] using hdN2
              have h6 : a.tmps[dj]? = some (Value.bool b) := by
                have h2 : a.tmps.getD dj undef = .bool b := hvj
                have hlt : dj < a.tmps.size := by rw [ha.size]; exact hdN2
                rw [Array.getElem?_eq_getElem hlt]
                simpa [hlt] using h2
              simp [Region.wanted, hgd, yielded, hoj, hdst2, h6]
          unfold wpOp
          simp only [h2, hw, if_true]
          exact Or.inl (hdo _ a ha rfl _ _ cont)
        · have hw : Region.wanted o (yielded l.toArray a.tmps) = false := by
            obtain ⟨oj, hoj⟩ := get_of_lt (l := l) (i := j) (by have := lt_of_get hdj; omega)
            obtain ⟨dj', _, hdj', _, h5⟩ := dagB_get hB hoj
            rw [hdj] at hdj'
            cases hdj'
            simp only [dagOne, Bool.and_eq_true] at h5
            obtain ⟨⟨⟨hdst2, hdN2⟩, _⟩, _⟩ := h5
            have hdst2 : oj.dst = some dj := by
              split at hdst2
              · rename_i d' h; rw [h, Nat.eq_of_beq_eq_true hdst2]
              · cases hdst2
            have hdN2 : dj < N := by simpa [Nat.blt_eq] using hdN2
            have hlt : dj < a.tmps.size := by rw [ha.size]; exact hdN2
            have h6 : a.tmps[dj]? = some (env a dj) := by
              rw [Array.getElem?_eq_getElem hlt]
              simp [env, hlt]
            rcases hvj with hvj | hvj
            · rw [hvj] at h6
              cases b <;> simp [Region.wanted, hgd, yielded, hoj, hdst2, h6]
            · rw [hvj] at h6
              simp [Region.wanted, hgd, yielded, hoj, hdst2, h6, undef]
          unfold wpOp
          simp only [h2, hw, Bool.false_eq_true, if_false]
          exact cont undef w' (Ext.refl _) hund
  refine key _ _ _ _ (by simp) (by simp) ha (Ext.refl _) (fun t _ => by rw [he]) ?_
  intro j hj
  exfalso
  simp only [Array.getD_eq_getD_getElem?, Array.getElem?_replicate] at hj
  split at hj <;> simp at hj
theorem lst1 {x a : Value} (h : x = a) : [x] = [a] := by rw [h]
theorem lst2 {x y a b : Value} (h : x = a) (h' : y = b) : [x, y] = [a, b] := by rw [h, h']
section
variable {P : Program} {N : Nat} {σ : Env} {w : World} {dst : Option Tmp} {ty : TypeId} {pos : String} {af : Array Edge} {g : Option (Nat × Bool)} {t : TypeId} {x y : Operand}
theorem run_buildSlice {e : TypeId} {len n : Nat} {z : Value} {parts : List (Nat × Operand)} {ps : List (Nat × Value)} {c : Array Value} (hp : (parts.map fun (i, x) => (i, ev σ x)) = ps) (hu : P.underlying t = some (.slice e)) (hs : Siz P e n) (hz : Zer P e z) (hl : ¬ (len * n > 2 ^ 24)) (h0 : len * n ≠ 0)
    (hc : Instr.fill (fun i => some (i * n, n)) ((Array.range (len * n)).map (z.cells[· % z.cells.size]!)) ps = some c) :
    (execOp (ev σ) ⟨dst, .buildSlice t len parts.toArray, ty, pos, af, g⟩).run P w = .ok (.value (.slice (some ⟨w.heap.size, 0, none⟩) len len)) { w with heap := w.heap.push (.cells c e (0, 0)) } := by
  subst hp
  simp only [execOp, Instr.buildSlice, List.map_toArray, Sem.run_bind, run_underlying hu, Result.andThen_ok, hs.run, hl, h0, if_false, Sem.run_pure, hz.run, hc]
  simp [newRow]
end
theorem Does_callV {P : Program} {N : Nat} {R : Fct} {σ : Env} {w : World} {dst : Option Tmp} {z : Operand} {args : List Operand} {tys : Array TypeId} {ty : TypeId} {pos : String} {af : Array Edge} {g : Option (Nat × Bool)} {fv : Value} {vs : List Value}
    (hz : ev σ z = fv) (ha : args.map (ev σ) = vs) (hc : CallV P fv vs.toArray w fun v w' => R v w' ∧ Ext w w') : Does P N ⟨dst, .call ⟨.value z, args.toArray, tys⟩, ty, pos, af, g⟩ R σ w := by
  obtain ⟨f, fn, first, cap, rfl, hf, hn, hb, hr⟩ := hc
  exact Does_enter (r_callV hz hf hn hb ha rfl) hr
end Go.Eng
namespace Go.Eng
open Go
inductive FactT (M : Nat → Prop) where
  | eq (v : Value)
  | gen (F : Fct) (h : ∀ v w w', Chg M w w' → F v w → F v w')
  | own (F : Fct) (h : ∀ v w w', Ext w w' → F v w → F v w')
  | till (F : Fct) (h : ∀ v w w', Ext w w' → F v w → F v w')
def FactT.In {M : Nat → Prop} : FactT M → Fct
  | .eq u, v, _ => v = u
  | .gen F _, v, w => F v w
  | .own F _, v, w => F v w
  | .till F _, v, w => F v w
/-- What a fact says, ahead of the operation that changes memory and behind it. -/
def FactT.At {M : Nat → Prop} (done : Bool) : FactT M → Fct
  | .till F _, v, w => done = false → F v w
  | F, v, w => F.In v w
theorem FactT.at_in {M : Nat → Prop} {F : FactT M} {v : Value} {w : World} (h : F.In v w) (done : Bool) : F.At done v w := by
  cases F <;> first | exact h | exact fun _ => h
def FactT.isOwn {M : Nat → Prop} : FactT M → Bool
  | .own _ _ => true
  | _ => false
theorem FactT.chg {M : Nat → Prop} {F : FactT M} {v : Value} {w w' : World} {done : Bool} (h : F.At done v w) (e : Chg M w w') (ho : F.isOwn = false) : F.At true v w' := by
  cases F with
  | eq u => exact h
  | gen F hF => exact hF _ _ _ e h
  | own F hF => cases ho
  | till F hF => intro hd; cases hd
theorem FactT.ext {M : Nat → Prop} {F : FactT M} {v : Value} {w w' : World} {done : Bool} (h : F.At done v w) (e : Ext w w') : F.At done v w' := by
  cases F with
  | eq u => exact h
  | gen F hF => exact hF _ _ _ (Ext.chg e) h
  | own F hF => exact hF _ _ _ e h
  | till F hF => exact fun hd => hF _ _ _ e (h hd)
/-- Only the fact at one place is of the kind that holds behind that operation alone. -/
def ownB {M : Nat → Prop} (c : Nat) : Nat → List (FactT M) → Bool
  | _, [] => true
  | i, F :: l => (!F.isOwn || Nat.beq i c) && ownB c (i + 1) l
theorem ownB_get {M : Nat → Prop} {c : Nat} : ∀ {i : Nat} {l : List (FactT M)}, ownB c i l = true → ∀ {j : Nat} {F : FactT M}, l[j]? = some F → i + j ≠ c → F.isOwn = false
  | _, [], _, _, _, h, _ => by simp at h
  | i, G :: l, hB, 0, F, h, hne => by
    simp at h; subst h
    simp only [ownB, Bool.and_eq_true, Bool.or_eq_true, Bool.not_eq_true'] at hB
    rcases hB.1 with h | h
    · exact h
    · exact absurd (Nat.eq_of_beq_eq_true h) hne
  | i, G :: l, hB, j + 1, F, h, hne => by
    simp only [ownB, Bool.and_eq_true] at hB
    simp at h
    exact ownB_get hB.2 h (by omega)
def DoesT (M : Nat → Prop) (P : Program) (N : Nat) (o : Oper) (R : Fct) (σ : Env) (w : World) : Prop :=
  ∀ dz a, Ok dz N a → env a = σ → ∀ (Q : Exit → Act → World → Prop) (K : Act → World → Prop), (∀ v w', Chg M w w' → R v w' → K (a.put o.dst v) w') → o.wp P a w K Q
def HoldsT {M : Nat → Prop} (ds : List Nat) (Fs : List (FactT M)) (done : Bool) (j : Nat) (σ : Env) (w : World) : Prop := ∀ d F, ds[j]? = some d → Fs[j]? = some F → F.At done (σ d) w
section
variable {M : Nat → Prop} {P : Program} {N : Nat} {o : Oper} {R : Fct} {σ : Env} {w : World}
theorem DoesT_val {v : Value} {w' : World} (hr : (execOp (ev σ) o).run P w = .ok (.value v) w') (hx : Chg M w w') (h : R v w') : DoesT M P N o R σ w := by
  intro dz a ha he Q K hK
  unfold Oper.wp
  rw [eval_env, he, hr]
  simp only [Oper.upon]
  exact hK _ _ hx h
theorem DoesT_skip {w' : World} (hr : (execOp (ev σ) o).run P w = .ok .skip w') (hx : Chg M w w') (h : R undef w') : DoesT M P N o R σ w := by
  intro dz a ha he Q K hK
  unfold Oper.wp
  rw [eval_env, he, hr]
  simp only [Oper.upon]
  exact hK _ _ hx h
theorem DoesT_enter {f : FuncId} {args : Array Value} (hr : (execOp (ev σ) o).run P w = .ok (.enter f args) w) (hc : Ret P f args w fun v w' => R v w' ∧ Chg M w w') : DoesT M P N o R σ w := by
  intro dz a ha he Q K hK
  unfold Oper.wp
  rw [eval_env, he, hr]
  simp only [Oper.upon]
  refine Calls.mono hc ?_
  rintro e w' ⟨v, rfl, r, x⟩
  exact hK _ _ x r
end
def dagOneT (N i : Nat) (o : Oper) (d : Nat) (ws : List Nat) : Bool :=
  (match o.dst with | some d' => Nat.beq d' d && Nat.blt d N | none => Nat.ble N d) && (o.after.all fun e => !Region.binds .any e || Nat.blt e.on i) && (ws.all fun j => o.after.any fun e => Region.binds .any e && Nat.beq e.on j) && o.guard.isNone
def dagBT (N : Nat) : Nat → List Oper → List Nat → List (List Nat) → Bool
  | _, [], [], [] => true
  | i, o :: l, d :: ds, ws :: wss => dagOneT N i o d ws && dagBT N (i + 1) l ds wss
  | _, _, _, _ => false
theorem dagBT_get {N : Nat} : ∀ {i : Nat} {l : List Oper} {ds : List Nat} {wss : List (List Nat)}, dagBT N i l ds wss = true → ∀ {j : Nat} {o : Oper}, l[j]? = some o → ∃ d ws, ds[j]? = some d ∧ wss[j]? = some ws ∧ dagOneT N (i + j) o d ws = true
  | _, [], _, _, _, j, o, h => by simp at h
  | i, x :: l, [], _, hB, _, _, _ => by simp [dagBT] at hB
  | i, x :: l, d :: ds, [], hB, _, _, _ => by simp [dagBT] at hB
  | i, x :: l, d :: ds, ws :: wss, hB, j, o, h => by
    simp only [dagBT, Bool.and_eq_true] at hB
    cases j with
    | zero => simp at h; subst h; exact ⟨d, ws, rfl, rfl, hB.1⟩
    | succ j =>
      simp at h
      obtain ⟨d', ws', h1, h2, h3⟩ := dagBT_get hB.2 h
      exact ⟨d', ws', by simpa using h1, by simpa using h2, by rw [show i + (j + 1) = i + 1 + j from by omega]; exact h3⟩
theorem dagBT_len {N : Nat} : ∀ {i : Nat} {l : List Oper} {ds : List Nat} {wss : List (List Nat)}, dagBT N i l ds wss = true → ds.length = l.length
  | _, [], [], [], _ => rfl
  | _, [], [], _ :: _, hB => by simp [dagBT] at hB
  | _, [], _ :: _, _, hB => by simp [dagBT] at hB
  | i, x :: l, [], _, hB => by simp [dagBT] at hB
  | i, x :: l, d :: ds, [], hB => by simp [dagBT] at hB
  | i, x :: l, d :: ds, ws :: wss, hB => by
    simp only [dagBT, Bool.and_eq_true] at hB
    simp [dagBT_len hB.2]
/-- The operations that are sure to come ahead of the one that changes memory, and that one. -/
def calmB (c : Nat) (wss : List (List Nat)) (i : Nat) : Bool := Nat.beq i c || (wss.getD c []).contains i
def valOf (o : Oper) (v : Value) : Value := match o.dst with
  | some _ => v
  | none => undef
def DagStepT {M : Nat → Prop} (P : Program) (N : Nat) (ds : List Nat) (Fs : List (FactT M)) (σ : Env) (w : World) (own calm : Bool) (o : Oper) (ws : List Nat) (F : FactT M) : Prop :=
  ∀ σ' w', Chg (bif calm then none1 else M) w w' → (∀ t, ds.contains t = false → σ' t = σ t) → (∀ j, ws.contains j = true → HoldsT ds Fs (!calm) j σ' w') → DoesT (bif own then M else none1) P N o (fun v w => F.In (Go.Eng.valOf o v) w) σ' w'
inductive DagStepsT {M : Nat → Prop} (P : Program) (N : Nat) (ds : List Nat) (Fs : List (FactT M)) (σ : Env) (w : World) (c : Nat) (all : List (List Nat)) : Nat → List Oper → List (List Nat) → List (FactT M) → Prop where
  | nil {i : Nat} : DagStepsT P N ds Fs σ w c all i [] [] []
  | cons {i : Nat} {o : Oper} {ws : List Nat} {F : FactT M} {l : List Oper} {wss : List (List Nat)} {Gs : List (FactT M)} : DagStepT P N ds Fs σ w (Nat.beq i c) (calmB c all i) o ws F → DagStepsT P N ds Fs σ w c all (i + 1) l wss Gs → DagStepsT P N ds Fs σ w c all i (o :: l) (ws :: wss) (F :: Gs)
theorem DagStepsT.get {M : Nat → Prop} {P : Program} {N : Nat} {ds : List Nat} {Fs : List (FactT M)} {σ : Env} {w : World} {c : Nat} {all : List (List Nat)} : ∀ {i : Nat} {l : List Oper} {wss : List (List Nat)} {Gs : List (FactT M)}, DagStepsT P N ds Fs σ w c all i l wss Gs → ∀ {j : Nat} {o : Oper}, l[j]? = some o → ∃ ws F, wss[j]? = some ws ∧ Gs[j]? = some F ∧ DagStepT P N ds Fs σ w (Nat.beq (i + j) c) (calmB c all (i + j)) o ws F
  | _, _, _, _, .nil, j, o, h => by simp at h
  | _, _, _, _, .cons h1 h2, 0, o, h => by simp at h; subst h; exact ⟨_, _, rfl, rfl, h1⟩
  | i, _, _, _, .cons h1 h2, j + 1, o, h => by
    obtain ⟨ws, F, a, b, c⟩ := h2.get (j := j) (by simpa using h)
    exact ⟨ws, F, by simpa using a, by simpa using b, by rw [show i + (j + 1) = i + 1 + j from by omega]; exact c⟩
def headDone (n m : Nat) : Array Bool := (List.replicate n true ++ List.replicate (m - n) false).toArray
theorem count_take_set {l : List Bool} {n i : Nat} (hi : i < n) (hl : n ≤ l.length) (hf : l[i]? = some false) : ((l.set i true).take n).count false + 1 = (l.take n).count false := by
  have hi' : i < (l.take n).length := by simp; omega
  rw [List.take_set, List.count_set hi']
  have : (l.take n)[i] = false := by
    have h2 : (l.take n)[i]? = some false := by rw [List.getElem?_take_of_lt hi]; exact hf
    rw [List.getElem?_eq_getElem hi'] at h2; simpa using h2
  rw [this, if_pos (by rfl), if_neg (by decide)]
  have : 0 < (l.take n).count false := by
    rw [List.count_pos_iff]
    rw [← this]; exact List.getElem_mem hi'
  omega
theorem head_all {l : List Bool} {n : Nat} (hl : n ≤ l.length) (h0 : (l.take n).count false = 0) (ht : ∀ t, n ≤ t → t < l.length → l[t]? = some false) : l = List.replicate n true ++ List.replicate (l.length - n) false := by
  apply List.ext_getElem?
  intro i
  rcases Nat.lt_or_ge i n with h | h
  · rw [List.getElem?_append_left (by simpa using h), List.getElem?_replicate, if_pos h]
    have hi : i < l.length := by omega
    rw [List.getElem?_eq_getElem hi]
    cases hv : l[i] with
    | true => rfl
    | false =>
      exfalso
      rw [List.count_eq_zero] at h0
      apply h0
      have : (l.take n)[i]? = some false := by rw [List.getElem?_take_of_lt h, List.getElem?_eq_getElem hi, hv]
      exact List.mem_of_getElem? this
  · rw [List.getElem?_append_right (by simpa using h), List.getElem?_replicate, List.length_replicate]
    rcases Nat.lt_or_ge i l.length with h2 | h2
    · rw [if_pos (by omega), ht i h h2]
    · rw [if_neg (by omega), List.getElem?_eq_none h2]
theorem Wp_dagT {P : Program} {N : Nat} {Q : Post} {σ : Env} {w : World} {id : Nat} {l : List Oper} (M : Nat → Prop) (n c : Nat) (ds : List Nat) (wss : List (List Nat)) (Fs : List (FactT M)) {Gs : List (FactT M)} (hG : Fs = Gs) (hO : ownB c 0 Gs = true) (hm : P.follows .mixedOrders = true) (hB : dagBT N 0 (l.take n) ds wss = true) (hn : nodupB ds = true)
    (hT : (decide (n < l.length) && Region.sinkB .any l.toArray n && Region.chainB .any l.toArray n && Region.seqB .any l.toArray (l.length - n) n (headDone n l.length)) = true)
    (steps : ∀ w1, Ext w w1 → DagStepsT P N ds Fs σ w1 c wss 0 (l.take n) wss Gs)
    (k : ∀ σ' w1 w', Ext w w1 → Chg M w1 w' → (∀ t, ds.contains t = false → σ' t = σ t) → (∀ j, HoldsT ds Fs true j σ' w') → WpL P N l.toArray (Q .normal) Q (l.drop n) σ' w') : Wp P N (.region id l.toArray true) Q σ w := by
  intro dz a ha he
  have eQ : lift dz N (thn (Q .normal) Q) = lift dz N Q := by funext e a w; cases e <;> rfl
  refine wp_region_any hm ?_
  obtain ⟨w1, hw1⟩ : ∃ w1 : World, w1 = { w with drawn := w.drawn + 1 } := ⟨_, rfl⟩
  have hE1 : Ext w w1 := by rw [hw1]; exact drew_ext w
  rw [← hw1]
  have hst := steps w1 hE1
  rw [← hG] at hst
  simp only [Bool.and_eq_true, decide_eq_true_eq] at hT
  obtain ⟨⟨⟨hnl, hs⟩, hc⟩, hseq⟩ := hT
  have toM : ∀ {q : Bool} {u u' : World}, Chg (bif q then M else none1) u u' → Chg M u u' := fun {q u u'} h => by cases q with | true => exact h | false => exact Ext.chg h
  have hlen : ds.length = n := by rw [dagBT_len hB]; simp; omega
  have key : ∀ (m : Nat) (listed : Array Bool) (a : Act) (w' : World), (listed.toList.take n).count false = m → HeadInv .any l.toArray n listed → Ok dz N a → Chg (bif listed.getD c false then M else none1) w1 w' → (∀ t, ds.contains t = false → env a t = σ t) → (∀ j, listed.getD j false = true → HoldsT ds Fs (listed.getD c false) j (env a) w') →
      wpAny P .any l.toArray (lift dz N Q) (m + (l.length - n)) listed a w' := by
    intro m
    induction m with
    | zero =>
      intro listed a w' hc0 inv ha hx hu hh
      have hsz : listed.size = l.length := by simpa using inv.size
      have hl : listed = headDone n l.length := by
        apply Array.ext'
        rw [headDone]
        have := head_all (l := listed.toList) (n := n) (by simp; omega) hc0 (by
          intro t h1 h2
          have h2' : t < listed.size := by simpa using h2
          have := inv.tail t h1 (by simpa [hsz] using h2')
          simp only [Array.getD_eq_getD_getElem?, Array.getElem?_eq_getElem h2', Option.getD_some] at this
          simp [h2', this])
        rw [this]; simp [hsz]
      rw [Nat.zero_add]
      have h1 := k (env a) w1 w' hE1 (toM hx) hu (fun j d F hd hF => by
        have hj : j < n := by have := lt_of_get hd; omega
        have h2 := hh j (by
          rw [hl, headDone]
          simp [Array.getD_eq_getD_getElem?, List.getElem?_append_left, hj]) d F hd hF
        cases F with
        | till F hF => intro hd; cases hd
        | eq u => exact h2
        | gen F hF => exact h2
        | own F hF => exact h2) dz a ha rfl
      rw [eQ] at h1
      have := wpAny_of_seq (P := P) (md := .any) (ops := l.toArray) (Q' := lift dz N Q) (l.drop n) n listed a w' (fun j => by simp [List.getElem?_drop]) (by rw [List.length_drop, hl]; exact hseq) h1
      rwa [List.length_drop] at this
    | succ m ih =>
      intro listed a w' hcm inv ha hx hu hh
      have hsz : listed.size = l.length := by simpa using inv.size
      obtain ⟨i0, hi0n, hi0⟩ : ∃ i, i < n ∧ listed.getD i true = false := by
        have : 0 < (listed.toList.take n).count false := by omega
        rw [List.count_pos_iff] at this
        obtain ⟨i, hi, he⟩ := List.getElem_of_mem this
        have hin : i < n := by simp at hi; omega
        refine ⟨i, hin, ?_⟩
        have hil : i < listed.size := by simp at hi; omega
        simp only [Array.getD_eq_getD_getElem?, Array.getElem?_eq_getElem hil, Option.getD_some]
        simpa using he
      rw [show m + 1 + (l.length - n) = (m + (l.length - n)) + 1 by omega]
      refine ⟨fun hr => ?_, fun i hi => ?_⟩
      · exfalso
        have hall : ∀ i, i < n → listed.getD i true = true := by
          intro i
          induction i using Nat.strongRecOn with
          | _ i ihi =>
            intro hi
            cases hv : listed.getD i true with
            | true => rfl
            | false =>
              exfalso
              obtain ⟨o, ho⟩ := get_of_lt (l := l) (i := i) (by omega)
              have ho' : (l.take n)[i]? = some o := by rw [List.getElem?_take_of_lt hi]; exact ho
              obtain ⟨d, ws, _, _, h3⟩ := dagBT_get hB ho'
              have : i ∈ Region.ready .any l.toArray listed := by
                refine mem_ready.2 ⟨hv, o, by simpa using ho, fun e he hb => ?_⟩
                simp only [dagOneT, Bool.and_eq_true, Array.all_eq_true_iff_forall_mem, Bool.or_eq_true, Bool.not_eq_true', Nat.zero_add] at h3
                have := (h3.1.1.2 e he).resolve_left (by simp [hb])
                have hlt : e.on < i := by simpa [Nat.blt_eq] using this
                have h4 := ihi e.on hlt (by omega)
                have hj : e.on < listed.size := by omega
                simpa only [Array.getD_eq_getD_getElem?, Array.getElem?_eq_getElem hj, Option.getD_some] using h4
              rw [hr] at this
              cases this
        rw [hall i0 hi0n] at hi0
        cases hi0
      · have hin : i < n := by
          rcases Nat.lt_or_ge i n with h | h
          · exact h
          · exact absurd hi (tail_waits hs hc (by simpa using hnl) inv _ i0 rfl hi0n hi0 i h)
        obtain ⟨h1, o, h2, h3⟩ := mem_ready.1 hi
        have hil : i < listed.size := by omega
        have ho : l[i]? = some o := by simpa using h2
        have ho' : (l.take n)[i]? = some o := by rw [List.getElem?_take_of_lt hin]; exact ho
        obtain ⟨d, ws, hd, hws, h4⟩ := dagBT_get hB ho'
        obtain ⟨ws', F, hws', hF, hstep⟩ := hst.get ho'
        rw [hws] at hws'
        cases hws'
        simp only [Nat.zero_add] at hstep
        simp only [dagOneT, Bool.and_eq_true, List.all_eq_true, Array.any_eq_true', Array.all_eq_true_iff_forall_mem, Bool.or_eq_true, Bool.not_eq_true', Nat.zero_add] at h4
        obtain ⟨⟨⟨hdst, _⟩, hwait⟩, hgd⟩ := h4
        have hgd : o.guard = none := by simpa using hgd
        -- what is sure to come ahead of the change
        have hcalm : calmB c wss i = true → listed.getD c false = false := by
          intro hcb
          simp only [calmB, Bool.or_eq_true] at hcb
          rcases hcb with hcb | hcb
          · have : i = c := Nat.eq_of_beq_eq_true hcb
            subst this; exact getD_both h1
          · cases hlc : listed.getD c false with
            | false => rfl
            | true =>
              exfalso
              have hcn : c < n := by
                rcases Nat.lt_or_ge c n with h | h
                · exact h
                · rcases Nat.lt_or_ge c l.length with h' | h'
                  · have := getD_both (inv.tail c h (by simpa using h')); rw [this] at hlc; cases hlc
                  · simp [Array.getElem?_eq_none (show listed.size ≤ c by omega)] at hlc
              obtain ⟨oc, hoc⟩ := get_of_lt (l := l) (i := c) (by omega)
              have hoc' : (l.take n)[c]? = some oc := by rw [List.getElem?_take_of_lt hcn]; exact hoc
              obtain ⟨dc, wsc, _, hwsc, h5⟩ := dagBT_get hB hoc'
              have hgc : wss.getD c [] = wsc := by simp [hwsc]
              rw [hgc] at hcb
              simp only [dagOneT, Bool.and_eq_true, List.all_eq_true, Array.any_eq_true', Nat.zero_add] at h5
              obtain ⟨e, he, hb1, hb2⟩ := h5.1.2 i (by simpa using hcb)
              have hei : e.on = i := Nat.eq_of_beq_eq_true hb2
              have := inv.closed c oc (by simpa using hoc) hlc e he hb1
              rw [hei, getD_both h1] at this
              cases this
        have hH : ∀ j, ws.contains j = true → HoldsT ds Fs (!calmB c wss i) j (env a) w' := by
          intro j hj d' F' hd' hF'
          have hj' : j ∈ ws := by simpa using hj
          obtain ⟨e, he, hb⟩ := hwait j hj'
          obtain ⟨hb1, hb2⟩ := hb
          have : e.on = j := Nat.eq_of_beq_eq_true hb2
          have h5 := hh j (this ▸ h3 e he hb1) d' F' hd' hF'
          cases hcb : calmB c wss i with
          | true => rw [hcalm hcb] at h5; exact h5
          | false =>
            cases F' with
            | till F hF => intro hd; cases hd
            | eq u => exact h5
            | gen F hF => exact h5
            | own F hF => exact h5
        have hstep2 : (∀ w2, Chg (bif Nat.beq i c then M else none1) w' w2 → Chg (bif (listed.setIfInBounds i true).getD c false then M else none1) w1 w2) := by
          intro w2 hx2
          by_cases hic : i = c
          · subst hic
            rw [Nat.beq_refl] at hx2
            have hg : (listed.setIfInBounds i true).getD i false = true := by simp [Array.getD_eq_getD_getElem?, hil]
            rw [hg]
            exact (toM hx).trans hx2
          · have hb : Nat.beq i c = false := by cases hb : Nat.beq i c; rfl; exact absurd (Nat.eq_of_beq_eq_true hb) hic
            rw [hb] at hx2
            rw [getD_set_ne _ hic]
            exact hx.ext hx2
        have cont : ∀ v w2, Chg (bif Nat.beq i c then M else none1) w' w2 → F.In (Go.Eng.valOf o v) w2 → wpAny P .any l.toArray (lift dz N Q) (m + (l.length - n)) (listed.setIfInBounds i true) (a.put o.dst v) w2 := by
          intro v w2 hx2 hv
          have henv : (∀ t, t ≠ d → env (a.put o.dst v) t = env a t) ∧ env (a.put o.dst v) d = Go.Eng.valOf o v := by
            cases hod : o.dst with
            | none =>
              rw [hod] at hdst
              have hNd : N ≤ d := Nat.le_of_ble_eq_true hdst
              refine ⟨fun t _ => rfl, ?_⟩
              simp only [Go.Eng.valOf, hod]
              show a.tmps.getD d undef = undef
              have : a.tmps.size ≤ d := by rw [ha.size]; exact hNd
              simp [Array.getElem?_eq_none this]
            | some d' =>
              rw [hod] at hdst
              simp only [Bool.and_eq_true] at hdst
              have hd1 : d' = d := Nat.eq_of_beq_eq_true hdst.1
              have hd2 : d < N := by simpa [Nat.blt_eq] using hdst.2
              subst hd1
              rw [env_put ha hd2 v]
              refine ⟨fun t ht => ?_, ?_⟩
              · have : Nat.beq t d' = false := by cases hb : Nat.beq t d'; rfl; exact absurd (Nat.eq_of_beq_eq_true hb) ht
                simp [upd, this]
              · simp [upd, Go.Eng.valOf, hod]
          refine ih _ _ _ ?_ (inv.set hi hin) (ha.put _ _) (hstep2 w2 hx2) ?_ ?_
          · have hl : listed.toList[i]? = some false := by
              simp only [Array.getD_eq_getD_getElem?, Array.getElem?_eq_getElem hil, Option.getD_some] at h1
              simp [hil, h1]
            have := count_take_set (l := listed.toList) hin (by simp; omega) hl
            rw [Array.toList_setIfInBounds]
            omega
          · intro t ht
            rw [henv.1 t (fun h => by
              subst h
              have := List.mem_of_getElem? hd
              simp [this] at ht), hu t ht]
          · intro j hj d' F' hd' hF'
            by_cases hij : j = i
            · subst hij
              rw [hd] at hd'; cases hd'
              rw [hF] at hF'; cases hF'
              rw [henv.2]
              exact FactT.at_in hv _
            · have hne : d' ≠ d := by
                intro h
                subst h
                exact hij (nodupB_get hn hd' hd)
              rw [henv.1 d' hne]
              rw [getD_set_ne _ (Ne.symm hij)] at hj
              have h6 := hh j hj d' F' hd' hF'
              by_cases hic : i = c
              · have hg : (listed.setIfInBounds i true).getD c false = true := by rw [← hic]; simp [Array.getD_eq_getD_getElem?, hil]
                rw [hg]
                exact FactT.chg h6 (toM hx2) (ownB_get hO (by rw [← hG]; exact hF') (by omega))
              · have hb : Nat.beq i c = false := by
                  cases hb : Nat.beq i c
                  · rfl
                  · exact absurd (Nat.eq_of_beq_eq_true hb) hic
                rw [hb] at hx2
                rw [getD_set_ne _ hic]
                exact FactT.ext h6 hx2
        have hx0 : Chg (bif calmB c wss i then none1 else M) w1 w' := by
          cases hcb : calmB c wss i with
          | true => rw [hcalm hcb] at hx; exact hx
          | false => exact toM hx
        have hdo := hstep (env a) w' hx0 hu hH
        have hw : Region.wanted o (yielded l.toArray a.tmps) = true := by simp [Region.wanted, hgd]
        unfold wpOp
        simp only [h2, hw, if_true]
        exact Or.inl (hdo _ a ha rfl _ _ cont)
  have inv0 : HeadInv .any l.toArray n (Array.replicate l.toArray.size false) :=
    ⟨by simp, fun j oj _ hl => (by rw [getD_replicate_false] at hl; cases hl), fun t _ ht => getD_in (by simpa using ht) (getD_replicate_false _ _)⟩
  have h1 := key n (Array.replicate l.toArray.size false) a w1 (by simp; omega) inv0 ha (by rw [getD_replicate_false]; exact Chg.refl _ _) (fun t _ => by rw [he]) (fun j hj => by rw [getD_replicate_false] at hj; cases hj)
  have e3 : n + (l.length - n) = l.toArray.size := by simp; omega
  rw [e3] at h1
  exact h1
def DagStepK {M : Nat → Prop} (P : Program) (N : Nat) (ds : List Nat) (Fs : List (FactT M)) (σ : Env) (w : World) (own calm : Bool) (o : Oper) (ws : List Nat) (F : FactT M) (K : List Nat → Env → Prop) : Prop :=
  ∀ σ' w', Chg (bif calm then none1 else M) w w' → (∀ t, ds.contains t = false → σ' t = σ t) → (∀ j, ws.contains j = true → HoldsT ds Fs (!calm) j σ' w') → K ws σ' → DoesT (bif own then M else none1) P N o (fun v w => F.In (Go.Eng.valOf o v) w) σ' w'
inductive DagStepsK {M : Nat → Prop} (P : Program) (N : Nat) (ds : List Nat) (Fs : List (FactT M)) (σ : Env) (w : World) (c : Nat) (all : List (List Nat)) (K : List Nat → Env → Prop) : Nat → List Oper → List (List Nat) → List (FactT M) → Prop where
  | nil {i : Nat} : DagStepsK P N ds Fs σ w c all K i [] [] []
  | cons {i : Nat} {o : Oper} {ws : List Nat} {F : FactT M} {l : List Oper} {wss : List (List Nat)} {Gs : List (FactT M)} : DagStepK P N ds Fs σ w (Nat.beq i c) (calmB c all i) o ws F K → DagStepsK P N ds Fs σ w c all K (i + 1) l wss Gs → DagStepsK P N ds Fs σ w c all K i (o :: l) (ws :: wss) (F :: Gs)
theorem DagStepsK.get {M : Nat → Prop} {P : Program} {N : Nat} {ds : List Nat} {Fs : List (FactT M)} {σ : Env} {w : World} {c : Nat} {all : List (List Nat)} {K : List Nat → Env → Prop} : ∀ {i : Nat} {l : List Oper} {wss : List (List Nat)} {Gs : List (FactT M)}, DagStepsK P N ds Fs σ w c all K i l wss Gs → ∀ {j : Nat} {o : Oper}, l[j]? = some o → ∃ ws F, wss[j]? = some ws ∧ Gs[j]? = some F ∧ DagStepK P N ds Fs σ w (Nat.beq (i + j) c) (calmB c all (i + j)) o ws F K
  | _, _, _, _, .nil, j, o, h => by simp at h
  | _, _, _, _, .cons h1 h2, 0, o, h => by simp at h; subst h; exact ⟨_, _, rfl, rfl, h1⟩
  | i, _, _, _, .cons h1 h2, j + 1, o, h => by
    obtain ⟨ws, F, a, b, c⟩ := h2.get (j := j) (by simpa using h)
    exact ⟨ws, F, by simpa using a, by simpa using b, by rw [show i + (j + 1) = i + 1 + j from by omega]; exact c⟩
/-- The same, with a relation between what two of the operations give, whichever comes first. -/
theorem Wp_dagT2 {P : Program} {N : Nat} {Q : Post} {σ : Env} {w : World} {id : Nat} {l : List Oper} (M : Nat → Prop) (n c : Nat) (ds : List Nat) (wss : List (List Nat)) (Fs : List (FactT M)) {Gs : List (FactT M)} (hG : Fs = Gs) (hO : ownB c 0 Gs = true) (hm : P.follows .mixedOrders = true) (hB : dagBT N 0 (l.take n) ds wss = true) (hn : nodupB ds = true)
    (hT : (decide (n < l.length) && Region.sinkB .any l.toArray n && Region.chainB .any l.toArray n && Region.seqB .any l.toArray (l.length - n) n (headDone n l.length)) = true)
    (p q dp dq : Nat) (Fp Fq : FactT M) (R : Value → Value → Prop) (hpq : (p ≠ q ∧ ds[p]? = some dp ∧ ds[q]? = some dq) ∧ Fs[p]? = some Fp ∧ Fs[q]? = some Fq)
    (sp : ∀ w1, Ext w w1 → ∀ o ws, l[p]? = some o → wss[p]? = some ws → ∀ σ' w', Chg (bif calmB c wss p then none1 else M) w1 w' → (∀ t, ds.contains t = false → σ' t = σ t) → (∀ j, ws.contains j = true → HoldsT ds Fs (!calmB c wss p) j σ' w') → Fq.At true (σ' dq) w' → DoesT (bif Nat.beq p c then M else none1) P N o (fun v w => Fp.In (Go.Eng.valOf o v) w ∧ R (Go.Eng.valOf o v) (σ' dq)) σ' w')
    (sq : ∀ w1, Ext w w1 → ∀ o ws, l[q]? = some o → wss[q]? = some ws → ∀ σ' w', Chg (bif calmB c wss q then none1 else M) w1 w' → (∀ t, ds.contains t = false → σ' t = σ t) → (∀ j, ws.contains j = true → HoldsT ds Fs (!calmB c wss q) j σ' w') → Fp.At true (σ' dp) w' → DoesT (bif Nat.beq q c then M else none1) P N o (fun v w => Fq.In (Go.Eng.valOf o v) w ∧ R (σ' dp) (Go.Eng.valOf o v)) σ' w')
    (steps : ∀ w1, Ext w w1 → DagStepsK P N ds Fs σ w1 c wss (fun ws σ' => ws.contains p = true → ws.contains q = true → R (σ' dp) (σ' dq)) 0 (l.take n) wss Gs)
    (k : ∀ σ' w1 w', Ext w w1 → Chg M w1 w' → (∀ t, ds.contains t = false → σ' t = σ t) → (∀ j, HoldsT ds Fs true j σ' w') → R (σ' dp) (σ' dq) → WpL P N l.toArray (Q .normal) Q (l.drop n) σ' w') : Wp P N (.region id l.toArray true) Q σ w := by
  intro dz a ha he
  have eQ : lift dz N (thn (Q .normal) Q) = lift dz N Q := by funext e a w; cases e <;> rfl
  refine wp_region_any hm ?_
  obtain ⟨w1, hw1⟩ : ∃ w1 : World, w1 = { w with drawn := w.drawn + 1 } := ⟨_, rfl⟩
  have hE1 : Ext w w1 := by rw [hw1]; exact drew_ext w
  rw [← hw1]
  have hst := steps w1 hE1
  rw [← hG] at hst
  simp only [Bool.and_eq_true, decide_eq_true_eq] at hT
  obtain ⟨⟨⟨hnl, hs⟩, hc⟩, hseq⟩ := hT
  have toM : ∀ {q : Bool} {u u' : World}, Chg (bif q then M else none1) u u' → Chg M u u' := fun {q u u'} h => by cases q with | true => exact h | false => exact Ext.chg h
  have hlen : ds.length = n := by rw [dagBT_len hB]; simp; omega
  have key : ∀ (m : Nat) (listed : Array Bool) (a : Act) (w' : World), (listed.toList.take n).count false = m → HeadInv .any l.toArray n listed → Ok dz N a → Chg (bif listed.getD c false then M else none1) w1 w' → (∀ t, ds.contains t = false → env a t = σ t) → (∀ j, listed.getD j false = true → HoldsT ds Fs (listed.getD c false) j (env a) w') → (listed.getD p false = true → listed.getD q false = true → R (env a dp) (env a dq)) →
      wpAny P .any l.toArray (lift dz N Q) (m + (l.length - n)) listed a w' := by
    intro m
    induction m with
    | zero =>
      intro listed a w' hc0 inv ha hx hu hh hR
      have hsz : listed.size = l.length := by simpa using inv.size
      have hl : listed = headDone n l.length := by
        apply Array.ext'
        rw [headDone]
        have := head_all (l := listed.toList) (n := n) (by simp; omega) hc0 (by
          intro t h1 h2
          have h2' : t < listed.size := by simpa using h2
          have := inv.tail t h1 (by simpa [hsz] using h2')
          simp only [Array.getD_eq_getD_getElem?, Array.getElem?_eq_getElem h2', Option.getD_some] at this
          simp [h2', this])
        rw [this]; simp [hsz]
      rw [Nat.zero_add]
      have h1 := k (env a) w1 w' hE1 (toM hx) hu (fun j d F hd hF => by
        have hj : j < n := by have := lt_of_get hd; omega
        have h2 := hh j (by
          rw [hl, headDone]
          simp [Array.getD_eq_getD_getElem?, List.getElem?_append_left, hj]) d F hd hF
        cases F with
        | till F hF => intro hd; cases hd
        | eq u => exact h2
        | gen F hF => exact h2
        | own F hF => exact h2) (by
        have hp : p < n := by have := lt_of_get hpq.1.2.1; omega
        have hq : q < n := by have := lt_of_get hpq.1.2.2; omega
        exact hR (by rw [hl, headDone]; simp [Array.getD_eq_getD_getElem?, List.getElem?_append_left, hp]) (by rw [hl, headDone]; simp [Array.getD_eq_getD_getElem?, List.getElem?_append_left, hq])) dz a ha rfl
      rw [eQ] at h1
      have := wpAny_of_seq (P := P) (md := .any) (ops := l.toArray) (Q' := lift dz N Q) (l.drop n) n listed a w' (fun j => by simp [List.getElem?_drop]) (by rw [List.length_drop, hl]; exact hseq) h1
      rwa [List.length_drop] at this
    | succ m ih =>
      intro listed a w' hcm inv ha hx hu hh hR
      have hsz : listed.size = l.length := by simpa using inv.size
      obtain ⟨i0, hi0n, hi0⟩ : ∃ i, i < n ∧ listed.getD i true = false := by
        have : 0 < (listed.toList.take n).count false := by omega
        rw [List.count_pos_iff] at this
        obtain ⟨i, hi, he⟩ := List.getElem_of_mem this
        have hin : i < n := by simp at hi; omega
        refine ⟨i, hin, ?_⟩
        have hil : i < listed.size := by simp at hi; omega
        simp only [Array.getD_eq_getD_getElem?, Array.getElem?_eq_getElem hil, Option.getD_some]
        simpa using he
      rw [show m + 1 + (l.length - n) = (m + (l.length - n)) + 1 by omega]
      refine ⟨fun hr => ?_, fun i hi => ?_⟩
      · exfalso
        have hall : ∀ i, i < n → listed.getD i true = true := by
          intro i
          induction i using Nat.strongRecOn with
          | _ i ihi =>
            intro hi
            cases hv : listed.getD i true with
            | true => rfl
            | false =>
              exfalso
              obtain ⟨o, ho⟩ := get_of_lt (l := l) (i := i) (by omega)
              have ho' : (l.take n)[i]? = some o := by rw [List.getElem?_take_of_lt hi]; exact ho
              obtain ⟨d, ws, _, _, h3⟩ := dagBT_get hB ho'
              have : i ∈ Region.ready .any l.toArray listed := by
                refine mem_ready.2 ⟨hv, o, by simpa using ho, fun e he hb => ?_⟩
                simp only [dagOneT, Bool.and_eq_true, Array.all_eq_true_iff_forall_mem, Bool.or_eq_true, Bool.not_eq_true', Nat.zero_add] at h3
                have := (h3.1.1.2 e he).resolve_left (by simp [hb])
                have hlt : e.on < i := by simpa [Nat.blt_eq] using this
                have h4 := ihi e.on hlt (by omega)
                have hj : e.on < listed.size := by omega
                simpa only [Array.getD_eq_getD_getElem?, Array.getElem?_eq_getElem hj, Option.getD_some] using h4
              rw [hr] at this
              cases this
        rw [hall i0 hi0n] at hi0
        cases hi0
      · have hin : i < n := by
          rcases Nat.lt_or_ge i n with h | h
          · exact h
          · exact absurd hi (tail_waits hs hc (by simpa using hnl) inv _ i0 rfl hi0n hi0 i h)
        obtain ⟨h1, o, h2, h3⟩ := mem_ready.1 hi
        have hil : i < listed.size := by omega
        have ho : l[i]? = some o := by simpa using h2
        have ho' : (l.take n)[i]? = some o := by rw [List.getElem?_take_of_lt hin]; exact ho
        obtain ⟨d, ws, hd, hws, h4⟩ := dagBT_get hB ho'
        obtain ⟨ws', F, hws', hF, hstep⟩ := hst.get ho'
        rw [hws] at hws'
        cases hws'
        simp only [Nat.zero_add] at hstep
        simp only [dagOneT, Bool.and_eq_true, List.all_eq_true, Array.any_eq_true', Array.all_eq_true_iff_forall_mem, Bool.or_eq_true, Bool.not_eq_true', Nat.zero_add] at h4
        obtain ⟨⟨⟨hdst, _⟩, hwait⟩, hgd⟩ := h4
        have hgd : o.guard = none := by simpa using hgd
        -- what is sure to come ahead of the change
        have hcalm : calmB c wss i = true → listed.getD c false = false := by
          intro hcb
          simp only [calmB, Bool.or_eq_true] at hcb
          rcases hcb with hcb | hcb
          · have : i = c := Nat.eq_of_beq_eq_true hcb
            subst this; exact getD_both h1
          · cases hlc : listed.getD c false with
            | false => rfl
            | true =>
              exfalso
              have hcn : c < n := by
                rcases Nat.lt_or_ge c n with h | h
                · exact h
                · rcases Nat.lt_or_ge c l.length with h' | h'
                  · have := getD_both (inv.tail c h (by simpa using h')); rw [this] at hlc; cases hlc
                  · simp [Array.getElem?_eq_none (show listed.size ≤ c by omega)] at hlc
              obtain ⟨oc, hoc⟩ := get_of_lt (l := l) (i := c) (by omega)
              have hoc' : (l.take n)[c]? = some oc := by rw [List.getElem?_take_of_lt hcn]; exact hoc
              obtain ⟨dc, wsc, _, hwsc, h5⟩ := dagBT_get hB hoc'
              have hgc : wss.getD c [] = wsc := by simp [hwsc]
              rw [hgc] at hcb
              simp only [dagOneT, Bool.and_eq_true, List.all_eq_true, Array.any_eq_true', Nat.zero_add] at h5
              obtain ⟨e, he, hb1, hb2⟩ := h5.1.2 i (by simpa using hcb)
              have hei : e.on = i := Nat.eq_of_beq_eq_true hb2
              have := inv.closed c oc (by simpa using hoc) hlc e he hb1
              rw [hei, getD_both h1] at this
              cases this
        have hH : ∀ j, ws.contains j = true → HoldsT ds Fs (!calmB c wss i) j (env a) w' := by
          intro j hj d' F' hd' hF'
          have hj' : j ∈ ws := by simpa using hj
          obtain ⟨e, he, hb⟩ := hwait j hj'
          obtain ⟨hb1, hb2⟩ := hb
          have : e.on = j := Nat.eq_of_beq_eq_true hb2
          have h5 := hh j (this ▸ h3 e he hb1) d' F' hd' hF'
          cases hcb : calmB c wss i with
          | true => rw [hcalm hcb] at h5; exact h5
          | false =>
            cases F' with
            | till F hF => intro hd; cases hd
            | eq u => exact h5
            | gen F hF => exact h5
            | own F hF => exact h5
        have hstep2 : (∀ w2, Chg (bif Nat.beq i c then M else none1) w' w2 → Chg (bif (listed.setIfInBounds i true).getD c false then M else none1) w1 w2) := by
          intro w2 hx2
          by_cases hic : i = c
          · subst hic
            rw [Nat.beq_refl] at hx2
            have hg : (listed.setIfInBounds i true).getD i false = true := by simp [Array.getD_eq_getD_getElem?, hil]
            rw [hg]
            exact (toM hx).trans hx2
          · have hb : Nat.beq i c = false := by cases hb : Nat.beq i c; rfl; exact absurd (Nat.eq_of_beq_eq_true hb) hic
            rw [hb] at hx2
            rw [getD_set_ne _ hic]
            exact hx.ext hx2
        have hlpq : l[i]? = some o := ho
        have hlw : ∀ j, ws.contains j = true → listed.getD j false = true := by
          intro j hj
          obtain ⟨e, he, hb1, hb2⟩ := hwait j (by simpa using hj)
          have : e.on = j := Nat.eq_of_beq_eq_true hb2
          exact this ▸ h3 e he hb1
        have hKK : ws.contains p = true → ws.contains q = true → R (env a dp) (env a dq) := fun h1 h2 => hR (hlw p h1) (hlw q h2)
        have cont : ∀ v w2, Chg (bif Nat.beq i c then M else none1) w' w2 → (F.In (Go.Eng.valOf o v) w2 ∧ (i = p → listed.getD q false = true → R (Go.Eng.valOf o v) (env a dq)) ∧ (i = q → listed.getD p false = true → R (env a dp) (Go.Eng.valOf o v))) → wpAny P .any l.toArray (lift dz N Q) (m + (l.length - n)) (listed.setIfInBounds i true) (a.put o.dst v) w2 := by
          intro v w2 hx2 hv3
          obtain ⟨hv, hvp, hvq⟩ := hv3
          have henv : (∀ t, t ≠ d → env (a.put o.dst v) t = env a t) ∧ env (a.put o.dst v) d = Go.Eng.valOf o v := by
            cases hod : o.dst with
            | none =>
              rw [hod] at hdst
              have hNd : N ≤ d := Nat.le_of_ble_eq_true hdst
              refine ⟨fun t _ => rfl, ?_⟩
              simp only [Go.Eng.valOf, hod]
              show a.tmps.getD d undef = undef
              have : a.tmps.size ≤ d := by rw [ha.size]; exact hNd
              simp [Array.getElem?_eq_none this]
            | some d' =>
              rw [hod] at hdst
              simp only [Bool.and_eq_true] at hdst
              have hd1 : d' = d := Nat.eq_of_beq_eq_true hdst.1
              have hd2 : d < N := by simpa [Nat.blt_eq] using hdst.2
              subst hd1
              rw [env_put ha hd2 v]
              refine ⟨fun t ht => ?_, ?_⟩
              · have : Nat.beq t d' = false := by cases hb : Nat.beq t d'; rfl; exact absurd (Nat.eq_of_beq_eq_true hb) ht
                simp [upd, this]
              · simp [upd, Go.Eng.valOf, hod]
          refine ih _ _ _ ?_ (inv.set hi hin) (ha.put _ _) (hstep2 w2 hx2) ?_ ?_ ?_
          · have hl : listed.toList[i]? = some false := by
              simp only [Array.getD_eq_getD_getElem?, Array.getElem?_eq_getElem hil, Option.getD_some] at h1
              simp [hil, h1]
            have := count_take_set (l := listed.toList) hin (by simp; omega) hl
            rw [Array.toList_setIfInBounds]
            omega
          · intro t ht
            rw [henv.1 t (fun h => by
              subst h
              have := List.mem_of_getElem? hd
              simp [this] at ht), hu t ht]
          · intro j hj d' F' hd' hF'
            by_cases hij : j = i
            · subst hij
              rw [hd] at hd'; cases hd'
              rw [hF] at hF'; cases hF'
              rw [henv.2]
              exact FactT.at_in hv _
            · have hne : d' ≠ d := by
                intro h
                subst h
                exact hij (nodupB_get hn hd' hd)
              rw [henv.1 d' hne]
              rw [getD_set_ne _ (Ne.symm hij)] at hj
              have h6 := hh j hj d' F' hd' hF'
              by_cases hic : i = c
              · have hg : (listed.setIfInBounds i true).getD c false = true := by rw [← hic]; simp [Array.getD_eq_getD_getElem?, hil]
                rw [hg]
                exact FactT.chg h6 (toM hx2) (ownB_get hO (by rw [← hG]; exact hF') (by omega))
              · have hb : Nat.beq i c = false := by
                  cases hb : Nat.beq i c
                  · rfl
                  · exact absurd (Nat.eq_of_beq_eq_true hb) hic
                rw [hb] at hx2
                rw [getD_set_ne _ hic]
                exact FactT.ext h6 hx2
          · intro hlp hlq
            by_cases hip : i = p
            · subst hip
              have hqi : q ≠ i := fun h => hpq.1.1 h.symm
              rw [getD_set_ne _ (Ne.symm hqi)] at hlq
              have hdd : dp = d := by have := hpq.1.2.1; rw [hd] at this; cases this; rfl
              have hne2 : dq ≠ d := fun h => hqi (nodupB_get hn hpq.1.2.2 (h ▸ hd))
              rw [hdd, henv.2, henv.1 dq hne2]
              exact hvp rfl hlq
            · by_cases hiq : i = q
              · subst hiq
                rw [getD_set_ne _ hip] at hlp
                have hdd : dq = d := by have := hpq.1.2.2; rw [hd] at this; cases this; rfl
                have hne2 : dp ≠ d := fun h => hip (nodupB_get hn hpq.1.2.1 (h ▸ hd)).symm
                rw [hdd, henv.2, henv.1 dp hne2]
                exact hvq rfl hlp
              · rw [getD_set_ne _ hip] at hlp
                rw [getD_set_ne _ hiq] at hlq
                rw [henv.1 dp (fun h => hip (nodupB_get hn hpq.1.2.1 (h ▸ hd)).symm), henv.1 dq (fun h => hiq (nodupB_get hn hpq.1.2.2 (h ▸ hd)).symm)]
                exact hR hlp hlq
        have hx0 : Chg (bif calmB c wss i then none1 else M) w1 w' := by
          cases hcb : calmB c wss i with
          | true => rw [hcalm hcb] at hx; exact hx
          | false => exact toM hx
        have hweak : ∀ {G : FactT M} {b : Bool} {v : Value}, G.At b v w' → G.At true v w' := fun {G b v} h => by
          cases G with
          | till F hF => intro hd; cases hd
          | eq u => exact h
          | gen F hF => exact h
          | own F hF => exact h
        have hdo : DoesT (bif Nat.beq i c then M else none1) P N o (fun v w => F.In (Go.Eng.valOf o v) w ∧ (i = p → listed.getD q false = true → R (Go.Eng.valOf o v) (env a dq)) ∧ (i = q → listed.getD p false = true → R (env a dp) (Go.Eng.valOf o v))) (env a) w' := by
          have mono : ∀ {R1 R2 : Fct}, (∀ v w, R1 v w → R2 v w) → DoesT (bif Nat.beq i c then M else none1) P N o R1 (env a) w' → DoesT (bif Nat.beq i c then M else none1) P N o R2 (env a) w' := fun hr h dz' a' ha' he' Q' K' hK => h dz' a' ha' he' Q' K' (fun v w2 hx2 h2 => hK v w2 hx2 (hr v w2 h2))
          by_cases hip : i = p
          · subst hip
            have hFF : F = Fp := by have := hpq.2.1; rw [hF] at this; cases this; rfl
            cases hlq : listed.getD q false with
            | false => exact mono (fun v w h => ⟨h, (fun _ h2 => by cases h2), fun h2 => absurd h2 hpq.1.1⟩) (hstep (env a) w' hx0 hu hH hKK)
            | true =>
              have := sp w1 hE1 o ws hlpq hws (env a) w' hx0 hu hH (hweak (hh q hlq dq Fq hpq.1.2.2 hpq.2.2))
              exact mono (fun v w h => ⟨hFF ▸ h.1, fun _ _ => h.2, fun h2 => absurd h2 hpq.1.1⟩) this
          · by_cases hiq : i = q
            · subst hiq
              have hFF : F = Fq := by have := hpq.2.2; rw [hF] at this; cases this; rfl
              cases hlp : listed.getD p false with
              | false => exact mono (fun v w h => ⟨h, fun h2 => absurd h2 hip, fun _ h2 => by cases h2⟩) (hstep (env a) w' hx0 hu hH hKK)
              | true =>
                have := sq w1 hE1 o ws hlpq hws (env a) w' hx0 hu hH (hweak (hh p hlp dp Fp hpq.1.2.1 hpq.2.1))
                exact mono (fun v w h => ⟨hFF ▸ h.1, fun h2 => absurd h2 hip, fun _ _ => h.2⟩) this
            · exact mono (fun v w h => ⟨h, fun h2 => absurd h2 hip, fun h2 => absurd h2 hiq⟩) (hstep (env a) w' hx0 hu hH hKK)
        have hw : Region.wanted o (yielded l.toArray a.tmps) = true := by simp [Region.wanted, hgd]
        unfold wpOp
        simp only [h2, hw, if_true]
        exact Or.inl (hdo _ a ha rfl _ _ cont)
  have inv0 : HeadInv .any l.toArray n (Array.replicate l.toArray.size false) :=
    ⟨by simp, fun j oj _ hl => (by rw [getD_replicate_false] at hl; cases hl), fun t _ ht => getD_in (by simpa using ht) (getD_replicate_false _ _)⟩
  have h1 := key n (Array.replicate l.toArray.size false) a w1 (by simp; omega) inv0 ha (by rw [getD_replicate_false]; exact Chg.refl _ _) (fun t _ => by rw [he]) (fun j hj => by rw [getD_replicate_false] at hj; cases hj) (fun hj => by rw [getD_replicate_false] at hj; cases hj)
  have e3 : n + (l.length - n) = l.toArray.size := by simp; omega
  rw [e3] at h1
  exact h1
section
variable {M : Nat → Prop} {P : Program} {N : Nat} {σ : Env} {w : World} {ty : TypeId} {pos : String} {af : Array Edge} {g : Option (Nat × Bool)} {t : TypeId} {x y : Operand} {R : Fct}
theorem DoesT_store {b o : Nat} {v : Value} {c : Array Value} {e : TypeId} (hx : ev σ x = .pointer (some ⟨b, o, none⟩)) (hy : ev σ y = v) (h1 : v.oneCell' = true) (hs : Siz P t 1) (hB : Blk w b c e) (ho : o < c.size) (hM : M b) (hR : ∀ w', Put w w' b (c.setIfInBounds o v) e → R undef w') :
    DoesT M P N ⟨none, .store t x y, ty, pos, af, g⟩ R σ w := by
  have hp := Put.of_setRow hB (c.setIfInBounds o v)
  refine DoesT_skip (w' := w.setRow b (c.setIfInBounds o v)) ?_ (hp.chg.mono fun z _ h => by subst h; exact hM) (hR _ hp)
  have hcs : v.cells = #[v] := by cases v <;> first | rfl | (simp [Value.oneCell'] at h1; done)
  have hst := run_storeCells_at P b o e [v] 0 c w hB (by simp; omega) (by simpa using h1)
  have he : (c.toList.take (o + 0) ++ [v] ++ c.toList.drop (o + 0 + [v].length)).toArray = c.setIfInBounds o v := by
    apply Array.ext'
    simp only [Nat.add_zero, List.length_singleton, Array.toList_setIfInBounds]
    rw [List.set_eq_take_append_cons_drop, if_pos (by simpa using ho)]
    simp
  rw [he] at hst
  simp [execOp, hx, hy, Instr.storeAt, Instr.sureAddr, storeVar, hs.run, hcs, hst]
end
end Go.Eng
namespace Go.Proofs
open Go Go.Eng
set_option maxRecDepth 100000
section
variable {P : Program} {σ : Env} {w : World} {dst : Option Tmp} {ty : TypeId} {pos : String} {af : Array Edge} {g : Option (Nat × Bool)} {t t' e : TypeId} {x y : Operand}
theorem r_eqlNil {a : Option Addr} {n c n' c' : Nat} (hu : P.underlying t = some (.slice e)) (hx : ev σ x = .slice a n c) (hy : ev σ y = .slice none n' c') :
    (execOp (ev σ) ⟨dst, .binOp .eql t x y t', ty, pos, af, g⟩).run P w = .ok (.value (.bool a.isNone)) w := by
  have h : (Op.equalIn 10000 t (.slice a n c) (.slice none n' c')).run P w = .ok a.isNone w := by
    rw [Op.equalIn]
    cases a <;> simp [run_underlying hu]
  cases a <;> simp_all [execOp, eqGuard, binOp, Op.equal, Op.maxDepth]
theorem r_append0 {s : Operand} {a a' : Option Addr} {n c c' size : Nat} (hu : P.underlying t = some (.slice e)) (hs : Siz P e size) (hx : ev σ s = .slice a n c) (hn : n ≤ c) (hy : ev σ x = .slice a' 0 c') :
    (execOp (ev σ) ⟨dst, .call ⟨.builtin .append, #[s, x], #[t, t]⟩, ty, pos, af, g⟩).run P w = .ok (.value (.slice a n c)) w := by
  have hz : size * 0 = 0 := Nat.mul_zero _
  cases a <;> cases a' <;> simp [execOp, resolve, invoke, builtin, Builtin.append_, hx, hy, run_underlying hu, hs.run, Builtin.lenOf, Builtin.firstCells, loadCells, loadCellsFrom, storeCells, hn]
theorem s_build0 {N : Nat} {Q : Post} {K : Env → World → Prop} {ops : Array Oper} {rest : List Oper} {d size : Nat} (hN : d < N) (hu : P.underlying t = some (.slice e)) (hs : Siz P e size)
    (k : ∀ b w', New w w' b #[] e → WpL P N ops K Q rest (upd σ d (.slice (some ⟨b, 0, none⟩) 0 0)) w') : WpL P N ops K Q (⟨some d, .buildSlice t 0 #[], ty, pos, af, none⟩ :: rest) σ w := by
  refine WpL_val (v := .slice (some ⟨w.heap.size, 0, none⟩) 0 0) (w' := { w with heap := w.heap.push (.cells #[] e (0, 0)) }) rfl rfl hN ?_ (k _ _ (New.mk' w #[] e))
  have h0 : Array.range 0 = #[] := rfl
  simp [execOp, Instr.buildSlice, run_underlying hu, hs.run, Instr.fill, newRow, h0]
end
theorem own_empty {w : World} {b e base size : Nat} (h : Blk w b #[] e) (hb : base ≤ b) : w.ownsRow base e size (.slice (some ⟨b, 0, none⟩) 0 0) 0 [] :=
  ⟨by simp, .inr ⟨b, 0, #[], rfl, hb, h, Nat.le_refl _, by simp [maxLen], by simp, by simp⟩⟩
theorem flat_intV (l : List Int) : (l.map intV).flatten = l.map (Value.int .i64) := by
  induction l with
  | nil => rfl
  | cons x l ih => simp only [List.map_cons, List.flatten_cons, ih]; rfl
theorem ints_set {l : List Int} {rest : List Value} {i : Nat} (hi : i < l.length) (y : Int) : (l.map (Value.int .i64) ++ rest).toArray.setIfInBounds i (.int .i64 y) = ((l.set i y).map (Value.int .i64) ++ rest).toArray := by
  apply Array.ext'
  rw [Array.toList_setIfInBounds, List.map_set]
  simp only
  rw [List.set_append, if_pos (by simpa using hi)]
theorem ints_get {w : World} {b T : Nat} {l : List Int} {rest : List Value} (h : Blk w b (l.map (Value.int .i64) ++ rest).toArray T) {i : Nat} {x : Int} (hx : l[i]? = some x) : w.cell? ⟨b, i, none⟩ = some (.int .i64 x) := by
  refine h.cell ?_
  have := lt_of_get hx
  simp only [List.getElem?_toArray]
  rw [List.getElem?_append_left (by simpa using this)]
  simp [hx]
set_option maxHeartbeats 400000 in
theorem clonei_c (w0 : World) (v : Value) (l : List Int) (h : IntsAt w0 v l) (hl : l.length ≤ 2000000) :
    Ret Try.prog 28 #[v] w0 fun r w => ∃ a c, r = .slice a l.length c ∧ l.length ≤ c ∧ (l = [] ∨ ∃ b rest, a = some ⟨b, 0, none⟩ ∧ w0.heap.size ≤ b ∧ Blk w b (l.map (Value.int .i64) ++ rest).toArray 3) ∧ Ext w0 w := by
  obtain ⟨a, c, rfl⟩ := SlAt.form h
  simp only [List.length_map] at h ⊢
  obtain ⟨base, hbase⟩ : ∃ base, base = w0.heap.size := ⟨_, rfl⟩
  refine Ret_of Try.func28 rfl Try.ntmps28 (Nat.le_of_ble_eq_true rfl) ?_
  have E : Chg none1 w0 w0 := Chg.refl _ _
  refine Wp_seq_region ?_
  refine WpL_val rfl rfl (by decide) (r_assign (v := (.slice none 0 0)) rfl) ?_
  refine WpL_nil ?_
  refine Wp_seq ?_
  refine Wp_seq_region ?_
  refine WpL_val rfl rfl (by decide) (r_move (v := (.slice a l.length c)) rfl) ?_
  refine WpL_val (v := (.bool a.isNone)) rfl rfl (by decide) (r_eqlNil Try.underlying26 rfl rfl) ?_
  refine WpL_nil ?_
  refine Wp_cond (b := a.isNone) rfl (fun hn => ?_) (fun hn => ?_)
  · have khn := hn
    have hl0 : l.length = 0 := by rcases Nat.eq_zero_or_pos l.length with h0 | h0; exact h0; obtain ⟨b, o, rfl, _⟩ := ints_cells h h0; simp at hn
    have hl1 : l = [] := List.eq_nil_of_length_eq_zero hl0
    refine Wp_seq_region ?_
    refine WpL_val rfl rfl (by decide) (r_assign (v := (.slice none 0 0)) rfl) ?_
    refine WpL_nil ?_
    refine Wp_ret ?_
    refine thn_ret ?_
    refine fin_tmp Try.results28 (v := (.slice none 0 0)) rfl ?_
    exact ⟨none, 0, by rw [hl0], by omega, .inl hl1, E⟩
  · have khn := hn
    rcases Bool.eq_false_or_eq_true (decide (l.length = 0)) with hz | hz
    · have khz := hz
      replace khz := of_decide_eq_true khz
      refine Wp_skip ?_
      refine thn_normal ?_
      refine Wp_seq_region ?_
      refine s_build0 (by decide) Try.underlying26 siz3 ?_
      intro bq wq Nq
      have Fq := Nq.ge E
      replace E := E.ext Nq.ext
      have Bq := Nq.blk
      refine WpL_val rfl rfl (by decide) (r_move (v := (.slice a l.length c)) rfl) ?_
      refine WpL_val rfl rfl (by decide) (r_append0 Try.underlying26 siz3 (a' := a) (c' := c) rfl (Nat.le_refl _) (by show Value.slice a l.length c = _; rw [khz])) ?_
      refine WpL_val rfl rfl (by decide) (r_assign (v := (.slice (some ⟨bq, 0, none⟩) 0 0)) rfl) ?_
      refine WpL_nil ?_
      refine Wp_ret ?_
      refine fin_tmp Try.results28 (v := (.slice (some ⟨bq, 0, none⟩) 0 0)) rfl ?_
      have hl1 : l = [] := List.eq_nil_of_length_eq_zero khz
      exact ⟨some ⟨bq, 0, none⟩, 0, by rw [khz], by omega, .inl hl1, E⟩
    · have khz := hz
      replace khz := of_decide_eq_false khz
      obtain ⟨b, o, rfl, hcl⟩ := ints_cells h (by omega)
      refine Wp_skip ?_
      refine thn_normal ?_
      refine Wp_seq_region ?_
      refine s_build0 (by decide) Try.underlying26 siz3 ?_
      intro bq wq Nq
      have Fq := Nq.ge E
      replace E := E.ext Nq.ext
      have Bq := Nq.blk
      refine WpL_val rfl rfl (by decide) (r_move (v := (.slice (some ⟨b, o, none⟩) l.length c)) rfl) ?_
      have hown := own_empty (base := base) (size := 1) Bq (by omega)
      have hbs : base ≤ wq.heap.size := by have := Nq.ext.size; omega
      refine s_append (base := base) (n := 0) (m := l.length) (xs := []) (news := l.map (Value.int .i64)) (size := 1) (bytes := 8) (v := (.slice (some ⟨bq, 0, none⟩) 0 0)) (by decide) Try.underlying26 siz3 byt3 zer3 rfl (by decide) rfl hown rfl (by simp) (fun i u hu => by rw [List.getElem?_map, Option.map_eq_some_iff] at hu; obtain ⟨x, hx, rfl⟩ := hu; exact Nq.ext.cell (hcl i x hx)) (by simp [Value.oneCell']) (by unfold maxLen; omega) (by omega) (hbs) ?_
      intro v9 w29 Ov9 Cv9 Dv9
      replace E := E.step Cv9 (fun x hx h => absurd (hown.lt x h).1 (by omega))
      obtain ⟨la, lc, rfl⟩ := own_form Ov9
      refine WpL_val rfl rfl (by decide) (r_assign (v := (.slice la (0 + l.length) lc)) rfl) ?_
      refine WpL_nil ?_
      refine Wp_ret ?_
      refine fin_tmp Try.results28 (v := (.slice la (0 + l.length) lc)) rfl ?_
      simp only [Nat.zero_add, List.nil_append] at Ov9
      simp only [Nat.zero_add]
      rcases Ov9.2 with ⟨_, h2⟩ | ⟨g, cap, cur, h1, h2, h3, h4, h5, h6, h7⟩
      · omega
      · simp only [Value.slice.injEq] at h1
        obtain ⟨rfl, _, rfl⟩ := h1
        refine ⟨some ⟨g, 0, none⟩, lc, rfl, h4, .inr ⟨g, cur.toList.drop (l.length * 1), rfl, by omega, ?_⟩, E⟩
        have : (l.map (Value.int .i64) ++ cur.toList.drop (l.length * 1)).toArray = cur := by rw [← h7, List.take_append_drop]
        rw [this]; exact h3
theorem ints_own {w : World} {b T c : Nat} {l : List Int} {rest : List Value} (h : Blk w b (l.map (Value.int .i64) ++ rest).toArray T) (hl : l.length ≤ c) (hm : l.length ≤ 2000000) : IntsAt w (.slice (some ⟨b, 0, none⟩) l.length c) l := by
  refine ⟨_, c, by simp, by simp; omega, by simpa using hl, .inr ⟨b, 0, rfl, fun i r hr => ?_⟩⟩
  rw [List.getElem?_map, Option.map_eq_some_iff] at hr
  obtain ⟨x, hx, rfl⟩ := hr
  intro j u hu
  match j, hu with
  | 0, hu =>
    simp [intV] at hu; subst hu
    have := ints_get h hx
    simpa using this
end Go.Proofs
namespace Go.Proofs
open Go Go.Eng
set_option maxRecDepth 100000
def cmpI (x y : Int) : Int := if x < y then -1 else if y < x then 1 else 0
theorem nan_c (w0 : World) (x : Int) : Ret Try.prog 92 #[.int .i64 x] w0 fun v w => v = .bool false ∧ Ext w0 w := by
  refine Ret_of Try.func92 rfl Try.ntmps92 (Nat.le_of_ble_eq_true rfl) ?_
  have E : Chg none1 w0 w0 := Chg.refl _ _
  refine Wp_seq_region ?_
  refine WpL_val rfl rfl (by decide) (r_assign (v := (.bool false)) rfl) ?_
  refine WpL_nil ?_
  refine Wp_seq_region ?_
  refine WpL_val rfl rfl (by decide) (r_move (v := (.int .i64 x)) rfl) ?_
  refine WpL_val rfl rfl (by decide) (r_move (v := (.int .i64 x)) rfl) ?_
  refine WpL_val rfl rfl (by decide) (r_neq (k := .i64) (a := x) (b := x) rfl rfl) ?_
  refine WpL_val rfl rfl (by decide) (r_assign (v := (.bool (decide ((x : Int) ≠ x)))) rfl) ?_
  refine WpL_nil ?_
  refine Wp_ret ?_
  refine fin_tmp Try.results92 (v := (.bool (decide ((x : Int) ≠ x)))) rfl ?_
  exact ⟨bool_eq (by simp), E⟩
theorem compare_c (w0 : World) (x y : Int) : Ret Try.prog 52 #[.int .i64 x, .int .i64 y] w0 fun v w => v = .int .i64 (cmpI x y) ∧ Ext w0 w := by
  refine Ret_of Try.func52 rfl Try.ntmps52 (Nat.le_of_ble_eq_true rfl) ?_
  have E : Chg none1 w0 w0 := Chg.refl _ _
  refine Wp_seq_region ?_
  refine WpL_val rfl rfl (by decide) (r_assign (v := (.int .i64 0)) rfl) ?_
  refine WpL_nil ?_
  refine Wp_seq_region ?_
  refine WpL_val rfl rfl (by decide) (r_move (v := (.int .i64 x)) rfl) ?_
  refine WpL_enter rfl rfl (by decide) (r_callF (vs := [(.int .i64 x)]) Try.func92 nm92 bd92 rfl) (nan_c _ x) ?_
  rintro _ w9 ⟨rfl, X9⟩
  replace E := E.ext X9
  refine WpL_val rfl rfl (by decide) (r_assign (v := (.bool false)) rfl) ?_
  refine WpL_nil ?_
  refine Wp_seq_region ?_
  refine WpL_val rfl rfl (by decide) (r_move (v := (.int .i64 y)) rfl) ?_
  refine WpL_enter rfl rfl (by decide) (r_callF (vs := [(.int .i64 y)]) Try.func92 nm92 bd92 rfl) (nan_c _ y) ?_
  rintro _ w19 ⟨rfl, X19⟩
  replace E := E.ext X19
  refine WpL_val rfl rfl (by decide) (r_assign (v := (.bool false)) rfl) ?_
  refine WpL_nil ?_
  refine Wp_seq ?_
  refine Wp_seq_region ?_
  refine WpL_val rfl rfl (by decide) (r_move (v := (.bool false)) rfl) ?_
  refine WpL_nil ?_
  refine Wp_cond_false rfl ?_
  refine Wp_skip ?_
  refine thn_normal ?_
  refine Wp_seq ?_
  refine Wp_seq_region ?_
  refine WpL_val rfl rfl (by decide) (r_move (v := (.bool false)) rfl) ?_
  refine WpL_nil ?_
  refine Wp_cond_false rfl ?_
  refine Wp_skip ?_
  refine thn_normal ?_
  refine Wp_seq ?_
  refine Wp_seq_region ?_
  refine WpL_val rfl rfl (by decide) (r_move (v := (.int .i64 x)) rfl) ?_
  refine WpL_val rfl rfl (by decide) (r_move (v := (.int .i64 y)) rfl) ?_
  refine WpL_val rfl rfl (by decide) (r_lss (k := .i64) (a := x) (b := y) rfl rfl) ?_
  refine WpL_nil ?_
  refine Wp_cond (b := decide ((x : Int) < y)) rfl (fun h1 => ?_) (fun h1 => ?_)
  · have kh1 := h1
    replace h1 := of_decide_eq_true h1
    refine Wp_seq_region ?_
    refine WpL_val rfl rfl (by decide) (r_assign (v := (.int .i64 (-1))) rfl) ?_
    refine WpL_nil ?_
    refine Wp_ret ?_
    refine thn_ret ?_
    refine fin_tmp Try.results52 (v := (.int .i64 (-1))) rfl ?_
    exact ⟨int_eq (by unfold cmpI; rw [if_pos h1]), E⟩
  · have kh1 := h1
    replace h1 := of_decide_eq_false h1
    refine Wp_skip ?_
    refine thn_normal ?_
    refine Wp_seq ?_
    refine Wp_seq_region ?_
    refine WpL_val rfl rfl (by decide) (r_move (v := (.int .i64 x)) rfl) ?_
    refine WpL_val rfl rfl (by decide) (r_move (v := (.int .i64 y)) rfl) ?_
    refine WpL_val rfl rfl (by decide) (r_gtr (k := .i64) (a := x) (b := y) rfl rfl) ?_
    refine WpL_nil ?_
    refine Wp_cond (b := decide ((y : Int) < x)) rfl (fun h2 => ?_) (fun h2 => ?_)
    · have kh2 := h2
      replace h2 := of_decide_eq_true h2
      refine Wp_seq_region ?_
      refine WpL_val rfl rfl (by decide) (r_assign (v := (.int .i64 1)) rfl) ?_
      refine WpL_nil ?_
      refine Wp_ret ?_
      refine thn_ret ?_
      refine fin_tmp Try.results52 (v := (.int .i64 1)) rfl ?_
      exact ⟨int_eq (by unfold cmpI; rw [if_neg h1, if_pos h2]), E⟩
    · have kh2 := h2
      replace h2 := of_decide_eq_false h2
      refine Wp_skip ?_
      refine thn_normal ?_
      refine Wp_seq_region ?_
      refine WpL_val rfl rfl (by decide) (r_assign (v := (.int .i64 0)) rfl) ?_
      refine WpL_nil ?_
      refine Wp_ret ?_
      refine fin_tmp Try.results52 (v := (.int .i64 0)) rfl ?_
      exact ⟨int_eq (by unfold cmpI; rw [if_neg h1, if_neg h2]), E⟩
section
variable {P : Program} {σ : Env} {w : World} {dst : Option Tmp} {ty : TypeId} {pos : String} {af : Array Edge} {g : Option (Nat × Bool)} {tys : Array TypeId} {x y : Operand} {k : IntKind} {a b c : Int}
theorem r_minI (hx : ev σ x = .int k a) (hy : ev σ y = .int k b) (hc : min a b = c) :
    (execOp (ev σ) ⟨dst, .call ⟨.builtin .min, #[x, y], tys⟩, ty, pos, af, g⟩).run P w = .ok (.value (.int k c)) w := by
  subst hc
  have : (if b < a then b else a) = min a b := by split <;> omega
  simp [execOp, resolve, invoke, builtin, Builtin.min_, Builtin.min2, hx, hy, this]
theorem r_maxI (hx : ev σ x = .int k a) (hy : ev σ y = .int k b) (hc : max a b = c) :
    (execOp (ev σ) ⟨dst, .call ⟨.builtin .max, #[x, y], tys⟩, ty, pos, af, g⟩).run P w = .ok (.value (.int k c)) w := by
  subst hc
  have : (if a < b then b else a) = max a b := by split <;> omega
  simp [execOp, resolve, invoke, builtin, Builtin.max_, Builtin.max2, hx, hy, this]
end
end Go.Proofs
