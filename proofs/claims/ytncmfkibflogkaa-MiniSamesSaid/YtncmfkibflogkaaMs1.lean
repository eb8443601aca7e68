/- Contracts and plain lemmas, part 1. -/
import Derived.Tactics
import Derived.Deep.Quiet
import Derived.Laws.AppendOwn
import Derived.KernelRfl
import Derived.Laws.Entries
import Derived.Laws.Build
import Derived.Below
import Derived.RowKit3
import Derived.StillTail
import Derived.Sort.Grow
import Derived.Deep.Draws
import Derived.Test.YtncmfkibflogkaaChecked
import Derived.Laws.StructEq
import Derived.MapKept
import Derived.Laws.BytesArg
import Derived.Laws.CopyRow
import Derived.DeepKeys3
import Derived.OpenShut
import Derived.ChangeSlices
namespace Go.Eng
open Go
abbrev Env := Nat → Value
abbrev Post := Exit → Env → World → Prop
def upd (σ : Env) (d : Nat) (v : Value) : Env := fun t => bif Nat.beq t d then v else σ t
def ev (σ : Env) : Operand → Value
  | .tmp t => σ t
  | .const v => v
  | .global g => .pointer (some ⟨g, 0, none⟩)
  | .func f => .func (.func f) #[] #[]
def env (a : Act) : Env := fun t => a.tmps.getD t undef
def lk (t : Nat) : List (Nat × Value) → Value → Value
  | [], d => d
  | (k, v) :: r, d => bif Nat.beq t k then v else lk t r d
def upds (σ : Env) (l : List (Nat × Value)) : Env := fun t => lk t l (σ t)
theorem upds_self (σ : Env) (l : List (Nat × Value)) (h : ∀ p ∈ l, σ p.1 = p.2) : upds σ l = σ := by
  funext t
  unfold upds
  induction l with
  | nil => rfl
  | cons p r ih =>
    obtain ⟨k, v⟩ := p
    simp only [lk]
    cases hb : Nat.beq t k
    · simp only [cond_false]
      exact ih fun p hp => h p (List.mem_cons_of_mem _ hp)
    · have : t = k := Nat.eq_of_beq_eq_true hb
      subst this
      simp only [cond_true]
      exact (h (t, v) List.mem_cons_self).symm
def Fits (σ : Env) : List (Nat × Value) → Prop
  | [] => True
  | (k, v) :: r => σ k = v ∧ Fits σ r
theorem Fits.all {σ : Env} : ∀ {l : List (Nat × Value)}, Fits σ l → ∀ p ∈ l, σ p.1 = p.2
  | [], _, _, hp => by cases hp
  | (k, v) :: r, h, p, hp => by
    cases hp with
    | head => exact h.1
    | tail _ hp => exact Fits.all h.2 p hp
theorem Fits.out {σ : Env} {l : List (Nat × Value)} (h : Fits σ l) : ∃ j, σ = upds j l := ⟨σ, (upds_self σ l h.all).symm⟩
theorem eval_env (a : Act) : a.eval = ev (env a) := by
  funext x
  cases x <;> rfl
structure Ok (N : Nat) (a : Act) : Prop where
  size : a.tmps.size = N
  defers : a.defers = []
theorem env_put {N : Nat} {a : Act} (h : Ok N a) {d : Nat} (hd : d < N) (v : Value) : env (a.put (some d) v) = upd (env a) d v := by
  funext t
  have hs := h.size
  simp only [env, upd, Act.put]
  cases hb : Nat.beq t d
  · have hne : d ≠ t := fun e => by subst e; rw [Nat.beq_refl] at hb; cases hb
    simp [Array.getElem?_setIfInBounds_ne hne]
  · have : t = d := Nat.eq_of_beq_eq_true hb
    subst this
    simp [hs, hd]
theorem Ok.put {N : Nat} {a : Act} (h : Ok N a) (d : Option Nat) (v : Value) : Ok N (a.put d v) := by
  cases d with
  | none => exact h
  | some d => exact ⟨by simp [Act.put, h.size], h.defers⟩
def lift (N : Nat) (Q : Post) : Exit → Act → World → Prop := fun e a w => Ok N a ∧ Q e (env a) w
def Wp (P : Program) (N : Nat) (c : Code) (Q : Post) (σ : Env) (w : World) : Prop :=
  ∀ a, Ok N a → env a = σ → c.wp P (lift N Q) a w
def thn (K : Env → World → Prop) (Q : Post) : Post
  | .normal => K
  | e => Q e
def inB (id : Nat) (Q : Post) : Post
  | .exit j => if j = id then Q .normal else Q (.exit j)
  | e => Q e
section
variable {P : Program} {N : Nat} {Q : Post} {σ : Env} {w : World} {K : Env → World → Prop}
theorem thn_normal (h : K σ w) : thn K Q .normal σ w := h
theorem thn_exit {j : Nat} (h : Q (.exit j) σ w) : thn K Q (.exit j) σ w := h
theorem thn_ret (h : Q .ret σ w) : thn K Q .ret σ w := h
theorem inB_normal {id : Nat} (h : Q .normal σ w) : inB id Q .normal σ w := h
theorem inB_ret {id : Nat} (h : Q .ret σ w) : inB id Q .ret σ w := h
theorem inB_here {id : Nat} (h : Q .normal σ w) : inB id Q (.exit id) σ w := by unfold inB; simp only [if_true]; exact h
theorem Wp_mono {c : Code} {Q' : Post} (h : Wp P N c Q σ w) (hq : ∀ e σ w, Q e σ w → Q' e σ w) : Wp P N c Q' σ w :=
  fun a ha he => Code.wp_mono (fun _ _ _ ⟨o, q⟩ => ⟨o, hq _ _ _ q⟩) (h a ha he)
theorem Wp_seq {x y : Code} (h : Wp P N x (thn (Wp P N y Q) Q) σ w) : Wp P N (.seq x y) Q σ w := by
  intro a ha he
  refine wp_seq (Code.wp_mono ?_ (h a ha he))
  rintro e a w ⟨o, q⟩
  cases e <;> first | exact q a o rfl | exact ⟨o, q⟩
theorem Wp_skip (h : Q .normal σ w) : Wp P N .skip Q σ w := fun _ ha he => wp_skip ⟨ha, he ▸ h⟩
theorem Wp_exit {id : Nat} (h : Q (.exit id) σ w) : Wp P N (.exit id) Q σ w := fun _ ha he => wp_exit ⟨ha, he ▸ h⟩
theorem Wp_ret (h : Q .ret σ w) : Wp P N .ret Q σ w := fun _ ha he => wp_ret ⟨ha, he ▸ h⟩
theorem Wp_block {id : Nat} {c : Code} (h : Wp P N c (inB id Q) σ w) : Wp P N (.block id c) Q σ w := by
  intro a ha he
  refine wp_block (Code.wp_mono ?_ (h a ha he))
  rintro e a w ⟨o, q⟩
  cases e with
  | exit j =>
    unfold Exit.inBlock
    unfold inB at q
    by_cases hj : j = id
    · simp only [hj, if_true] at q ⊢; exact ⟨o, q⟩
    · simp only [hj, if_false] at q ⊢; exact ⟨o, q⟩
  | normal => exact ⟨o, q⟩
  | goto l => exact ⟨o, q⟩
  | ret => exact ⟨o, q⟩
  | panic c => exact ⟨o, q⟩
  | outgrown => exact ⟨o, q⟩
theorem Wp_cond {c : Operand} {x y : Code} {b : Bool} (hc : ev σ c = .bool b) (ht : b = true → Wp P N x Q σ w) (hf : b = false → Wp P N y Q σ w) :
    Wp P N (.cond c x y) Q σ w := by
  intro a ha he
  refine wp_cond_split (t := b) (by rw [eval_env, he]; exact hc) (fun h => ht h a ha he) (fun h => hf h a ha he)
theorem Wp_cond_true {c : Operand} {x y : Code} (hc : ev σ c = .bool true) (h : Wp P N x Q σ w) : Wp P N (.cond c x y) Q σ w :=
  Wp_cond hc (fun _ => h) (fun h => by cases h)
theorem Wp_cond_false {c : Operand} {x y : Code} (hc : ev σ c = .bool false) (h : Wp P N y Q σ w) : Wp P N (.cond c x y) Q σ w :=
  Wp_cond hc (fun h => by cases h) (fun _ => h)
/-- A loop, by a relation that is indexed by a number that falls in every round. -/
theorem Wp_loop {c : Code} (I : Nat → Env → World → Prop) {n : Nat} (h0 : I n σ w)
    (round : ∀ n σ w, I n σ w → Wp P N c (thn (fun σ' w' => ∃ m, m < n ∧ I m σ' w') Q) σ w) : Wp P N (.loop c) Q σ w := by
  intro a ha he b k cs
  have key : ∀ n a w, Ok N a → I n (env a) w →
      ∃ e a' w', lift N Q e a' w' ∧ Arrives P (lone (b.at a (.code c :: .inLoop c :: k)) cs w) b k cs e a' w' := by
    intro n
    induction n using Nat.strongRecOn with
    | _ n ih =>
      intro a w ha hI
      obtain ⟨e, a1, w1, ⟨ho, hq⟩, harr⟩ := round n _ w hI a ha rfl b (.inLoop c :: k) cs
      cases e with
      | normal =>
        obtain ⟨m, hlt, hI1⟩ := hq
        obtain ⟨e2, a2, w2, hq2, harr2⟩ := ih m hlt a1 w1 ho hI1
        exact ⟨e2, a2, w2, hq2, .of_steps (Steps.trans harr (.one step_inLoop)) harr2⟩
      | exit id => exact ⟨_, a1, w1, ⟨ho, hq⟩, .pass (x := .inLoop c) rfl (fun _ _ => .inl (by simp)) harr⟩
      | goto l => exact ⟨_, a1, w1, ⟨ho, hq⟩, .pass (x := .inLoop c) rfl (fun _ _ => .inl (by simp)) harr⟩
      | ret => exact ⟨_, a1, w1, ⟨ho, hq⟩, .pass (x := .inLoop c) rfl (fun _ _ => .inl (by simp)) harr⟩
      | panic ch => exact ⟨_, a1, w1, ⟨ho, hq⟩, .pass (x := .inLoop c) rfl (fun _ _ => .inl (by simp)) harr⟩
      | outgrown => exact ⟨_, a1, w1, ⟨ho, hq⟩, .pass (x := .inLoop c) rfl (fun _ _ => .inl (by simp)) harr⟩
  obtain ⟨e, a', w', hq, harr⟩ := key n a w ha (he ▸ h0)
  exact ⟨e, a', w', hq, .of_steps (.one step_loop) harr⟩
end
def WpL (P : Program) (N : Nat) (ops : Array Oper) (K : Env → World → Prop) (Q : Post) (l : List Oper) (σ : Env) (w : World) : Prop :=
  ∀ a, Ok N a → env a = σ → wpList P ops (lift N (thn K Q)) l a w
section
variable {P : Program} {N : Nat} {Q : Post} {σ : Env} {w : World} {K : Env → World → Prop} {ops : Array Oper} {rest : List Oper}
theorem Wp_region {id : Nat} {l : List Oper} (h : WpL P N l.toArray (Q .normal) Q l σ w) : Wp P N (.region id l.toArray false) Q σ w := by
  intro a ha he
  refine wp_region_lit ?_
  have := h a ha he
  have e : lift N (thn (Q .normal) Q) = lift N Q := by funext e a w; cases e <;> rfl
  rwa [e] at this
theorem Wp_seq_region {id : Nat} {l : List Oper} {y : Code} (h : WpL P N l.toArray (Wp P N y Q) Q l σ w) : Wp P N (.seq (.region id l.toArray false) y) Q σ w := by
  refine Wp_seq ?_
  intro a ha he
  exact wp_region_lit (h a ha he)
theorem WpL_nil (h : K σ w) : WpL P N ops K Q [] σ w := fun a ha he => ⟨ha, by subst he; exact h⟩
theorem WpL_val {o : Oper} (hg : o.guard = none) {d : Nat} (hd : o.dst = some d) (hN : d < N) {v : Value} {w' : World}
    (hr : (execOp (ev σ) o).run P w = .ok (.value v) w') (k : WpL P N ops K Q rest (upd σ d v) w') : WpL P N ops K Q (o :: rest) σ w := by
  intro a ha he
  refine wpList_plain hg fun K' hK => ?_
  unfold Oper.wp
  rw [eval_env, he, hr]
  simp only [Oper.upon, hd]
  exact hK _ _ (k _ (ha.put _ _) (by rw [env_put ha hN, he]))
theorem WpL_skip {o : Oper} (hg : o.guard = none) (hd : o.dst = none) {w' : World}
    (hr : (execOp (ev σ) o).run P w = .ok .skip w') (k : WpL P N ops K Q rest σ w') : WpL P N ops K Q (o :: rest) σ w := by
  intro a ha he
  refine wpList_plain hg fun K' hK => ?_
  unfold Oper.wp
  rw [eval_env, he, hr]
  simp only [Oper.upon, hd]
  exact hK _ _ (k a ha he)
/-- The contract of a call: it returns a value, and what is said of it and of the world holds. -/
def Ret (P : Program) (f : FuncId) (args : Array Value) (w : World) (R : Value → World → Prop) : Prop :=
  Calls P f args w fun e w' => ∃ v, e = .returned v ∧ R v w'
theorem Ret.mono {f : FuncId} {args : Array Value} {R R' : Value → World → Prop} (h : Ret P f args w R) (hr : ∀ v w', R v w' → R' v w') : Ret P f args w R' :=
  Calls.mono h fun _ _ ⟨v, e, r⟩ => ⟨v, e, hr _ _ r⟩
theorem WpL_enter {o : Oper} (hg : o.guard = none) {d : Nat} (hd : o.dst = some d) (hN : d < N) {f : FuncId} {args : Array Value} {R : Value → World → Prop}
    (hr : (execOp (ev σ) o).run P w = .ok (.enter f args) w) (hc : Ret P f args w R) (k : ∀ v w', R v w' → WpL P N ops K Q rest (upd σ d v) w') : WpL P N ops K Q (o :: rest) σ w := by
  intro a ha he
  refine wpList_plain hg fun K' hK => ?_
  unfold Oper.wp
  rw [eval_env, he, hr]
  simp only [Oper.upon, hd]
  refine Calls.mono hc ?_
  rintro e w' ⟨v, rfl, r⟩
  exact hK _ _ (k v w' r _ (ha.put _ _) (by rw [env_put ha hN, he]))
/-- An operation that is guarded: carried out. -/
theorem WpL_guard_yes {dst : Option Tmp} {op : Op} {ty : TypeId} {pos : String} {af : Array Edge} {j : Nat} {b : Bool} {oj : Oper} {dj : Nat}
    (hj : ops[j]? = some oj) (hdj : oj.dst = some dj) (hN : dj < N) (hy : σ dj = .bool b)
    (k : WpL P N ops K Q (⟨dst, op, ty, pos, af, none⟩ :: rest) σ w) : WpL P N ops K Q (⟨dst, op, ty, pos, af, some (j, b)⟩ :: rest) σ w := by
  intro a ha he
  have h1 := k a ha he
  have hw : Region.wanted ⟨dst, op, ty, pos, af, some (j, b)⟩ (yielded ops a.tmps) = true := by
    simp only [Region.wanted, yielded, hj, hdj, Option.bind_some]
    have : a.tmps[dj]? = some (Value.bool b) := by
      have h2 : a.tmps.getD dj undef = .bool b := by rw [← hy, ← he]; rfl
      have hlt : dj < a.tmps.size := by rw [ha.size]; exact hN
      rw [Array.getElem?_eq_getElem hlt]
      simpa [hlt] using h2
    simp [this]
  unfold wpList at h1 ⊢
  rw [if_pos hw]
  rw [if_pos (by rfl)] at h1
  exact h1
/-- An operation that is guarded: passed over. -/
theorem WpL_guard_no {d : Nat} {op : Op} {ty : TypeId} {pos : String} {af : Array Edge} {j : Nat} {b : Bool} {oj : Oper} {dj : Nat} {v : Value}
    (hj : ops[j]? = some oj) (hdj : oj.dst = some dj) (hd : d < N) (hy : σ dj = v) (hv : v = .bool (!b) ∨ v = undef)
    (k : WpL P N ops K Q rest (upd σ d undef) w) : WpL P N ops K Q (⟨some d, op, ty, pos, af, some (j, b)⟩ :: rest) σ w := by
  intro a ha he
  have hw : Region.wanted ⟨some d, op, ty, pos, af, some (j, b)⟩ (yielded ops a.tmps) = false := by
    simp only [Region.wanted, yielded, hj, hdj, Option.bind_some]
    have h2 : a.tmps.getD dj undef = v := by rw [← hy, ← he]; rfl
    cases hx : a.tmps[dj]? with
    | none => simp
    | some u =>
      have : u = v := by simpa [hx] using h2
      subst this
      rcases hv with rfl | rfl
      · cases b <;> simp
      · simp [undef]
  unfold wpList
  rw [hw, if_neg (by simp)]
  exact k _ (ha.put _ _) (by rw [env_put ha hd, he])
/-- An operation that is guarded, whether it is carried out or not. -/
theorem WpL_guard_any {d : Nat} {op : Op} {ty : TypeId} {pos : String} {af : Array Edge} {j : Nat} {b : Bool} {oj : Oper} {dj : Nat} {gv u : Value}
    (hj : ops[j]? = some oj) (hdj : oj.dst = some dj) (hN : dj < N) (hd : d < N) (hy : σ dj = gv)
    (h : (gv = .bool b ∧ (execOp (ev σ) ⟨some d, op, ty, pos, af, none⟩).run P w = .ok (.value u) w) ∨ ((gv = .bool (!b) ∨ gv = undef) ∧ u = undef))
    (k : WpL P N ops K Q rest (upd σ d u) w) : WpL P N ops K Q (⟨some d, op, ty, pos, af, some (j, b)⟩ :: rest) σ w := by
  rcases h with ⟨h1, h2⟩ | ⟨h1, rfl⟩
  · exact WpL_guard_yes hj hdj hN (hy.trans h1) (WpL_val rfl rfl hd h2 k)
  · exact WpL_guard_no hj hdj hd hy h1 k
end
def fin (P : Program) (fn : Func) (R : Value → World → Prop) : Post
  | .normal, σ, w | .ret, σ, w => ∃ v, (∀ a : Act, env a = σ → (results fn a.tmps).run P w = .ok v w) ∧ R v w
  | _, _, _ => False
theorem Ret_of {P : Program} {f : FuncId} {fn : Func} {c : Code} {N : Nat} {args : Array Value} {w : World} {R : Value → World → Prop}
    (hf : P.funcs[f]? = some fn) (hb : fn.body = some c) (hn : fn.ntmps = N) (hsz : args.size ≤ N)
    (h : Wp P N c (fin P fn R) (fun t => args.getD t undef) w) : Ret P f args w R := by
  refine calls_of_wp hf hb ?_
  refine Code.wp_mono ?_ (h _ ⟨?_, rfl⟩ ?_)
  · rintro e a w ⟨o, q⟩
    cases e <;> simp only [fin] at q
    · obtain ⟨v, hv, r⟩ := q; exact ⟨o.defers, v, hv a rfl, v, rfl, r⟩
    · obtain ⟨v, hv, r⟩ := q; exact ⟨o.defers, v, hv a rfl, v, rfl, r⟩
  · simp [hn]; omega
  · funext t
    simp only [env, Array.getD_eq_getD_getElem?, Array.getElem?_append]
    split
    · rfl
    · rename_i hlt
      rw [Array.getElem?_replicate, Array.getElem?_eq_none (xs := args) (by omega)]
      split <;> rfl
theorem fin_tmp {P : Program} {fn : Func} {R : Value → World → Prop} {t : Nat} (hr : fn.results = #[.tmp t]) {σ : Env} {w : World} {v : Value} (hv : σ t = v) (h : R v w) : fin P fn R .ret σ w :=
  ⟨v, fun a ha => by rw [results_tmp hr]; subst ha; rw [← hv]; rfl, h⟩
theorem fin_tmp2 {P : Program} {fn : Func} {R : Value → World → Prop} {t u : Nat} (hr : fn.results = #[.tmp t, .tmp u]) {σ : Env} {w : World} {v v' : Value} (hv : σ t = v) (hv' : σ u = v') (h : R (.tuple #[v, v']) w) : fin P fn R .ret σ w :=
  ⟨.tuple #[v, v'], fun a ha => by rw [results_tmp2 hr]; subst ha; rw [← hv, ← hv']; rfl, h⟩
theorem fin_none {P : Program} {fn : Func} {R : Value → World → Prop} (hr : fn.results = #[]) {σ : Env} {w : World} (h : R (.tuple #[]) w) : fin P fn R .normal σ w :=
  ⟨.tuple #[], fun a ha => by rw [results_none hr], h⟩
end Go.Eng
namespace Go.Eng
open Go
/-- From w to w' only blocks in M may have changed, and blocks may have been made. -/
structure Chg (M : Nat → Prop) (w w' : World) : Prop where
  os : w'.os = w.os
  tape : w'.tape = w.tape
  output : w'.output = w.output
  drw : w.drawn ≤ w'.drawn
  size : w.heap.size ≤ w'.heap.size
  blk : ∀ b, b < w.heap.size → ¬ M b → w'.heap[b]? = w.heap[b]?
def none1 : Nat → Prop := fun _ => False
def Ext (w w' : World) : Prop := Chg none1 w w'
def Blk (w : World) (b : Nat) (c : Array Value) (t : TypeId) : Prop := w.heap[b]? = some (.cells c t (0, 0))
theorem Chg.refl (M : Nat → Prop) (w : World) : Chg M w w := ⟨rfl, rfl, rfl, Nat.le_refl _, Nat.le_refl _, fun _ _ _ => rfl⟩
theorem Ext.refl (w : World) : Ext w w := Chg.refl _ w
theorem Chg.step {M M' : Nat → Prop} {a b c : World} (h : Chg M a b) (k : Chg M' b c) (hm : ∀ x, x < a.heap.size → M' x → M x) : Chg M a c :=
  ⟨k.os.trans h.os, k.tape.trans h.tape, k.output.trans h.output, Nat.le_trans h.drw k.drw, Nat.le_trans h.size k.size,
    fun x hx hn => (k.blk x (Nat.lt_of_lt_of_le hx h.size) (fun hm' => hn (hm x hx hm'))).trans (h.blk x hx hn)⟩
theorem Chg.trans {M : Nat → Prop} {a b c : World} (h : Chg M a b) (k : Chg M b c) : Chg M a c := h.step k fun _ _ x => x
theorem Chg.ext {M : Nat → Prop} {a b c : World} (h : Chg M a b) (k : Ext b c) : Chg M a c := h.step k fun _ _ x => x.elim
theorem Ext.trans {a b c : World} (h : Ext a b) (k : Ext b c) : Ext a c := Chg.trans h k
theorem Ext.chg {M : Nat → Prop} {a b : World} (h : Ext a b) : Chg M a b := ⟨h.os, h.tape, h.output, h.drw, h.size, fun x hx _ => h.blk x hx (fun f => f)⟩
theorem Chg.mono {M M' : Nat → Prop} {a b : World} (h : Chg M a b) (hm : ∀ x, x < a.heap.size → M x → M' x) : Chg M' a b :=
  ⟨h.os, h.tape, h.output, h.drw, h.size, fun x hx hn => h.blk x hx fun m => hn (hm x hx m)⟩
theorem Blk.lt {w : World} {b : Nat} {c : Array Value} {t : TypeId} (h : Blk w b c t) : b < w.heap.size := (Array.getElem?_eq_some_iff.1 h).1
theorem Chg.keep {M : Nat → Prop} {w w' : World} (h : Chg M w w') {b : Nat} {c : Array Value} {t : TypeId} (hm : ¬ M b) (hb : Blk w b c t) : Blk w' b c t :=
  (h.blk b hb.lt hm).trans hb
theorem Ext.keep {w w' : World} (h : Ext w w') {b : Nat} {c : Array Value} {t : TypeId} (hb : Blk w b c t) : Blk w' b c t := Chg.keep h (fun f => f) hb
theorem Chg.cell {M : Nat → Prop} {w w' : World} (h : Chg M w w') {a : Addr} {v : Value} (hm : ¬ M a.block) (hc : w.cell? a = some v) : w'.cell? a = some v :=
  (World.cell?_of_block (w := w) (h.blk a.block (World.block_lt_of_cell? w a hc) hm)).trans hc
theorem Ext.cell {w w' : World} (h : Ext w w') {a : Addr} {v : Value} (hc : w.cell? a = some v) : w'.cell? a = some v := Chg.cell h (fun f => f) hc
theorem Blk.cell {w : World} {b : Nat} {c : Array Value} {t : TypeId} (h : Blk w b c t) {o : Nat} {v : Value} (hv : c[o]? = some v) : w.cell? ⟨b, o, none⟩ = some v := by
  unfold Blk at h
  simp [World.cell?, h, hv]
theorem Ext.below {w w' : World} (h : Ext w w') : RowKit.Below w.heap.size w w' := ⟨h.os, h.tape, h.output, h.size, fun k hk => h.blk k hk fun f => f⟩
/-- A new block. -/
structure New (w w' : World) (b : Nat) (c : Array Value) (t : TypeId) : Prop where
  blk : Blk w' b c t
  ext : Ext w w'
  eq : b = w.heap.size
  size : w'.heap.size = w.heap.size + 1
theorem New.mk' (w : World) (c : Array Value) (t : TypeId) : New w { w with heap := w.heap.push (.cells c t (0, 0)) } w.heap.size c t :=
  ⟨by unfold Blk; simp, ⟨rfl, rfl, rfl, Nat.le_refl _, by simp, fun x hx _ => by simp [Array.getElem?_push, Nat.ne_of_lt hx]⟩, rfl, by simp⟩
theorem New.keep {w w' : World} {b : Nat} {c : Array Value} {t : TypeId} (h : New w w' b c t) {b' : Nat} {c' : Array Value} {t' : TypeId} (hb : Blk w b' c' t') : Blk w' b' c' t' := h.ext.keep hb
theorem New.lt {w w' : World} {b : Nat} {c : Array Value} {t : TypeId} (h : New w w' b c t) {b' : Nat} {c' : Array Value} {t' : TypeId} (hb : Blk w b' c' t') : b' < b := by rw [h.eq]; exact hb.lt
theorem New.ge {w0 w w' : World} {b : Nat} {c : Array Value} {t : TypeId} (h : New w w' b c t) {M : Nat → Prop} (e : Chg M w0 w) : w0.heap.size ≤ b := by rw [h.eq]; exact e.size
/-- A block is written. -/
structure Put (w w' : World) (b : Nat) (c : Array Value) (t : TypeId) : Prop where
  blk : Blk w' b c t
  chg : Chg (fun x => x = b) w w'
  size : w'.heap.size = w.heap.size
theorem Put.of_setRow {w : World} {b : Nat} {c : Array Value} {t : TypeId} (h : Blk w b c t) (c' : Array Value) : Put w (w.setRow b c') b c' t :=
  ⟨setRow_heap w b c c' t _ h, ⟨rfl, rfl, rfl, Nat.le_refl _, by simp [World.setRow], fun x _ hn => setRow_other w b x c' hn⟩, by simp [World.setRow]⟩
theorem Put.keep {w w' : World} {b : Nat} {c : Array Value} {t : TypeId} (h : Put w w' b c t) {b' : Nat} {c' : Array Value} {t' : TypeId} (hne : b' ≠ b) (hb : Blk w b' c' t') : Blk w' b' c' t' := h.chg.keep hne hb
theorem Put.ext {w0 w w' : World} {b : Nat} {c : Array Value} {t : TypeId} (h : Put w w' b c t) {M : Nat → Prop} (e : Chg M w0 w) (hb : w0.heap.size ≤ b) : Chg M w0 w' :=
  e.step h.chg fun x hx hm => by subst hm; omega
theorem Put.step {w0 w w' : World} {b : Nat} {c : Array Value} {t : TypeId} (h : Put w w' b c t) {M : Nat → Prop} (e : Chg M w0 w) (hb : w0.heap.size ≤ b ∨ M b) : Chg M w0 w' :=
  e.step h.chg fun x hx hm => by subst hm; rcases hb with hb | hb; omega; exact hb
/-- Cells in a row. -/
def CellsAt (w : World) (b o : Nat) (vs : List Value) : Prop := ∀ i v, vs[i]? = some v → w.cell? ⟨b, o + i, none⟩ = some v
theorem CellsAt.chg {M : Nat → Prop} {w w' : World} {b o : Nat} {vs : List Value} (h : CellsAt w b o vs) (e : Chg M w w') (hm : ¬ M b) : CellsAt w' b o vs :=
  fun i v hv => e.cell hm (h i v hv)
theorem CellsAt.ext {w w' : World} {b o : Nat} {vs : List Value} (h : CellsAt w b o vs) (e : Ext w w') : CellsAt w' b o vs := h.chg e fun f => f
theorem Blk.cells {w : World} {b : Nat} {c : Array Value} {t : TypeId} (h : Blk w b c t) {o : Nat} {vs : List Value} (hv : (c.toList.drop o).take vs.length = vs) : CellsAt w b o vs := by
  intro i v hi
  refine h.cell ?_
  have hlt : i < vs.length := by
    rcases Nat.lt_or_ge i vs.length with h | h
    · exact h
    · simp [List.getElem?_eq_none h] at hi
  rw [← hv, List.getElem?_take_of_lt hlt, List.getElem?_drop] at hi
  simpa using hi
def Siz (P : Program) (t : TypeId) (n : Nat) : Prop := (P.info? t).map (fun i => i.size) = some n
def Byt (P : Program) (t : TypeId) (n : Nat) : Prop := (P.info? t).map (fun i => i.bytes) = some n
def Zer (P : Program) (t : TypeId) (z : Value) : Prop := (P.info? t).bind (fun i => i.zero) = some z
def flatB (P : Program) (t : TypeId) : Bool := match P.underlying t with
  | some (.struct _) | some (.array _ _) | none => false
  | some _ => true
def aggB (P : Program) (t : TypeId) : Bool := match P.underlying t with
  | some (.struct _) | some (.array _ _) => true
  | _ => false
theorem Siz.run {P : Program} {t : TypeId} {n : Nat} (h : Siz P t n) (w : World) : (sizeOf t).run P w = .ok n w := by
  unfold Siz at h
  cases hi : P.info? t with
  | none => simp [hi] at h
  | some i => simp [hi] at h; simp [sizeOf, typeInfo, hi, h]
theorem Zer.run {P : Program} {t : TypeId} {z : Value} (h : Zer P t z) (w : World) : (zeroValue t).run P w = .ok z w := by
  unfold Zer at h
  cases hi : P.info? t with
  | none => simp [hi] at h
  | some i => simp [hi] at h; simp [zeroValue, typeInfo, hi, h]
theorem flatB.run {P : Program} {t : TypeId} (h : flatB P t = true) (w : World) : (isAgg t).run P w = .ok false w := by
  unfold flatB at h
  cases hi : P.underlying t with
  | none => simp [hi] at h
  | some d => cases d <;> simp [hi] at h <;> simp [isAgg, run_underlying hi]
theorem aggB.run {P : Program} {t : TypeId} (h : aggB P t = true) (w : World) : (isAgg t).run P w = .ok true w := by
  unfold aggB at h
  cases hi : P.underlying t with
  | none => simp [hi] at h
  | some d => cases d <;> simp [hi] at h <;> simp [isAgg, run_underlying hi]
section
variable {P : Program} {σ : Env} {w : World} {dst : Option Tmp} {ty : TypeId} {pos : String} {af : Array Edge} {g : Option (Nat × Bool)}
theorem r_move {x : Operand} {v : Value} (hx : ev σ x = v) : (execOp (ev σ) ⟨dst, .move x, ty, pos, af, g⟩).run P w = .ok (.value v) w := by subst hx; rfl
theorem r_assign {x : Operand} {v : Value} (hx : ev σ x = v) : (execOp (ev σ) ⟨dst, .assign x, ty, pos, af, g⟩).run P w = .ok (.value v) w := by subst hx; rfl
theorem r_pick {c x y : Operand} {b : Bool} {v : Value} (hc : ev σ c = .bool b) (hv : (if b then ev σ x else ev σ y) = v) : (execOp (ev σ) ⟨dst, .pick c x y, ty, pos, af, g⟩).run P w = .ok (.value v) w := by
  subst hv; simp only [execOp, hc, asBool]; cases b <;> rfl
theorem r_not {t : TypeId} {x : Operand} {b : Bool} (hx : ev σ x = .bool b) : (execOp (ev σ) ⟨dst, .unOp .not t x, ty, pos, af, g⟩).run P w = .ok (.value (.bool (!b))) w := by
  simp only [execOp, hx]; rfl
theorem r_convInt {s t : TypeId} {x : Operand} {k k' : IntKind} {n c : Int} (hs : ∃ d, P.underlying s = some d) (ht : P.underlying t = some (.int k')) (hx : ev σ x = .int k n) (hw : k'.wrap n = c) :
    (execOp (ev σ) ⟨dst, .convert s t x, ty, pos, af, g⟩).run P w = .ok (.value (.int k' c)) w := by
  obtain ⟨d, hd⟩ := hs
  subst hw; simp only [execOp, hx, convert, Sem.run_bind, run_underlying hd, run_underlying ht, Result.andThen_ok]; rfl
variable {t t' : TypeId} {x y : Operand} {k : IntKind} {a b c : Int}
theorem r_add (hx : ev σ x = .int k a) (hy : ev σ y = .int k b) (hw : k.wrap (a + b) = c) : (execOp (ev σ) ⟨dst, .binOp .add t x y t', ty, pos, af, g⟩).run P w = .ok (.value (.int k c)) w := by
  subst hw; simp only [execOp, hx, hy, eqGuard, binOp]; simp [Op.intArith]
theorem r_sub (hx : ev σ x = .int k a) (hy : ev σ y = .int k b) (hw : k.wrap (a - b) = c) : (execOp (ev σ) ⟨dst, .binOp .sub t x y t', ty, pos, af, g⟩).run P w = .ok (.value (.int k c)) w := by
  subst hw; simp only [execOp, hx, hy, eqGuard, binOp]; simp [Op.intArith]
theorem r_mul (hx : ev σ x = .int k a) (hy : ev σ y = .int k b) (hw : k.wrap (a * b) = c) : (execOp (ev σ) ⟨dst, .binOp .mul t x y t', ty, pos, af, g⟩).run P w = .ok (.value (.int k c)) w := by
  subst hw; simp only [execOp, hx, hy, eqGuard, binOp]; simp [Op.intArith]
theorem r_lss (hx : ev σ x = .int k a) (hy : ev σ y = .int k b) : (execOp (ev σ) ⟨dst, .binOp .lss t x y t', ty, pos, af, g⟩).run P w = .ok (.value (.bool (decide (a < b)))) w := by
  simp only [execOp, hx, hy, eqGuard, binOp]; simp [Op.intCmp]
theorem r_leq (hx : ev σ x = .int k a) (hy : ev σ y = .int k b) : (execOp (ev σ) ⟨dst, .binOp .leq t x y t', ty, pos, af, g⟩).run P w = .ok (.value (.bool (decide (a ≤ b)))) w := by
  simp only [execOp, hx, hy, eqGuard, binOp]; simp [Op.intCmp]
theorem r_gtr (hx : ev σ x = .int k a) (hy : ev σ y = .int k b) : (execOp (ev σ) ⟨dst, .binOp .gtr t x y t', ty, pos, af, g⟩).run P w = .ok (.value (.bool (decide (b < a)))) w := by
  simp only [execOp, hx, hy, eqGuard, binOp]; simp [Op.intCmp]
theorem r_geq (hx : ev σ x = .int k a) (hy : ev σ y = .int k b) : (execOp (ev σ) ⟨dst, .binOp .geq t x y t', ty, pos, af, g⟩).run P w = .ok (.value (.bool (decide (b ≤ a)))) w := by
  simp only [execOp, hx, hy, eqGuard, binOp]; simp [Op.intCmp]
theorem r_eql (hx : ev σ x = .int k a) (hy : ev σ y = .int k b) : (execOp (ev σ) ⟨dst, .binOp .eql t x y t', ty, pos, af, g⟩).run P w = .ok (.value (.bool (decide (a = b)))) w := by
  have : (a == b) = decide (a = b) := by rw [Bool.eq_iff_iff]; simp
  rw [← this]; simp only [execOp, hx, hy, eqGuard, binOp]; simp [Op.intCmp]
theorem r_neq (hx : ev σ x = .int k a) (hy : ev σ y = .int k b) : (execOp (ev σ) ⟨dst, .binOp .neq t x y t', ty, pos, af, g⟩).run P w = .ok (.value (.bool (decide (a ≠ b)))) w := by
  have : (a != b) = decide (a ≠ b) := by rw [Bool.eq_iff_iff]; simp
  rw [← this]; simp only [execOp, hx, hy, eqGuard, binOp]; simp [Op.intCmp]
theorem equalIn_bool {p q : Bool} (d : Nat) (hu : P.underlying t = some .bool) : (Op.equalIn (d + 1) t (.bool p) (.bool q)).run P w = .ok (p == q) w := by
  simp only [Op.equalIn, Sem.run_bind, run_underlying hu, Result.andThen_ok]; rfl
theorem r_eqlB {p q : Bool} (hu : P.underlying t = some .bool) (hx : ev σ x = .bool p) (hy : ev σ y = .bool q) : (execOp (ev σ) ⟨dst, .binOp .eql t x y t', ty, pos, af, g⟩).run P w = .ok (.value (.bool (p == q))) w := by
  have h := equalIn_bool (P := P) (w := w) (p := p) (q := q) 9999 hu
  simp only [execOp, hx, hy, eqGuard, binOp, Op.equal, Op.maxDepth]; simp [h]
theorem r_bits {op : BinOp} {v : Value} (hx : ev σ x = .int k a) (hy : ev σ y = .int k b) (ho : op = .and ∨ op = .or ∨ op = .xor ∨ op = .andNot) (hv : (Op.intBits op k a b).run P w = .ok v w) :
    (execOp (ev σ) ⟨dst, .binOp op t x y t', ty, pos, af, g⟩).run P w = .ok (.value v) w := by
  rcases ho with rfl | rfl | rfl | rfl <;> (simp only [execOp, hx, hy, eqGuard, binOp]; simp [hv])
theorem r_shr {k' : IntKind} (hx : ev σ x = .int k a) (hy : ev σ y = .int k' b) (h0 : 0 ≤ b) (hw : a.fdiv (2 ^ (min b.toNat k.bits)) = c) :
    (execOp (ev σ) ⟨dst, .binOp .shr t x y t', ty, pos, af, g⟩).run P w = .ok (.value (.int k c)) w := by
  subst hw; simp only [execOp, hx, hy, eqGuard, binOp]; simp [Op.shift, Int.not_lt.2 h0]
theorem r_lenSlice {e : TypeId} {ad : Option Addr} {n cap : Nat} (hu : P.underlying t = some (.slice e)) (hx : ev σ x = .slice ad n cap) :
    (execOp (ev σ) ⟨dst, .call ⟨.builtin .len, #[x], #[t]⟩, ty, pos, af, g⟩).run P w = .ok (.value (.int .i64 n)) w := by
  simp only [execOp, resolve, List.map_toArray, List.map_cons, List.map_nil, hx]
  simp [invoke, builtin, Builtin.len_, run_underlying hu, goInt]
theorem r_fieldAddr {fs : Array Field} {f : Field} {i n b o o' : Nat} (hx : ev σ x = .pointer (some ⟨b, o, none⟩)) (hu : P.underlying t = some (.struct fs)) (hf : fs[i]? = some f) (hs : Siz P f.type (n + 1)) (ho : o + f.offset = o') :
    (execOp (ev σ) ⟨dst, .fieldAddr t x i, ty, pos, af, g⟩).run P w = .ok (.value (.pointer (some ⟨b, o', none⟩))) w := by
  subst ho
  simp [execOp, hx, Instr.fieldAt, run_underlying hu, hf, Instr.sureAddr, fieldPlace, hs.run, Addr.add_lit]
theorem r_indexSlice {e : TypeId} {n b o o' len cap i : Nat} {k : IntKind} {a : Int} (hx : ev σ x = .slice (some ⟨b, o, none⟩) len cap) (hy : ev σ y = .int k a) (ha : a = (i : Int)) (hu : P.underlying t = some (.slice e)) (hs : Siz P e n) (hi : i < len) (ho : o + i * n = o') :
    (execOp (ev σ) ⟨dst, .indexAddr t x y, ty, pos, af, g⟩).run P w = .ok (.value (.pointer (some ⟨b, o', none⟩))) w := by
  subst ho; subst ha
  have h1 : (0 : Int) ≤ (i : Int) ∧ (i : Int) < (len : Int) := by omega
  simp [execOp, hx, hy, Instr.indexAt, asIntOf, run_underlying hu, hs.run, Addr.add_lit, hi]
theorem r_indexArr {e : TypeId} {n b o o' len i : Nat} {k : IntKind} {a : Int} (hx : ev σ x = .pointer (some ⟨b, o, none⟩)) (hy : ev σ y = .int k a) (ha : a = (i : Int)) (hu : P.underlying t = some (.array len e)) (hs : Siz P e n) (hi : i < len) (ho : o + i * n = o') :
    (execOp (ev σ) ⟨dst, .indexAddr t x y, ty, pos, af, g⟩).run P w = .ok (.value (.pointer (some ⟨b, o', none⟩))) w := by
  subst ho; subst ha
  simp [execOp, hx, hy, Instr.indexAt, Instr.sureAddr, asIntOf, run_underlying hu, hs.run, Addr.add_lit, hi]
theorem r_sliceLo {e : TypeId} {a a' : Option Addr} {n len cap lo n' c' : Nat} {k : IntKind} {l : Int} (hu : P.underlying t = some (.slice e)) (hs : Siz P e n) (hx : ev σ x = .slice a len cap) (hy : ev σ y = .int k l) (hl : l = (lo : Int)) (h1 : lo ≤ len) (ha : (if cap = lo then a else a.map (·.add (lo * n))) = a') (hn : len - lo = n') (hc : cap - lo = c') :
    (execOp (ev σ) ⟨dst, .slice t x (some y) none none, ty, pos, af, g⟩).run P w = .ok (.value (.slice a' n' c')) w := by
  subst ha; subst hn; subst hc; subst hl
  have h2 : (0 : Int) ≤ (lo : Int) ∧ (lo : Int) ≤ (len : Int) := by omega
  simp [execOp, hx, hy, Instr.sliceAt, Instr.slice, run_underlying hu, Instr.sliceBounds, Instr.sliceBound, asIntOf, h1, hs.run]
theorem r_sliceHi {e : TypeId} {a a' : Option Addr} {n len cap hi : Nat} {k : IntKind} {l : Int} (hu : P.underlying t = some (.slice e)) (hs : Siz P e n) (hx : ev σ x = .slice a len cap) (hy : ev σ y = .int k l) (hl : l = (hi : Int)) (h1 : hi ≤ cap) (ha : (if cap = 0 then a else a.map (·.add (0 * n))) = a') :
    (execOp (ev σ) ⟨dst, .slice t x none (some y) none, ty, pos, af, g⟩).run P w = .ok (.value (.slice a' hi cap)) w := by
  subst ha; subst hl
  simp [execOp, hx, hy, Instr.sliceAt, Instr.slice, run_underlying hu, Instr.sliceBounds, Instr.sliceBound, asIntOf, h1, hs.run]
theorem r_load {ad : Addr} {v : Value} (hx : ev σ x = .pointer (some ad)) (hf : flatB P t = true) (hc : w.cell? ad = some v) :
    (execOp (ev σ) ⟨dst, .load t x, ty, pos, af, g⟩).run P w = .ok (.value v) w := by
  simp [execOp, hx, Instr.loadAt, Instr.sureAddr, loadVar, flatB.run hf, hc]
theorem r_loadAgg {b o n : Nat} {vs : List Value} (hx : ev σ x = .pointer (some ⟨b, o, none⟩)) (hf : aggB P t = true) (hs : Siz P t n) (hn : vs.length = n) (hc : CellsAt w b o vs) :
    (execOp (ev σ) ⟨dst, .load t x, ty, pos, af, g⟩).run P w = .ok (.value (.agg vs.toArray)) w := by
  subst hn
  have h1 := run_loadCells_list (P := P) w ⟨b, o, none⟩ vs (fun j v hj => by rw [Addr.add_lit]; exact hc j v hj)
  simp [execOp, hx, Instr.loadAt, Instr.sureAddr, loadVar, aggB.run hf, hs.run, h1]
theorem r_makeFunc {fn : Fn} {first captured : List Operand} {vs us : List Value} (h1 : first.map (ev σ) = vs) (h2 : captured.map (ev σ) = us) :
    (execOp (ev σ) ⟨dst, .makeFunc fn first.toArray captured.toArray, ty, pos, af, g⟩).run P w = .ok (.value (.func fn vs.toArray us.toArray)) w := by
  subst h1; subst h2; simp [execOp, Instr.makeFunc]
theorem r_extract {i : Nat} {vs : Array Value} {v : Value} (hx : ev σ x = .tuple vs) (hv : vs[i]? = some v) :
    (execOp (ev σ) ⟨dst, .extract x i, ty, pos, af, g⟩).run P w = .ok (.value v) w := by
  simp [execOp, hx, Instr.extract, hv]
theorem r_build {parts : List (Nat × Operand)} {ps : List (Nat × Value)} {v : Value} (hp : (parts.map fun (i, x) => (i, ev σ x)) = ps) (hb : (Instr.build t ps.toArray).run P w = .ok v w) :
    (execOp (ev σ) ⟨dst, .build t parts.toArray, ty, pos, af, g⟩).run P w = .ok (.value v) w := by
  subst hp; simp [execOp, hb]
theorem run_callF {f : FuncId} {fn : Func} {vs : Array Value} (hf : P.funcs[f]? = some fn) (hn : (fn.name == "runtime.NumGoroutine") = false) (hb : fn.body.isNone = false) :
    (callFunc f vs).run P w = .ok (.enter f vs) w := by
  simp only [callFunc, Sem.run_bind, run_program, Result.andThen_ok, hf, hn, hb, Bool.false_eq_true, if_false]; rfl
/-- The call of a function of the program by its number. -/
theorem r_callF {f : FuncId} {fn : Func} {args : List Operand} {tys : Array TypeId} {vs : List Value} (hf : P.funcs[f]? = some fn) (hn : (fn.name == "runtime.NumGoroutine") = false) (hb : fn.body.isNone = false) (ha : args.map (ev σ) = vs) :
    (execOp (ev σ) ⟨dst, .call ⟨.value (.func f), args.toArray, tys⟩, ty, pos, af, g⟩).run P w = .ok (.enter f vs.toArray) w := by
  subst ha; simp [execOp, resolve, ev, Deferred.ofValue, invoke, run_callF hf hn hb]
/-- The call of a function value. -/
theorem r_callV {f : FuncId} {fn : Func} {z : Operand} {args : List Operand} {tys : Array TypeId} {first cap ws : Array Value} {vs : List Value} (hz : ev σ z = .func (.func f) first cap) (hf : P.funcs[f]? = some fn) (hn : (fn.name == "runtime.NumGoroutine") = false) (hb : fn.body.isNone = false) (ha : args.map (ev σ) = vs) (hws : first ++ vs.toArray ++ cap = ws) :
    (execOp (ev σ) ⟨dst, .call ⟨.value z, args.toArray, tys⟩, ty, pos, af, g⟩).run P w = .ok (.enter f ws) w := by
  subst ha; subst hws; simp [execOp, resolve, hz, Deferred.ofValue, invoke, run_callF hf hn hb]
end
section
variable {P : Program} {N : Nat} {Q : Post} {σ : Env} {w : World} {K : Env → World → Prop} {ops : Array Oper} {rest : List Oper} {d : Nat} {ty : TypeId} {pos : String} {af : Array Edge} {t : TypeId} {x y : Operand}
theorem s_box {v : Value} {c : Array Value} (hN : d < N) (hx : ev σ x = v) (hc : v.cells = c) (k : ∀ b w', New w w' b c t → WpL P N ops K Q rest (upd σ d (.pointer (some ⟨b, 0, none⟩))) w') :
    WpL P N ops K Q (⟨some d, .box t x, ty, pos, af, none⟩ :: rest) σ w := by
  subst hc
  refine WpL_val (v := .pointer (some ⟨w.heap.size, 0, none⟩)) (w' := { w with heap := w.heap.push (.cells v.cells t (0, 0)) }) rfl rfl hN ?_ (k _ _ (New.mk' w v.cells t))
  simp [execOp, hx, Instr.box, newVar, newRow]
theorem s_alloc {z : Value} {c : Array Value} (hN : d < N) (hz : Zer P t z) (hc : z.cells = c) (k : ∀ b w', New w w' b c t → WpL P N ops K Q rest (upd σ d (.pointer (some ⟨b, 0, none⟩))) w') :
    WpL P N ops K Q (⟨some d, .alloc t, ty, pos, af, none⟩ :: rest) σ w := by
  subst hc
  refine WpL_val (v := .pointer (some ⟨w.heap.size, 0, none⟩)) (w' := { w with heap := w.heap.push (.cells z.cells t (0, 0)) }) rfl rfl hN ?_ (k _ _ (New.mk' w z.cells t))
  simp [execOp, Instr.alloc, hz.run, newVar, newRow]
theorem s_store {b o : Nat} {v : Value} {c c' : Array Value} {e : TypeId} (hx : ev σ x = .pointer (some ⟨b, o, none⟩)) (hy : ev σ y = v) (h1 : v.oneCell' = true) (hs : Siz P t 1) (hB : Blk w b c e) (ho : o < c.size) (hc : c.setIfInBounds o v = c')
    (k : ∀ w', Put w w' b c' e → WpL P N ops K Q rest σ w') : WpL P N ops K Q (⟨none, .store t x y, ty, pos, af, none⟩ :: rest) σ w := by
  subst hc
  refine WpL_skip (w' := w.setRow b (c.setIfInBounds o v)) rfl rfl ?_ (k _ (Put.of_setRow hB _))
  have hcs : v.cells = #[v] := by cases v <;> first | rfl | (simp [Value.oneCell'] at h1; done)
  have hst := run_storeCells_at P b o e [v] 0 c w hB (by simp; omega) (by simpa using h1)
  have he : (c.toList.take (o + 0) ++ [v] ++ c.toList.drop (o + 0 + [v].length)).toArray = c.setIfInBounds o v := by
    apply Array.ext'
    simp only [Nat.add_zero, List.length_singleton, Array.toList_setIfInBounds]
    rw [List.set_eq_take_append_cons_drop, if_pos (by simpa using ho)]
    simp
  rw [he] at hst
  simp [execOp, hx, hy, Instr.storeAt, Instr.sureAddr, storeVar, hs.run, hcs, hst]
theorem s_storeAgg {b o n : Nat} {vs c c' : Array Value} {e : TypeId} (hx : ev σ x = .pointer (some ⟨b, o, none⟩)) (hy : ev σ y = .agg vs) (h1 : ∀ v ∈ vs.toList, v.oneCell' = true) (hs : Siz P t n) (hn : vs.size = n) (hB : Blk w b c e) (ho : o + n ≤ c.size) (hc : (c.toList.take o ++ vs.toList ++ c.toList.drop (o + n)).toArray = c')
    (k : ∀ w', Put w w' b c' e → WpL P N ops K Q rest σ w') : WpL P N ops K Q (⟨none, .store t x y, ty, pos, af, none⟩ :: rest) σ w := by
  subst hc; subst hn
  refine WpL_skip (w' := w.setRow b _) rfl rfl ?_ (k _ (Put.of_setRow hB _))
  have hst := run_storeCells_at P b o e vs.toList 0 c w hB (by simpa using ho) h1
  simp only [Nat.add_zero, Array.length_toList] at hst
  simp [execOp, hx, hy, Instr.storeAt, Instr.sureAddr, storeVar, hs.run, Value.cells, hst]
/-- A variable is made and stored into at once. -/
theorem s_allocStore {z v : Value} {n : Nat} {c : Array Value} {ty' : TypeId} {pos' : String} {af' : Array Edge} (hN : d < N) (hz : Zer P t z) (hzs : z.cells.size = n) (hs : Siz P t n) (hy : ev (upd σ d (.pointer (some ⟨w.heap.size, 0, none⟩))) y = v) (hc : v.cells = c) (hn : c.size = n) (h1 : ∀ u ∈ c.toList, u.oneCell' = true)
    (k : ∀ b w', New w w' b c t → WpL P N ops K Q rest (upd σ d (.pointer (some ⟨b, 0, none⟩))) w') :
    WpL P N ops K Q (⟨some d, .alloc t, ty, pos, af, none⟩ :: ⟨none, .store t (.tmp d) y, ty', pos', af', none⟩ :: rest) σ w := by
  subst hc
  refine WpL_val (v := .pointer (some ⟨w.heap.size, 0, none⟩)) (w' := { w with heap := w.heap.push (.cells z.cells t (0, 0)) }) rfl rfl hN ?_ ?_
  · simp [execOp, Instr.alloc, hz.run, newVar, newRow]
  · refine WpL_skip (w' := { w with heap := w.heap.push (.cells v.cells t (0, 0)) }) rfl rfl ?_ (k _ _ (New.mk' w v.cells t))
    have hB : Blk { w with heap := w.heap.push (.cells z.cells t (0, 0)) } w.heap.size z.cells t := (New.mk' w z.cells t).blk
    have hst := run_storeCells_at P w.heap.size 0 t v.cells.toList 0 z.cells _ hB (by simp [hn, hzs]) h1
    have hd : ev (upd σ d (.pointer (some ⟨w.heap.size, 0, none⟩))) (.tmp d) = .pointer (some ⟨w.heap.size, 0, none⟩) := by simp [ev, upd]
    have hw : World.setRow { w with heap := w.heap.push (.cells z.cells t (0, 0)) } w.heap.size (z.cells.toList.take (0 + 0) ++ v.cells.toList ++ z.cells.toList.drop (0 + 0 + v.cells.toList.length)).toArray = { w with heap := w.heap.push (.cells v.cells t (0, 0)) } := by
      have e : (z.cells.toList.take (0 + 0) ++ v.cells.toList ++ z.cells.toList.drop (0 + 0 + v.cells.toList.length)).toArray = v.cells := by
        apply Array.ext'
        simp [hn, ← hzs]
      rw [e]
      simp only [World.setRow]
      congr 1
      apply Array.ext
      · simp
      · intro i h1 h2
        simp only [Array.getElem_modify, Array.getElem_push]
        by_cases hi : i < w.heap.size
        · simp [hi, Nat.ne_of_gt hi]
        · have : i = w.heap.size := by simp at h2; omega
          simp [this]
    rw [hw] at hst
    have hst' : (storeCells ⟨w.heap.size, 0, none⟩ v.cells.toList).run P (w.alloc (.cells z.cells t)) = .ok () (w.alloc (.cells v.cells t)) := hst
    simp [execOp, hd, hy, Instr.storeAt, Instr.sureAddr, storeVar, hs.run, hn, hst']
theorem s_buildSlice {e : TypeId} {len n : Nat} {z : Value} {parts : List (Nat × Operand)} {ps : List (Nat × Value)} {c : Array Value} (hN : d < N) (hp : (parts.map fun (i, x) => (i, ev σ x)) = ps) (hu : P.underlying t = some (.slice e)) (hs : Siz P e n) (hz : Zer P e z) (hl : ¬ (len * n > 2 ^ 24)) (h0 : len * n ≠ 0)
    (hc : Instr.fill (fun i => some (i * n, n)) ((Array.range (len * n)).map (z.cells[· % z.cells.size]!)) ps = some c)
    (k : ∀ b w', New w w' b c e → WpL P N ops K Q rest (upd σ d (.slice (some ⟨b, 0, none⟩) len len)) w') : WpL P N ops K Q (⟨some d, .buildSlice t len parts.toArray, ty, pos, af, none⟩ :: rest) σ w := by
  subst hp
  refine WpL_val (v := .slice (some ⟨w.heap.size, 0, none⟩) len len) (w' := { w with heap := w.heap.push (.cells c e (0, 0)) }) rfl rfl hN ?_ (k _ _ (New.mk' w c e))
  simp only [execOp, Instr.buildSlice, List.map_toArray, Sem.run_bind, run_underlying hu, Result.andThen_ok, hs.run, hl, h0, if_false, Sem.run_pure, hz.run, hc]
  simp [newRow]
end
theorem wpStill_post {P : Program} {ops : Array Oper} {w : World} {R R' : Act → Prop} (h : ∀ a, R a → R' a) : ∀ (l : List Oper) (a : Act), wpStill P ops w R l a → wpStill P ops w R' l a
  | [], a, hr => h a hr
  | o :: rest, a, hr => by
    unfold wpStill at hr ⊢
    split
    · rename_i hw
      rw [if_pos hw] at hr
      exact Oper.still_mono (fun a' => wpStill_post h rest a') hr
    · rename_i hw
      rw [if_neg hw] at hr
      exact wpStill_post h rest _ hr
def WpS (P : Program) (N : Nat) (ops : Array Oper) (w : World) (K : Env → Prop) (l : List Oper) (σ : Env) : Prop :=
  ∀ a, Ok N a → env a = σ → wpStill P ops w (fun a' => Ok N a' ∧ K (env a')) l a
def WpT (P : Program) (N : Nat) (ops : Array Oper) (w : World) (K : Env → World → Prop) (Q : Post) : Nat → List Oper → Env → Prop
  | n, l, σ => WpS P N ops w (fun σ' => WpL P N ops K Q (l.drop n) σ' w) (l.take n) σ
section
variable {P : Program} {N : Nat} {Q : Post} {σ : Env} {w : World} {K : Env → World → Prop} {ops : Array Oper} {rest : List Oper} {n : Nat}
theorem WpT_zero {l : List Oper} (h : WpL P N ops K Q l σ w) : WpT P N ops w K Q 0 l σ := fun a ha he => by
  simp only [List.take_zero, List.drop_zero]; exact ⟨ha, he ▸ h⟩
theorem WpT_val {o : Oper} (hg : o.guard = none) {d : Nat} (hd : o.dst = some d) (hN : d < N) {v : Value}
    (hr : (execOp (ev σ) o).run P w = .ok (.value v) w) (k : WpT P N ops w K Q n rest (upd σ d v)) : WpT P N ops w K Q (n + 1) (o :: rest) σ := by
  intro a ha he
  simp only [List.take_succ_cons, List.drop_succ_cons]
  unfold wpStill
  rw [if_pos (by simp [Region.wanted, hg])]
  unfold Oper.still
  rw [eval_env, he, hr]
  refine ⟨rfl, ?_⟩
  rw [hd]
  exact k _ (ha.put _ _) (by rw [env_put ha hN, he])
theorem drew_ext (w : World) : Ext w { w with drawn := w.drawn + 1 } := ⟨rfl, rfl, rfl, Nat.le_succ _, Nat.le_refl _, fun _ _ _ => rfl⟩
theorem Wp_draw {id : Nat} {l : List Oper} (n : Nat) (hm : P.follows .mixedOrders = true) (hB : Region.lexTailB .any l.toArray n = true)
    (h : ∀ w', Ext w w' → w'.heap = w.heap → WpT P N l.toArray w' (Q .normal) Q n l σ) : Wp P N (.region id l.toArray true) Q σ w := by
  intro a ha he
  have e : lift N (thn (Q .normal) Q) = lift N Q := by funext e a w; cases e <;> rfl
  refine wp_region_still_tail n hm hB ?_
  have h1 := h _ (drew_ext w) rfl a ha he
  have : (fun a' => Ok N a' ∧ WpL P N l.toArray (Q .normal) Q (l.drop n) (env a') { w with drawn := w.drawn + 1 }) = (fun a' => Ok N a' ∧ WpL P N l.toArray (Q .normal) Q (l.drop n) (env a') { w with drawn := w.drawn + 1 }) := rfl
  refine wpStill_post ?_ _ _ h1
  rintro a' ⟨ha', hk⟩
  have := hk a' ha' rfl
  rwa [e] at this
theorem Wp_seq_draw {id : Nat} {l : List Oper} {y : Code} (n : Nat) (hm : P.follows .mixedOrders = true) (hB : Region.lexTailB .any l.toArray n = true)
    (h : ∀ w', Ext w w' → w'.heap = w.heap → WpT P N l.toArray w' (Wp P N y Q) Q n l σ) : Wp P N (.seq (.region id l.toArray true) y) Q σ w := by
  refine Wp_seq ?_
  refine Wp_draw n hm hB fun w' e he => ?_
  have : thn (Wp P N y Q) Q .normal = Wp P N y Q := rfl
  intro a ha hae
  have h1 := h w' e he a ha hae
  refine wpStill_post ?_ _ _ h1
  rintro a' ⟨ha', hk⟩
  refine ⟨ha', fun a2 h2 h3 => ?_⟩
  have h4 := hk a2 h2 h3
  have e2 : lift N (thn (thn (Wp P N y Q) Q .normal) (thn (Wp P N y Q) Q)) = lift N (thn (Wp P N y Q) Q) := by funext e a w; cases e <;> rfl
  rw [e2]
  exact h4
end
theorem wI64 {n : Int} (h : -9223372036854775808 ≤ n ∧ n ≤ 9223372036854775807) : IntKind.i64.wrap n = n := by
  simp only [IntKind.wrap, IntKind.bits, IntKind.signed, Bool.true_and, Bool.false_and, decide_eq_true_eq, ge_iff_le, Int.reducePow, Nat.reduceSub, Bool.false_eq_true, if_false]
  split <;> omega
theorem wU64 {n : Int} (h : 0 ≤ n ∧ n ≤ 18446744073709551615) : IntKind.u64.wrap n = n := by
  simp only [IntKind.wrap, IntKind.bits, IntKind.signed, Bool.true_and, Bool.false_and, decide_eq_true_eq, ge_iff_le, Int.reducePow, Nat.reduceSub, Bool.false_eq_true, if_false]
  omega
theorem Wp_cut {P : Program} {N : Nat} {Q : Post} {σ : Env} {w : World} {x y : Code} (J : Env → World → Prop) (h : Wp P N x (thn J Q) σ w) (k : ∀ σ' w', J σ' w' → Wp P N y Q σ' w') : Wp P N (.seq x y) Q σ w :=
  Wp_seq (Wp_mono h fun e σ' w' q => by cases e <;> first | exact k _ _ q | exact q)
theorem fin_tmp3 {P : Program} {fn : Func} {R : Value → World → Prop} {t u s : Nat} (hr : fn.results = #[.tmp t, .tmp u, .tmp s]) {σ : Env} {w : World} {v v' v'' : Value} (hv : σ t = v) (hv' : σ u = v') (hv'' : σ s = v'') (h : R (.tuple #[v, v', v'']) w) : fin P fn R .ret σ w :=
  ⟨.tuple #[v, v', v''], fun a ha => by subst ha; rw [← hv, ← hv', ← hv'']; simp [results, hr, env], h⟩
theorem run_loadVar {P : Program} {w : World} {b o n : Nat} {t : TypeId} {vs : List Value} (hf : aggB P t = true) (hs : Siz P t n) (hn : vs.length = n) (hc : CellsAt w b o vs) : (loadVar t ⟨b, o, none⟩).run P w = .ok (.agg vs.toArray) w := by
  subst hn
  have h1 := run_loadCells_list (P := P) w ⟨b, o, none⟩ vs (fun j v hj => by rw [Addr.add_lit]; exact hc j v hj)
  simp [loadVar, aggB.run hf, hs.run, h1]
theorem fin_agg {P : Program} {fn : Func} {R : Value → World → Prop} {a0 t b n : Nat} (hr : fn.results = #[.cell a0 t]) {σ : Env} {w : World} {vs : List Value} (hv : σ a0 = .pointer (some ⟨b, 0, none⟩)) (hf : aggB P t = true) (hs : Siz P t n) (hn : vs.length = n) (hc : CellsAt w b 0 vs) (h : R (.agg vs.toArray) w) : fin P fn R .ret σ w :=
  ⟨.agg vs.toArray, fun a ha => by
    subst ha
    have hv' : a.tmps.getD a0 undef = .pointer (some ⟨b, 0, none⟩) := hv
    simp only [Array.getD_eq_getD_getElem?] at hv'
    simp [results, hr, hv', asAddr, run_loadVar hf hs hn hc], h⟩
theorem fin_agg_tmp {P : Program} {fn : Func} {R : Value → World → Prop} {a0 t b n u : Nat} (hr : fn.results = #[.cell a0 t, .tmp u]) {σ : Env} {w : World} {vs : List Value} {v' : Value} (hv : σ a0 = .pointer (some ⟨b, 0, none⟩)) (hf : aggB P t = true) (hs : Siz P t n) (hn : vs.length = n) (hc : CellsAt w b 0 vs) (hv' : σ u = v') (h : R (.tuple #[.agg vs.toArray, v']) w) : fin P fn R .ret σ w :=
  ⟨.tuple #[.agg vs.toArray, v'], fun a ha => by
    subst ha
    have h0 : a.tmps.getD a0 undef = .pointer (some ⟨b, 0, none⟩) := hv
    have h1 : a.tmps.getD u undef = v' := hv'
    simp only [Array.getD_eq_getD_getElem?] at h0 h1
    simp [results, hr, h0, h1, asAddr, run_loadVar hf hs hn hc], h⟩
end Go.Eng
namespace Go.Eng
open Go
inductive Re where
  | mk (kind : Int) (set : List (Int × Int)) (args : List Re) (mn mx : Int) (neg : Bool)
namespace Re
def kind : Re → Int | .mk k _ _ _ _ _ => k
def set : Re → List (Int × Int) | .mk _ s _ _ _ _ => s
def args : Re → List Re | .mk _ _ a _ _ _ => a
def mn : Re → Int | .mk _ _ _ m _ _ => m
def mx : Re → Int | .mk _ _ _ _ m _ => m
def neg : Re → Bool | .mk _ _ _ _ _ n => n
mutual
def size : Re → Nat
  | .mk _ _ a _ _ _ => sizes a + 1
def sizes : List Re → Nat
  | [] => 0
  | t :: ts => size t + sizes ts
end
end Re
theorem lt_of_get {α : Type} {l : List α} {i : Nat} {y : α} (h : l[i]? = some y) : i < l.length := by
  rcases Nat.lt_or_ge i l.length with h' | h'
  · exact h'
  · simp [List.getElem?_eq_none h'] at h
/-- A slice value that reads as a list of rows of k cells. -/
def SlAt (w : World) (k : Nat) (v : Value) (rows : List (List Value)) : Prop :=
  ∃ a cap, v = .slice a rows.length cap ∧ rows.length ≤ 9223372036854775807 ∧ rows.length ≤ cap ∧ (rows = [] ∨ ∃ b o, a = some ⟨b, o, none⟩ ∧ ∀ i r, rows[i]? = some r → CellsAt w b (o + i * k) r)
theorem SlAt.ext {w w' : World} {k : Nat} {v : Value} {rows : List (List Value)} (h : SlAt w k v rows) (e : Ext w w') : SlAt w' k v rows := by
  obtain ⟨a, cap, hv, hl, hc, h⟩ := h
  refine ⟨a, cap, hv, hl, hc, ?_⟩
  rcases h with h | ⟨b, o, ha, hc⟩
  · exact .inl h
  · exact .inr ⟨b, o, ha, fun i r hr => (hc i r hr).ext e⟩
theorem SlAt.nil (w : World) (k : Nat) (a : Option Addr) (cap : Nat) : SlAt w k (.slice a 0 cap) [] := ⟨a, cap, rfl, by simp, by simp, .inl rfl⟩
/-- Where there is an element the slice has an address. -/
theorem SlAt.at {w : World} {k : Nat} {a : Option Addr} {n cap : Nat} {rows : List (List Value)} (h : SlAt w k (.slice a n cap) rows) (hn : 0 < n) :
    ∃ b o, a = some ⟨b, o, none⟩ ∧ ∀ i r, rows[i]? = some r → CellsAt w b (o + i * k) r := by
  obtain ⟨a', cap', hv, _, _, h⟩ := h
  simp only [Value.slice.injEq] at hv
  obtain ⟨rfl, rfl, rfl⟩ := hv
  rcases h with rfl | h
  · simp at hn
  · exact h
theorem SlAt.le {w : World} {k : Nat} {v : Value} {rows : List (List Value)} (h : SlAt w k v rows) : rows.length ≤ 9223372036854775807 := let ⟨_, _, _, h, _⟩ := h; h
theorem SlAt.cap {w : World} {k : Nat} {a : Option Addr} {n c : Nat} {rows : List (List Value)} (h : SlAt w k (.slice a n c) rows) : n ≤ c ∧ rows.length = n := by
  obtain ⟨a', cap', hv, _, hc, _⟩ := h
  simp only [Value.slice.injEq] at hv
  obtain ⟨rfl, rfl, rfl⟩ := hv
  exact ⟨hc, rfl⟩
theorem SlAt.form {w : World} {k : Nat} {v : Value} {rows : List (List Value)} (h : SlAt w k v rows) : ∃ a cap, v = .slice a rows.length cap := let ⟨a, c, h, _⟩ := h; ⟨a, c, h⟩
def intV (x : Int) : List Value := [.int .i64 x]
def spanV (s : Int × Int) : List Value := [.int .i64 s.1, .int .i64 s.2]
def IntsAt (w : World) (v : Value) (l : List Int) : Prop := SlAt w 1 v (l.map intV)
def SpansAt (w : World) (v : Value) (l : List (Int × Int)) : Prop := SlAt w 2 v (l.map spanV)
theorem IntsAt.ext {w w' : World} {v : Value} {l : List Int} (h : IntsAt w v l) (e : Ext w w') : IntsAt w' v l := SlAt.ext h e
theorem SpansAt.ext {w w' : World} {v : Value} {l : List (Int × Int)} (h : SpansAt w v l) (e : Ext w w') : SpansAt w' v l := SlAt.ext h e
mutual
/-- The cells of an expression. -/
def ReAt (w : World) : Re → List Value → Prop
  | .mk k set args mn mx ng, vs => ∃ sa sc aa ac, vs = [.int .i64 k, .slice sa set.length sc, .slice aa args.length ac, .int .i64 mn, .int .i64 mx, .bool ng] ∧ SpansAt w (.slice sa set.length sc) set ∧ (args.length ≤ ac ∧ ac ≤ 9223372036854775807) ∧
      (args = [] ∨ ∃ b o, aa = some ⟨b, o, none⟩ ∧ ResAt w b o args)
/-- Expressions one behind the other. -/
def ResAt (w : World) (b : Nat) : Nat → List Re → Prop
  | _, [] => True
  | o, t :: ts => (∃ vs, CellsAt w b o vs ∧ ReAt w t vs) ∧ ResAt w b (o + 6) ts
end
mutual
theorem ReAt.ext {w w' : World} (e : Ext w w') : ∀ (t : Re) {vs : List Value}, ReAt w t vs → ReAt w' t vs
  | .mk k set args mn mx ng, vs, h => by
    simp only [ReAt] at h ⊢
    obtain ⟨sa, sc, aa, ac, hv, hs, hl, ha⟩ := h
    refine ⟨sa, sc, aa, ac, hv, hs.ext e, hl, ?_⟩
    rcases ha with h | ⟨b, o, h1, h2⟩
    · exact .inl h
    · exact .inr ⟨b, o, h1, ResAt.ext e args h2⟩
theorem ResAt.ext {w w' : World} (e : Ext w w') {b : Nat} : ∀ (ts : List Re) {o : Nat}, ResAt w b o ts → ResAt w' b o ts
  | [], _, _ => by simp only [ResAt]
  | t :: ts, o, h => by
    simp only [ResAt] at h ⊢
    obtain ⟨⟨vs, h1, h2⟩, h3⟩ := h
    exact ⟨⟨vs, h1.ext e, ReAt.ext e t h2⟩, ResAt.ext e ts h3⟩
end
theorem ResAt.get {w : World} {b : Nat} : ∀ {ts : List Re} {o i : Nat} {t : Re}, ResAt w b o ts → ts[i]? = some t → ∃ vs, CellsAt w b (o + i * 6) vs ∧ ReAt w t vs
  | [], _, _, _, _, h => by simp at h
  | x :: ts, o, 0, t, h, hi => by
    simp only [ResAt] at h
    simp at hi
    subst hi
    simpa using h.1
  | x :: ts, o, i + 1, t, h, hi => by
    simp only [ResAt] at h
    have := ResAt.get h.2 (i := i) (by simpa using hi)
    rwa [show o + (i + 1) * 6 = o + 6 + i * 6 from by omega]
theorem ResAt.mk {w : World} {b : Nat} : ∀ {ts : List Re} {o : Nat}, (∀ i t, ts[i]? = some t → ∃ vs, CellsAt w b (o + i * 6) vs ∧ ReAt w t vs) → ResAt w b o ts
  | [], _, _ => by simp only [ResAt]
  | x :: ts, o, h => by
    simp only [ResAt]
    refine ⟨by simpa using h 0 x rfl, ResAt.mk fun i t hi => ?_⟩
    have := h (i + 1) t (by simpa using hi)
    rwa [show o + (i + 1) * 6 = o + 6 + i * 6 from by omega] at this
/-- The form of an expression's value. -/
theorem ReAt.form {w : World} {t : Re} {vs : List Value} (h : ReAt w t vs) : ∃ sa sc aa ac, vs = [.int .i64 t.kind, .slice sa t.set.length sc, .slice aa t.args.length ac, .int .i64 t.mn, .int .i64 t.mx, .bool t.neg] ∧ SpansAt w (.slice sa t.set.length sc) t.set ∧ (t.args.length ≤ ac ∧ ac ≤ 9223372036854775807) ∧
    (t.args = [] ∨ ∃ b o, aa = some ⟨b, o, none⟩ ∧ ResAt w b o t.args) := by
  cases t; simp only [ReAt] at h; exact h
theorem ReAt.of {w : World} {k : Int} {set : List (Int × Int)} {args : List Re} {mn mx : Int} {ng : Bool} {sa aa : Option Addr} {sc ac : Nat} (hs : SpansAt w (.slice sa set.length sc) set) (hl : (args.length ≤ ac ∧ ac ≤ 9223372036854775807)) (ha : args = [] ∨ ∃ b o, aa = some ⟨b, o, none⟩ ∧ ResAt w b o args) :
    ReAt w (.mk k set args mn mx ng) [.int .i64 k, .slice sa set.length sc, .slice aa args.length ac, .int .i64 mn, .int .i64 mx, .bool ng] := by
  simp only [ReAt]; exact ⟨sa, sc, aa, ac, rfl, hs, hl, ha⟩
theorem ReAt.len {w : World} {t : Re} {vs : List Value} (h : ReAt w t vs) : vs.length = 6 := by
  obtain ⟨_, _, _, _, rfl, _⟩ := h.form; rfl
/-- A call of a function value. -/
def CallV (P : Program) (fv : Value) (args : Array Value) (w : World) (R : Value → World → Prop) : Prop :=
  ∃ f fn first cap, fv = .func (.func f) first cap ∧ P.funcs[f]? = some fn ∧ (fn.name == "runtime.NumGoroutine") = false ∧ fn.body.isNone = false ∧ Ret P f (first ++ args ++ cap) w R
theorem CallV.mk {P : Program} {f : FuncId} {fn : Func} {first cap args ws : Array Value} {w : World} {R : Value → World → Prop} (hf : P.funcs[f]? = some fn) (hn : (fn.name == "runtime.NumGoroutine") = false) (hb : fn.body.isNone = false) (hw : first ++ args ++ cap = ws) (h : Ret P f ws w R) :
    CallV P (.func (.func f) first cap) args w R := ⟨f, fn, first, cap, rfl, hf, hn, hb, hw ▸ h⟩
theorem CallV.mono {P : Program} {fv : Value} {args : Array Value} {w : World} {R R' : Value → World → Prop} (h : CallV P fv args w R) (hr : ∀ v w', R v w' → R' v w') : CallV P fv args w R' :=
  let ⟨f, fn, first, cap, h1, h2, h3, h4, h5⟩ := h; ⟨f, fn, first, cap, h1, h2, h3, h4, h5.mono hr⟩
theorem WpL_callV {P : Program} {N : Nat} {Q : Post} {σ : Env} {w : World} {K : Env → World → Prop} {ops : Array Oper} {rest : List Oper} {d : Nat} {z : Operand} {args : List Operand} {tys : Array TypeId} {ty : TypeId} {pos : String} {af : Array Edge} {fv : Value} {vs : List Value} {R : Value → World → Prop}
    (hN : d < N) (hz : ev σ z = fv) (ha : args.map (ev σ) = vs) (hc : CallV P fv vs.toArray w R) (k : ∀ v w', R v w' → WpL P N ops K Q rest (upd σ d v) w') :
    WpL P N ops K Q (⟨some d, .call ⟨.value z, args.toArray, tys⟩, ty, pos, af, none⟩ :: rest) σ w := by
  obtain ⟨f, fn, first, cap, rfl, hf, hn, hb, hr⟩ := hc
  exact WpL_enter rfl rfl hN (r_callV hz hf hn hb ha rfl) hr k
theorem int_eq {a b : Int} (h : a = b) : Value.int .i64 a = .int .i64 b := by rw [h]
theorem bool_eq {a b : Bool} (h : a = b) : Value.bool a = .bool b := by rw [h]
theorem ints_cells {w : World} {a : Option Addr} {n c : Nat} {l : List Int} (h : IntsAt w (.slice a n c) l) (hn : 0 < n) :
    ∃ b o, a = some ⟨b, o, none⟩ ∧ ∀ i x, l[i]? = some x → w.cell? ⟨b, o + i, none⟩ = some (.int .i64 x) := by
  obtain ⟨b, o, ha, h⟩ := SlAt.at h hn
  refine ⟨b, o, ha, fun i x hx => ?_⟩
  have := h i (intV x) (by simp [hx]) 0 _ rfl
  simpa using this
theorem get_of_lt {α : Type} {l : List α} {i : Nat} (h : i < l.length) : ∃ x, l[i]? = some x := ⟨_, List.getElem?_eq_getElem h⟩
theorem drop_cons {α : Type} {l : List α} {k : Nat} {x : α} (h : l[k]? = some x) : l.drop k = x :: l.drop (k + 1) := by
  have hlt := lt_of_get h
  rw [List.drop_eq_getElem_cons hlt]; rw [List.getElem?_eq_getElem hlt] at h; cases h; rfl
theorem slat_of_blk {w : World} {b t k cap : Nat} {rows : List (List Value)} (h : Blk w b rows.flatten.toArray t) (hk : ∀ r ∈ rows, r.length = k) (hl : rows.length ≤ 9223372036854775807) (hcap : rows.length ≤ cap) : SlAt w k (.slice (some ⟨b, 0, none⟩) rows.length cap) rows := by
  refine ⟨_, cap, rfl, hl, hcap, .inr ⟨b, 0, rfl, fun i r hr j u hu => ?_⟩⟩
  have hc : (rows.flatten)[i * k + j]? = some u := by
    clear h hl hcap
    induction rows generalizing i with
    | nil => simp at hr
    | cons x rs ih =>
      have hx : x.length = k := hk x (by simp)
      cases i with
      | zero =>
        simp at hr; subst hr
        have hj := lt_of_get hu
        simp only [List.flatten_cons, Nat.zero_mul, Nat.zero_add]
        rw [List.getElem?_append_left hj]; exact hu
      | succ i =>
        simp at hr
        simp only [List.flatten_cons]
        rw [List.getElem?_append_right (by rw [hx, Nat.succ_mul]; omega)]
        rw [show (i + 1) * k + j - x.length = i * k + j from by rw [hx, Nat.succ_mul]; omega]
        exact ih (fun r hr => hk r (by simp [hr])) _ hr
  rw [Nat.zero_add]
  exact h.cell (by simpa using hc)
theorem ints_of_blk {w : World} {b t cap : Nat} (l : List Int) (h : Blk w b (l.map intV).flatten.toArray t) (hl : l.length ≤ 9223372036854775807) (hcap : l.length ≤ cap) : IntsAt w (.slice (some ⟨b, 0, none⟩) l.length cap) l := by
  have := slat_of_blk (k := 1) (cap := cap) h (by intro r hr; simp only [List.mem_map] at hr; obtain ⟨x, _, rfl⟩ := hr; rfl) (by simpa using hl) (by simpa using hcap)
  simpa [IntsAt] using this
theorem ReAt.one {w : World} {t : Re} {vs : List Value} (h : ReAt w t vs) : ∀ u ∈ vs, u.oneCell' = true := by
  obtain ⟨_, _, _, _, rfl, _⟩ := h.form
  simp [Value.oneCell']
end Go.Eng
namespace Go.Proofs
open Go Go.Eng
structure Dfa where
  start : Int
  accept : List Int
  next : List (List Int)
/-- The symbols of the entries of a row, the first k symbols. -/
def idxsN (row : List Int) (k : Nat) : List Nat := (List.range k).filter fun c => decide (0 ≤ row.getD c (-1))
def idxs (row : List Int) : List Nat := idxsN row row.length
theorem mem_idxsN {row : List Int} {k c : Nat} (hk : k ≤ row.length) : c ∈ idxsN row k ↔ c < k ∧ ∃ x, row[c]? = some x ∧ 0 ≤ x := by
  unfold idxsN
  rw [List.mem_filter, List.mem_range, decide_eq_true_eq]
  constructor
  · rintro ⟨h1, h2⟩
    refine ⟨h1, row[c]'(by omega), List.getElem?_eq_getElem _, ?_⟩
    rwa [List.getD_eq_getElem?_getD, List.getElem?_eq_getElem (by omega), Option.getD_some] at h2
  · rintro ⟨h1, x, h2, h3⟩
    refine ⟨h1, ?_⟩
    rw [List.getD_eq_getElem?_getD, h2]; exact h3
theorem mem_idxs {row : List Int} {c : Nat} : c ∈ idxs row ↔ ∃ x, row[c]? = some x ∧ 0 ≤ x := by
  unfold idxs
  rw [mem_idxsN (Nat.le_refl _)]
  constructor
  · rintro ⟨_, h⟩; exact h
  · rintro ⟨x, h1, h2⟩; exact ⟨lt_of_get h1, x, h1, h2⟩
/-- Slots that hold the entries of a list. -/
structure Packed (rows : List (List Int)) (P : List (Nat × Nat)) (owner nxt : List Int) (bs : List Nat) : Prop where
  len : owner.length = nxt.length
  slot : ∀ i, i < owner.length → (owner[i]? = some (-1) ∧ nxt[i]? = some (-1)) ∨ ∃ s c b x row, (s, c) ∈ P ∧ bs[s]? = some b ∧ i = b + c ∧ owner[i]? = some (s : Int) ∧ rows[s]? = some row ∧ row[c]? = some x ∧ 0 ≤ x ∧ nxt[i]? = some x
  own : ∀ s c, (s, c) ∈ P → ∃ b, bs[s]? = some b ∧ owner[b + c]? = some (s : Int)
  count : owner.countP (fun o => decide (0 ≤ o)) = P.length
theorem Packed.nil (rows : List (List Int)) (bs : List Nat) : Packed rows [] [] [] bs :=
  ⟨rfl, fun i h => by simp at h, fun s c h => by simp at h, rfl⟩
theorem Packed.put {rows : List (List Int)} {P : List (Nat × Nat)} {owner nxt : List Int} {bs : List Nat} (h : Packed rows P owner nxt bs) {s c b : Nat} {row : List Int} {x : Int} (hb : bs[s]? = some b) (hi : owner[b + c]? = some (-1)) (hrow : rows[s]? = some row) (hx : row[c]? = some x) (h0 : 0 ≤ x) :
    Packed rows (P ++ [(s, c)]) (owner.set (b + c) (s : Int)) (nxt.set (b + c) x) bs := by
  have hlt := lt_of_get hi
  refine ⟨by simp [h.len], fun i hi2 => ?_, fun s' c' hs => ?_, ?_⟩
  · by_cases he : i = b + c
    · subst he
      right
      refine ⟨s, c, b, x, row, by simp, hb, rfl, List.getElem?_set_self hlt, hrow, hx, h0, List.getElem?_set_self (by rw [← h.len]; exact hlt)⟩
    · rw [List.getElem?_set_ne (by omega), List.getElem?_set_ne (by omega)]
      rcases h.slot i (by simpa using hi2) with h1 | ⟨s', c', b', x', row', h1, h2⟩
      · exact .inl h1
      · exact .inr ⟨s', c', b', x', row', by simp [h1], h2⟩
  · rcases List.mem_append.1 hs with hs | hs
    · obtain ⟨b', h1, h2⟩ := h.own s' c' hs
      refine ⟨b', h1, ?_⟩
      rw [List.getElem?_set_ne]
      · exact h2
      · intro he
        rw [← he, hi] at h2
        simp at h2
    · simp at hs
      obtain ⟨rfl, rfl⟩ := hs
      exact ⟨b, hb, List.getElem?_set_self hlt⟩
  · have h1 : owner = owner.take (b + c) ++ (-1) :: owner.drop (b + c + 1) := by rw [← drop_cons hi, List.take_append_drop]
    have h2 : owner.set (b + c) (s : Int) = owner.take (b + c) ++ (s : Int) :: owner.drop (b + c + 1) := List.set_eq_take_append_cons_drop.trans (if_pos hlt)
    have h3 := h.count
    rw [h1, List.countP_append, List.countP_cons] at h3
    rw [h2, List.countP_append, List.countP_cons, List.length_append]
    simp at h3 ⊢
    omega
theorem Packed.base {rows : List (List Int)} {P : List (Nat × Nat)} {owner nxt : List Int} {bs : List Nat} (h : Packed rows P owner nxt bs) {s : Nat} (hs : ∀ c, (s, c) ∉ P) (b : Nat) : Packed rows P owner nxt (bs.set s b) := by
  refine ⟨h.len, fun i hi => ?_, fun s' c hc => ?_, h.count⟩
  · rcases h.slot i hi with h1 | ⟨s', c', b', x', row', h1, h2, h3⟩
    · exact .inl h1
    · exact .inr ⟨s', c', b', x', row', h1, by rw [List.getElem?_set_ne (fun he => hs c' (by rw [he]; exact h1))]; exact h2, h3⟩
  · obtain ⟨b', h1, h2⟩ := h.own s' c hc
    exact ⟨b', by rw [List.getElem?_set_ne (fun he => hs c (by rw [he]; exact hc))]; exact h1, h2⟩
def rowF (rows : List (List Int)) (s : Nat) : List (Nat × Nat) := (idxs (rows.getD s [])).map fun c => (s, c)
def allF (rows : List (List Int)) (order : List Nat) : List (Nat × Nat) := order.flatMap (rowF rows)
theorem mem_rowF {rows : List (List Int)} {s s' c : Nat} : (s', c) ∈ rowF rows s ↔ s' = s ∧ c ∈ idxs (rows.getD s []) := by
  unfold rowF
  rw [List.mem_map]
  constructor
  · rintro ⟨c', h, he⟩; simp at he; obtain ⟨rfl, rfl⟩ := he; exact ⟨rfl, h⟩
  · rintro ⟨rfl, h⟩; exact ⟨c, h, rfl⟩
theorem mem_allF {rows : List (List Int)} {order : List Nat} {s c : Nat} : (s, c) ∈ allF rows order ↔ s ∈ order ∧ c ∈ idxs (rows.getD s []) := by
  unfold allF
  rw [List.mem_flatMap]
  constructor
  · rintro ⟨s', h, h2⟩; rw [mem_rowF] at h2; obtain ⟨rfl, h2⟩ := h2; exact ⟨h, h2⟩
  · rintro ⟨h, h2⟩; exact ⟨s, h, mem_rowF.2 ⟨rfl, h2⟩⟩
/-- What is read out of a table. -/
def atT (owner nxt : List Int) (bs : List Nat) (s c : Nat) : Int :=
  match bs[s]? with
  | some b => if owner[b + c]? = some (s : Int) then nxt.getD (b + c) (-1) else -1
  | none => -1
theorem Packed.at {rows : List (List Int)} {order : List Nat} {owner nxt : List Int} {bs : List Nat} (h : Packed rows (allF rows order) owner nxt bs) {s c : Nat} {row : List Int} {x : Int} (hrow : rows[s]? = some row) (hx : row[c]? = some x) (hx1 : -1 ≤ x) (hall : s ∈ order) (hbs : s < bs.length) : atT owner nxt bs s c = x := by
  have hg : rows.getD s [] = row := by rw [List.getD_eq_getElem?_getD, hrow]; rfl
  have key : ∀ b, bs[s]? = some b → owner[b + c]? = some (s : Int) → nxt[b + c]? = some x ∧ 0 ≤ x := by
    intro b hb ho
    rcases h.slot (b + c) (lt_of_get ho) with ⟨h1, _⟩ | ⟨s', c', b', x', row', h1, h2, h3, h4, h5, h6, h7, h8⟩
    · rw [h1] at ho; simp at ho
    · rw [h4] at ho
      have hss : s' = s := by simp at ho; omega
      subst hss
      rw [hb] at h2; cases h2
      have : c' = c := by omega
      subst this
      rw [hrow] at h5; cases h5
      rw [hx] at h6; cases h6
      exact ⟨h8, h7⟩
  unfold atT
  rw [List.getElem?_eq_getElem hbs]
  simp only
  by_cases h0 : 0 ≤ x
  · obtain ⟨b, hb, ho⟩ := h.own s c (mem_allF.2 ⟨hall, by rw [hg]; exact mem_idxs.2 ⟨x, hx, h0⟩⟩)
    rw [List.getElem?_eq_getElem hbs] at hb
    have hb2 : bs[s] = b := by simpa using hb
    rw [hb2, if_pos ho, List.getD_eq_getElem?_getD, (key b (by rw [List.getElem?_eq_getElem hbs, hb2]) ho).1]
    rfl
  · rw [if_neg]
    · omega
    · intro ho
      exact h0 (key _ (List.getElem?_eq_getElem hbs) ho).2
end Go.Proofs
namespace Go.Proofs
open Go Go.Eng
--BEGIN
def toD (d : Dfa) (s : Int) (x : Nat) : Int := if s < 0 then -1 else (d.next.getD s.toNat []).getD x (-1)
def atD (d : Dfa) (s : Int) : Int := if s < 0 then -1 else d.accept.getD s.toNat (-1)
def beh (d : Dfa) (s : Int) : List Nat → Int
  | [] => atD d s
  | x :: w => beh d (toD d s x) w
def inW (c : Nat) (w : List Nat) : Prop := ∀ x ∈ w, x < c
theorem inW.tail {c x : Nat} {w : List Nat} (h : inW c (x :: w)) : inW c w := fun y hy => h y (List.mem_cons_of_mem _ hy)
theorem inW.head {c x : Nat} {w : List Nat} (h : inW c (x :: w)) : x < c := h x List.mem_cons_self
theorem inW.cons {c x : Nat} {w : List Nat} (hx : x < c) (h : inW c w) : inW c (x :: w) := fun y hy => by
  rcases List.mem_cons.1 hy with rfl | h1
  · exact hx
  · exact h y h1
theorem inW.nil (c : Nat) : inW c [] := fun x h => by cases h
structure OkD (n c : Nat) (d : Dfa) : Prop where
  nl : d.next.length = n
  al : d.accept.length = n
  st : 0 ≤ d.start ∧ d.start < n
  acc : ∀ x ∈ d.accept, -1 ≤ x
  row : ∀ r ∈ d.next, r.length = c ∧ ∀ x ∈ r, -1 ≤ x ∧ x < n
def liveD (c : Nat) (d : Dfa) (s : Int) : Prop := ∃ w, inW c w ∧ 0 ≤ beh d s w
def eqvD (c : Nat) (d : Dfa) (s t : Int) : Prop := ∀ w, inW c w → beh d s w = beh d t w
theorem toD_neg {d : Dfa} {s : Int} (h : s < 0) (x : Nat) : toD d s x = -1 := by unfold toD; rw [if_pos h]
theorem beh_neg {d : Dfa} : ∀ {w : List Nat} {s : Int}, s < 0 → beh d s w = -1
  | [], s, h => by unfold beh atD; rw [if_pos h]
  | x :: w, s, h => by unfold beh; rw [toD_neg h]; exact beh_neg (by decide)
theorem toD_get {d : Dfa} {s x : Nat} {r : List Int} {t : Int} (h : d.next[s]? = some r) (ht : r[x]? = some t) : toD d ((s : Nat) : Int) x = t := by
  unfold toD
  rw [if_neg (by omega), Int.toNat_natCast, List.getD_eq_getElem?_getD, List.getD_eq_getElem?_getD, h, Option.getD_some, ht, Option.getD_some]
theorem atD_get {d : Dfa} {s : Nat} {t : Int} (h : d.accept[s]? = some t) : atD d ((s : Nat) : Int) = t := by
  unfold atD
  rw [if_neg (by omega), Int.toNat_natCast, List.getD_eq_getElem?_getD, h, Option.getD_some]
theorem OkD.to {n c : Nat} {d : Dfa} (h : OkD n c d) {s : Int} {x : Nat} : -1 ≤ toD d s x ∧ toD d s x < n := by
  have hn := h.st
  unfold toD
  split
  · omega
  · rw [List.getD_eq_getElem?_getD, List.getD_eq_getElem?_getD]
    cases h1 : d.next[s.toNat]? with
    | none => simp; omega
    | some r =>
      simp only [Option.getD_some]
      cases h2 : r[x]? with
      | none => simp; omega
      | some t => exact (h.row r (List.mem_of_getElem? h1)).2 t (List.mem_of_getElem? h2)
theorem OkD.at' {n c : Nat} {d : Dfa} (h : OkD n c d) {s : Int} : -1 ≤ atD d s := by
  unfold atD
  split
  · omega
  · rw [List.getD_eq_getElem?_getD]
    cases h1 : d.accept[s.toNat]? with
    | none => simp
    | some t => exact h.acc t (List.mem_of_getElem? h1)
theorem OkD.beh {n c : Nat} {d : Dfa} (h : OkD n c d) : ∀ {w : List Nat} {s : Int}, -1 ≤ beh d s w
  | [], _ => h.at'
  | _ :: w, _ => OkD.beh h (w := w)
theorem OkD.dead {n c : Nat} {d : Dfa} (h : OkD n c d) {s : Int} (hl : ¬ liveD c d s) {w : List Nat} (hw : inW c w) : Go.Proofs.beh d s w = -1 := by
  have h1 := h.beh (w := w) (s := s)
  rcases Int.lt_or_le (Go.Proofs.beh d s w) 0 with h2 | h2
  · omega
  · exact absurd ⟨w, hw, h2⟩ hl
theorem live_to {c x : Nat} {d : Dfa} {s : Int} (h : liveD c d (toD d s x)) (hx : x < c) : liveD c d s := by
  obtain ⟨w, hw, h1⟩ := h
  exact ⟨x :: w, inW.cons hx hw, h1⟩
theorem not_live_neg {c : Nat} {d : Dfa} {s : Int} (h : s < 0) : ¬ liveD c d s := fun ⟨w, _, h1⟩ => by rw [beh_neg h] at h1; omega
theorem eqvD.to {c x : Nat} {d : Dfa} {s t : Int} (h : eqvD c d s t) (hx : x < c) : eqvD c d (toD d s x) (toD d t x) := fun w hw => h (x :: w) (inW.cons hx hw)
theorem eqvD.live {c : Nat} {d : Dfa} {s t : Int} (h : eqvD c d s t) (hl : liveD c d s) : liveD c d t := by
  obtain ⟨w, hw, h1⟩ := hl
  exact ⟨w, hw, by rw [← h w hw]; exact h1⟩
theorem flat_get {c : Nat} : ∀ {L : List (List Int)} {i x : Nat} {r : List Int}, (∀ r ∈ L, r.length = c) → L[i]? = some r → x < c → L.flatten[i * c + x]? = r[x]?
  | [], _, _, _, _, h, _ => by simp at h
  | q :: L, 0, x, r, h, hi, hx => by
    simp at hi
    subst hi
    rw [List.flatten_cons, Nat.zero_mul, Nat.zero_add, List.getElem?_append_left (by rw [h q List.mem_cons_self]; exact hx)]
  | q :: L, i + 1, x, r, h, hi, hx => by
    have hq := h q List.mem_cons_self
    rw [List.flatten_cons, List.getElem?_append_right (by rw [hq, Nat.add_mul]; omega), hq, show (i + 1) * c + x - c = i * c + x by rw [Nat.add_mul]; omega]
    exact flat_get (fun r hr => h r (List.mem_cons_of_mem _ hr)) (by simpa using hi) hx
theorem flat_len {c : Nat} : ∀ {L : List (List Int)}, (∀ r ∈ L, r.length = c) → L.flatten.length = L.length * c
  | [], _ => by simp
  | q :: L, h => by
    rw [List.flatten_cons, List.length_append, h q List.mem_cons_self, flat_len fun r hr => h r (List.mem_cons_of_mem _ hr), List.length_cons, Nat.add_mul]; omega
def mxL (l : List Int) : Int := l.foldl max 0
theorem mxL_snoc (l : List Int) (x : Int) : mxL (l ++ [x]) = max (mxL l) x := by unfold mxL; rw [List.foldl_append]; rfl
theorem mxL_le : ∀ (m : List Int) (z : Int), z ≤ m.foldl max z
  | [], _ => Int.le_refl _
  | x :: m, z => by
    have := mxL_le m (max z x)
    simp only [List.foldl_cons]
    omega
theorem mxL_mono {l : List Int} (m : List Int) : mxL l ≤ mxL (l ++ m) := by
  unfold mxL
  rw [List.foldl_append]
  exact mxL_le m _
theorem mxL_nn (l : List Int) : 0 ≤ mxL l := by
  have := mxL_mono (l := []) l
  simpa [mxL] using this
theorem mxL_take {l : List Int} {i j : Nat} (h : i ≤ j) : mxL (l.take i) ≤ mxL (l.take j) := by
  have e : l.take j = l.take i ++ (l.take j).drop i := by
    have := List.take_append_drop i (l.take j)
    rw [List.take_take, Nat.min_eq_left h] at this
    exact this.symm
  rw [e]
  exact mxL_mono _
/-- An automaton whose states are numbered in the order in which they are met. -/
structure Bfs (n c : Nat) (C : Dfa) : Prop where
  ok : OkD n c C
  st : C.start = 0
  ord : ∀ (k : Nat) (x : Int), C.next.flatten[k]? = some x → x ≤ mxL (C.next.flatten.take k) + 1
  rch : ∀ i : Nat, i < n → ((i : Nat) : Int) ≤ mxL (C.next.flatten.take (i * c))
  fin : mxL C.next.flatten = n - 1
/-- The canonical automaton of a behaviour. -/
def CanOf (c : Nat) (f : List Nat → Int) (C : Dfa) : Prop := ∃ m, Bfs m c C ∧ (∀ w, inW c w → beh C 0 w = f w) ∧ (∀ s t : Int, 0 ≤ s → s < m → 0 ≤ t → t < m → eqvD c C s t → s = t) ∧ ∀ (s : Int) (x : Nat), x < c → 0 ≤ toD C s x → liveD c C (toD C s x)
theorem ent_to {n c i x : Nat} {C : Dfa} (h : OkD n c C) (hi : i < n) (hx : x < c) : C.next.flatten[i * c + x]? = some (toD C ((i : Nat) : Int) x) := by
  have hr : C.next[i]? = some (C.next[i]'(by rw [h.nl]; exact hi)) := List.getElem?_eq_getElem _
  have hrow := h.row _ (List.mem_of_getElem? hr)
  rw [flat_get (fun r hr => (h.row r hr).1) hr hx]
  have ht : (C.next[i]'(by rw [h.nl]; exact hi))[x]? = some ((C.next[i]'(by rw [h.nl]; exact hi))[x]'(by rw [hrow.1]; exact hx)) := List.getElem?_eq_getElem _
  rw [ht, toD_get hr ht]
theorem take_get_snoc {l : List Int} {k : Nat} {x : Int} (h : l[k]? = some x) : l.take (k + 1) = l.take k ++ [x] := by rw [List.take_add_one, h]; rfl
theorem CanOf.steps {c n m : Nat} {A B : Dfa} (hA : Bfs n c A) (hB : Bfs m c B) (h0 : ∀ w, inW c w → beh A 0 w = beh B 0 w)
    (rA : ∀ s t : Int, 0 ≤ s → s < n → 0 ≤ t → t < n → eqvD c A s t → s = t) (rB : ∀ s t : Int, 0 ≤ s → s < m → 0 ≤ t → t < m → eqvD c B s t → s = t)
    (lA : ∀ (s : Int) (x : Nat), x < c → 0 ≤ toD A s x → liveD c A (toD A s x)) (lB : ∀ (s : Int) (x : Nat), x < c → 0 ≤ toD B s x → liveD c B (toD B s x)) :
    ∀ k, k ≤ n * c → k ≤ m * c → A.next.flatten.take k = B.next.flatten.take k ∧ ∀ j : Int, 0 ≤ j → j ≤ mxL (A.next.flatten.take k) → ∀ w, inW c w → beh A j w = beh B j w := by
  intro k
  induction k with
  | zero =>
    intro _ _
    refine ⟨by simp, fun j h1 h2 w hw => ?_⟩
    have : j = 0 := by simp [mxL] at h2; omega
    rw [this]; exact h0 w hw
  | succ k ih =>
    intro hn hm
    obtain ⟨e1, e2⟩ := ih (by omega) (by omega)
    have hc : 0 < c := by
      rcases Nat.eq_zero_or_pos c with h | h
      · subst h; omega
      · exact h
    obtain ⟨i, x, rfl, hx⟩ : ∃ i x, k = i * c + x ∧ x < c := ⟨k / c, k % c, by rw [Nat.mul_comm]; exact (Nat.div_add_mod k c).symm, Nat.mod_lt _ hc⟩
    have hin : i < n := by
      apply Classical.byContradiction
      intro h
      have : n * c ≤ i * c := Nat.mul_le_mul_right c (by omega)
      omega
    have him : i < m := by
      apply Classical.byContradiction
      intro h
      have : m * c ≤ i * c := Nat.mul_le_mul_right c (by omega)
      omega
    have hi := hA.rch i hin
    have hmono : mxL (A.next.flatten.take (i * c)) ≤ mxL (A.next.flatten.take (i * c + x)) := mxL_take (by omega)
    have hbi := e2 ((i : Nat) : Int) (by omega) (by omega)
    have a1 := ent_to hA.ok hin hx
    have b1 := ent_to hB.ok him hx
    obtain ⟨s, hs⟩ : ∃ s, toD A ((i : Nat) : Int) x = s := ⟨_, rfl⟩
    obtain ⟨t, ht⟩ : ∃ t, toD B ((i : Nat) : Int) x = t := ⟨_, rfl⟩
    rw [hs] at a1
    rw [ht] at b1
    have hbeh : ∀ w, inW c w → beh A s w = beh B t w := fun w hw => by
      have := hbi (x :: w) (inW.cons hx hw)
      simp only [beh, hs, ht] at this
      exact this
    have oA := hA.ord _ _ a1
    have oB := hB.ord _ _ b1
    rw [← e1] at oB
    have bA := hA.ok.to (s := ((i : Nat) : Int)) (x := x)
    have bB := hB.ok.to (s := ((i : Nat) : Int)) (x := x)
    rw [hs] at bA
    rw [ht] at bB
    have hst : s = t := by
      rcases Int.lt_or_le s 0 with h1 | h1
      · rcases Int.lt_or_le t 0 with h2 | h2
        · omega
        · exfalso
          have := lB ((i : Nat) : Int) x hx (by rw [ht]; exact h2)
          rw [ht] at this
          obtain ⟨w, hw, h3⟩ := this
          rw [← hbeh w hw, beh_neg h1] at h3
          omega
      · rcases Int.lt_or_le t 0 with h2 | h2
        · exfalso
          have := lA ((i : Nat) : Int) x hx (by rw [hs]; exact h1)
          rw [hs] at this
          obtain ⟨w, hw, h3⟩ := this
          rw [hbeh w hw, beh_neg h2] at h3
          omega
        · rcases Int.lt_or_le (mxL (A.next.flatten.take (i * c + x))) s with h3 | h3
          · rcases Int.lt_or_le (mxL (A.next.flatten.take (i * c + x))) t with h4 | h4
            · omega
            · -- B's is old: then A's is the same old one
              have h5 : ∀ w, inW c w → beh A s w = beh A t w := fun w hw => (hbeh w hw).trans (e2 t h2 h4 w hw).symm
              have h6 : mxL (A.next.flatten.take (i * c + x)) ≤ n - 1 := by
                rw [← hA.fin]
                have := mxL_take (l := A.next.flatten) (i := i * c + x) (j := max (i * c + x) A.next.flatten.length) (by omega)
                rwa [List.take_of_length_le (show A.next.flatten.length ≤ max (i * c + x) A.next.flatten.length by omega)] at this
              exact rA s t h1 bA.2 h2 (by omega) h5
          · have h5 : ∀ w, inW c w → beh B t w = beh B s w := fun w hw => (hbeh w hw).symm.trans (e2 s h1 h3 w hw)
            have h6 : mxL (A.next.flatten.take (i * c + x)) ≤ m - 1 := by
              rw [← hB.fin, e1]
              have := mxL_take (l := B.next.flatten) (i := i * c + x) (j := max (i * c + x) B.next.flatten.length) (by omega)
              rwa [List.take_of_length_le (show B.next.flatten.length ≤ max (i * c + x) B.next.flatten.length by omega)] at this
            exact (rB t s h2 bB.2 h1 (by omega) h5).symm
    subst hst
    refine ⟨by rw [take_get_snoc a1, take_get_snoc b1, e1], fun j h1 h2 w hw => ?_⟩
    rw [take_get_snoc a1, mxL_snoc] at h2
    rcases Int.lt_or_le (mxL (A.next.flatten.take (i * c + x))) j with h3 | h3
    · have : j = s := by omega
      rw [this]; exact hbeh w hw
    · exact e2 j h1 h3 w hw
theorem rows_eq {c : Nat} : ∀ {L M : List (List Int)}, (∀ r ∈ L, r.length = c) → (∀ r ∈ M, r.length = c) → L.length = M.length → L.flatten = M.flatten → L = M
  | [], [], _, _, _, _ => rfl
  | [], _ :: _, _, _, h, _ => by cases h
  | _ :: _, [], _, _, h, _ => by cases h
  | q :: L, r :: M, h1, h2, h3, h4 => by
    rw [List.flatten_cons, List.flatten_cons] at h4
    obtain ⟨e1, e2⟩ := List.append_inj h4 (by rw [h1 q List.mem_cons_self, h2 r List.mem_cons_self])
    rw [e1, rows_eq (fun x hx => h1 x (List.mem_cons_of_mem _ hx)) (fun x hx => h2 x (List.mem_cons_of_mem _ hx)) (by simpa using h3) e2]
theorem CanOf.uniq {c : Nat} {f g : List Nat → Int} {A B : Dfa} (hA : CanOf c f A) (hB : CanOf c g B) (hfg : ∀ w, inW c w → f w = g w) : A = B := by
  obtain ⟨n, bA, fA, rA, lA⟩ := hA
  obtain ⟨m, bB, fB, rB, lB⟩ := hB
  have h0 : ∀ w, inW c w → beh A 0 w = beh B 0 w := fun w hw => by rw [fA w hw, fB w hw, hfg w hw]
  have key := CanOf.steps bA bB h0 rA rB lA lB
  have lenA := flat_len (L := A.next) (c := c) fun r hr => (bA.ok.row r hr).1
  have lenB := flat_len (L := B.next) (c := c) fun r hr => (bB.ok.row r hr).1
  rw [bA.ok.nl] at lenA
  rw [bB.ok.nl] at lenB
  have nA := bA.ok.st
  have nB := bB.ok.st
  have hnm : n = m := by
    rcases Nat.lt_trichotomy n m with h | h | h
    · exfalso
      have h1 := (key (n * c) (Nat.le_refl _) (Nat.mul_le_mul_right c (by omega))).1
      have h2 := bB.rch n h
      rw [← h1, List.take_of_length_le (by omega), bA.fin] at h2
      omega
    · exact h
    · exfalso
      have h1 := (key (m * c) (Nat.mul_le_mul_right c (by omega)) (Nat.le_refl _)).1
      have h2 := bA.rch m h
      rw [h1, List.take_of_length_le (by omega), bB.fin] at h2
      omega
  subst hnm
  obtain ⟨e1, e2⟩ := key (n * c) (Nat.le_refl _) (Nat.le_refl _)
  rw [List.take_of_length_le (by omega), List.take_of_length_le (by omega)] at e1
  rw [List.take_of_length_le (by omega), bA.fin] at e2
  have e3 := rows_eq (c := c) (fun r hr => (bA.ok.row r hr).1) (fun r hr => (bB.ok.row r hr).1) (by rw [bA.ok.nl, bB.ok.nl]) e1
  have e4 : A.accept = B.accept := by
    apply List.ext_getElem (by rw [bA.ok.al, bB.ok.al])
    intro i h1 h2
    have h3 := e2 ((i : Nat) : Int) (by omega) (by have := bA.ok.al; omega) [] (inW.nil c)
    simp only [beh] at h3
    rwa [atD_get (List.getElem?_eq_getElem h1), atD_get (List.getElem?_eq_getElem h2)] at h3
  have e5 : A.start = B.start := by rw [bA.st, bB.st]
  cases A; cases B; simp only at e3 e4 e5; rw [e3, e4, e5]
/-- What is made of representatives is canonical. -/
theorem canOf_states {n m c : Nat} {d C : Dfa} {st : List Int} (ok : OkD n c d) (b : Bfs m c C) (hl : st.length = m) (h0 : st[0]? = some d.start)
    (hinj : ∀ (i j : Nat) s t, st[i]? = some s → st[j]? = some t → eqvD c d s t → i = j)
    (hacc : ∀ (i : Nat) s, st[i]? = some s → atD C ((i : Nat) : Int) = atD d s)
    (hnext : ∀ (i x : Nat) s, st[i]? = some s → x < c → (toD C ((i : Nat) : Int) x = -1 ∧ ¬ liveD c d (toD d s x)) ∨ ∃ (j : Nat) (t : Int), toD C ((i : Nat) : Int) x = ((j : Nat) : Int) ∧ st[j]? = some t ∧ eqvD c d t (toD d s x) ∧ liveD c d t) : CanOf c (beh d d.start) C := by
  have hb : ∀ (w : List Nat) (i : Nat) s, inW c w → st[i]? = some s → beh C ((i : Nat) : Int) w = beh d s w := by
    intro w
    induction w with
    | nil => exact fun i s _ hs => hacc i s hs
    | cons x w ih =>
      intro i s hw hs
      simp only [beh]
      rcases hnext i x s hs hw.head with ⟨h1, h2⟩ | ⟨j, t, h1, h2, h3, _⟩
      · rw [h1, beh_neg (by decide), ok.dead h2 hw.tail]
      · rw [h1, ih j t hw.tail h2, h3 w hw.tail]
  have hget : ∀ s : Int, 0 ≤ s → s < m → ∃ (i : Nat) (t : Int), s = ((i : Nat) : Int) ∧ st[i]? = some t := fun s h1 h2 => by
    obtain ⟨i, rfl⟩ := Int.eq_ofNat_of_zero_le h1
    exact ⟨i, st[i]'(by omega), rfl, List.getElem?_eq_getElem _⟩
  refine ⟨m, b, fun w hw => hb w 0 d.start hw h0, ?_, ?_⟩
  · intro s t s0 s1 t0 t1 he
    obtain ⟨i, p, rfl, hp⟩ := hget s s0 s1
    obtain ⟨j, q, rfl, hq⟩ := hget t t0 t1
    have := hinj i j p q hp hq fun w hw => by rw [← hb w i p hw hp, ← hb w j q hw hq]; exact he w hw
    omega
  · intro s x hx h1
    rcases Int.lt_or_le s 0 with h2 | h2
    · rw [toD_neg h2] at h1; omega
    · rcases Int.lt_or_le s m with h3 | h3
      · obtain ⟨i, p, rfl, hp⟩ := hget s h2 h3
        rcases hnext i x p hp hx with ⟨h4, _⟩ | ⟨j, t, h4, h5, _, w, hw, h7⟩
        · omega
        · exact ⟨w, hw, by rw [h4, hb w j t hw h5]; exact h7⟩
      · exfalso
        unfold toD at h1
        have e : C.next[s.toNat]? = none := List.getElem?_eq_none (by rw [b.ok.nl]; omega)
        rw [if_neg (by omega)] at h1
        simp [List.getD_eq_getElem?_getD, e] at h1
--END
end Go.Proofs
namespace Go.Proofs
open Go Go.Eng Go.Sort
--BEGIN
theorem nodup_leN : ∀ {l m : List Nat}, l.Nodup → (∀ x ∈ l, x ∈ m) → l.length ≤ m.length
  | [], _, _, _ => Nat.zero_le _
  | x :: l, m, hd, h => by
    have hd' := List.nodup_cons.1 hd
    have hx := h x List.mem_cons_self
    have h1 := nodup_leN (l := l) (m := m.erase x) hd'.2 fun y hy => (List.mem_erase_of_ne (show y ≠ x from fun e => hd'.1 (by rw [← e]; exact hy))).2 (h y (List.mem_cons_of_mem _ hy))
    rw [List.length_erase_of_mem hx] at h1
    have := List.length_pos_of_mem hx
    simp only [List.length_cons]
    omega
/-- States numbered by their keys (none: a state without a key), the numbers in the order of the keys' first place. -/
structure Num (keys : List (Option (List Int))) (ks : List (List Int)) (out : List Int) : Prop where
  len : out.length = keys.length
  nd : ks.Nodup
  non : ∀ (s : Nat), keys[s]? = some none → out[s]? = some (-1)
  som : ∀ (s : Nat) k, keys[s]? = some (some k) → ∃ j : Nat, out[s]? = some ((j : Nat) : Int) ∧ ks[j]? = some k
  all : ∀ k ∈ ks, some k ∈ keys
theorem Num.start : Num [] [] [] := ⟨rfl, List.nodup_nil, fun s h => by simp at h, fun s k h => by simp at h, fun k h => by cases h⟩
theorem snoc_get {α : Type} {l : List α} {a x : α} {i : Nat} (h : (l ++ [a])[i]? = some x) : l[i]? = some x ∨ (i = l.length ∧ x = a) := by
  rcases Nat.lt_or_ge i l.length with h1 | h1
  · left; rwa [List.getElem?_append_left h1] at h
  · right
    rw [List.getElem?_append_right h1] at h
    have h2 := lt_of_get h
    simp at h2
    rw [show i - l.length = 0 by omega] at h
    simp at h
    exact ⟨by omega, h.symm⟩
theorem Num.none {keys : List (Option (List Int))} {ks : List (List Int)} {out : List Int} (h : Num keys ks out) : Num (keys ++ [Option.none]) ks (out ++ [-1]) := by
  refine ⟨by simp [h.len], h.nd, fun s hs => ?_, fun s k hs => ?_, fun k hk => List.mem_append_left _ (h.all k hk)⟩
  · rcases snoc_get hs with h1 | ⟨h1, _⟩
    · have := h.non s h1
      rwa [List.getElem?_append_left (lt_of_get this)]
    · rw [h1, List.getElem?_append_right (by rw [h.len]; exact Nat.le_refl _), h.len, Nat.sub_self]; rfl
  · rcases snoc_get hs with h1 | ⟨_, h2⟩
    · obtain ⟨j, h3, h4⟩ := h.som s k h1
      exact ⟨j, by rw [List.getElem?_append_left (lt_of_get h3)]; exact h3, h4⟩
    · cases h2
theorem Num.hit {keys : List (Option (List Int))} {ks : List (List Int)} {out : List Int} {k : List Int} {j : Nat} (h : Num keys ks out) (hj : ks[j]? = some k) : Num (keys ++ [some k]) ks (out ++ [((j : Nat) : Int)]) := by
  refine ⟨by simp [h.len], h.nd, fun s hs => ?_, fun s q hs => ?_, fun q hq => List.mem_append_left _ (h.all q hq)⟩
  · rcases snoc_get hs with h1 | ⟨_, h2⟩
    · have := h.non s h1
      rwa [List.getElem?_append_left (lt_of_get this)]
    · cases h2
  · rcases snoc_get hs with h1 | ⟨h1, h2⟩
    · obtain ⟨i, h3, h4⟩ := h.som s q h1
      exact ⟨i, by rw [List.getElem?_append_left (lt_of_get h3)]; exact h3, h4⟩
    · cases h2
      exact ⟨j, by rw [h1, List.getElem?_append_right (by rw [h.len]; exact Nat.le_refl _), h.len, Nat.sub_self]; rfl, hj⟩
theorem Num.new {keys : List (Option (List Int))} {ks : List (List Int)} {out : List Int} {k : List Int} (h : Num keys ks out) (hk : k ∉ ks) : Num (keys ++ [some k]) (ks ++ [k]) (out ++ [((ks.length : Nat) : Int)]) := by
  refine ⟨by simp [h.len], ?_, fun s hs => ?_, fun s q hs => ?_, fun q hq => ?_⟩
  · rw [List.nodup_append]
    exact ⟨h.nd, by simp, fun a ha b hb => by rw [List.mem_singleton] at hb; subst hb; exact fun e => hk (e ▸ ha)⟩
  · rcases snoc_get hs with h1 | ⟨_, h2⟩
    · have := h.non s h1
      rwa [List.getElem?_append_left (lt_of_get this)]
    · cases h2
  · rcases snoc_get hs with h1 | ⟨h1, h2⟩
    · obtain ⟨i, h3, h4⟩ := h.som s q h1
      exact ⟨i, by rw [List.getElem?_append_left (lt_of_get h3)]; exact h3, by rw [List.getElem?_append_left (lt_of_get h4)]; exact h4⟩
    · cases h2
      exact ⟨ks.length, by rw [h1, List.getElem?_append_right (by rw [h.len]; exact Nat.le_refl _), h.len, Nat.sub_self]; rfl, by simp⟩
  · rcases List.mem_append.1 hq with h1 | h1
    · exact List.mem_append_left _ (h.all q h1)
    · rw [List.mem_singleton] at h1; subst h1; simp
theorem Num.eq_iff {keys : List (Option (List Int))} {ks : List (List Int)} {out : List Int} (h : Num keys ks out) {s t : Nat} {k q : List Int} (hs : keys[s]? = some (some k)) (ht : keys[t]? = some (some q)) : out[s]? = out[t]? ↔ k = q := by
  obtain ⟨i, h1, h2⟩ := h.som s k hs
  obtain ⟨j, h3, h4⟩ := h.som t q ht
  rw [h1, h3]
  constructor
  · intro e
    have : i = j := by simp at e; omega
    subst this
    rw [h2] at h4
    exact Option.some.inj h4
  · intro e
    subst e
    have hi := lt_of_get h2
    have hj := lt_of_get h4
    rw [List.getElem?_eq_getElem hi] at h2
    rw [List.getElem?_eq_getElem hj] at h4
    have e2 := (Option.some.inj h2).trans (Option.some.inj h4).symm
    have : i = j := by
      rcases Nat.lt_trichotomy i j with h5 | h5 | h5
      · exact absurd e2 (List.pairwise_iff_getElem.1 h.nd i j hi hj h5)
      · exact h5
      · exact absurd e2.symm (List.pairwise_iff_getElem.1 h.nd j i hj hi h5)
    rw [this]
def ptD (p : List Int) (s : Int) : Int := if s < 0 then -1 else p.getD s.toNat (-1)
theorem ptD_get {p : List Int} {s : Nat} {x : Int} (h : p[s]? = some x) : ptD p ((s : Nat) : Int) = x := by
  unfold ptD
  rw [if_neg (by omega), Int.toNat_natCast, List.getD_eq_getElem?_getD, h, Option.getD_some]
theorem ptD_neg {p : List Int} {s : Int} (h : s < 0) : ptD p s = -1 := by unfold ptD; rw [if_pos h]
/-- A numbering of the states that keeps equivalent ones together and tells results apart. -/
structure Refd (n c : Nat) (d : Dfa) (p : List Int) (cnt : Nat) : Prop where
  len : p.length = n
  dead : ∀ s : Nat, s < n → ¬ liveD c d s → p[s]? = some (-1)
  liv : ∀ s : Nat, s < n → liveD c d s → ∃ j : Nat, p[s]? = some ((j : Nat) : Int) ∧ j < cnt
  onto : ∀ j : Nat, j < cnt → ∃ s : Nat, s < n ∧ liveD c d s ∧ p[s]? = some ((j : Nat) : Int)
  acc : ∀ s t : Nat, s < n → t < n → liveD c d s → liveD c d t → p[s]? = p[t]? → atD d s = atD d t
  eqv : ∀ s t : Nat, s < n → t < n → liveD c d s → liveD c d t → eqvD c d s t → p[s]? = p[t]?
theorem Refd.cnt_le {n c cnt : Nat} {d : Dfa} {p : List Int} (h : Refd n c d p cnt) : cnt ≤ n := by
  -- each number has a state
  have key : ∀ k, k ≤ cnt → ∃ l : List Nat, l.length = k ∧ l.Nodup ∧ (∀ s ∈ l, s < n ∧ ∃ j : Nat, j < k ∧ p[s]? = some ((j : Nat) : Int)) := by
    intro k
    induction k with
    | zero => exact fun _ => ⟨[], rfl, List.nodup_nil, fun s h => by cases h⟩
    | succ k ih =>
      intro hk
      obtain ⟨l, h1, h2, h3⟩ := ih (by omega)
      obtain ⟨s, hs, _, hp⟩ := h.onto k (by omega)
      refine ⟨s :: l, by simp [h1], List.nodup_cons.2 ⟨fun hm => ?_, h2⟩, fun t ht => ?_⟩
      · obtain ⟨_, j, hj, hpj⟩ := h3 s hm
        rw [hp] at hpj
        simp at hpj
        omega
      · rcases List.mem_cons.1 ht with rfl | h4
        · exact ⟨hs, k, by omega, hp⟩
        · obtain ⟨h5, j, h6, h7⟩ := h3 t h4
          exact ⟨h5, j, by omega, h7⟩
  obtain ⟨l, h1, h2, h3⟩ := key cnt (Nat.le_refl _)
  have := nodup_leN (m := List.range n) h2 fun s hs => List.mem_range.2 (h3 s hs).1
  simpa [h1] using this
theorem Refd.ptLive {n c cnt : Nat} {d : Dfa} {p : List Int} (h : Refd n c d p cnt) {s : Int} (hs : -1 ≤ s ∧ s < n) : (0 ≤ ptD p s ↔ liveD c d s) ∧ -1 ≤ ptD p s := by
  rcases Int.lt_or_le s 0 with h1 | h1
  · rw [ptD_neg h1]
    exact ⟨⟨fun h => absurd h (by decide), fun h => absurd h (not_live_neg h1)⟩, Int.le_refl _⟩
  · obtain ⟨k, rfl⟩ := Int.eq_ofNat_of_zero_le h1
    by_cases hl : liveD c d ((k : Nat) : Int)
    · obtain ⟨j, h2, _⟩ := h.liv k (by omega) hl
      rw [ptD_get h2]
      exact ⟨⟨fun _ => hl, fun _ => by omega⟩, by omega⟩
    · rw [ptD_get (h.dead k (by omega) hl)]
      exact ⟨⟨fun h => absurd h (by decide), fun h => absurd h hl⟩, Int.le_refl _⟩
theorem Refd.ptEqv {n c cnt : Nat} {d : Dfa} {p : List Int} (h : Refd n c d p cnt) {s t : Int} (hs : -1 ≤ s ∧ s < n) (ht : -1 ≤ t ∧ t < n) (he : eqvD c d s t) : ptD p s = ptD p t := by
  obtain ⟨a1, a2⟩ := h.ptLive hs
  obtain ⟨b1, b2⟩ := h.ptLive ht
  by_cases hl : liveD c d s
  · have hl2 := he.live hl
    have s0 : 0 ≤ s := by rcases Int.lt_or_le s 0 with h1 | h1; exact absurd hl (not_live_neg h1); exact h1
    have t0 : 0 ≤ t := by rcases Int.lt_or_le t 0 with h1 | h1; exact absurd hl2 (not_live_neg h1); exact h1
    obtain ⟨i, rfl⟩ := Int.eq_ofNat_of_zero_le s0
    obtain ⟨j, rfl⟩ := Int.eq_ofNat_of_zero_le t0
    have h3 := h.eqv i j (by omega) (by omega) hl hl2 he
    obtain ⟨a, h4, _⟩ := h.liv i (by omega) hl
    rw [ptD_get h4, ptD_get (h3 ▸ h4)]
  · have hl2 : ¬ liveD c d t := fun h2 => hl (eqvD.live (fun w hw => (he w hw).symm) h2)
    have h3 : ¬ 0 ≤ ptD p s := fun h => hl (a1.1 h)
    have h4 : ¬ 0 ≤ ptD p t := fun h => hl2 (b1.1 h)
    omega
/-- The keys of the next numbering. -/
def nextKey (c : Nat) (d : Dfa) (p : List Int) (s : Nat) : List Int := ptD p s :: (List.range c).map fun x => ptD p (toD d s x)
theorem nextKey_eq {c : Nat} {d : Dfa} {p : List Int} {s t : Nat} : nextKey c d p s = nextKey c d p t ↔ ptD p s = ptD p t ∧ ∀ x, x < c → ptD p (toD d s x) = ptD p (toD d t x) := by
  unfold nextKey
  rw [List.cons.injEq]
  constructor
  · rintro ⟨h1, h2⟩
    refine ⟨h1, fun x hx => ?_⟩
    have := congrArg (fun l => l[x]?) h2
    simpa [hx] using this
  · rintro ⟨h1, h2⟩
    exact ⟨h1, List.map_congr_left fun x hx => h2 x (List.mem_range.1 hx)⟩
/-- What a numbering by keys is, if the keys are those of results or of an older numbering. -/
theorem Refd.of_num {n c : Nat} {d : Dfa} {keys : List (Option (List Int))} {ks : List (List Int)} {q : List Int} (hN : Num keys ks q) (hl : keys.length = n) (hd : ∀ s : Nat, s < n → ¬ liveD c d s → keys[s]? = some none) {key : Nat → List Int} (hk : ∀ s : Nat, s < n → liveD c d s → keys[s]? = some (some (key s)))
    (ha : ∀ s t : Nat, s < n → t < n → liveD c d s → liveD c d t → key s = key t → atD d s = atD d t) (he : ∀ s t : Nat, s < n → t < n → liveD c d s → liveD c d t → eqvD c d s t → key s = key t) : Refd n c d q ks.length := by
  refine ⟨by rw [hN.len, hl], fun s hs h => hN.non s (hd s hs h), fun s hs h => ?_, fun j hj => ?_, fun s t hs ht l1 l2 h => ?_, fun s t hs ht l1 l2 h => ?_⟩
  · obtain ⟨j, h1, h2⟩ := hN.som s _ (hk s hs h)
    exact ⟨j, h1, lt_of_get h2⟩
  · obtain ⟨k, hk'⟩ := get_of_lt hj
    obtain ⟨s, hs⟩ := List.getElem?_of_mem (hN.all k (List.mem_of_getElem? hk'))
    have hsn : s < n := by rw [← hl]; exact lt_of_get hs
    have hlv : liveD c d s := Classical.byContradiction fun h => by rw [hd s hsn h] at hs; cases hs
    obtain ⟨i, h1, h2⟩ := hN.som s k hs
    refine ⟨s, hsn, hlv, ?_⟩
    have hi := lt_of_get h2
    rw [List.getElem?_eq_getElem hi] at h2
    rw [List.getElem?_eq_getElem hj] at hk'
    have e2 := (Option.some.inj h2).trans (Option.some.inj hk').symm
    have : i = j := by
      rcases Nat.lt_trichotomy i j with h5 | h5 | h5
      · exact absurd e2 (List.pairwise_iff_getElem.1 hN.nd i j hi hj h5)
      · exact h5
      · exact absurd e2.symm (List.pairwise_iff_getElem.1 hN.nd j i hj hi h5)
    rw [← this]; exact h1
  · exact ha s t hs ht l1 l2 ((hN.eq_iff (hk s hs l1) (hk t ht l2)).1 h)
  · exact (hN.eq_iff (hk s hs l1) (hk t ht l2)).2 (he s t hs ht l1 l2 h)
structure PartsOf (n c : Nat) (d : Dfa) (q : List Int) : Prop where
  len : q.length = n
  live : ∀ s : Int, -1 ≤ s ∧ s < n → (0 ≤ ptD q s ↔ liveD c d s) ∧ -1 ≤ ptD q s ∧ ptD q s < n
  iff : ∀ s t : Int, -1 ≤ s ∧ s < n → -1 ≤ t ∧ t < n → (ptD q s = ptD q t ↔ eqvD c d s t)
/-- If a finer numbering has no more numbers, it has none that are new. -/
theorem Refd.same {n c cnt : Nat} {d : Dfa} {p q : List Int} (hp : Refd n c d p cnt) (hq : Refd n c d q cnt) (hf : ∀ s t : Nat, s < n → t < n → liveD c d s → liveD c d t → q[s]? = q[t]? → p[s]? = p[t]?) :
    ∀ s t : Nat, s < n → t < n → liveD c d s → liveD c d t → p[s]? = p[t]? → q[s]? = q[t]? := by
  intro s t hs ht l1 l2 hpp
  apply Classical.byContradiction
  intro hne
  obtain ⟨a, ha, hac⟩ := hq.liv s hs l1
  obtain ⟨b, hb, hbc⟩ := hq.liv t ht l2
  have hab : a ≠ b := fun e => hne (by rw [ha, hb, e])
  -- each number of q other than b goes to a number of p; all are met
  have hmap : ∀ j : Nat, ∃ i : Nat, j < cnt → (i < cnt ∧ ∀ u : Nat, u < n → liveD c d u → q[u]? = some ((j : Nat) : Int) → p[u]? = some ((i : Nat) : Int)) := by
    intro j
    by_cases hj : j < cnt
    · obtain ⟨u, hu, lu, hqu⟩ := hq.onto j hj
      obtain ⟨i, hi, hic⟩ := hp.liv u hu lu
      refine ⟨i, fun _ => ⟨hic, fun v hv lv hqv => ?_⟩⟩
      rw [← hf u v hu hv lu lv (by rw [hqu, hqv])]; exact hi
    · exact ⟨0, fun h => absurd h hj⟩
  obtain ⟨f, hfm⟩ := Classical.axiomOfChoice hmap
  have hle := nodup_leN (l := List.range cnt) (m := ((List.range cnt).erase b).map f) List.nodup_range fun i hi => by
    rw [List.mem_range] at hi
    obtain ⟨u, hu, lu, hpu⟩ := hp.onto i hi
    obtain ⟨j, hj, hjc⟩ := hq.liv u hu lu
    have h1 := (hfm j hjc).2 u hu lu hj
    rw [hpu] at h1
    have hji : f j = i := by simp at h1; omega
    by_cases hjb : j = b
    · -- then a serves
      subst hjb
      have h2 := (hfm a hac).2 s hs l1 ha
      have h3 := (hfm j hjc).2 t ht l2 hb
      have h4 : f a = f j := by rw [hpp, h3] at h2; simp at h2; omega
      refine List.mem_map.2 ⟨a, (List.mem_erase_of_ne hab).2 (List.mem_range.2 hac), by rw [h4, hji]⟩
    · exact List.mem_map.2 ⟨j, (List.mem_erase_of_ne hjb).2 (List.mem_range.2 hjc), hji⟩
  rw [List.length_map, List.length_erase_of_mem (List.mem_range.2 hbc), List.length_range] at hle
  omega
theorem Refd.final {n c cnt : Nat} {d : Dfa} {p q : List Int} (ok : OkD n c d) (hp : Refd n c d p cnt) (hq : Refd n c d q cnt)
    (hk : ∀ s t : Nat, s < n → t < n → liveD c d s → liveD c d t → (q[s]? = q[t]? ↔ nextKey c d p s = nextKey c d p t)) : PartsOf n c d q := by
  have hpt : ∀ s : Nat, s < n → liveD c d s → ∃ a : Nat, p[s]? = some ((a : Nat) : Int) ∧ ptD p s = ((a : Nat) : Int) := fun s hs l => by
    obtain ⟨a, h1, _⟩ := hp.liv s hs l
    exact ⟨a, h1, ptD_get h1⟩
  have hpe : ∀ s t : Nat, s < n → t < n → liveD c d s → liveD c d t → (p[s]? = p[t]? ↔ ptD p s = ptD p t) := fun s t hs ht l1 l2 => by
    obtain ⟨a, h1, h2⟩ := hpt s hs l1
    obtain ⟨b, h3, h4⟩ := hpt t ht l2
    rw [h1, h2, h3, h4]; simp
  have hback := hp.same hq fun s t hs ht l1 l2 h => (hpe s t hs ht l1 l2).2 (nextKey_eq.1 ((hk s t hs ht l1 l2).1 h)).1
  have key : ∀ w, inW c w → ∀ s t : Int, -1 ≤ s ∧ s < n → -1 ≤ t ∧ t < n → ptD q s = ptD q t → beh d s w = beh d t w := by
    intro w
    induction w with
    | nil =>
      intro hw s t hs ht h
      obtain ⟨a1, a2⟩ := hq.ptLive hs
      obtain ⟨b1, b2⟩ := hq.ptLive ht
      by_cases hl : liveD c d s
      · have hl2 : liveD c d t := b1.1 (by rw [← h]; exact a1.2 hl)
        have s0 : 0 ≤ s := by rcases Int.lt_or_le s 0 with h1 | h1; exact absurd hl (not_live_neg h1); exact h1
        have t0 : 0 ≤ t := by rcases Int.lt_or_le t 0 with h1 | h1; exact absurd hl2 (not_live_neg h1); exact h1
        obtain ⟨i, rfl⟩ := Int.eq_ofNat_of_zero_le s0
        obtain ⟨j, rfl⟩ := Int.eq_ofNat_of_zero_le t0
        obtain ⟨a, h1, _⟩ := hq.liv i (by omega) hl
        obtain ⟨b, h2, _⟩ := hq.liv j (by omega) hl2
        rw [ptD_get h1, ptD_get h2] at h
        exact hq.acc i j (by omega) (by omega) hl hl2 (by rw [h1, h2, h])
      · have hl2 : ¬ liveD c d t := fun h2 => hl (a1.1 (by rw [h]; exact b1.2 h2))
        rw [ok.dead hl hw, ok.dead hl2 hw]
    | cons x w ih =>
      intro hw s t hs ht h
      obtain ⟨a1, a2⟩ := hq.ptLive hs
      obtain ⟨b1, b2⟩ := hq.ptLive ht
      by_cases hl : liveD c d s
      · have hl2 : liveD c d t := b1.1 (by rw [← h]; exact a1.2 hl)
        have s0 : 0 ≤ s := by rcases Int.lt_or_le s 0 with h1 | h1; exact absurd hl (not_live_neg h1); exact h1
        have t0 : 0 ≤ t := by rcases Int.lt_or_le t 0 with h1 | h1; exact absurd hl2 (not_live_neg h1); exact h1
        obtain ⟨i, rfl⟩ := Int.eq_ofNat_of_zero_le s0
        obtain ⟨j, rfl⟩ := Int.eq_ofNat_of_zero_le t0
        obtain ⟨a, h1, _⟩ := hq.liv i (by omega) hl
        obtain ⟨b, h2, _⟩ := hq.liv j (by omega) hl2
        rw [ptD_get h1, ptD_get h2] at h
        have h3 := (nextKey_eq.1 ((hk i j (by omega) (by omega) hl hl2).1 (by rw [h1, h2, h]))).2 x hw.head
        have ti := ok.to (s := ((i : Nat) : Int)) (x := x)
        have tj := ok.to (s := ((j : Nat) : Int)) (x := x)
        simp only [beh]
        refine ih hw.tail _ _ ti tj ?_
        obtain ⟨c1, c2⟩ := hp.ptLive ti
        obtain ⟨d1, d2⟩ := hp.ptLive tj
        obtain ⟨e1, e2⟩ := hq.ptLive ti
        obtain ⟨f1, f2⟩ := hq.ptLive tj
        by_cases hlt : liveD c d (toD d ((i : Nat) : Int) x)
        · have hlt2 : liveD c d (toD d ((j : Nat) : Int) x) := d1.1 (by rw [← h3]; exact c1.2 hlt)
          obtain ⟨u, hu⟩ := Int.eq_ofNat_of_zero_le (show 0 ≤ toD d ((i : Nat) : Int) x by rcases Int.lt_or_le (toD d ((i : Nat) : Int) x) 0 with h1 | h1; exact absurd hlt (not_live_neg h1); exact h1)
          obtain ⟨v, hv⟩ := Int.eq_ofNat_of_zero_le (show 0 ≤ toD d ((j : Nat) : Int) x by rcases Int.lt_or_le (toD d ((j : Nat) : Int) x) 0 with h1 | h1; exact absurd hlt2 (not_live_neg h1); exact h1)
          rw [hu] at hlt h3 ti ⊢
          rw [hv] at hlt2 h3 tj ⊢
          have h4 := hback u v (by omega) (by omega) hlt hlt2 ((hpe u v (by omega) (by omega) hlt hlt2).2 h3)
          obtain ⟨a', h5, _⟩ := hq.liv u (by omega) hlt
          rw [ptD_get h5, ptD_get (h4 ▸ h5)]
        · have hlt2 : ¬ liveD c d (toD d ((j : Nat) : Int) x) := fun h2 => hlt (c1.1 (by rw [h3]; exact d1.2 h2))
          have h5 : ¬ 0 ≤ ptD q (toD d ((i : Nat) : Int) x) := fun h => hlt (e1.1 h)
          have h6 : ¬ 0 ≤ ptD q (toD d ((j : Nat) : Int) x) := fun h => hlt2 (f1.1 h)
          omega
      · have hl2 : ¬ liveD c d t := fun h2 => hl (a1.1 (by rw [h]; exact b1.2 h2))
        rw [ok.dead hl hw, ok.dead hl2 hw]
  refine ⟨hq.len, fun s hs => ⟨(hq.ptLive hs).1, (hq.ptLive hs).2, ?_⟩, fun s t hs ht => ⟨fun h w hw => key w hw s t hs ht h, fun h => hq.ptEqv hs ht h⟩⟩
  have hcn := hq.cnt_le
  by_cases hl : liveD c d s
  · have s0 : 0 ≤ s := by rcases Int.lt_or_le s 0 with h1 | h1; exact absurd hl (not_live_neg h1); exact h1
    obtain ⟨i, rfl⟩ := Int.eq_ofNat_of_zero_le s0
    obtain ⟨a, h1, h2⟩ := hq.liv i (by omega) hl
    rw [ptD_get h1]; omega
  · have := (hq.ptLive hs).1
    have h5 : ¬ 0 ≤ ptD q s := fun h => hl (this.1 h)
    have := hs.1
    have hst := ok.st
    omega
--END
end Go.Proofs
namespace Go.Proofs
open Go Go.Eng Go.Sort
--BEGIN
structure IntoP (n c : Nat) (d : Dfa) (into : List (List Int)) (s k : Nat) : Prop where
  len : into.length = n
  snd : ∀ (t : Nat) l, into[t]? = some l → ∀ x ∈ l, 0 ≤ x ∧ x < n ∧ ∃ y, y < c ∧ toD d x y = ((t : Nat) : Int)
  cmp : ∀ s' y : Nat, y < c → (s' < s ∨ (s' = s ∧ y < k)) → 0 ≤ toD d ((s' : Nat) : Int) y → ∃ l, into[(toD d ((s' : Nat) : Int) y).toNat]? = some l ∧ ((s' : Nat) : Int) ∈ l
  sht : ∀ l ∈ into, l.length ≤ s * c + k
theorem IntoP.start (n c : Nat) (d : Dfa) : IntoP n c d (List.replicate n []) 0 0 := by
  have hv : ∀ (t : Nat) l, (List.replicate n ([] : List Int))[t]? = some l → l = [] := fun t l h => (List.mem_replicate.1 (List.mem_of_getElem? h)).2
  exact ⟨by simp, fun t l h x hx => (by rw [hv t l h] at hx; cases hx), fun s' y _ h => by omega, fun l hl => by rw [(List.mem_replicate.1 hl).2]; exact Nat.zero_le _⟩
theorem IntoP.row {n c s k : Nat} {d : Dfa} {into : List (List Int)} (h : IntoP n c d into s k) (hk : k = c) : IntoP n c d into (s + 1) 0 := by
  subst hk
  exact ⟨h.len, h.snd, fun s' y hy h1 h2 => h.cmp s' y hy (by omega) h2, fun l hl => by have := h.sht l hl; rw [Nat.add_mul]; omega⟩
theorem IntoP.skip {n c s k : Nat} {d : Dfa} {into : List (List Int)} (h : IntoP n c d into s k) (ht : toD d ((s : Nat) : Int) k < 0) : IntoP n c d into s (k + 1) := by
  refine ⟨h.len, h.snd, fun s' y hy h1 h2 => ?_, fun l hl => by have := h.sht l hl; omega⟩
  by_cases he : s' = s ∧ y = k
  · obtain ⟨rfl, rfl⟩ := he; omega
  · exact h.cmp s' y hy (by omega) h2
theorem IntoP.add {n c s k t : Nat} {d : Dfa} {into : List (List Int)} {l : List Int} (h : IntoP n c d into s k) (hs : s < n) (hk : k < c) (ht : toD d ((s : Nat) : Int) k = ((t : Nat) : Int)) (hl : into[t]? = some l) : IntoP n c d (into.set t (l ++ [((s : Nat) : Int)])) s (k + 1) := by
  have htl := lt_of_get hl
  have hset : ∀ (i : Nat) q, (into.set t (l ++ [((s : Nat) : Int)]))[i]? = some q → (i = t ∧ q = l ++ [((s : Nat) : Int)]) ∨ (i ≠ t ∧ into[i]? = some q) := by
    intro i q hq
    rw [List.getElem?_set] at hq
    split at hq
    · rename_i he
      exact .inl ⟨he.symm, (Option.some.inj hq).symm⟩
    · rename_i he
      exact .inr ⟨fun e => he e.symm, hq⟩
  refine ⟨by simp [h.len], fun i q hq x hx => ?_, fun s' y hy h1 h2 => ?_, fun q hq => ?_⟩
  · rcases hset i q hq with ⟨rfl, rfl⟩ | ⟨_, h3⟩
    · rcases List.mem_append.1 hx with h4 | h4
      · exact h.snd i l hl x h4
      · rw [List.mem_singleton] at h4
        subst h4
        exact ⟨by omega, by omega, k, hk, ht⟩
    · exact h.snd i q h3 x hx
  · have hold : (∃ q, into[(toD d ((s' : Nat) : Int) y).toNat]? = some q ∧ ((s' : Nat) : Int) ∈ q) → ∃ q, (into.set t (l ++ [((s : Nat) : Int)]))[(toD d ((s' : Nat) : Int) y).toNat]? = some q ∧ ((s' : Nat) : Int) ∈ q := by
      rintro ⟨q, h3, h4⟩
      by_cases he : (toD d ((s' : Nat) : Int) y).toNat = t
      · rw [he] at h3 ⊢
        rw [hl] at h3; cases h3
        exact ⟨_, by rw [List.getElem?_set, if_pos rfl, if_pos htl], List.mem_append_left _ h4⟩
      · exact ⟨q, by rw [List.getElem?_set, if_neg (fun e => he e.symm)]; exact h3, h4⟩
    by_cases he : s' = s ∧ y = k
    · obtain ⟨rfl, rfl⟩ := he
      rw [ht, Int.toNat_natCast]
      exact ⟨_, by rw [List.getElem?_set, if_pos rfl, if_pos htl], by simp⟩
    · exact hold (h.cmp s' y hy (by omega) h2)
  · obtain ⟨i, hi⟩ := List.getElem?_of_mem hq
    rcases hset i q hi with ⟨_, rfl⟩ | ⟨_, h3⟩
    · have := h.sht l (List.mem_of_getElem? hl)
      simp; omega
    · have := h.sht q (List.mem_of_getElem? h3); omega
/-- What is marked and what is still to be done. -/
structure LiveP (n c : Nat) (d : Dfa) (M : List Bool) (work : List Int) (k : Nat) : Prop where
  len : M.length = n
  wrk : ∀ x ∈ work, ∃ i : Nat, x = ((i : Nat) : Int) ∧ M[i]? = some true
  snd : ∀ i : Nat, M[i]? = some true → liveD c d ((i : Nat) : Int)
  acc : ∀ i : Nat, i < k → 0 ≤ atD d ((i : Nat) : Int) → M[i]? = some true
  cnt : work.length + M.countP (fun b => !b) ≤ n
theorem LiveP.start (n c : Nat) (d : Dfa) : LiveP n c d (List.replicate n false) [] 0 := by
  refine ⟨by simp, fun x h => (by cases h), fun i h => ?_, fun i h => by omega, ?_⟩
  · have := (List.mem_replicate.1 (List.mem_of_getElem? h)).2; cases this
  · simp [List.countP_replicate]
theorem count_set {M : List Bool} {i : Nat} (h : M[i]? = some false) : (M.set i true).countP (fun b => !b) + 1 = M.countP fun b => !b := by
  have hi := lt_of_get h
  have e : M = M.take i ++ false :: M.drop (i + 1) := by
    have h1 : M.drop i = false :: M.drop (i + 1) := by
      rw [List.drop_eq_getElem_cons hi]; rw [List.getElem?_eq_getElem hi] at h; rw [Option.some.inj h]
    rw [← h1, List.take_append_drop]
  have e2 : M.set i true = M.take i ++ true :: M.drop (i + 1) := by rw [List.set_eq_take_append_cons_drop, if_pos hi]
  rw [e2]
  conv => rhs; rw [e]
  rw [List.countP_append, List.countP_append, List.countP_cons, List.countP_cons]
  simp
  omega
theorem set_true {M : List Bool} {i j : Nat} (h : M[j]? = some true) : (M.set i true)[j]? = some true := by
  rw [List.getElem?_set]
  split
  · rename_i he
    subst he
    rw [if_pos (lt_of_get h)]
  · exact h
theorem set_old {M : List Bool} {i j : Nat} (h : (M.set i true)[j]? = some true) : j = i ∨ M[j]? = some true := by
  rw [List.getElem?_set] at h
  split at h
  · rename_i he; exact .inl he.symm
  · exact .inr h
theorem LiveP.mark {n c k i : Nat} {d : Dfa} {M : List Bool} {work : List Int} (h : LiveP n c d M work k) (hM : M[i]? = some false) (hl : liveD c d ((i : Nat) : Int)) : LiveP n c d (M.set i true) (work ++ [((i : Nat) : Int)]) k := by
  have hi := lt_of_get hM
  refine ⟨by simp [h.len], fun x hx => ?_, fun j hj => ?_, fun j hj ha => set_true (h.acc j hj ha), ?_⟩
  · rcases List.mem_append.1 hx with h1 | h1
    · obtain ⟨j, h2, h3⟩ := h.wrk x h1
      exact ⟨j, h2, set_true h3⟩
    · rw [List.mem_singleton] at h1
      exact ⟨i, h1, by rw [List.getElem?_set, if_pos rfl, if_pos hi]⟩
  · rcases set_old hj with h1 | h1
    · rw [h1]; exact hl
    · exact h.snd j h1
  · have := count_set hM
    have := h.cnt
    simp
    omega
theorem LiveP.next {n c k : Nat} {d : Dfa} {M : List Bool} {work : List Int} (h : LiveP n c d M work k) (ha : 0 ≤ atD d ((k : Nat) : Int) → M[k]? = some true) : LiveP n c d M work (k + 1) :=
  ⟨h.len, h.wrk, h.snd, fun i hi h1 => by rcases Nat.lt_or_ge i k with h2 | h2; exact h.acc i h2 h1; obtain rfl : i = k := (by omega); exact ha h1, h.cnt⟩
/-- All that leads to what is marked is marked, but for what is still to be done. -/
def ClosP (into : List (List Int)) (M : List Bool) (work : List Int) : Prop := ∀ t : Nat, M[t]? = some true → ((t : Nat) : Int) ∈ work ∨ ∀ l, into[t]? = some l → ∀ x ∈ l, M[x.toNat]? = some true
theorem ClosP.mark {into : List (List Int)} {M : List Bool} {work : List Int} {i : Nat} (h : ClosP into M work) : ClosP into (M.set i true) (work ++ [((i : Nat) : Int)]) := by
  intro t ht
  rcases set_old ht with h1 | h1
  · left; rw [h1]; simp
  · rcases h t h1 with h2 | h2
    · exact .inl (List.mem_append_left _ h2)
    · exact .inr fun l hl x hx => set_true (h2 l hl x hx)
/-- The same while the lists of one state are gone through: its first k are marked. -/
def ClosQ (into : List (List Int)) (M : List Bool) (work : List Int) (u : Nat) (lu : List Int) (k : Nat) : Prop :=
  (∀ t : Nat, M[t]? = some true → t ≠ u → ((t : Nat) : Int) ∈ work ∨ ∀ l, into[t]? = some l → ∀ x ∈ l, M[x.toNat]? = some true) ∧ ∀ x ∈ lu.take k, M[x.toNat]? = some true
theorem ClosP.open {into : List (List Int)} {M : List Bool} {work : List Int} {u : Nat} (h : ClosP into M (work ++ [((u : Nat) : Int)])) (lu : List Int) : ClosQ into M work u lu 0 := by
  refine ⟨fun t ht hne => ?_, fun x hx => by simp at hx⟩
  rcases h t ht with h1 | h1
  · rcases List.mem_append.1 h1 with h2 | h2
    · exact .inl h2
    · rw [List.mem_singleton] at h2; omega
  · exact .inr h1
theorem ClosQ.seen {into : List (List Int)} {M : List Bool} {work : List Int} {u k : Nat} {lu : List Int} {x : Int} (h : ClosQ into M work u lu k) (hx : lu[k]? = some x) (hM : M[x.toNat]? = some true) : ClosQ into M work u lu (k + 1) := by
  refine ⟨h.1, fun y hy => ?_⟩
  rw [List.take_add_one, hx] at hy
  rcases List.mem_append.1 hy with h1 | h1
  · exact h.2 y h1
  · simp at h1; subst h1; exact hM
theorem ClosQ.mark {into : List (List Int)} {M : List Bool} {work : List Int} {u k i : Nat} {lu : List Int} (h : ClosQ into M work u lu k) (hx : lu[k]? = some ((i : Nat) : Int)) (hM : M[i]? = some false) : ClosQ into (M.set i true) (work ++ [((i : Nat) : Int)]) u lu (k + 1) := by
  have hi := lt_of_get hM
  refine ⟨fun t ht hne => ?_, fun y hy => ?_⟩
  · rcases set_old ht with h1 | h1
    · left; rw [h1]; simp
    · rcases h.1 t h1 hne with h2 | h2
      · exact .inl (List.mem_append_left _ h2)
      · exact .inr fun l hl x hx => set_true (h2 l hl x hx)
  · rw [List.take_add_one, hx] at hy
    rcases List.mem_append.1 hy with h1 | h1
    · exact set_true (h.2 y h1)
    · simp at h1; subst h1
      rw [Int.toNat_natCast, List.getElem?_set, if_pos rfl, if_pos hi]
theorem ClosQ.done {into : List (List Int)} {M : List Bool} {work : List Int} {u k : Nat} {lu : List Int} (h : ClosQ into M work u lu k) (hl : into[u]? = some lu) (hk : k = lu.length) : ClosP into M work := by
  intro t ht
  by_cases he : t = u
  · subst he
    right
    intro l hl2 x hx
    rw [hl] at hl2
    cases hl2
    exact h.2 x (by rw [hk, List.take_length]; exact hx)
  · exact h.1 t ht he
structure LiveOf (n c : Nat) (d : Dfa) (M : List Bool) : Prop where
  len : M.length = n
  iff : ∀ s : Nat, s < n → (M[s]? = some true ↔ liveD c d ((s : Nat) : Int))
theorem live_final {n c : Nat} {d : Dfa} {M : List Bool} {into : List (List Int)} (ok : OkD n c d) (hI : IntoP n c d into n 0) (hL : LiveP n c d M [] n) (hC : ClosP into M []) : LiveOf n c d M := by
  refine ⟨hL.len, fun s hs => ⟨hL.snd s, ?_⟩⟩
  rintro ⟨w, hw, h⟩
  have key : ∀ (w : List Nat) (s : Nat), s < n → inW c w → 0 ≤ beh d ((s : Nat) : Int) w → M[s]? = some true := by
    intro w
    induction w with
    | nil => exact fun s hs _ h => hL.acc s hs h
    | cons x w ih =>
      intro s hs hw h
      simp only [beh] at h
      have ht := ok.to (s := ((s : Nat) : Int)) (x := x)
      rcases Int.lt_or_le (toD d ((s : Nat) : Int) x) 0 with h1 | h1
      · rw [beh_neg h1] at h; omega
      · obtain ⟨t, he⟩ := Int.eq_ofNat_of_zero_le h1
        rw [he] at h ht
        have hm := ih t (by omega) hw.tail h
        obtain ⟨l, h2, h3⟩ := hI.cmp s x hw.head (.inl hs) h1
        rw [he, Int.toNat_natCast] at h2
        rcases hC t hm with h4 | h4
        · cases h4
        · have := h4 l h2 _ h3
          rwa [Int.toNat_natCast] at this
  exact key w s hs hw h
--END
end Go.Proofs
namespace Go.Proofs
open Go Go.Eng
set_option maxRecDepth 100000
theorem siz3 : Siz Try.prog 3 1 := by unfold Siz; kernel_rfl
theorem byt3 : Byt Try.prog 3 8 := by unfold Byt; kernel_rfl
theorem zer3 : Zer Try.prog 3 (.int .i64 0) := by unfold Zer; kernel_rfl
theorem flat3 : flatB Try.prog 3 = true := by kernel_rfl
theorem siz4 : Siz Try.prog 4 1 := by unfold Siz; kernel_rfl
theorem byt4 : Byt Try.prog 4 1 := by unfold Byt; kernel_rfl
theorem zer4 : Zer Try.prog 4 (.bool false) := by unfold Zer; kernel_rfl
theorem flat4 : flatB Try.prog 4 = true := by kernel_rfl
theorem siz5 : Siz Try.prog 5 1 := by unfold Siz; kernel_rfl
theorem byt5 : Byt Try.prog 5 1 := by unfold Byt; kernel_rfl
theorem zer5 : Zer Try.prog 5 (.int .u8 0) := by unfold Zer; kernel_rfl
theorem siz22 : Siz Try.prog 22 1 := by unfold Siz; kernel_rfl
theorem byt22 : Byt Try.prog 22 24 := by unfold Byt; kernel_rfl
theorem zer22 : Zer Try.prog 22 (.slice none 0 0) := by unfold Zer; kernel_rfl
theorem flat22 : flatB Try.prog 22 = true := by kernel_rfl
theorem siz23 : Siz Try.prog 23 1 := by unfold Siz; kernel_rfl
theorem flat23 : flatB Try.prog 23 = true := by kernel_rfl
theorem siz25 : Siz Try.prog 25 3 := by unfold Siz; kernel_rfl
theorem zer25 : Zer Try.prog 25 (.agg #[(.int .i64 0), (.slice none 0 0), (.slice none 0 0)]) := by unfold Zer; kernel_rfl
theorem agg25 : aggB Try.prog 25 = true := by kernel_rfl
theorem siz73 : Siz Try.prog 73 4 := by unfold Siz; kernel_rfl
theorem byt73 : Byt Try.prog 73 32 := by unfold Byt; kernel_rfl
theorem zer73 : Zer Try.prog 73 (.agg #[(.int .i64 0), (.int .i64 0), (.int .i64 0), (.int .i64 0)]) := by unfold Zer; kernel_rfl
theorem agg73 : aggB Try.prog 73 = true := by kernel_rfl
theorem siz75 : Siz Try.prog 75 2 := by unfold Siz; kernel_rfl
theorem zer75 : Zer Try.prog 75 (.agg #[(.int .i64 0), (.int .i64 0)]) := by unfold Zer; kernel_rfl
theorem agg75 : aggB Try.prog 75 = true := by kernel_rfl
theorem siz78 : Siz Try.prog 78 2 := by unfold Siz; kernel_rfl
theorem byt78 : Byt Try.prog 78 48 := by unfold Byt; kernel_rfl
theorem zer78 : Zer Try.prog 78 (.agg #[(.slice none 0 0), (.slice none 0 0)]) := by unfold Zer; kernel_rfl
theorem agg78 : aggB Try.prog 78 = true := by kernel_rfl
theorem siz130 : Siz Try.prog 130 1 := by unfold Siz; kernel_rfl
theorem zer130 : Zer Try.prog 130 (.slice none 0 0) := by unfold Zer; kernel_rfl
theorem flat130 : flatB Try.prog 130 = true := by kernel_rfl
theorem siz134 : Siz Try.prog 134 1 := by unfold Siz; kernel_rfl
theorem zer134 : Zer Try.prog 134 .nilFunc := by unfold Zer; kernel_rfl
theorem flat134 : flatB Try.prog 134 = true := by kernel_rfl
theorem nm11 : (Try.f11.name == "runtime.NumGoroutine") = false := by kernel_rfl
theorem bd11 : Try.f11.body.isNone = false := by kernel_rfl
theorem nm12 : (Try.f12.name == "runtime.NumGoroutine") = false := by kernel_rfl
theorem bd12 : Try.f12.body.isNone = false := by kernel_rfl
theorem nm13 : (Try.f13.name == "runtime.NumGoroutine") = false := by kernel_rfl
theorem bd13 : Try.f13.body.isNone = false := by kernel_rfl
theorem nm14 : (Try.f14.name == "runtime.NumGoroutine") = false := by kernel_rfl
theorem bd14 : Try.f14.body.isNone = false := by kernel_rfl
theorem nm15 : (Try.f15.name == "runtime.NumGoroutine") = false := by kernel_rfl
theorem bd15 : Try.f15.body.isNone = false := by kernel_rfl
theorem nm16 : (Try.f16.name == "runtime.NumGoroutine") = false := by kernel_rfl
theorem bd16 : Try.f16.body.isNone = false := by kernel_rfl
theorem nm17 : (Try.f17.name == "runtime.NumGoroutine") = false := by kernel_rfl
theorem bd17 : Try.f17.body.isNone = false := by kernel_rfl
theorem nm18 : (Try.f18.name == "runtime.NumGoroutine") = false := by kernel_rfl
theorem bd18 : Try.f18.body.isNone = false := by kernel_rfl
theorem nm19 : (Try.f19.name == "runtime.NumGoroutine") = false := by kernel_rfl
theorem bd19 : Try.f19.body.isNone = false := by kernel_rfl
theorem nm22 : (Try.f22.name == "runtime.NumGoroutine") = false := by kernel_rfl
theorem bd22 : Try.f22.body.isNone = false := by kernel_rfl
theorem nm50 : (Try.f50.name == "runtime.NumGoroutine") = false := by kernel_rfl
theorem bd50 : Try.f50.body.isNone = false := by kernel_rfl
theorem nm51 : (Try.f51.name == "runtime.NumGoroutine") = false := by kernel_rfl
theorem bd51 : Try.f51.body.isNone = false := by kernel_rfl
theorem nm52 : (Try.f52.name == "runtime.NumGoroutine") = false := by kernel_rfl
theorem bd52 : Try.f52.body.isNone = false := by kernel_rfl
theorem nm53 : (Try.f53.name == "runtime.NumGoroutine") = false := by kernel_rfl
theorem bd53 : Try.f53.body.isNone = false := by kernel_rfl
theorem nm54 : (Try.f54.name == "runtime.NumGoroutine") = false := by kernel_rfl
theorem bd54 : Try.f54.body.isNone = false := by kernel_rfl
theorem nm55 : (Try.f55.name == "runtime.NumGoroutine") = false := by kernel_rfl
theorem bd55 : Try.f55.body.isNone = false := by kernel_rfl
theorem nm56 : (Try.f56.name == "runtime.NumGoroutine") = false := by kernel_rfl
theorem bd56 : Try.f56.body.isNone = false := by kernel_rfl
theorem nm71 : (Try.f71.name == "runtime.NumGoroutine") = false := by kernel_rfl
theorem bd71 : Try.f71.body.isNone = false := by kernel_rfl
theorem nm85 : (Try.f85.name == "runtime.NumGoroutine") = false := by kernel_rfl
theorem bd85 : Try.f85.body.isNone = false := by kernel_rfl
theorem nm86 : (Try.f86.name == "runtime.NumGoroutine") = false := by kernel_rfl
theorem bd86 : Try.f86.body.isNone = false := by kernel_rfl
theorem nm90 : (Try.f90.name == "runtime.NumGoroutine") = false := by kernel_rfl
theorem bd90 : Try.f90.body.isNone = false := by kernel_rfl
theorem nm95 : (Try.f95.name == "runtime.NumGoroutine") = false := by kernel_rfl
theorem bd95 : Try.f95.body.isNone = false := by kernel_rfl
theorem nm96 : (Try.f96.name == "runtime.NumGoroutine") = false := by kernel_rfl
theorem bd96 : Try.f96.body.isNone = false := by kernel_rfl
theorem nm97 : (Try.f97.name == "runtime.NumGoroutine") = false := by kernel_rfl
theorem bd97 : Try.f97.body.isNone = false := by kernel_rfl
theorem nm98 : (Try.f98.name == "runtime.NumGoroutine") = false := by kernel_rfl
theorem bd98 : Try.f98.body.isNone = false := by kernel_rfl
theorem nm99 : (Try.f99.name == "runtime.NumGoroutine") = false := by kernel_rfl
theorem bd99 : Try.f99.body.isNone = false := by kernel_rfl
theorem nm115 : (Try.f115.name == "runtime.NumGoroutine") = false := by kernel_rfl
theorem bd115 : Try.f115.body.isNone = false := by kernel_rfl
theorem mixed : Try.prog.follows .mixedOrders = true := by kernel_rfl
end Go.Proofs
namespace Go.Eng
open Go
def inS (l : List (Int × Int)) (r : Int) : Bool := l.any fun s => decide (s.1 ≤ r) && decide (r ≤ s.2)
theorem own_form {w : World} {base e size n : Nat} {v : Value} {xs : List Value} (h : w.ownsRow base e size v n xs) : ∃ a c, v = .slice a n c := by
  rcases h.2 with ⟨rfl, rfl⟩ | ⟨g, cap, cur, rfl, _⟩
  · exact ⟨_, _, rfl⟩
  · exact ⟨_, _, rfl⟩
theorem own_chg {M : Nat → Prop} {w w' : World} {base e size n : Nat} {v : Value} {xs : List Value} (h : w.ownsRow base e size v n xs) (c : Chg M w w') (hm : ∀ k, v.ownBlock = some k → ¬ M k) : w'.ownsRow base e size v n xs := by
  refine ⟨h.1, ?_⟩
  rcases h.2 with hn | ⟨g, cap, cur, rfl, hb, hgg, rest⟩
  · exact .inl hn
  · refine .inr ⟨g, cap, cur, rfl, hb, ?_, rest⟩
    rw [c.blk g (Array.getElem?_eq_some_iff.1 hgg).1 (hm g rfl)]
    exact hgg
/-- A slice of one's own, cut at its end. -/
theorem own_cut {w : World} {base e size n m cap : Nat} {a : Option Addr} {xs : List Value} (h : w.ownsRow base e size (.slice a n cap) n xs) (hm : m ≤ n) (h0 : 0 < n) : w.ownsRow base e size (.slice a m cap) m (xs.take (m * size)) := by
  rcases h.2 with ⟨h1, rfl⟩ | ⟨g, cap', cur, hv, hb, hgg, hnc, hcm, hcs, htake⟩
  · omega
  · simp only [Value.slice.injEq] at hv
    obtain ⟨rfl, _, rfl⟩ := hv
    have hle : m * size ≤ n * size := Nat.mul_le_mul_right _ hm
    refine ⟨by rw [List.length_take, h.1]; omega, .inr ⟨g, cap, cur, rfl, hb, hgg, by omega, hcm, hcs, ?_⟩⟩
    rw [← htake, List.take_take, Nat.min_eq_left hle]
theorem own_ext {w w' : World} {base e size n : Nat} {v : Value} {xs : List Value} (h : w.ownsRow base e size v n xs) (c : Ext w w') : w'.ownsRow base e size v n xs := own_chg h c fun _ _ f => f
theorem own_cells {w : World} {base e size n : Nat} {a : Option Addr} {c : Nat} {xs : List Value} (h : w.ownsRow base e size (.slice a n c) n xs) (hn : 0 < n) :
    ∃ g, a = some ⟨g, 0, none⟩ ∧ base ≤ g ∧ CellsAt w g 0 xs := by
  rcases h.2 with ⟨h1, rfl⟩ | ⟨g, cap, cur, hv, hb, hgg, _, _, _, htake⟩
  · omega
  · simp only [Value.slice.injEq] at hv
    obtain ⟨rfl, _, rfl⟩ := hv
    refine ⟨g, rfl, hb, fun i v hv => ?_⟩
    have := h.cells (g := g) rfl i v hv
    rwa [Addr.add_lit] at this
theorem own_slat {w : World} {base e k n : Nat} {v : Value} {rows : List (List Value)} (h : w.ownsRow base e k v n rows.flatten) (hk : ∀ r ∈ rows, r.length = k) (hn : rows.length = n) (hpos : 0 < k) : SlAt w k v rows := by
  obtain ⟨h1, h2⟩ := h
  rcases h2 with ⟨rfl, rfl⟩ | ⟨g, cap, cur, rfl, hb, hgg, hnc, hcm, hcs, htake⟩
  · have : rows = [] := List.eq_nil_of_length_eq_zero hn
    subst this
    exact SlAt.nil w k _ _
  · refine ⟨_, cap, by rw [hn], by simp only [maxLen] at hcm; omega, by omega, .inr ⟨g, 0, rfl, fun i r hr j u hu => ?_⟩⟩
    have hc : (rows.flatten)[i * k + j]? = some u := by
      clear htake hgg h1 hn
      induction rows generalizing i with
      | nil => simp at hr
      | cons x rs ih =>
        have hx : x.length = k := hk x (by simp)
        cases i with
        | zero =>
          simp at hr; subst hr
          have hj := lt_of_get hu
          simp only [List.flatten_cons, Nat.zero_mul, Nat.zero_add]
          rw [List.getElem?_append_left hj]; exact hu
        | succ i =>
          simp at hr
          simp only [List.flatten_cons]
          rw [List.getElem?_append_right (by rw [hx, Nat.succ_mul]; omega)]
          rw [show (i + 1) * k + j - x.length = i * k + j from by rw [hx, Nat.succ_mul]; omega]
          exact ih (fun r hr => hk r (by simp [hr])) _ hr
    rw [← htake] at hc
    have hlt : i * k + j < n * k := by
      have := lt_of_get hc
      simp at this; omega
    rw [List.getElem?_take_of_lt hlt] at hc
    show w.cell? ⟨g, 0 + i * k + j, none⟩ = some u
    rw [Nat.zero_add]
    simp only [World.cell?, hgg]
    simpa using hc
/-- Where the slice lies behind an append. -/
theorem append_where {P : Program} {w w' : World} {base t ty e size bytes n m c : Nat} {i : TypeInfo} {z v v' : Value} {xs news : List Value} {a : Addr} (ht : P.underlying t = some (.slice e)) (hi : P.info? e = some i) (hz : i.zero = some z) (hsize : i.size = size) (hby : i.bytes = bytes) (hzs : z.cells.size = size) (hsz : 0 < size)
    (hown : w.ownsRow base e size v n xs) (hl : news.length = m * size) (hnews : ∀ j u, news[j]? = some u → w.cell? (a.add j) = some u) (h1 : ∀ u ∈ news, u.oneCell' = true) (h63 : n + m ≤ maxLen) (hbytes : (n + m) * bytes ≤ 140737488355328)
    (hr : (Builtin.append_ #[t, t] ty #[v, .slice (some a) m c]).run P w = .ok v' w') : ∀ k, v'.ownBlock = some k → v.ownBlock = some k ∨ w.heap.size ≤ k := by
  rcases hown.2 with ⟨rfl, rfl⟩ | ⟨g, cap, cur, rfl, hbg, hg, hnc, hcm, hcs, htake⟩
  · have hx : xs = [] := List.eq_nil_of_length_eq_zero (by simpa using hown.1)
    subst hx
    obtain ⟨v2, w2, hr2, ho2, _⟩ := run_append_own (P := P) w w.heap.size t ty e i z size bytes ht hi hz hsize hby hzs hsz (.slice none 0 0) 0 [] (World.ownsRow_nil w w.heap.size e size) a m c news hl hnews h1 h63 hbytes (Nat.le_refl _)
    rw [hr2] at hr
    cases hr
    intro k hk
    exact .inr (ho2.lt k hk).1
  · have hsmall : n + m ≤ 9223372036854775807 := by simp only [maxLen] at h63; omega
    subst hsize; subst hby
    by_cases hroom : n + m ≤ cap
    · have hfit : n * i.size + news.length ≤ cur.size := by rw [hl, hcs, ← Nat.add_mul]; exact Nat.mul_le_mul_right _ hroom
      have hr2 := run_append_room (P := P) w t ty e i ht hi g n cap cur hg a m c news hl hnews h1 hroom hfit
      rw [hr2] at hr
      cases hr
      intro k hk
      exact .inl hk
    · have holds : ∀ j u, xs[j]? = some u → w.cell? ((⟨g, 0, none⟩ : Addr).add j) = some u := hown.cells (g := g) rfl
      have hr2 := run_append_grow (P := P) w t ty e i z ht hi hz ⟨g, 0, none⟩ n cap xs hown.1 holds a m c news hl hnews (by omega) (by omega) (growslice_fits (by omega) hbytes)
      rw [hr2] at hr
      cases hr
      intro k hk
      simp only [Value.ownBlock, Option.some.injEq] at hk
      exact .inr (by omega)
/-- An append never draws less than nothing. -/
theorem append_drawn {P : Program} {w w' : World} {base t ty e size bytes n m c : Nat} {i : TypeInfo} {z v v' : Value} {xs news : List Value} {a : Addr} (ht : P.underlying t = some (.slice e)) (hi : P.info? e = some i) (hz : i.zero = some z) (hsize : i.size = size) (hby : i.bytes = bytes)
    (hown : w.ownsRow base e size v n xs) (hl : news.length = m * size) (hnews : ∀ j u, news[j]? = some u → w.cell? (a.add j) = some u) (h1 : ∀ u ∈ news, u.oneCell' = true) (h63 : n + m ≤ maxLen) (hbytes : (n + m) * bytes ≤ 140737488355328)
    (hr : (Builtin.append_ #[t, t] ty #[v, .slice (some a) m c]).run P w = .ok v' w') : w.drawn ≤ w'.drawn := by
  have hsmall : n + m ≤ 9223372036854775807 := by simp only [maxLen] at h63; omega
  subst hsize; subst hby
  rcases hown.2 with ⟨rfl, rfl⟩ | ⟨g, cap, cur, rfl, hbg, hg, hnc, hcm, hcs, htake⟩
  · by_cases hm : m = 0
    · subst hm
      have h2 : (Builtin.append_ #[t, t] ty #[.slice none 0 0, .slice (some a) 0 c]).run P w = .ok (.slice none 0 0) w := by
        simp [Builtin.append_, run_underlying ht, sizeOf, typeInfo, hi, Builtin.lenOf, Builtin.firstCells, loadCells, loadCellsFrom]
      rw [h2] at hr; cases hr; exact Nat.le_refl _
    · have hr2 := run_append_nil (P := P) w t ty e i z ht hi hz a m c news hl hnews (by omega) (by omega) (by have hb := hbytes; simp only [Nat.zero_add] at hb; omega)
      rw [hr2] at hr; cases hr; exact Nat.le_succ _
  · by_cases hroom : n + m ≤ cap
    · have hfit : n * i.size + news.length ≤ cur.size := by rw [hl, hcs, ← Nat.add_mul]; exact Nat.mul_le_mul_right _ hroom
      have hr2 := run_append_room (P := P) w t ty e i ht hi g n cap cur hg a m c news hl hnews h1 hroom hfit
      rw [hr2] at hr; cases hr; exact Nat.le_refl _
    · have holds : ∀ j u, xs[j]? = some u → w.cell? ((⟨g, 0, none⟩ : Addr).add j) = some u := hown.cells (g := g) rfl
      have hr2 := run_append_grow (P := P) w t ty e i z ht hi hz ⟨g, 0, none⟩ n cap xs hown.1 holds a m c news hl hnews (by omega) (by omega) (growslice_fits (by omega) hbytes)
      rw [hr2] at hr; cases hr; exact Nat.le_succ _
/-- One append to a slice of the call's own. -/
theorem s_append {P : Program} {N : Nat} {Q : Post} {σ : Env} {w : World} {K : Env → World → Prop} {ops : Array Oper} {rest : List Oper} {d : Nat} {ty : TypeId} {pos : String} {af : Array Edge} {t : TypeId} {s x : Operand}
    {base e size bytes n m c bx ox : Nat} {z v : Value} {xs news : List Value} (hN : d < N) (hu : P.underlying t = some (.slice e)) (hsz : Siz P e size) (hby : Byt P e bytes) (hz : Zer P e z) (hzs : z.cells.size = size) (h0 : 0 < size)
    (hs : ev σ s = v) (hown : w.ownsRow base e size v n xs) (hx : ev σ x = .slice (some ⟨bx, ox, none⟩) m c) (hl : news.length = m * size) (hnews : CellsAt w bx ox news) (h1 : ∀ u ∈ news, u.oneCell' = true)
    (h63 : n + m ≤ maxLen) (hbytes : (n + m) * bytes ≤ 140737488355328) (hbase : base ≤ w.heap.size)
    (k : ∀ v' w', w'.ownsRow base e size v' (n + m) (xs ++ news) → Chg (fun x => v.ownBlock = some x) w w' → (∀ k, v'.ownBlock = some k → v.ownBlock = some k ∨ w.heap.size ≤ k) → WpL P N ops K Q rest (upd σ d v') w') :
    WpL P N ops K Q (⟨some d, .call ⟨.builtin .append, #[s, x], #[t, t]⟩, ty, pos, af, none⟩ :: rest) σ w := by
  unfold Siz at hsz; unfold Byt at hby; unfold Zer at hz
  cases hi : P.info? e with
  | none => rw [hi] at hsz; simp at hsz
  | some i =>
  rw [hi] at hsz hby hz
  simp at hsz hby hz
  obtain ⟨v', w', hr, h2, h3, _⟩ := run_append_own (P := P) w base t ty e i z size bytes hu hi hz hsz hby hzs h0 v n xs hown ⟨bx, ox, none⟩ m c news hl (fun j u hj => by rw [Addr.add_lit]; exact hnews j u hj) h1 h63 hbytes hbase
  refine WpL_val (v := v') (w' := w') rfl rfl hN ?_ (k v' w' h2 ⟨h3.os, h3.tape, h3.output, append_drawn (P := P) hu hi hz hsz hby hown hl (fun j u hj => by rw [Addr.add_lit]; exact hnews j u hj) h1 h63 hbytes hr, h3.size, fun b hb hn => h3.block b hb (fun h => hn h.symm)⟩ (append_where (P := P) hu hi hz hsz hby hzs h0 hown hl (fun j u hj => by rw [Addr.add_lit]; exact hnews j u hj) h1 h63 hbytes hr))
  simp [execOp, resolve, invoke, builtin, hs, hx, hr]
end Go.Eng
namespace Go.Eng
open Go
abbrev Fct := Value → World → Prop
def Stable (F : Fct) : Prop := ∀ v w w', Ext w w' → F v w → F v w'
inductive Fact where
  | eq (v : Value)
  | re (t : Re)
  | res (ts : List Re)
  | gen (F : Fct) (h : Stable F)
def Fact.In : Fact → Fct
  | .eq u, v, _ => v = u
  | .re t, v, w => ∃ vs, v = .agg vs.toArray ∧ ReAt w t vs
  | .res ts, v, w => ∃ b, v = .slice (some ⟨b, 0, none⟩) ts.length ts.length ∧ ResAt w b 0 ts
  | .gen F _, v, w => F v w
theorem Fact.ext {F : Fact} {v : Value} {w w' : World} (h : F.In v w) (e : Ext w w') : F.In v w' := by
  cases F with
  | eq u => exact h
  | re t => obtain ⟨vs, h1, h2⟩ := h; exact ⟨vs, h1, ReAt.ext e t h2⟩
  | res ts => obtain ⟨b, h1, h2⟩ := h; exact ⟨b, h1, ResAt.ext e ts h2⟩
  | gen F hF => exact hF _ _ _ e h
def Does (P : Program) (N : Nat) (o : Oper) (R : Fct) (σ : Env) (w : World) : Prop :=
  ∀ a, Ok N a → env a = σ → ∀ (Q : Exit → Act → World → Prop) (K : Act → World → Prop), (∀ v w', Ext w w' → R v w' → K (a.put o.dst v) w') → o.wp P a w K Q
def Holds (ds : List Nat) (Fs : List Fact) (j : Nat) (σ : Env) (w : World) : Prop := ∀ d F, ds[j]? = some d → Fs[j]? = some F → F.In (σ d) w
def Guarded (ds : List Nat) (o : Oper) (σ : Env) : Prop := ∀ j b, o.guard = some (j, b) → ∃ d, ds[j]? = some d ∧ σ d = .bool b
def Unmet (ds : List Nat) (o : Oper) (σ : Env) : Prop := ∃ j b d, o.guard = some (j, b) ∧ ds[j]? = some d ∧ (σ d = .bool (!b) ∨ σ d = undef)
theorem Unmet_mk {ds : List Nat} {o : Oper} {σ : Env} {j : Nat} {b : Bool} {d : Nat} (h : o.guard = some (j, b)) (hd : ds[j]? = some d) (hv : σ d = .bool (!b) ∨ σ d = undef) : Unmet ds o σ := ⟨j, b, d, h, hd, hv⟩
section
variable {P : Program} {N : Nat} {o : Oper} {R : Fct} {σ : Env} {w : World}
theorem Does_val {v : Value} {w' : World} (hr : (execOp (ev σ) o).run P w = .ok (.value v) w') (hx : Ext w w') (h : R v w') : Does P N o R σ w := by
  intro a ha he Q K hK
  unfold Oper.wp
  rw [eval_env, he, hr]
  simp only [Oper.upon]
  exact hK _ _ hx h
theorem Does_enter {f : FuncId} {args : Array Value} (hr : (execOp (ev σ) o).run P w = .ok (.enter f args) w) (hc : Ret P f args w fun v w' => R v w' ∧ Ext w w') : Does P N o R σ w := by
  intro a ha he Q K hK
  unfold Oper.wp
  rw [eval_env, he, hr]
  simp only [Oper.upon]
  refine Calls.mono hc ?_
  rintro e w' ⟨v, rfl, r, x⟩
  exact hK _ _ x r
theorem Guarded_none {ds : List Nat} (h : o.guard = none) : Guarded ds o σ := fun j b hj => by rw [h] at hj; cases hj
theorem Guarded_some {ds : List Nat} {j : Nat} {b : Bool} {d : Nat} (h : o.guard = some (j, b)) (hd : ds[j]? = some d) (hv : σ d = .bool b) : Guarded ds o σ := fun j' b' hj => by
  rw [h] at hj; cases hj; exact ⟨d, hd, hv⟩
end
def dagOne (N i : Nat) (o : Oper) (d : Nat) (ws : List Nat) : Bool :=
  (match o.dst with | some d' => Nat.beq d' d | none => false) && Nat.blt d N && (o.after.all fun e => !Region.binds .any e || Nat.blt e.on i) && ws.all fun j => o.after.any fun e => Region.binds .any e && Nat.beq e.on j
def dagB (N : Nat) : Nat → List Oper → List Nat → List (List Nat) → Bool
  | _, [], [], [] => true
  | i, o :: l, d :: ds, ws :: wss => dagOne N i o d ws && dagB N (i + 1) l ds wss
  | _, _, _, _ => false
def nodupB : List Nat → Bool
  | [] => true
  | d :: ds => !ds.contains d && nodupB ds
theorem nodupB_get : ∀ {ds : List Nat}, nodupB ds = true → ∀ {i j d : Nat}, ds[i]? = some d → ds[j]? = some d → i = j
  | [], _, i, _, _, h, _ => by simp at h
  | x :: ds, hn, i, j, d, hi, hj => by
    simp only [nodupB, Bool.and_eq_true, Bool.not_eq_true', List.contains_eq_mem, decide_eq_false_iff_not] at hn
    cases i with
    | zero =>
      cases j with
      | zero => rfl
      | succ j => simp at hi hj; subst hi; exact absurd (List.mem_of_getElem? hj) hn.1
    | succ i =>
      cases j with
      | zero => simp at hi hj; subst hj; exact absurd (List.mem_of_getElem? hi) hn.1
      | succ j => simp at hi hj; rw [nodupB_get hn.2 hi hj]
theorem dagB_get {N : Nat} : ∀ {i : Nat} {l : List Oper} {ds : List Nat} {wss : List (List Nat)}, dagB N i l ds wss = true → ∀ {j : Nat} {o : Oper}, l[j]? = some o → ∃ d ws, ds[j]? = some d ∧ wss[j]? = some ws ∧ dagOne N (i + j) o d ws = true
  | _, [], _, _, _, j, o, h => by simp at h
  | i, x :: l, [], _, hB, _, _, _ => by simp [dagB] at hB
  | i, x :: l, d :: ds, [], hB, _, _, _ => by simp [dagB] at hB
  | i, x :: l, d :: ds, ws :: wss, hB, j, o, h => by
    simp only [dagB, Bool.and_eq_true] at hB
    cases j with
    | zero => simp at h; subst h; exact ⟨d, ws, rfl, rfl, hB.1⟩
    | succ j =>
      simp at h
      obtain ⟨d', ws', h1, h2, h3⟩ := dagB_get hB.2 h
      exact ⟨d', ws', by simpa using h1, by simpa using h2, by rw [show i + (j + 1) = i + 1 + j from by omega]; exact h3⟩
theorem dagB_len {N : Nat} : ∀ {i : Nat} {l : List Oper} {ds : List Nat} {wss : List (List Nat)}, dagB N i l ds wss = true → ds.length = l.length
  | _, [], [], [], _ => rfl
  | _, [], [], _ :: _, hB => by simp [dagB] at hB
  | _, [], _ :: _, _, hB => by simp [dagB] at hB
  | i, x :: l, [], _, hB => by simp [dagB] at hB
  | i, x :: l, d :: ds, [], hB => by simp [dagB] at hB
  | i, x :: l, d :: ds, ws :: wss, hB => by
    simp only [dagB, Bool.and_eq_true] at hB
    simp [dagB_len hB.2]
def DagStep (P : Program) (N : Nat) (ds : List Nat) (Fs : List Fact) (σ : Env) (w : World) (o : Oper) (ws : List Nat) (F : Fact) : Prop :=
  ∀ σ' w', Ext w w' → (∀ t, ds.contains t = false → σ' t = σ t) → (∀ j, ws.contains j = true → Holds ds Fs j σ' w') → (Guarded ds o σ' ∧ Does P N o F.In σ' w') ∨ (Unmet ds o σ' ∧ F.In undef w')
inductive DagSteps (P : Program) (N : Nat) (ds : List Nat) (Fs : List Fact) (σ : Env) (w : World) : List Oper → List (List Nat) → List Fact → Prop where
  | nil : DagSteps P N ds Fs σ w [] [] []
  | cons {o : Oper} {ws : List Nat} {F : Fact} {l : List Oper} {wss : List (List Nat)} {Gs : List Fact} : DagStep P N ds Fs σ w o ws F → DagSteps P N ds Fs σ w l wss Gs → DagSteps P N ds Fs σ w (o :: l) (ws :: wss) (F :: Gs)
theorem DagSteps.get {P : Program} {N : Nat} {ds : List Nat} {Fs : List Fact} {σ : Env} {w : World} : ∀ {l : List Oper} {wss : List (List Nat)} {Gs : List Fact}, DagSteps P N ds Fs σ w l wss Gs → ∀ {j : Nat} {o : Oper}, l[j]? = some o → ∃ ws F, wss[j]? = some ws ∧ Gs[j]? = some F ∧ DagStep P N ds Fs σ w o ws F
  | _, _, _, .nil, j, o, h => by simp at h
  | _, _, _, .cons h1 h2, 0, o, h => by simp at h; subst h; exact ⟨_, _, rfl, rfl, h1⟩
  | _, _, _, .cons h1 h2, j + 1, o, h => by
    obtain ⟨ws, F, a, b, c⟩ := h2.get (j := j) (by simpa using h)
    exact ⟨ws, F, by simpa using a, by simpa using b, c⟩
theorem Wp_dag {P : Program} {N : Nat} {Q : Post} {σ : Env} {w : World} {id : Nat} {l : List Oper} (ds : List Nat) (wss : List (List Nat)) (Fs : List Fact) {Gs : List Fact} (hG : Fs = Gs) (hm : P.follows .mixedOrders = true) (hB : dagB N 0 l ds wss = true) (hn : nodupB ds = true)
    (steps : ∀ w1, Ext w w1 → DagSteps P N ds Fs σ w1 l wss Gs)
    (k : ∀ σ' w', Ext w w' → (∀ t, ds.contains t = false → σ' t = σ t) → (∀ j, Holds ds Fs j σ' w') → Q .normal σ' w') : Wp P N (.region id l.toArray true) Q σ w := by
  intro a ha he
  refine wp_region_any hm ?_
  obtain ⟨w1, hw1⟩ : ∃ w1 : World, w1 = { w with drawn := w.drawn + 1 } := ⟨_, rfl⟩
  have hE1 : Ext w w1 := by rw [hw1]; exact drew_ext w
  rw [← hw1]
  have hst := steps w1 hE1
  rw [← hG] at hst
  have hlen := dagB_len hB
  have key : ∀ (fuel : Nat) (listed : Array Bool) (a : Act) (w' : World), listed.size = l.length → listed.toList.count false ≤ fuel → Ok N a → Ext w1 w' → (∀ t, ds.contains t = false → env a t = σ t) → (∀ j, listed.getD j false = true → Holds ds Fs j (env a) w') →
      wpAny P .any l.toArray (lift N Q) fuel listed a w' := by
    intro fuel
    have all : ∀ (listed : Array Bool) (a : Act) (w' : World), listed.size = l.length → Ok N a → Ext w1 w' → (∀ t, ds.contains t = false → env a t = σ t) → (∀ j, listed.getD j false = true → Holds ds Fs j (env a) w') → listed.toList.count false = 0 → lift N Q .normal a w' := by
      intro listed a w' hs ha hx hu hh hc
      refine ⟨ha, k _ _ (hE1.trans hx) hu fun j => ?_⟩
      intro d F hd hF
      have hj : j < listed.size := by have := lt_of_get hd; omega
      refine hh j ?_ d F hd hF
      rw [List.count_eq_zero] at hc
      have : listed[j] ≠ false := fun h => hc (by rw [← h]; exact Array.getElem_mem_toList hj)
      simp only [Array.getD_eq_getD_getElem?, Array.getElem?_eq_getElem hj, Option.getD_some]
      simpa using this
    induction fuel with
    | zero =>
      intro listed a w' hs hc ha hx hu hh
      have hc0 : listed.toList.count false = 0 := by omega
      refine ⟨?_, all listed a w' hs ha hx hu hh hc0⟩
      rw [List.eq_nil_iff_forall_not_mem]
      intro i hi
      obtain ⟨h1, o, h2, _⟩ := mem_ready.1 hi
      have hj : i < listed.size := by have := (Array.getElem?_eq_some_iff.1 h2).1; simp at this; omega
      simp only [Array.getD_eq_getD_getElem?, Array.getElem?_eq_getElem hj, Option.getD_some] at h1
      rw [List.count_eq_zero] at hc0
      exact hc0 (by rw [← h1]; exact Array.getElem_mem_toList hj)
    | succ fuel ih =>
      intro listed a w' hs hc ha hx hu hh
      refine ⟨fun hr => all listed a w' hs ha hx hu hh ?_, fun i hi => ?_⟩
      · -- none is ready: all are listed
        have hall : ∀ i, i < listed.size → listed.getD i true = true := by
          intro i
          induction i using Nat.strongRecOn with
          | _ i ihi =>
            intro hi
            cases hv : listed.getD i true with
            | true => rfl
            | false =>
              exfalso
              obtain ⟨o, ho⟩ := get_of_lt (l := l) (i := i) (by omega)
              obtain ⟨d, ws, _, _, h3⟩ := dagB_get hB ho
              have : i ∈ Region.ready .any l.toArray listed := by
                refine mem_ready.2 ⟨hv, o, by simpa using ho, fun e he hb => ?_⟩
                simp only [dagOne, Bool.and_eq_true, Array.all_eq_true_iff_forall_mem, Bool.or_eq_true, Bool.not_eq_true', Nat.zero_add] at h3
                have := (h3.1.2 e he).resolve_left (by simp [hb])
                have hlt : e.on < i := by simpa [Nat.blt_eq] using this
                have h4 := ihi e.on hlt (by omega)
                have hj : e.on < listed.size := by omega
                simpa only [Array.getD_eq_getD_getElem?, Array.getElem?_eq_getElem hj, Option.getD_some] using h4
              rw [hr] at this
              cases this
        rw [List.count_eq_zero]
        intro hmem
        obtain ⟨i, hi, he⟩ := List.getElem_of_mem hmem
        have hj : i < listed.size := by simpa using hi
        have := hall i hj
        simp only [Array.getD_eq_getD_getElem?, Array.getElem?_eq_getElem hj, Option.getD_some] at this
        simp at he
        rw [this] at he
        cases he
      · obtain ⟨h1, o, h2, h3⟩ := mem_ready.1 hi
        have ho : l[i]? = some o := by simpa using h2
        have hil : i < l.length := lt_of_get ho
        obtain ⟨d, ws, hd, hws, h4⟩ := dagB_get hB ho
        obtain ⟨ws', F, hws', hF, hstep⟩ := hst.get ho
        rw [hws] at hws'
        cases hws'
        simp only [dagOne, Bool.and_eq_true, List.all_eq_true, Array.any_eq_true', Array.all_eq_true_iff_forall_mem, Bool.or_eq_true, Bool.not_eq_true', Nat.zero_add] at h4
        obtain ⟨⟨⟨hdst, hdN⟩, _⟩, hwait⟩ := h4
        have hdst : o.dst = some d := by
          split at hdst
          · rename_i d' h; rw [h, Nat.eq_of_beq_eq_true hdst]
          · cases hdst
        have hdN : d < N := by simpa [Nat.blt_eq] using hdN
        have hH : ∀ j, ws.contains j = true → Holds ds Fs j (env a) w' := by
          intro j hj
          have hj' : j ∈ ws := by simpa using hj
          obtain ⟨e, he, hb⟩ := hwait j hj'
          obtain ⟨hb1, hb2⟩ := hb
          have : e.on = j := Nat.eq_of_beq_eq_true hb2
          exact hh j (this ▸ h3 e he hb1)
        have cont : ∀ v w2, Ext w' w2 → F.In v w2 → wpAny P .any l.toArray (lift N Q) fuel (listed.setIfInBounds i true) (a.put o.dst v) w2 := by
          intro v w2 hx2 hv
          have henv : env (a.put o.dst v) = upd (env a) d v := by rw [hdst]; exact env_put ha hdN v
          refine ih _ _ _ (by simpa using hs) ?_ (ha.put _ _) (hx.trans hx2) ?_ ?_
          · have hi' : i < listed.toList.length := by simp; omega
            have hl : listed.toList[i] = false := by
              have hj : i < listed.size := by omega
              simp only [Array.getD_eq_getD_getElem?, Array.getElem?_eq_getElem hj, Option.getD_some] at h1
              simpa using h1
            rw [Array.toList_setIfInBounds, List.count_set hi', hl, if_pos (by rfl), if_neg (by decide)]
            omega
          · intro t ht
            rw [henv, ← hu t ht]
            simp only [upd]
            cases hb : Nat.beq t d
            · rfl
            · exfalso
              have : t = d := Nat.eq_of_beq_eq_true hb
              subst this
              have := List.mem_of_getElem? hd
              simp [this] at ht
          · intro j hj d' F' hd' hF'
            rw [henv]
            by_cases hij : j = i
            · subst hij
              rw [hd] at hd'; cases hd'
              rw [hF] at hF'; cases hF'
              simp only [upd, Nat.beq_refl, cond_true]
              exact hv
            · have hne : Nat.beq d' d = false := by
                cases hb : Nat.beq d' d
                · rfl
                · exfalso
                  have : d' = d := Nat.eq_of_beq_eq_true hb
                  subst this
                  exact hij (nodupB_get hn hd' hd)
              simp only [upd, hne, cond_false]
              rw [getD_set_ne _ (Ne.symm hij)] at hj
              exact Fact.ext (hh j hj d' F' hd' hF') hx2
        rcases hstep (env a) w' hx hu hH with ⟨hg, hdo⟩ | ⟨⟨j, b, dj, hgd, hdj, hvj⟩, hund⟩
        · have hw : Region.wanted o (yielded l.toArray a.tmps) = true := by
            cases hgd : o.guard with
            | none => simp [Region.wanted, hgd]
            | some p =>
              obtain ⟨j, b⟩ := p
              obtain ⟨dj, hdj, hvj⟩ := hg j b hgd
              obtain ⟨oj, hoj⟩ := get_of_lt (l := l) (i := j) (by have := lt_of_get hdj; omega)
              obtain ⟨dj', _, hdj', _, h5⟩ := dagB_get hB hoj
              rw [hdj] at hdj'
              cases hdj'
              simp only [dagOne, Bool.and_eq_true] at h5
              obtain ⟨⟨⟨hdst2, hdN2⟩, _⟩, _⟩ := h5
              have hdst2 : oj.dst = some dj := by
                split at hdst2
                · rename_i d' h; rw [h, Nat.eq_of_beq_eq_true hdst2]
                · cases hdst2
              have hdN2 : dj < N := by simpa [Nat.blt_eq] using hdN2
              have h6 : a.tmps[dj]? = some (Value.bool b) := by
                have h2 : a.tmps.getD dj undef = .bool b := hvj
                have hlt : dj < a.tmps.size := by rw [ha.size]; exact hdN2
                rw [Array.getElem?_eq_getElem hlt]
                simpa [hlt] using h2
              simp [Region.wanted, hgd, yielded, hoj, hdst2, h6]
          unfold wpOp
          simp only [h2, hw, if_true]
          exact Or.inl (hdo a ha rfl _ _ cont)
        · have hw : Region.wanted o (yielded l.toArray a.tmps) = false := by
            obtain ⟨oj, hoj⟩ := get_of_lt (l := l) (i := j) (by have := lt_of_get hdj; omega)
            obtain ⟨dj', _, hdj', _, h5⟩ := dagB_get hB hoj
            rw [hdj] at hdj'
            cases hdj'
            simp only [dagOne, Bool.and_eq_true] at h5
            obtain ⟨⟨⟨hdst2, hdN2⟩, _⟩, _⟩ := h5
            have hdst2 : oj.dst = some dj := by
              split at hdst2
              · rename_i d' h; rw [h, Nat.eq_of_beq_eq_true hdst2]
              · cases hdst2
            have hdN2 : dj < N := by simpa [Nat.blt_eq] using hdN2
            have hlt : dj < a.tmps.size := by rw [ha.size]; exact hdN2
            have h6 : a.tmps[dj]? = some (env a dj) := by
              rw [Array.getElem?_eq_getElem hlt]
              simp [env, hlt]
            rcases hvj with hvj | hvj
            · rw [hvj] at h6
              cases b <;> simp [Region.wanted, hgd, yielded, hoj, hdst2, h6]
            · rw [hvj] at h6
              simp [Region.wanted, hgd, yielded, hoj, hdst2, h6, undef]
          unfold wpOp
          simp only [h2, hw, Bool.false_eq_true, if_false]
          exact cont undef w' (Ext.refl _) hund
  refine key _ _ _ _ (by simp) (by simp) ha (Ext.refl _) (fun t _ => by rw [he]) ?_
  intro j hj
  exfalso
  simp only [Array.getD_eq_getD_getElem?, Array.getElem?_replicate] at hj
  split at hj <;> simp at hj
theorem lst2 {x y a b : Value} (h : x = a) (h' : y = b) : [x, y] = [a, b] := by rw [h, h']
theorem lst3 {x y z a b c : Value} (h : x = a) (h' : y = b) (h'' : z = c) : [x, y, z] = [a, b, c] := by rw [h, h', h'']
theorem lst4 {x y z u a b c d : Value} (h : x = a) (h' : y = b) (h'' : z = c) (h3 : u = d) : [x, y, z, u] = [a, b, c, d] := by rw [h, h', h'', h3]
section
variable {P : Program} {N : Nat} {σ : Env} {w : World} {dst : Option Tmp} {ty : TypeId} {pos : String} {af : Array Edge} {g : Option (Nat × Bool)} {t : TypeId} {x y : Operand}
theorem run_buildSlice {e : TypeId} {len n : Nat} {z : Value} {parts : List (Nat × Operand)} {ps : List (Nat × Value)} {c : Array Value} (hp : (parts.map fun (i, x) => (i, ev σ x)) = ps) (hu : P.underlying t = some (.slice e)) (hs : Siz P e n) (hz : Zer P e z) (hl : ¬ (len * n > 2 ^ 24)) (h0 : len * n ≠ 0)
    (hc : Instr.fill (fun i => some (i * n, n)) ((Array.range (len * n)).map (z.cells[· % z.cells.size]!)) ps = some c) :
    (execOp (ev σ) ⟨dst, .buildSlice t len parts.toArray, ty, pos, af, g⟩).run P w = .ok (.value (.slice (some ⟨w.heap.size, 0, none⟩) len len)) { w with heap := w.heap.push (.cells c e (0, 0)) } := by
  subst hp
  simp only [execOp, Instr.buildSlice, List.map_toArray, Sem.run_bind, run_underlying hu, Result.andThen_ok, hs.run, hl, h0, if_false, Sem.run_pure, hz.run, hc]
  simp [newRow]
end
end Go.Eng
namespace Go.Eng
open Go
inductive FactT (M : Nat → Prop) where
  | eq (v : Value)
  | gen (F : Fct) (h : ∀ v w w', Chg M w w' → F v w → F v w')
  | own (F : Fct) (h : ∀ v w w', Ext w w' → F v w → F v w')
  | till (F : Fct) (h : ∀ v w w', Ext w w' → F v w → F v w')
def FactT.In {M : Nat → Prop} : FactT M → Fct
  | .eq u, v, _ => v = u
  | .gen F _, v, w => F v w
  | .own F _, v, w => F v w
  | .till F _, v, w => F v w
/-- What a fact says, ahead of the operation that changes memory and behind it. -/
def FactT.At {M : Nat → Prop} (done : Bool) : FactT M → Fct
  | .till F _, v, w => done = false → F v w
  | F, v, w => F.In v w
theorem FactT.at_in {M : Nat → Prop} {F : FactT M} {v : Value} {w : World} (h : F.In v w) (done : Bool) : F.At done v w := by
  cases F <;> first | exact h | exact fun _ => h
def FactT.isOwn {M : Nat → Prop} : FactT M → Bool
  | .own _ _ => true
  | _ => false
theorem FactT.chg {M : Nat → Prop} {F : FactT M} {v : Value} {w w' : World} {done : Bool} (h : F.At done v w) (e : Chg M w w') (ho : F.isOwn = false) : F.At true v w' := by
  cases F with
  | eq u => exact h
  | gen F hF => exact hF _ _ _ e h
  | own F hF => cases ho
  | till F hF => intro hd; cases hd
theorem FactT.ext {M : Nat → Prop} {F : FactT M} {v : Value} {w w' : World} {done : Bool} (h : F.At done v w) (e : Ext w w') : F.At done v w' := by
  cases F with
  | eq u => exact h
  | gen F hF => exact hF _ _ _ (Ext.chg e) h
  | own F hF => exact hF _ _ _ e h
  | till F hF => exact fun hd => hF _ _ _ e (h hd)
/-- Only the fact at one place is of the kind that holds behind that operation alone. -/
def ownB {M : Nat → Prop} (c : Nat) : Nat → List (FactT M) → Bool
  | _, [] => true
  | i, F :: l => (!F.isOwn || Nat.beq i c) && ownB c (i + 1) l
theorem ownB_get {M : Nat → Prop} {c : Nat} : ∀ {i : Nat} {l : List (FactT M)}, ownB c i l = true → ∀ {j : Nat} {F : FactT M}, l[j]? = some F → i + j ≠ c → F.isOwn = false
  | _, [], _, _, _, h, _ => by simp at h
  | i, G :: l, hB, 0, F, h, hne => by
    simp at h; subst h
    simp only [ownB, Bool.and_eq_true, Bool.or_eq_true, Bool.not_eq_true'] at hB
    rcases hB.1 with h | h
    · exact h
    · exact absurd (Nat.eq_of_beq_eq_true h) hne
  | i, G :: l, hB, j + 1, F, h, hne => by
    simp only [ownB, Bool.and_eq_true] at hB
    simp at h
    exact ownB_get hB.2 h (by omega)
def DoesT (M : Nat → Prop) (P : Program) (N : Nat) (o : Oper) (R : Fct) (σ : Env) (w : World) : Prop :=
  ∀ a, Ok N a → env a = σ → ∀ (Q : Exit → Act → World → Prop) (K : Act → World → Prop), (∀ v w', Chg M w w' → R v w' → K (a.put o.dst v) w') → o.wp P a w K Q
def HoldsT {M : Nat → Prop} (ds : List Nat) (Fs : List (FactT M)) (done : Bool) (j : Nat) (σ : Env) (w : World) : Prop := ∀ d F, ds[j]? = some d → Fs[j]? = some F → F.At done (σ d) w
section
variable {M : Nat → Prop} {P : Program} {N : Nat} {o : Oper} {R : Fct} {σ : Env} {w : World}
theorem DoesT_val {v : Value} {w' : World} (hr : (execOp (ev σ) o).run P w = .ok (.value v) w') (hx : Chg M w w') (h : R v w') : DoesT M P N o R σ w := by
  intro a ha he Q K hK
  unfold Oper.wp
  rw [eval_env, he, hr]
  simp only [Oper.upon]
  exact hK _ _ hx h
theorem DoesT_skip {w' : World} (hr : (execOp (ev σ) o).run P w = .ok .skip w') (hx : Chg M w w') (h : R undef w') : DoesT M P N o R σ w := by
  intro a ha he Q K hK
  unfold Oper.wp
  rw [eval_env, he, hr]
  simp only [Oper.upon]
  exact hK _ _ hx h
theorem DoesT_enter {f : FuncId} {args : Array Value} (hr : (execOp (ev σ) o).run P w = .ok (.enter f args) w) (hc : Ret P f args w fun v w' => R v w' ∧ Chg M w w') : DoesT M P N o R σ w := by
  intro a ha he Q K hK
  unfold Oper.wp
  rw [eval_env, he, hr]
  simp only [Oper.upon]
  refine Calls.mono hc ?_
  rintro e w' ⟨v, rfl, r, x⟩
  exact hK _ _ x r
end
def dagOneT (N i : Nat) (o : Oper) (d : Nat) (ws : List Nat) : Bool :=
  (match o.dst with | some d' => Nat.beq d' d && Nat.blt d N | none => Nat.ble N d) && (o.after.all fun e => !Region.binds .any e || Nat.blt e.on i) && (ws.all fun j => o.after.any fun e => Region.binds .any e && Nat.beq e.on j) && o.guard.isNone
def dagBT (N : Nat) : Nat → List Oper → List Nat → List (List Nat) → Bool
  | _, [], [], [] => true
  | i, o :: l, d :: ds, ws :: wss => dagOneT N i o d ws && dagBT N (i + 1) l ds wss
  | _, _, _, _ => false
theorem dagBT_get {N : Nat} : ∀ {i : Nat} {l : List Oper} {ds : List Nat} {wss : List (List Nat)}, dagBT N i l ds wss = true → ∀ {j : Nat} {o : Oper}, l[j]? = some o → ∃ d ws, ds[j]? = some d ∧ wss[j]? = some ws ∧ dagOneT N (i + j) o d ws = true
  | _, [], _, _, _, j, o, h => by simp at h
  | i, x :: l, [], _, hB, _, _, _ => by simp [dagBT] at hB
  | i, x :: l, d :: ds, [], hB, _, _, _ => by simp [dagBT] at hB
  | i, x :: l, d :: ds, ws :: wss, hB, j, o, h => by
    simp only [dagBT, Bool.and_eq_true] at hB
    cases j with
    | zero => simp at h; subst h; exact ⟨d, ws, rfl, rfl, hB.1⟩
    | succ j =>
      simp at h
      obtain ⟨d', ws', h1, h2, h3⟩ := dagBT_get hB.2 h
      exact ⟨d', ws', by simpa using h1, by simpa using h2, by rw [show i + (j + 1) = i + 1 + j from by omega]; exact h3⟩
theorem dagBT_len {N : Nat} : ∀ {i : Nat} {l : List Oper} {ds : List Nat} {wss : List (List Nat)}, dagBT N i l ds wss = true → ds.length = l.length
  | _, [], [], [], _ => rfl
  | _, [], [], _ :: _, hB => by simp [dagBT] at hB
  | _, [], _ :: _, _, hB => by simp [dagBT] at hB
  | i, x :: l, [], _, hB => by simp [dagBT] at hB
  | i, x :: l, d :: ds, [], hB => by simp [dagBT] at hB
  | i, x :: l, d :: ds, ws :: wss, hB => by
    simp only [dagBT, Bool.and_eq_true] at hB
    simp [dagBT_len hB.2]
/-- The operations that are sure to come ahead of the one that changes memory, and that one. -/
def calmB (c : Nat) (wss : List (List Nat)) (i : Nat) : Bool := Nat.beq i c || (wss.getD c []).contains i
def valOf (o : Oper) (v : Value) : Value := match o.dst with
  | some _ => v
  | none => undef
def DagStepT {M : Nat → Prop} (P : Program) (N : Nat) (ds : List Nat) (Fs : List (FactT M)) (σ : Env) (w : World) (own calm : Bool) (o : Oper) (ws : List Nat) (F : FactT M) : Prop :=
  ∀ σ' w', Chg (bif calm then none1 else M) w w' → (∀ t, ds.contains t = false → σ' t = σ t) → (∀ j, ws.contains j = true → HoldsT ds Fs (!calm) j σ' w') → DoesT (bif own then M else none1) P N o (fun v w => F.In (Go.Eng.valOf o v) w) σ' w'
inductive DagStepsT {M : Nat → Prop} (P : Program) (N : Nat) (ds : List Nat) (Fs : List (FactT M)) (σ : Env) (w : World) (c : Nat) (all : List (List Nat)) : Nat → List Oper → List (List Nat) → List (FactT M) → Prop where
  | nil {i : Nat} : DagStepsT P N ds Fs σ w c all i [] [] []
  | cons {i : Nat} {o : Oper} {ws : List Nat} {F : FactT M} {l : List Oper} {wss : List (List Nat)} {Gs : List (FactT M)} : DagStepT P N ds Fs σ w (Nat.beq i c) (calmB c all i) o ws F → DagStepsT P N ds Fs σ w c all (i + 1) l wss Gs → DagStepsT P N ds Fs σ w c all i (o :: l) (ws :: wss) (F :: Gs)
theorem DagStepsT.get {M : Nat → Prop} {P : Program} {N : Nat} {ds : List Nat} {Fs : List (FactT M)} {σ : Env} {w : World} {c : Nat} {all : List (List Nat)} : ∀ {i : Nat} {l : List Oper} {wss : List (List Nat)} {Gs : List (FactT M)}, DagStepsT P N ds Fs σ w c all i l wss Gs → ∀ {j : Nat} {o : Oper}, l[j]? = some o → ∃ ws F, wss[j]? = some ws ∧ Gs[j]? = some F ∧ DagStepT P N ds Fs σ w (Nat.beq (i + j) c) (calmB c all (i + j)) o ws F
  | _, _, _, _, .nil, j, o, h => by simp at h
  | _, _, _, _, .cons h1 h2, 0, o, h => by simp at h; subst h; exact ⟨_, _, rfl, rfl, h1⟩
  | i, _, _, _, .cons h1 h2, j + 1, o, h => by
    obtain ⟨ws, F, a, b, c⟩ := h2.get (j := j) (by simpa using h)
    exact ⟨ws, F, by simpa using a, by simpa using b, by rw [show i + (j + 1) = i + 1 + j from by omega]; exact c⟩
def headDone (n m : Nat) : Array Bool := (List.replicate n true ++ List.replicate (m - n) false).toArray
theorem count_take_set {l : List Bool} {n i : Nat} (hi : i < n) (hl : n ≤ l.length) (hf : l[i]? = some false) : ((l.set i true).take n).count false + 1 = (l.take n).count false := by
  have hi' : i < (l.take n).length := by simp; omega
  rw [List.take_set, List.count_set hi']
  have : (l.take n)[i] = false := by
    have h2 : (l.take n)[i]? = some false := by rw [List.getElem?_take_of_lt hi]; exact hf
    rw [List.getElem?_eq_getElem hi'] at h2; simpa using h2
  rw [this, if_pos (by rfl), if_neg (by decide)]
  have : 0 < (l.take n).count false := by
    rw [List.count_pos_iff]
    rw [← this]; exact List.getElem_mem hi'
  omega
theorem head_all {l : List Bool} {n : Nat} (hl : n ≤ l.length) (h0 : (l.take n).count false = 0) (ht : ∀ t, n ≤ t → t < l.length → l[t]? = some false) : l = List.replicate n true ++ List.replicate (l.length - n) false := by
  apply List.ext_getElem?
  intro i
  rcases Nat.lt_or_ge i n with h | h
  · rw [List.getElem?_append_left (by simpa using h), List.getElem?_replicate, if_pos h]
    have hi : i < l.length := by omega
    rw [List.getElem?_eq_getElem hi]
    cases hv : l[i] with
    | true => rfl
    | false =>
      exfalso
      rw [List.count_eq_zero] at h0
      apply h0
      have : (l.take n)[i]? = some false := by rw [List.getElem?_take_of_lt h, List.getElem?_eq_getElem hi, hv]
      exact List.mem_of_getElem? this
  · rw [List.getElem?_append_right (by simpa using h), List.getElem?_replicate, List.length_replicate]
    rcases Nat.lt_or_ge i l.length with h2 | h2
    · rw [if_pos (by omega), ht i h h2]
    · rw [if_neg (by omega), List.getElem?_eq_none h2]
theorem Wp_dagT {P : Program} {N : Nat} {Q : Post} {σ : Env} {w : World} {id : Nat} {l : List Oper} (M : Nat → Prop) (n c : Nat) (ds : List Nat) (wss : List (List Nat)) (Fs : List (FactT M)) {Gs : List (FactT M)} (hG : Fs = Gs) (hO : ownB c 0 Gs = true) (hm : P.follows .mixedOrders = true) (hB : dagBT N 0 (l.take n) ds wss = true) (hn : nodupB ds = true)
    (hT : (decide (n < l.length) && Region.sinkB .any l.toArray n && Region.chainB .any l.toArray n && Region.seqB .any l.toArray (l.length - n) n (headDone n l.length)) = true)
    (steps : ∀ w1, Ext w w1 → DagStepsT P N ds Fs σ w1 c wss 0 (l.take n) wss Gs)
    (k : ∀ σ' w1 w', Ext w w1 → Chg M w1 w' → (∀ t, ds.contains t = false → σ' t = σ t) → (∀ j, HoldsT ds Fs true j σ' w') → WpL P N l.toArray (Q .normal) Q (l.drop n) σ' w') : Wp P N (.region id l.toArray true) Q σ w := by
  intro a ha he
  have eQ : lift N (thn (Q .normal) Q) = lift N Q := by funext e a w; cases e <;> rfl
  refine wp_region_any hm ?_
  obtain ⟨w1, hw1⟩ : ∃ w1 : World, w1 = { w with drawn := w.drawn + 1 } := ⟨_, rfl⟩
  have hE1 : Ext w w1 := by rw [hw1]; exact drew_ext w
  rw [← hw1]
  have hst := steps w1 hE1
  rw [← hG] at hst
  simp only [Bool.and_eq_true, decide_eq_true_eq] at hT
  obtain ⟨⟨⟨hnl, hs⟩, hc⟩, hseq⟩ := hT
  have toM : ∀ {q : Bool} {u u' : World}, Chg (bif q then M else none1) u u' → Chg M u u' := fun {q u u'} h => by cases q with | true => exact h | false => exact Ext.chg h
  have hlen : ds.length = n := by rw [dagBT_len hB]; simp; omega
  have key : ∀ (m : Nat) (listed : Array Bool) (a : Act) (w' : World), (listed.toList.take n).count false = m → HeadInv .any l.toArray n listed → Ok N a → Chg (bif listed.getD c false then M else none1) w1 w' → (∀ t, ds.contains t = false → env a t = σ t) → (∀ j, listed.getD j false = true → HoldsT ds Fs (listed.getD c false) j (env a) w') →
      wpAny P .any l.toArray (lift N Q) (m + (l.length - n)) listed a w' := by
    intro m
    induction m with
    | zero =>
      intro listed a w' hc0 inv ha hx hu hh
      have hsz : listed.size = l.length := by simpa using inv.size
      have hl : listed = headDone n l.length := by
        apply Array.ext'
        rw [headDone]
        have := head_all (l := listed.toList) (n := n) (by simp; omega) hc0 (by
          intro t h1 h2
          have h2' : t < listed.size := by simpa using h2
          have := inv.tail t h1 (by simpa [hsz] using h2')
          simp only [Array.getD_eq_getD_getElem?, Array.getElem?_eq_getElem h2', Option.getD_some] at this
          simp [h2', this])
        rw [this]; simp [hsz]
      rw [Nat.zero_add]
      have h1 := k (env a) w1 w' hE1 (toM hx) hu (fun j d F hd hF => by
        have hj : j < n := by have := lt_of_get hd; omega
        have h2 := hh j (by
          rw [hl, headDone]
          simp [Array.getD_eq_getD_getElem?, List.getElem?_append_left, hj]) d F hd hF
        cases F with
        | till F hF => intro hd; cases hd
        | eq u => exact h2
        | gen F hF => exact h2
        | own F hF => exact h2) a ha rfl
      rw [eQ] at h1
      have := wpAny_of_seq (P := P) (md := .any) (ops := l.toArray) (Q' := lift N Q) (l.drop n) n listed a w' (fun j => by simp [List.getElem?_drop]) (by rw [List.length_drop, hl]; exact hseq) h1
      rwa [List.length_drop] at this
    | succ m ih =>
      intro listed a w' hcm inv ha hx hu hh
      have hsz : listed.size = l.length := by simpa using inv.size
      obtain ⟨i0, hi0n, hi0⟩ : ∃ i, i < n ∧ listed.getD i true = false := by
        have : 0 < (listed.toList.take n).count false := by omega
        rw [List.count_pos_iff] at this
        obtain ⟨i, hi, he⟩ := List.getElem_of_mem this
        have hin : i < n := by simp at hi; omega
        refine ⟨i, hin, ?_⟩
        have hil : i < listed.size := by simp at hi; omega
        simp only [Array.getD_eq_getD_getElem?, Array.getElem?_eq_getElem hil, Option.getD_some]
        simpa using he
      rw [show m + 1 + (l.length - n) = (m + (l.length - n)) + 1 by omega]
      refine ⟨fun hr => ?_, fun i hi => ?_⟩
      · exfalso
        have hall : ∀ i, i < n → listed.getD i true = true := by
          intro i
          induction i using Nat.strongRecOn with
          | _ i ihi =>
            intro hi
            cases hv : listed.getD i true with
            | true => rfl
            | false =>
              exfalso
              obtain ⟨o, ho⟩ := get_of_lt (l := l) (i := i) (by omega)
              have ho' : (l.take n)[i]? = some o := by rw [List.getElem?_take_of_lt hi]; exact ho
              obtain ⟨d, ws, _, _, h3⟩ := dagBT_get hB ho'
              have : i ∈ Region.ready .any l.toArray listed := by
                refine mem_ready.2 ⟨hv, o, by simpa using ho, fun e he hb => ?_⟩
                simp only [dagOneT, Bool.and_eq_true, Array.all_eq_true_iff_forall_mem, Bool.or_eq_true, Bool.not_eq_true', Nat.zero_add] at h3
                have := (h3.1.1.2 e he).resolve_left (by simp [hb])
                have hlt : e.on < i := by simpa [Nat.blt_eq] using this
                have h4 := ihi e.on hlt (by omega)
                have hj : e.on < listed.size := by omega
                simpa only [Array.getD_eq_getD_getElem?, Array.getElem?_eq_getElem hj, Option.getD_some] using h4
              rw [hr] at this
              cases this
        rw [hall i0 hi0n] at hi0
        cases hi0
      · have hin : i < n := by
          rcases Nat.lt_or_ge i n with h | h
          · exact h
          · exact absurd hi (tail_waits hs hc (by simpa using hnl) inv _ i0 rfl hi0n hi0 i h)
        obtain ⟨h1, o, h2, h3⟩ := mem_ready.1 hi
        have hil : i < listed.size := by omega
        have ho : l[i]? = some o := by simpa using h2
        have ho' : (l.take n)[i]? = some o := by rw [List.getElem?_take_of_lt hin]; exact ho
        obtain ⟨d, ws, hd, hws, h4⟩ := dagBT_get hB ho'
        obtain ⟨ws', F, hws', hF, hstep⟩ := hst.get ho'
        rw [hws] at hws'
        cases hws'
        simp only [Nat.zero_add] at hstep
        simp only [dagOneT, Bool.and_eq_true, List.all_eq_true, Array.any_eq_true', Array.all_eq_true_iff_forall_mem, Bool.or_eq_true, Bool.not_eq_true', Nat.zero_add] at h4
        obtain ⟨⟨⟨hdst, _⟩, hwait⟩, hgd⟩ := h4
        have hgd : o.guard = none := by simpa using hgd
        -- what is sure to come ahead of the change
        have hcalm : calmB c wss i = true → listed.getD c false = false := by
          intro hcb
          simp only [calmB, Bool.or_eq_true] at hcb
          rcases hcb with hcb | hcb
          · have : i = c := Nat.eq_of_beq_eq_true hcb
            subst this; exact getD_both h1
          · cases hlc : listed.getD c false with
            | false => rfl
            | true =>
              exfalso
              have hcn : c < n := by
                rcases Nat.lt_or_ge c n with h | h
                · exact h
                · rcases Nat.lt_or_ge c l.length with h' | h'
                  · have := getD_both (inv.tail c h (by simpa using h')); rw [this] at hlc; cases hlc
                  · simp [Array.getElem?_eq_none (show listed.size ≤ c by omega)] at hlc
              obtain ⟨oc, hoc⟩ := get_of_lt (l := l) (i := c) (by omega)
              have hoc' : (l.take n)[c]? = some oc := by rw [List.getElem?_take_of_lt hcn]; exact hoc
              obtain ⟨dc, wsc, _, hwsc, h5⟩ := dagBT_get hB hoc'
              have hgc : wss.getD c [] = wsc := by simp [hwsc]
              rw [hgc] at hcb
              simp only [dagOneT, Bool.and_eq_true, List.all_eq_true, Array.any_eq_true', Nat.zero_add] at h5
              obtain ⟨e, he, hb1, hb2⟩ := h5.1.2 i (by simpa using hcb)
              have hei : e.on = i := Nat.eq_of_beq_eq_true hb2
              have := inv.closed c oc (by simpa using hoc) hlc e he hb1
              rw [hei, getD_both h1] at this
              cases this
        have hH : ∀ j, ws.contains j = true → HoldsT ds Fs (!calmB c wss i) j (env a) w' := by
          intro j hj d' F' hd' hF'
          have hj' : j ∈ ws := by simpa using hj
          obtain ⟨e, he, hb⟩ := hwait j hj'
          obtain ⟨hb1, hb2⟩ := hb
          have : e.on = j := Nat.eq_of_beq_eq_true hb2
          have h5 := hh j (this ▸ h3 e he hb1) d' F' hd' hF'
          cases hcb : calmB c wss i with
          | true => rw [hcalm hcb] at h5; exact h5
          | false =>
            cases F' with
            | till F hF => intro hd; cases hd
            | eq u => exact h5
            | gen F hF => exact h5
            | own F hF => exact h5
        have hstep2 : (∀ w2, Chg (bif Nat.beq i c then M else none1) w' w2 → Chg (bif (listed.setIfInBounds i true).getD c false then M else none1) w1 w2) := by
          intro w2 hx2
          by_cases hic : i = c
          · subst hic
            rw [Nat.beq_refl] at hx2
            have hg : (listed.setIfInBounds i true).getD i false = true := by simp [Array.getD_eq_getD_getElem?, hil]
            rw [hg]
            exact (toM hx).trans hx2
          · have hb : Nat.beq i c = false := by cases hb : Nat.beq i c; rfl; exact absurd (Nat.eq_of_beq_eq_true hb) hic
            rw [hb] at hx2
            rw [getD_set_ne _ hic]
            exact hx.ext hx2
        have cont : ∀ v w2, Chg (bif Nat.beq i c then M else none1) w' w2 → F.In (Go.Eng.valOf o v) w2 → wpAny P .any l.toArray (lift N Q) (m + (l.length - n)) (listed.setIfInBounds i true) (a.put o.dst v) w2 := by
          intro v w2 hx2 hv
          have henv : (∀ t, t ≠ d → env (a.put o.dst v) t = env a t) ∧ env (a.put o.dst v) d = Go.Eng.valOf o v := by
            cases hod : o.dst with
            | none =>
              rw [hod] at hdst
              have hNd : N ≤ d := Nat.le_of_ble_eq_true hdst
              refine ⟨fun t _ => rfl, ?_⟩
              simp only [Go.Eng.valOf, hod]
              show a.tmps.getD d undef = undef
              have : a.tmps.size ≤ d := by rw [ha.size]; exact hNd
              simp [Array.getElem?_eq_none this]
            | some d' =>
              rw [hod] at hdst
              simp only [Bool.and_eq_true] at hdst
              have hd1 : d' = d := Nat.eq_of_beq_eq_true hdst.1
              have hd2 : d < N := by simpa [Nat.blt_eq] using hdst.2
              subst hd1
              rw [env_put ha hd2 v]
              refine ⟨fun t ht => ?_, ?_⟩
              · have : Nat.beq t d' = false := by cases hb : Nat.beq t d'; rfl; exact absurd (Nat.eq_of_beq_eq_true hb) ht
                simp [upd, this]
              · simp [upd, Go.Eng.valOf, hod]
          refine ih _ _ _ ?_ (inv.set hi hin) (ha.put _ _) (hstep2 w2 hx2) ?_ ?_
          · have hl : listed.toList[i]? = some false := by
              simp only [Array.getD_eq_getD_getElem?, Array.getElem?_eq_getElem hil, Option.getD_some] at h1
              simp [hil, h1]
            have := count_take_set (l := listed.toList) hin (by simp; omega) hl
            rw [Array.toList_setIfInBounds]
            omega
          · intro t ht
            rw [henv.1 t (fun h => by
              subst h
              have := List.mem_of_getElem? hd
              simp [this] at ht), hu t ht]
          · intro j hj d' F' hd' hF'
            by_cases hij : j = i
            · subst hij
              rw [hd] at hd'; cases hd'
              rw [hF] at hF'; cases hF'
              rw [henv.2]
              exact FactT.at_in hv _
            · have hne : d' ≠ d := by
                intro h
                subst h
                exact hij (nodupB_get hn hd' hd)
              rw [henv.1 d' hne]
              rw [getD_set_ne _ (Ne.symm hij)] at hj
              have h6 := hh j hj d' F' hd' hF'
              by_cases hic : i = c
              · have hg : (listed.setIfInBounds i true).getD c false = true := by rw [← hic]; simp [Array.getD_eq_getD_getElem?, hil]
                rw [hg]
                exact FactT.chg h6 (toM hx2) (ownB_get hO (by rw [← hG]; exact hF') (by omega))
              · have hb : Nat.beq i c = false := by
                  cases hb : Nat.beq i c
                  · rfl
                  · exact absurd (Nat.eq_of_beq_eq_true hb) hic
                rw [hb] at hx2
                rw [getD_set_ne _ hic]
                exact FactT.ext h6 hx2
        have hx0 : Chg (bif calmB c wss i then none1 else M) w1 w' := by
          cases hcb : calmB c wss i with
          | true => rw [hcalm hcb] at hx; exact hx
          | false => exact toM hx
        have hdo := hstep (env a) w' hx0 hu hH
        have hw : Region.wanted o (yielded l.toArray a.tmps) = true := by simp [Region.wanted, hgd]
        unfold wpOp
        simp only [h2, hw, if_true]
        exact Or.inl (hdo a ha rfl _ _ cont)
  have inv0 : HeadInv .any l.toArray n (Array.replicate l.toArray.size false) :=
    ⟨by simp, fun j oj _ hl => (by rw [getD_replicate_false] at hl; cases hl), fun t _ ht => getD_in (by simpa using ht) (getD_replicate_false _ _)⟩
  have h1 := key n (Array.replicate l.toArray.size false) a w1 (by simp; omega) inv0 ha (by rw [getD_replicate_false]; exact Chg.refl _ _) (fun t _ => by rw [he]) (fun j hj => by rw [getD_replicate_false] at hj; cases hj)
  have e3 : n + (l.length - n) = l.toArray.size := by simp; omega
  rw [e3] at h1
  exact h1
def DagStepK {M : Nat → Prop} (P : Program) (N : Nat) (ds : List Nat) (Fs : List (FactT M)) (σ : Env) (w : World) (own calm : Bool) (o : Oper) (ws : List Nat) (F : FactT M) (K : List Nat → Env → Prop) : Prop :=
  ∀ σ' w', Chg (bif calm then none1 else M) w w' → (∀ t, ds.contains t = false → σ' t = σ t) → (∀ j, ws.contains j = true → HoldsT ds Fs (!calm) j σ' w') → K ws σ' → DoesT (bif own then M else none1) P N o (fun v w => F.In (Go.Eng.valOf o v) w) σ' w'
inductive DagStepsK {M : Nat → Prop} (P : Program) (N : Nat) (ds : List Nat) (Fs : List (FactT M)) (σ : Env) (w : World) (c : Nat) (all : List (List Nat)) (K : List Nat → Env → Prop) : Nat → List Oper → List (List Nat) → List (FactT M) → Prop where
  | nil {i : Nat} : DagStepsK P N ds Fs σ w c all K i [] [] []
  | cons {i : Nat} {o : Oper} {ws : List Nat} {F : FactT M} {l : List Oper} {wss : List (List Nat)} {Gs : List (FactT M)} : DagStepK P N ds Fs σ w (Nat.beq i c) (calmB c all i) o ws F K → DagStepsK P N ds Fs σ w c all K (i + 1) l wss Gs → DagStepsK P N ds Fs σ w c all K i (o :: l) (ws :: wss) (F :: Gs)
theorem DagStepsK.get {M : Nat → Prop} {P : Program} {N : Nat} {ds : List Nat} {Fs : List (FactT M)} {σ : Env} {w : World} {c : Nat} {all : List (List Nat)} {K : List Nat → Env → Prop} : ∀ {i : Nat} {l : List Oper} {wss : List (List Nat)} {Gs : List (FactT M)}, DagStepsK P N ds Fs σ w c all K i l wss Gs → ∀ {j : Nat} {o : Oper}, l[j]? = some o → ∃ ws F, wss[j]? = some ws ∧ Gs[j]? = some F ∧ DagStepK P N ds Fs σ w (Nat.beq (i + j) c) (calmB c all (i + j)) o ws F K
  | _, _, _, _, .nil, j, o, h => by simp at h
  | _, _, _, _, .cons h1 h2, 0, o, h => by simp at h; subst h; exact ⟨_, _, rfl, rfl, h1⟩
  | i, _, _, _, .cons h1 h2, j + 1, o, h => by
    obtain ⟨ws, F, a, b, c⟩ := h2.get (j := j) (by simpa using h)
    exact ⟨ws, F, by simpa using a, by simpa using b, by rw [show i + (j + 1) = i + 1 + j from by omega]; exact c⟩
section
variable {M : Nat → Prop} {P : Program} {N : Nat} {σ : Env} {w : World} {ty : TypeId} {pos : String} {af : Array Edge} {g : Option (Nat × Bool)} {t : TypeId} {x y : Operand} {R : Fct}
theorem DoesT_store {b o : Nat} {v : Value} {c : Array Value} {e : TypeId} (hx : ev σ x = .pointer (some ⟨b, o, none⟩)) (hy : ev σ y = v) (h1 : v.oneCell' = true) (hs : Siz P t 1) (hB : Blk w b c e) (ho : o < c.size) (hM : M b) (hR : ∀ w', Put w w' b (c.setIfInBounds o v) e → R undef w') :
    DoesT M P N ⟨none, .store t x y, ty, pos, af, g⟩ R σ w := by
  have hp := Put.of_setRow hB (c.setIfInBounds o v)
  refine DoesT_skip (w' := w.setRow b (c.setIfInBounds o v)) ?_ (hp.chg.mono fun z _ h => by subst h; exact hM) (hR _ hp)
  have hcs : v.cells = #[v] := by cases v <;> first | rfl | (simp [Value.oneCell'] at h1; done)
  have hst := run_storeCells_at P b o e [v] 0 c w hB (by simp; omega) (by simpa using h1)
  have he : (c.toList.take (o + 0) ++ [v] ++ c.toList.drop (o + 0 + [v].length)).toArray = c.setIfInBounds o v := by
    apply Array.ext'
    simp only [Nat.add_zero, List.length_singleton, Array.toList_setIfInBounds]
    rw [List.set_eq_take_append_cons_drop, if_pos (by simpa using ho)]
    simp
  rw [he] at hst
  simp [execOp, hx, hy, Instr.storeAt, Instr.sureAddr, storeVar, hs.run, hcs, hst]
end
end Go.Eng
namespace Go.Proofs
open Go Go.Eng
set_option maxRecDepth 100000
section
variable {P : Program} {σ : Env} {w : World} {dst : Option Tmp} {ty : TypeId} {pos : String} {af : Array Edge} {g : Option (Nat × Bool)} {t t' e : TypeId} {x y : Operand}
theorem r_append0 {s : Operand} {a a' : Option Addr} {n c c' size : Nat} (hu : P.underlying t = some (.slice e)) (hs : Siz P e size) (hx : ev σ s = .slice a n c) (hn : n ≤ c) (hy : ev σ x = .slice a' 0 c') :
    (execOp (ev σ) ⟨dst, .call ⟨.builtin .append, #[s, x], #[t, t]⟩, ty, pos, af, g⟩).run P w = .ok (.value (.slice a n c)) w := by
  have hz : size * 0 = 0 := Nat.mul_zero _
  cases a <;> cases a' <;> simp [execOp, resolve, invoke, builtin, Builtin.append_, hx, hy, run_underlying hu, hs.run, Builtin.lenOf, Builtin.firstCells, loadCells, loadCellsFrom, storeCells, hn]
theorem s_build0 {N : Nat} {Q : Post} {K : Env → World → Prop} {ops : Array Oper} {rest : List Oper} {d size : Nat} (hN : d < N) (hu : P.underlying t = some (.slice e)) (hs : Siz P e size)
    (k : ∀ b w', New w w' b #[] e → WpL P N ops K Q rest (upd σ d (.slice (some ⟨b, 0, none⟩) 0 0)) w') : WpL P N ops K Q (⟨some d, .buildSlice t 0 #[], ty, pos, af, none⟩ :: rest) σ w := by
  refine WpL_val (v := .slice (some ⟨w.heap.size, 0, none⟩) 0 0) (w' := { w with heap := w.heap.push (.cells #[] e (0, 0)) }) rfl rfl hN ?_ (k _ _ (New.mk' w #[] e))
  have h0 : Array.range 0 = #[] := rfl
  simp [execOp, Instr.buildSlice, run_underlying hu, hs.run, Instr.fill, newRow, h0]
end
theorem own_empty {w : World} {b e base size : Nat} (h : Blk w b #[] e) (hb : base ≤ b) : w.ownsRow base e size (.slice (some ⟨b, 0, none⟩) 0 0) 0 [] :=
  ⟨by simp, .inr ⟨b, 0, #[], rfl, hb, h, Nat.le_refl _, by simp [maxLen], by simp, by simp⟩⟩
theorem rev_step {α : Type} {l cur : List α} {n i : Nat} (hc : cur.length = n) (hi : 2 * i + 1 < n) (h : ∀ k, k < n → cur[k]? = if k < i ∨ n - i ≤ k then l[n - 1 - k]? else l[k]?) {x y : α} (hx : cur[i]? = some x) (hy : cur[n - 1 - i]? = some y) :
    ∀ k, k < n → ((cur.set i y).set (n - 1 - i) x)[k]? = if k < i + 1 ∨ n - (i + 1) ≤ k then l[n - 1 - k]? else l[k]? := by
  intro k hk
  have h1 := h i (by omega)
  rw [hx, if_neg (by omega)] at h1
  have h2 := h (n - 1 - i) (by omega)
  rw [hy, if_neg (by omega)] at h2
  by_cases hk1 : k = n - 1 - i
  · subst hk1
    rw [List.getElem?_set_self (by simp; omega), if_pos (by omega), show n - 1 - (n - 1 - i) = i from by omega, h1]
  · rw [List.getElem?_set_ne (by omega)]
    by_cases hk2 : k = i
    · subst hk2
      rw [List.getElem?_set_self (by omega), if_pos (by omega), h2]
    · rw [List.getElem?_set_ne (by omega), h k hk]
      by_cases hk3 : k < i ∨ n - i ≤ k
      · rw [if_pos hk3, if_pos (by omega)]
      · rw [if_neg hk3, if_neg (by omega)]
theorem rev_done {α : Type} {l cur : List α} {n i : Nat} (hn : l.length = n) (hc : cur.length = n) (hi : n ≤ 2 * i + 1) (h : ∀ k, k < n → cur[k]? = if k < i ∨ n - i ≤ k then l[n - 1 - k]? else l[k]?) : cur = l.reverse := by
  apply List.ext_getElem?
  intro k
  by_cases hk : k < n
  · rw [h k hk, List.getElem?_reverse (by omega), hn]
    by_cases hk2 : k < i ∨ n - i ≤ k
    · rw [if_pos hk2]
    · rw [if_neg hk2, show n - 1 - k = k from by omega]
  · rw [List.getElem?_eq_none (by omega), List.getElem?_eq_none (by simp; omega)]
theorem flat_intV (l : List Int) : (l.map intV).flatten = l.map (Value.int .i64) := by
  induction l with
  | nil => rfl
  | cons x l ih => simp only [List.map_cons, List.flatten_cons, ih]; rfl
theorem ints_set {l : List Int} {rest : List Value} {i : Nat} (hi : i < l.length) (y : Int) : (l.map (Value.int .i64) ++ rest).toArray.setIfInBounds i (.int .i64 y) = ((l.set i y).map (Value.int .i64) ++ rest).toArray := by
  apply Array.ext'
  rw [Array.toList_setIfInBounds, List.map_set]
  simp only
  rw [List.set_append, if_pos (by simpa using hi)]
theorem ints_get {w : World} {b T : Nat} {l : List Int} {rest : List Value} (h : Blk w b (l.map (Value.int .i64) ++ rest).toArray T) {i : Nat} {x : Int} (hx : l[i]? = some x) : w.cell? ⟨b, i, none⟩ = some (.int .i64 x) := by
  refine h.cell ?_
  have := lt_of_get hx
  simp only [List.getElem?_toArray]
  rw [List.getElem?_append_left (by simpa using this)]
  simp [hx]
set_option maxHeartbeats 1000000 in
theorem revi_c (w0 : World) (b c T : Nat) (l : List Int) (rest : List Value) (hB : Blk w0 b (l.map (Value.int .i64) ++ rest).toArray T) (hl : l.length ≤ 1000000000) :
    Ret Try.prog 53 #[.slice (some ⟨b, 0, none⟩) l.length c] w0 fun _ w => Blk w b (l.reverse.map (Value.int .i64) ++ rest).toArray T ∧ Chg (fun x => x = b) w0 w := by
  refine Ret_of Try.func53 rfl Try.ntmps53 (Nat.le_of_ble_eq_true rfl) ?_
  have E : Chg (fun x => x = b) w0 w0 := Chg.refl _ _
  refine Wp_seq_region ?_
  refine WpL_val rfl rfl (by decide) (r_move (v := (.slice (some ⟨b, 0, none⟩) l.length c)) rfl) ?_
  refine WpL_val rfl rfl (by decide) (r_lenSlice (ad := some ⟨b, 0, none⟩) (n := l.length) (cap := c) Try.underlying22 rfl) ?_
  refine WpL_val rfl rfl (by decide) (r_sub (k := .i64) (a := ((l.length : Nat) : Int)) (b := 1) (c := ((l.length : Nat) : Int) - 1) rfl rfl (wI64 (by omega))) ?_
  refine WpL_val rfl rfl (by decide) (r_assign (v := (.int .i64 0)) rfl) ?_
  refine WpL_val rfl rfl (by decide) (r_assign (v := (.int .i64 (((l.length : Nat) : Int) - 1))) rfl) ?_
  refine WpL_nil ?_
  refine Wp_block ?_
  refine Wp_loop (fun nn_ σ W1 => ∃ (i : Nat) (j : Int) (cur : List Int), (∃ jj_, σ = upds jj_ [(0, (.slice (some ⟨b, 0, none⟩) l.length c)), (2, (.int .i64 ((i : Nat) : Int))), (3, (.int .i64 j))]) ∧ Chg (fun x => x = b) w0 W1 ∧ Blk W1 b ((cur.map (Value.int .i64) ++ rest).toArray) T ∧ (j = (l.length : Int) - 1 - (i : Int)) ∧ (cur.length = l.length) ∧ (∀ k, k < l.length → cur[k]? = if k < i ∨ l.length - i ≤ k then l[l.length - 1 - k]? else l[k]?) ∧ (i ≤ l.length) ∧ nn_ = l.length - i) (n := l.length - 0) ?_ ?_
  · exact ⟨0, ((l.length : Nat) : Int) - 1, l, Fits.out ⟨rfl, rfl, rfl, trivial⟩, E, hB, (by omega), rfl, (fun k hk => by rw [if_neg (by omega)]), Nat.zero_le _, rfl⟩
  · clear E hB
    rintro _ _ W1 ⟨i, j, cur, ⟨j1, rfl⟩, E, hB, hj, hcl, hget, hi, rfl⟩
    refine Wp_seq ?_
    refine Wp_seq_region ?_
    refine WpL_val rfl rfl (by decide) (r_move (v := (.int .i64 ((i : Nat) : Int))) rfl) ?_
    refine WpL_val rfl rfl (by decide) (r_move (v := (.int .i64 j)) rfl) ?_
    refine WpL_val rfl rfl (by decide) (r_lss (k := .i64) (a := ((i : Nat) : Int)) (b := j) rfl rfl) ?_
    refine WpL_nil ?_
    refine Wp_cond (b := decide ((((i : Nat) : Int) : Int) < j)) rfl (fun hlt => ?_) (fun hlt => ?_)
    · have khlt := hlt
      replace hlt := of_decide_eq_true hlt
      obtain ⟨x, hx⟩ := get_of_lt (l := cur) (i := i) (by omega)
      obtain ⟨y, hy⟩ := get_of_lt (l := cur) (i := l.length - 1 - i) (by omega)
      refine Wp_skip ?_
      refine thn_normal ?_
      refine Wp_seq ?_
      refine Wp_block ?_
      obtain ⟨Fs3, hFs3⟩ : ∃ Fs : List (FactT ((fun x => x = b))), Fs = [.eq (.slice (some ⟨b, 0, none⟩) l.length c), .eq (.int .i64 ((i : Nat) : Int)), .eq (.slice (some ⟨b, 0, none⟩) l.length c), .eq (.int .i64 j), .eq (.slice (some ⟨b, 0, none⟩) l.length c), .eq (.int .i64 j), .eq (.pointer (some ⟨b, 0 + (l.length - 1 - i), none⟩)), .eq (.int .i64 y), .eq (.slice (some ⟨b, 0, none⟩) l.length c), .eq (.int .i64 ((i : Nat) : Int)), .eq (.pointer (some ⟨b, 0 + i, none⟩)), .eq (.int .i64 x), .eq (.pointer (some ⟨b, 0 + i, none⟩)), .own (fun _ w => Blk w b ((cur.set i y).map (Value.int .i64) ++ rest).toArray T) (fun _ _ _ e h => Ext.keep e h)] := ⟨_, rfl⟩
      refine Wp_dagT ((fun x => x = b)) 14 13 [14, 15, 16, 17, 18, 19, 20, 21, 22, 23, 24, 25, 26, 41] [[], [], [], [], [], [], [4, 5], [6], [], [], [8, 9], [10], [0, 1, 4, 5, 6, 7, 11], [0, 1, 4, 5, 6, 7, 11, 12]] Fs3 hFs3 rfl mixed (by kernel_rfl) (by kernel_rfl) (by kernel_rfl) ?_ ?_
      · intro wd X0
        refine DagStepsT.cons (fun s' w' X U H => ?_) ?_
        · exact DoesT_val (r_move (v := (.slice (some ⟨b, 0, none⟩) l.length c)) (U 0 rfl)) (Chg.refl _ _) rfl
        refine DagStepsT.cons (fun s' w' X U H => ?_) ?_
        · exact DoesT_val (r_move (v := (.int .i64 ((i : Nat) : Int))) (U 2 rfl)) (Chg.refl _ _) rfl
        refine DagStepsT.cons (fun s' w' X U H => ?_) ?_
        · exact DoesT_val (r_move (v := (.slice (some ⟨b, 0, none⟩) l.length c)) (U 0 rfl)) (Chg.refl _ _) rfl
        refine DagStepsT.cons (fun s' w' X U H => ?_) ?_
        · exact DoesT_val (r_move (v := (.int .i64 j)) (U 3 rfl)) (Chg.refl _ _) rfl
        refine DagStepsT.cons (fun s' w' X U H => ?_) ?_
        · exact DoesT_val (r_move (v := (.slice (some ⟨b, 0, none⟩) l.length c)) (U 0 rfl)) (Chg.refl _ _) rfl
        refine DagStepsT.cons (fun s' w' X U H => ?_) ?_
        · exact DoesT_val (r_move (v := (.int .i64 j)) (U 3 rfl)) (Chg.refl _ _) rfl
        refine DagStepsT.cons (fun s' w' X U H => ?_) ?_
        · have e18 : s' 18 = (.slice (some ⟨b, 0, none⟩) l.length c) := H 4 rfl 18 (.eq (.slice (some ⟨b, 0, none⟩) l.length c)) rfl (by rw [hFs3]; rfl)
          have e19 : s' 19 = (.int .i64 j) := H 5 rfl 19 (.eq (.int .i64 j)) rfl (by rw [hFs3]; rfl)
          exact DoesT_val (r_indexSlice (b := b) (o := 0) (len := l.length) (cap := c) (i := l.length - 1 - i) (o' := 0 + (l.length - 1 - i)) e18 e19 (by omega) Try.underlying22 siz3 (by omega) (by omega)) (Chg.refl _ _) rfl
        refine DagStepsT.cons (fun s' w' X U H => ?_) ?_
        · have e20 : s' 20 = (.pointer (some ⟨b, 0 + (l.length - 1 - i), none⟩)) := H 6 rfl 20 (.eq (.pointer (some ⟨b, 0 + (l.length - 1 - i), none⟩))) rfl (by rw [hFs3]; rfl)
          exact DoesT_val (r_load (v := (.int .i64 y)) e20 flat3 (by rw [Nat.zero_add]; exact (Chg.keep X (fun f => f) (X0.keep hB) |> fun h => ints_get h hy))) (Chg.refl _ _) rfl
        refine DagStepsT.cons (fun s' w' X U H => ?_) ?_
        · exact DoesT_val (r_move (v := (.slice (some ⟨b, 0, none⟩) l.length c)) (U 0 rfl)) (Chg.refl _ _) rfl
        refine DagStepsT.cons (fun s' w' X U H => ?_) ?_
        · exact DoesT_val (r_move (v := (.int .i64 ((i : Nat) : Int))) (U 2 rfl)) (Chg.refl _ _) rfl
        refine DagStepsT.cons (fun s' w' X U H => ?_) ?_
        · have e22 : s' 22 = (.slice (some ⟨b, 0, none⟩) l.length c) := H 8 rfl 22 (.eq (.slice (some ⟨b, 0, none⟩) l.length c)) rfl (by rw [hFs3]; rfl)
          have e23 : s' 23 = (.int .i64 ((i : Nat) : Int)) := H 9 rfl 23 (.eq (.int .i64 ((i : Nat) : Int))) rfl (by rw [hFs3]; rfl)
          exact DoesT_val (r_indexSlice (b := b) (o := 0) (len := l.length) (cap := c) (i := i) (o' := 0 + i) e22 e23 (by omega) Try.underlying22 siz3 (by omega) (by omega)) (Chg.refl _ _) rfl
        refine DagStepsT.cons (fun s' w' X U H => ?_) ?_
        · have e24 : s' 24 = (.pointer (some ⟨b, 0 + i, none⟩)) := H 10 rfl 24 (.eq (.pointer (some ⟨b, 0 + i, none⟩))) rfl (by rw [hFs3]; rfl)
          exact DoesT_val (r_load (v := (.int .i64 x)) e24 flat3 (by rw [Nat.zero_add]; exact (Chg.keep X (fun f => f) (X0.keep hB) |> fun h => ints_get h hx))) (Chg.refl _ _) rfl
        refine DagStepsT.cons (fun s' w' X U H => ?_) ?_
        · have e14 : s' 14 = (.slice (some ⟨b, 0, none⟩) l.length c) := H 0 rfl 14 (.eq (.slice (some ⟨b, 0, none⟩) l.length c)) rfl (by rw [hFs3]; rfl)
          have e15 : s' 15 = (.int .i64 ((i : Nat) : Int)) := H 1 rfl 15 (.eq (.int .i64 ((i : Nat) : Int))) rfl (by rw [hFs3]; rfl)
          exact DoesT_val (r_indexSlice (b := b) (o := 0) (len := l.length) (cap := c) (i := i) (o' := 0 + i) e14 e15 (by omega) Try.underlying22 siz3 (by omega) (by omega)) (Chg.refl _ _) rfl
        refine DagStepsT.cons (fun s' w' X U H => ?_) ?_
        · have e26 : s' 26 = (.pointer (some ⟨b, 0 + i, none⟩)) := H 12 rfl 26 (.eq (.pointer (some ⟨b, 0 + i, none⟩))) rfl (by rw [hFs3]; rfl)
          have e21 : s' 21 = (.int .i64 y) := H 7 rfl 21 (.eq (.int .i64 y)) rfl (by rw [hFs3]; rfl)
          exact DoesT_store e26 e21 rfl siz3 (Chg.keep X (fun f => f) (X0.keep hB)) (by simp; omega) rfl (fun w9 h => by have h2 := h.blk; rw [Nat.zero_add, ints_set (by omega) y] at h2; exact h2)
        exact DagStepsT.nil
      · intro s' wd3 w3 X0 X3 U H
        have e16 : s' 16 = (.slice (some ⟨b, 0, none⟩) l.length c) := H 2 16 (.eq (.slice (some ⟨b, 0, none⟩) l.length c)) rfl (by rw [hFs3]; rfl)
        have e17 : s' 17 = (.int .i64 j) := H 3 17 (.eq (.int .i64 j)) rfl (by rw [hFs3]; rfl)
        have e25 : s' 25 = (.int .i64 x) := H 11 25 (.eq (.int .i64 x)) rfl (by rw [hFs3]; rfl)
        obtain hB := (show (.own (fun _ w => Blk w b ((cur.set i y).map (Value.int .i64) ++ rest).toArray T) (fun _ _ _ e h => Ext.keep e h) : FactT ((fun x => x = b))).In (s' 41) w3 from H 13 41 (.own (fun _ w => Blk w b ((cur.set i y).map (Value.int .i64) ++ rest).toArray T) (fun _ _ _ e h => Ext.keep e h)) rfl (by rw [hFs3]; rfl))
        obtain ⟨j3, rfl⟩ := Fits.out (σ := s') (l := [(0, (.slice (some ⟨b, 0, none⟩) l.length c)), (2, (.int .i64 ((i : Nat) : Int))), (3, (.int .i64 j)), (16, (.slice (some ⟨b, 0, none⟩) l.length c)), (17, (.int .i64 j)), (25, (.int .i64 x))]) ⟨U 0 rfl, U 2 rfl, U 3 rfl, e16, e17, e25, trivial⟩
        clear U H
        replace E := (E.ext X0).step X3 (fun x _ h => h)
        refine WpL_val rfl rfl (by decide) (r_indexSlice (b := b) (o := 0) (len := l.length) (cap := c) (i := l.length - 1 - i) (o' := 0 + (l.length - 1 - i)) rfl rfl (by omega) Try.underlying22 siz3 (by omega) (by omega)) ?_
        refine s_store (b := b) (o := 0 + (l.length - 1 - i)) (c' := (((cur.set i y).set (l.length - 1 - i) x).map (Value.int .i64) ++ rest).toArray) (v := (.int .i64 x)) rfl rfl rfl siz3 hB (by simp; omega) (by rw [Nat.zero_add]; exact ints_set (by simp; omega) x) ?_
        intro w4 S4
        replace E := S4.step E (by first | exact Or.inl (by omega) | exact Or.inr rfl | exact Or.inr (by assumption) | exact Or.inr (by simp) | exact Or.inr (by omega) | exact Or.inr (by dsimp only; omega))
        replace hB := S4.blk
        refine WpL_nil ?_
        refine inB_normal ?_
        refine thn_normal ?_
        refine Wp_region ?_
        refine WpL_val rfl rfl (by decide) (r_move (v := (.int .i64 ((i : Nat) : Int))) rfl) ?_
        refine WpL_val rfl rfl (by decide) (r_add (k := .i64) (a := ((i : Nat) : Int)) (b := 1) (c := ((i : Nat) : Int) + 1) rfl rfl (wI64 (by omega))) ?_
        refine WpL_val rfl rfl (by decide) (r_move (v := (.int .i64 j)) rfl) ?_
        refine WpL_val rfl rfl (by decide) (r_sub (k := .i64) (a := j) (b := 1) (c := j - 1) rfl rfl (wI64 (by omega))) ?_
        refine WpL_val rfl rfl (by decide) (r_assign (v := (.int .i64 (((i : Nat) : Int) + 1))) rfl) ?_
        refine WpL_val rfl rfl (by decide) (r_assign (v := (.int .i64 (j - 1))) rfl) ?_
        refine WpL_nil ?_
        refine thn_normal ?_
        exact ⟨l.length - (i + 1), by omega, i + 1, j - 1, (cur.set i y).set (l.length - 1 - i) x, Fits.out ⟨rfl, rfl, rfl, trivial⟩, E, hB, (by omega), (by simpa using hcl), rev_step hcl (by omega) hget hx hy, (by omega), rfl⟩
    · have khlt := hlt
      replace hlt := of_decide_eq_false hlt
      refine Wp_exit ?_
      refine thn_exit ?_
      refine thn_exit ?_
      refine inB_here ?_
      refine fin_none Try.results53 ?_
      rw [← rev_done rfl hcl (by omega) hget]; exact ⟨hB, E⟩
theorem revi0_c (w0 : World) (a : Option Addr) (c : Nat) :
    Ret Try.prog 53 #[.slice a 0 c] w0 fun _ w => Ext w0 w := by
  refine Ret_of Try.func53 rfl Try.ntmps53 (Nat.le_of_ble_eq_true rfl) ?_
  have E : Chg none1 w0 w0 := Chg.refl _ _
  refine Wp_seq_region ?_
  refine WpL_val rfl rfl (by decide) (r_move (v := (.slice a 0 c)) rfl) ?_
  refine WpL_val rfl rfl (by decide) (r_lenSlice (ad := a) (n := 0) (cap := c) Try.underlying22 rfl) ?_
  refine WpL_val rfl rfl (by decide) (r_sub (k := .i64) (a := 0) (b := 1) (c := (-1)) rfl rfl (by decide)) ?_
  refine WpL_val rfl rfl (by decide) (r_assign (v := (.int .i64 0)) rfl) ?_
  refine WpL_val rfl rfl (by decide) (r_assign (v := (.int .i64 (-1))) rfl) ?_
  refine WpL_nil ?_
  refine Wp_block ?_
  refine Wp_loop (fun nn_ σ W1 => (∃ jj_, σ = upds jj_ [(0, (.slice a 0 c)), (2, (.int .i64 0)), (3, (.int .i64 (-1)))]) ∧ Chg none1 w0 W1 ∧ nn_ = 0) (n := 0) ?_ ?_
  · exact ⟨Fits.out ⟨rfl, rfl, rfl, trivial⟩, E, rfl⟩
  · clear E
    rintro _ _ W1 ⟨⟨j1, rfl⟩, E, rfl⟩
    refine Wp_seq ?_
    refine Wp_seq_region ?_
    refine WpL_val rfl rfl (by decide) (r_move (v := (.int .i64 0)) rfl) ?_
    refine WpL_val rfl rfl (by decide) (r_move (v := (.int .i64 (-1))) rfl) ?_
    refine WpL_val rfl rfl (by decide) (r_lss (k := .i64) (a := 0) (b := (-1)) rfl rfl) ?_
    refine WpL_nil ?_
    refine Wp_cond_false rfl ?_
    refine Wp_exit ?_
    refine thn_exit ?_
    refine thn_exit ?_
    refine inB_here ?_
    refine fin_none Try.results53 ?_
    exact E
theorem ints_own {w : World} {b T c : Nat} {l : List Int} {rest : List Value} (h : Blk w b (l.map (Value.int .i64) ++ rest).toArray T) (hl : l.length ≤ c) (hm : l.length ≤ 2000000) : IntsAt w (.slice (some ⟨b, 0, none⟩) l.length c) l := by
  refine ⟨_, c, by simp, by simp; omega, by simpa using hl, .inr ⟨b, 0, rfl, fun i r hr => ?_⟩⟩
  rw [List.getElem?_map, Option.map_eq_some_iff] at hr
  obtain ⟨x, hx, rfl⟩ := hr
  intro j u hu
  match j, hu with
  | 0, hu =>
    simp [intV] at hu; subst hu
    have := ints_get h hx
    simpa using this
end Go.Proofs
namespace Go.Proofs
open Go Go.Eng
set_option maxRecDepth 100000
theorem get_ext {α : Type} {l m : List α} (hl : l.length = m.length) (h : ∀ i, i < l.length → l[i]? = m[i]?) : l = m := by
  apply List.ext_getElem?
  intro i
  rcases Nat.lt_or_ge i l.length with h' | h'
  · exact h i h'
  · rw [List.getElem?_eq_none h', List.getElem?_eq_none (by omega)]
section
variable {P : Program} {σ : Env} {w : World} {dst : Option Tmp} {ty : TypeId} {pos : String} {af : Array Edge} {g : Option (Nat × Bool)} {tys : Array TypeId} {x y : Operand} {k : IntKind} {a b c : Int}
theorem r_minI (hx : ev σ x = .int k a) (hy : ev σ y = .int k b) (hc : min a b = c) :
    (execOp (ev σ) ⟨dst, .call ⟨.builtin .min, #[x, y], tys⟩, ty, pos, af, g⟩).run P w = .ok (.value (.int k c)) w := by
  subst hc
  have : (if b < a then b else a) = min a b := by split <;> omega
  simp [execOp, resolve, invoke, builtin, Builtin.min_, Builtin.min2, hx, hy, this]
theorem r_maxI (hx : ev σ x = .int k a) (hy : ev σ y = .int k b) (hc : max a b = c) :
    (execOp (ev σ) ⟨dst, .call ⟨.builtin .max, #[x, y], tys⟩, ty, pos, af, g⟩).run P w = .ok (.value (.int k c)) w := by
  subst hc
  have : (if a < b then b else a) = max a b := by split <;> omega
  simp [execOp, resolve, invoke, builtin, Builtin.max_, Builtin.max2, hx, hy, this]
end
end Go.Proofs
namespace Go.Proofs
open Go Go.Eng
set_option maxRecDepth 100000
abbrev Sp := Int × Int
def vSp (s : Sp) : Prop := 0 ≤ s.1 ∧ s.1 ≤ s.2 ∧ s.2 ≤ 1114111
structure Canon (l : List Sp) : Prop where
  ok : ∀ s ∈ l, vSp s
  gap : l.Pairwise fun s t => s.2 + 2 ≤ t.1
theorem inS_iff {l : List Sp} {r : Int} : inS l r = true ↔ ∃ s ∈ l, s.1 ≤ r ∧ r ≤ s.2 := by
  unfold inS
  simp [List.any_eq_true]
theorem inS_cons (s : Sp) (l : List Sp) (r : Int) : inS (s :: l) r = ((decide (s.1 ≤ r) && decide (r ≤ s.2)) || inS l r) := rfl
theorem inS_append (a b : List Sp) (r : Int) : inS (a ++ b) r = (inS a r || inS b r) := by
  unfold inS; rw [List.any_append]
theorem inS_nil (r : Int) : inS [] r = false := rfl
theorem inS_perm {a b : List Sp} (h : a.Perm b) (r : Int) : inS a r = inS b r := by
  rw [Bool.eq_iff_iff, inS_iff, inS_iff]
  exact ⟨fun ⟨s, hs, q⟩ => ⟨s, h.mem_iff.1 hs, q⟩, fun ⟨s, hs, q⟩ => ⟨s, h.mem_iff.2 hs, q⟩⟩
theorem Canon.nil : Canon [] := ⟨fun _ h => (by cases h), List.Pairwise.nil⟩
theorem Canon.one {s : Sp} (h : vSp s) : Canon [s] := ⟨fun t ht => by rw [List.mem_singleton] at ht; subst ht; exact h, List.pairwise_singleton _ _⟩
theorem Canon.tail {s : Sp} {l : List Sp} (h : Canon (s :: l)) : Canon l := ⟨fun t ht => h.ok t (List.mem_cons_of_mem _ ht), (List.pairwise_cons.1 h.gap).2⟩
theorem Canon.head {s : Sp} {l : List Sp} (h : Canon (s :: l)) : vSp s := h.ok s List.mem_cons_self
theorem Canon.cons {s : Sp} {l : List Sp} (h1 : vSp s) (h2 : ∀ t ∈ l, s.2 + 2 ≤ t.1) (h3 : Canon l) : Canon (s :: l) :=
  ⟨fun t ht => by rcases List.mem_cons.1 ht with rfl | ht; exact h1; exact h3.ok t ht, List.pairwise_cons.2 ⟨h2, h3.gap⟩⟩
def jstep (out : List Sp) (s : Sp) : List Sp := match out.getLast? with
  | some c => if s.1 ≤ c.2 + 1 then out.dropLast ++ [(c.1, max c.2 s.2)] else out ++ [s]
  | none => [s]
def joinF (l : List Sp) : List Sp := l.foldl jstep []
theorem jstep_snoc (o : List Sp) (c s : Sp) : jstep (o ++ [c]) s = if s.1 ≤ c.2 + 1 then o ++ [(c.1, max c.2 s.2)] else o ++ [c] ++ [s] := by
  unfold jstep; simp
theorem jstep_nil (s : Sp) : jstep [] s = [s] := rfl
structure JInv (out l : List Sp) (m : Int) : Prop where
  can : Canon out
  low : ∀ s ∈ out, s.1 ≤ m
  mem : ∀ r, inS out r = inS l r
  len : out.length ≤ l.length
theorem snoc_cases {α : Type} (l : List α) : l = [] ∨ ∃ o c, l = o ++ [c] := by
  rcases List.eq_nil_or_concat l with h | ⟨o, c, h⟩
  · exact .inl h
  · exact .inr ⟨o, c, by simpa using h⟩
theorem canon_snoc {o : List Sp} {c : Sp} : Canon (o ++ [c]) ↔ Canon o ∧ vSp c ∧ ∀ t ∈ o, t.2 + 2 ≤ c.1 := by
  constructor
  · intro h
    have h1 := List.pairwise_append.1 h.gap
    exact ⟨⟨fun t ht => h.ok t (by simp [ht]), h1.1⟩, h.ok c (by simp), fun t ht => h1.2.2 t ht c (by simp)⟩
  · rintro ⟨h1, h2, h3⟩
    refine ⟨fun t ht => ?_, List.pairwise_append.2 ⟨h1.gap, List.pairwise_singleton _ _, fun t ht u hu => ?_⟩⟩
    · rcases List.mem_append.1 ht with ht | ht
      · exact h1.ok t ht
      · rw [List.mem_singleton] at ht; subst ht; exact h2
    · rw [List.mem_singleton] at hu; subst hu; exact h3 t ht
theorem jstep_inv {out l : List Sp} {m : Int} {s : Sp} (h : JInv out l m) (hs : vSp s) (hm : m ≤ s.1) : JInv (jstep out s) (l ++ [s]) s.1 := by
  rcases snoc_cases out with rfl | ⟨o, c, rfl⟩
  · rw [jstep_nil]
    refine ⟨Canon.one hs, fun t ht => by rw [List.mem_singleton] at ht; subst ht; exact Int.le_refl _, fun r => ?_, by simp⟩
    rw [inS_append, ← h.mem r]; rfl
  · obtain ⟨h1, h2, h3⟩ := canon_snoc.1 h.can
    have hc := h.low c (by simp)
    unfold vSp at h2 hs
    rw [jstep_snoc]
    split
    · rename_i h4
      have hmx : max c.2 s.2 = c.2 ∨ max c.2 s.2 = s.2 := by omega
      have hge : c.2 ≤ max c.2 s.2 ∧ s.2 ≤ max c.2 s.2 := by omega
      refine ⟨canon_snoc.2 ⟨h1, ⟨h2.1, by simp only; omega, by simp only; omega⟩, h3⟩, fun t ht => ?_, fun r => ?_, ?_⟩
      · rcases List.mem_append.1 ht with ht | ht
        · have := h.low t (by simp [ht]); omega
        · rw [List.mem_singleton] at ht; subst ht; simp only; omega
      · have hr := h.mem r
        rw [inS_append] at hr
        rw [inS_append, inS_append, ← hr]
        have e : inS [(c.1, max c.2 s.2)] r = (inS [c] r || inS [s] r) := by
          rw [Bool.eq_iff_iff]
          simp only [inS_cons, inS_nil, Bool.or_false, Bool.or_eq_true, Bool.and_eq_true, decide_eq_true_eq]
          constructor
          · intro ⟨q1, q2⟩; omega
          · rintro (⟨q1, q2⟩ | ⟨q1, q2⟩) <;> omega
        rw [e, Bool.or_assoc]
      · have := h.len; simp at this ⊢; omega
    · rename_i h4
      refine ⟨canon_snoc.2 ⟨h.can, hs, fun t ht => ?_⟩, fun t ht => ?_, fun r => ?_, ?_⟩
      · rcases List.mem_append.1 ht with ht | ht
        · have := h3 t ht; omega
        · rw [List.mem_singleton] at ht; subst ht; omega
      · rcases List.mem_append.1 ht with ht | ht
        · have := h.low t ht; omega
        · rw [List.mem_singleton] at ht; subst ht; exact Int.le_refl _
      · rw [inS_append _ [s], inS_append l, h.mem r]
      · have := h.len; simp at this ⊢; omega
theorem foldl_inv : ∀ (r : List Sp) {out l : List Sp} {m : Int}, JInv out l m → (∀ s ∈ r, vSp s ∧ m ≤ s.1) → r.Pairwise (fun s t => s.1 ≤ t.1) → ∃ m', JInv (r.foldl jstep out) (l ++ r) m'
  | [], out, l, m, h, _, _ => ⟨m, by simpa using h⟩
  | s :: r, out, l, m, h, hv, hp => by
    have h1 := hv s List.mem_cons_self
    have h2 := List.pairwise_cons.1 hp
    obtain ⟨m', h3⟩ := foldl_inv r (jstep_inv h h1.1 h1.2) (fun t ht => ⟨(hv t (List.mem_cons_of_mem _ ht)).1, h2.1 t ht⟩) h2.2
    exact ⟨m', by simpa using h3⟩
theorem joinF_all {l : List Sp} (hv : ∀ s ∈ l, vSp s) (hp : l.Pairwise (fun s t => s.1 ≤ t.1)) : Canon (joinF l) ∧ (∀ r, inS (joinF l) r = inS l r) ∧ (joinF l).length ≤ l.length := by
  obtain ⟨m, h⟩ := foldl_inv l (out := []) (l := []) (m := 0) ⟨Canon.nil, fun _ h => by (cases h), fun _ => rfl, Nat.le_refl _⟩ (fun s hs => ⟨hv s hs, (hv s hs).1⟩) hp
  exact ⟨h.can, h.mem, h.len⟩
/-- What joining makes of a list, in whatever order the spans come: by sorting. -/
def JoinOf (l out : List Sp) : Prop := ∃ l', l'.Perm l ∧ l'.Pairwise (fun s t => s.1 ≤ t.1) ∧ out = joinF l'
theorem JoinOf.all {l out : List Sp} (h : JoinOf l out) (hv : ∀ s ∈ l, vSp s) : Canon out ∧ (∀ r, inS out r = inS l r) ∧ out.length ≤ l.length := by
  obtain ⟨l', h1, h2, rfl⟩ := h
  have h3 := joinF_all (fun s hs => hv s (h1.mem_iff.1 hs)) h2
  exact ⟨h3.1, fun r => (h3.2.1 r).trans (inS_perm h1 r), by rw [← h1.length_eq]; exact h3.2.2⟩
end Go.Proofs
namespace Go.Proofs
open Go Go.Eng
set_option maxRecDepth 100000
theorem own_low {w : World} {base base' e size n : Nat} {v : Value} {xs : List Value} (h : w.ownsRow base e size v n xs) (hb : base' ≤ base) : w.ownsRow base' e size v n xs := by
  obtain ⟨h1, h2⟩ := h
  refine ⟨h1, h2.imp id ?_⟩
  rintro ⟨g, cap, cur, a, b, r⟩
  exact ⟨g, cap, cur, a, Nat.le_trans hb b, r⟩
theorem own_le {w : World} {base e size n c : Nat} {a : Option Addr} {xs : List Value} (h : w.ownsRow base e size (.slice a n c) n xs) : n ≤ c := by
  rcases h.2 with ⟨h1, h2⟩ | ⟨g, cap, cur, hv, _, _, hnc, _⟩
  · omega
  · simp only [Value.slice.injEq] at hv
    obtain ⟨_, _, rfl⟩ := hv
    exact hnc
/-- One append of whatever slice, an empty one too. -/
theorem s_appendAny {P : Program} {N : Nat} {Q : Post} {σ : Env} {w : World} {K : Env → World → Prop} {ops : Array Oper} {rest : List Oper} {d : Nat} {ty : TypeId} {pos : String} {af : Array Edge} {t : TypeId} {s x : Operand}
    {base e size bytes n m c : Nat} {ax : Option Addr} {z v : Value} {xs news : List Value} (hN : d < N) (hu : P.underlying t = some (.slice e)) (hsz : Siz P e size) (hby : Byt P e bytes) (hz : Zer P e z) (hzs : z.cells.size = size) (h0 : 0 < size)
    (hs : ev σ s = v) (hown : w.ownsRow base e size v n xs) (hx : ev σ x = .slice ax m c) (hl : news.length = m * size) (hany : (m = 0 ∧ news = []) ∨ ∃ bx ox, ax = some ⟨bx, ox, none⟩ ∧ CellsAt w bx ox news) (h1 : ∀ u ∈ news, u.oneCell' = true)
    (h63 : n + m ≤ maxLen) (hbytes : (n + m) * bytes ≤ 140737488355328) (hbase : base ≤ w.heap.size)
    (k : ∀ v' w', w'.ownsRow base e size v' (n + m) (xs ++ news) → Chg (fun x => v.ownBlock = some x) w w' → (∀ k, v'.ownBlock = some k → v.ownBlock = some k ∨ w.heap.size ≤ k) → WpL P N ops K Q rest (upd σ d v') w') :
    WpL P N ops K Q (⟨some d, .call ⟨.builtin .append, #[s, x], #[t, t]⟩, ty, pos, af, none⟩ :: rest) σ w := by
  rcases hany with ⟨rfl, rfl⟩ | ⟨bx, ox, rfl, hc⟩
  · obtain ⟨a, c', rfl⟩ := own_form hown
    refine WpL_val rfl rfl hN (r_append0 hu hsz hs (own_le hown) hx) (k _ w (by simpa using hown) (Chg.refl _ _) fun _ h => .inl h)
  · exact s_append hN hu hsz hby hz hzs h0 hs hown hx hl hc h1 h63 hbytes hbase k
theorem ints_any {w : World} {a : Option Addr} {n c : Nat} {l : List Int} (h : IntsAt w (.slice a n c) l) : (n = 0 ∧ l.map (Value.int .i64) = []) ∨ ∃ b o, a = some ⟨b, o, none⟩ ∧ CellsAt w b o (l.map (Value.int .i64)) := by
  have hn : n = l.length := by have := (SlAt.cap h).2; simpa using this.symm
  rcases Nat.eq_zero_or_pos n with h0 | h0
  · left; exact ⟨h0, by rw [List.eq_nil_of_length_eq_zero (show l.length = 0 by omega)]; rfl⟩
  · right
    obtain ⟨b, o, ha, hc⟩ := ints_cells h h0
    exact ⟨b, o, ha, fun i u hu => by rw [List.getElem?_map, Option.map_eq_some_iff] at hu; obtain ⟨x, hx, rfl⟩ := hu; exact hc i x hx⟩
def SpssAt (w : World) (v : Value) (ll : List (List Sp)) : Prop := ∃ vs : List Value, SlAt w 1 v (vs.map fun x => [x]) ∧ vs.length = ll.length ∧ ∀ (i : Nat) (u : Value) (l : List Sp), vs[i]? = some u → ll[i]? = some l → SpansAt w u l
theorem SpssAt.ext {w w' : World} {v : Value} {ll : List (List Sp)} (h : SpssAt w v ll) (e : Ext w w') : SpssAt w' v ll := by
  obtain ⟨vs, h1, h2, h3⟩ := h
  exact ⟨vs, h1.ext e, h2, fun i u l hu hl => (h3 i u l hu hl).ext e⟩
theorem SpssAt.form {w : World} {v : Value} {ll : List (List Sp)} (h : SpssAt w v ll) : ∃ a c, v = .slice a ll.length c ∧ ll.length ≤ c ∧ ll.length ≤ 9223372036854775807 := by
  obtain ⟨vs, h1, h2, _⟩ := h
  obtain ⟨a, c, rfl⟩ := h1.form
  have := h1.cap
  have := h1.le
  simp only [List.length_map] at *
  rw [h2] at *
  exact ⟨a, c, rfl, by omega, by omega⟩
end Go.Proofs
namespace Go.Eng
open Go
section
variable {κ ν : Type} [DecidableEq κ]
def getM : List (κ × ν) → κ → Option ν
  | [], _ => none
  | p :: r, k => if p.1 = k then some p.2 else getM r k
def putM : List (κ × ν) → κ → ν → List (κ × ν)
  | [], k, v => [(k, v)]
  | p :: r, k, v => if p.1 = k then (k, v) :: r else p :: putM r k v
def findM (eV : ν → Value) : List (κ × ν) → κ → Nat → Option (Nat × Value)
  | [], _, _ => none
  | p :: r, k, i => if p.1 = k then some (i, eV p.2) else findM eV r k (i + 1)
theorem findM_none {eV : ν → Value} : ∀ {es : List (κ × ν)} {k : κ} {i : Nat}, getM es k = none → findM eV es k i = none
  | [], _, _, _ => rfl
  | p :: r, k, i, h => by
    unfold getM at h
    unfold findM
    split at h
    · cases h
    · rename_i hne; rw [if_neg hne]; exact findM_none h
theorem findM_some {eV : ν → Value} : ∀ {es : List (κ × ν)} {k : κ} {i : Nat} {v : ν}, getM es k = some v → ∃ j, findM eV es k i = some (i + j, eV v) ∧ es[j]? = some (k, v) ∧ ∀ u, putM es k u = es.set j (k, u)
  | [], _, _, _, h => by cases h
  | p :: r, k, i, v, h => by
    unfold getM at h
    unfold findM
    split at h
    · rename_i he
      cases h
      rw [if_pos he]
      exact ⟨0, rfl, by obtain ⟨a, b⟩ := p; simp at he; subst he; rfl, fun u => by unfold putM; rw [if_pos he]; rfl⟩
    · rename_i hne
      rw [if_neg hne]
      obtain ⟨j, h1, h2, h3⟩ := findM_some (eV := eV) (i := i + 1) h
      exact ⟨j + 1, by rw [h1]; congr 2; omega, by simpa using h2, fun u => by unfold putM; rw [if_neg hne, h3 u]; rfl⟩
theorem putM_none : ∀ {es : List (κ × ν)} {k : κ} (v : ν), getM es k = none → putM es k v = es ++ [(k, v)]
  | [], _, _, _ => rfl
  | p :: r, k, v, h => by
    unfold getM at h
    unfold putM
    split at h
    · cases h
    · rename_i hne; rw [if_neg hne, putM_none v h]; rfl
theorem getM_some_mem {es : List (κ × ν)} {k : κ} {v : ν} (h : getM es k = some v) : (k, v) ∈ es := by
  obtain ⟨j, _, h2, _⟩ := findM_some (eV := fun _ => undef) (i := 0) h
  exact List.mem_of_getElem? h2
theorem getM_isSome {es : List (κ × ν)} {k : κ} : (getM es k).isSome = true ↔ k ∈ es.map (·.1) := by
  induction es with
  | nil => simp [getM]
  | cons p r ih =>
    unfold getM
    by_cases h : p.1 = k
    · simp [h]
    · rw [if_neg h, ih]
      simp [Ne.symm h]
def KeysOk (es : List (κ × ν)) : Prop := (es.map (·.1)).Nodup
omit [DecidableEq κ] in
theorem KeysOk.nil : KeysOk ([] : List (κ × ν)) := List.nodup_nil
theorem KeysOk.put {es : List (κ × ν)} (h : KeysOk es) (k : κ) (v : ν) : KeysOk (putM es k v) := by
  cases hg : getM es k with
  | none =>
    rw [putM_none v hg]
    unfold KeysOk
    rw [List.map_append, List.nodup_append]
    refine ⟨h, by simp, fun a ha b hb => ?_⟩
    simp at hb
    subst hb
    intro he
    subst he
    have := getM_isSome.2 ha
    rw [hg] at this; cases this
  | some u =>
    obtain ⟨j, _, h2, h3⟩ := findM_some (eV := fun _ => undef) (i := 0) hg
    rw [h3 v]
    unfold KeysOk
    have : (es.set j (k, v)).map (·.1) = es.map (·.1) := by
      apply List.ext_getElem?
      intro i
      rw [List.getElem?_map, List.getElem?_map, List.getElem?_set]
      by_cases hi : j = i
      · subst hi
        have hlt := lt_of_get h2
        rw [if_pos rfl, if_pos hlt, h2]; rfl
      · simp [hi]
    rw [this]; exact h
end
/-- A map in memory: its entries in the order in which the keys came. -/
def ents {κ ν : Type} (ek : κ → Value) (eV : ν → Value) (es : List (κ × ν)) : List MapEntry := es.zipIdx.map fun p => { key := ek p.1.1, val := eV p.1.2, born := p.2 }
def MapAt {κ ν : Type} (w : World) (b : Nat) (ek : κ → Value) (eV : ν → Value) (es : List (κ × ν)) : Prop := w.heap[b]? = some (.map (ents ek eV es).toArray es.length)
theorem ents_len {κ ν : Type} (ek : κ → Value) (eV : ν → Value) (es : List (κ × ν)) : (ents ek eV es).length = es.length := by simp [ents]
theorem ents_get {κ ν : Type} {ek : κ → Value} {eV : ν → Value} {es : List (κ × ν)} {i : Nat} : (ents ek eV es)[i]? = (es[i]?).map fun p => { key := ek p.1, val := eV p.2, born := i } := by
  unfold ents; rw [List.getElem?_map, List.getElem?_zipIdx]; cases es[i]? <;> simp
theorem ents_kv {κ ν : Type} (ek : κ → Value) (eV : ν → Value) (es : List (κ × ν)) : (ents ek eV es).map (fun e => (e.key, e.val)) = es.map fun p => (ek p.1, eV p.2) := by
  apply List.ext_getElem?
  intro i
  rw [List.getElem?_map, ents_get, List.getElem?_map]
  cases es[i]? <;> rfl
section
variable {κ ν : Type} {ek : κ → Value} {eV : ν → Value} {es : List (κ × ν)} {w w' : World} {b : Nat}
theorem MapAt.lt (h : MapAt w b ek eV es) : b < w.heap.size := (Array.getElem?_eq_some_iff.1 h).1
theorem Chg.keepM {M : Nat → Prop} (h : Chg M w w') (hm : ¬ M b) (hb : MapAt w b ek eV es) : MapAt w' b ek eV es := (h.blk b hb.lt hm).trans hb
theorem Ext.keepM (h : Ext w w') (hb : MapAt w b ek eV es) : MapAt w' b ek eV es := Chg.keepM h (fun f => f) hb
theorem New.keepM {n : Nat} {c : Array Value} {t : TypeId} (h : New w w' n c t) (hb : MapAt w b ek eV es) : MapAt w' b ek eV es := h.ext.keepM hb
theorem New.ltM {n : Nat} {c : Array Value} {t : TypeId} (h : New w w' n c t) (hb : MapAt w b ek eV es) : b < n := by rw [h.eq]; exact hb.lt
theorem Put.keepM {n : Nat} {c : Array Value} {t : TypeId} (h : Put w w' n c t) (hne : b ≠ n) (hb : MapAt w b ek eV es) : MapAt w' b ek eV es := h.chg.keepM hne hb
end
/-- A new object that is no row of cells. -/
structure NewO (w w' : World) (b : Nat) (o : Obj) : Prop where
  at' : w'.heap[b]? = some o
  ext : Ext w w'
  eq : b = w.heap.size
  size : w'.heap.size = w.heap.size + 1
theorem NewO.mk' (w : World) (o : Obj) : NewO w { w with heap := w.heap.push o } w.heap.size o :=
  ⟨by simp, ⟨rfl, rfl, rfl, Nat.le_refl _, by simp, fun x hx _ => by simp [Array.getElem?_push, Nat.ne_of_lt hx]⟩, rfl, by simp⟩
section
variable {w w' : World} {b : Nat} {o : Obj}
theorem NewO.keep (h : NewO w w' b o) {b' : Nat} {c' : Array Value} {t' : TypeId} (hb : Blk w b' c' t') : Blk w' b' c' t' := h.ext.keep hb
theorem NewO.lt (h : NewO w w' b o) {b' : Nat} {c' : Array Value} {t' : TypeId} (hb : Blk w b' c' t') : b' < b := by rw [h.eq]; exact hb.lt
theorem NewO.ge (h : NewO w w' b o) {w0 : World} {M : Nat → Prop} (e : Chg M w0 w) : w0.heap.size ≤ b := by rw [h.eq]; exact e.size
variable {κ ν : Type} {ek : κ → Value} {eV : ν → Value} {es : List (κ × ν)} {b' : Nat}
theorem NewO.keepM (h : NewO w w' b o) (hb : MapAt w b' ek eV es) : MapAt w' b' ek eV es := h.ext.keepM hb
theorem NewO.ltM (h : NewO w w' b o) (hb : MapAt w b' ek eV es) : b' < b := by rw [h.eq]; exact hb.lt
end
/-- An object that is no row of cells is replaced. -/
structure PutO (w w' : World) (b : Nat) (o : Obj) : Prop where
  at' : w'.heap[b]? = some o
  chg : Chg (fun x => x = b) w w'
  size : w'.heap.size = w.heap.size
theorem PutO.mk' {w : World} {b : Nat} (o : Obj) (hb : b < w.heap.size) : PutO w { w with heap := w.heap.setIfInBounds b o } b o :=
  ⟨by simp [hb], ⟨rfl, rfl, rfl, Nat.le_refl _, by simp, fun x hx hne => by simp [Array.getElem?_setIfInBounds, Ne.symm hne]⟩, by simp⟩
section
variable {w w' : World} {b : Nat} {o : Obj}
theorem PutO.keep (h : PutO w w' b o) {b' : Nat} {c' : Array Value} {t' : TypeId} (hne : b' ≠ b) (hb : Blk w b' c' t') : Blk w' b' c' t' := h.chg.keep hne hb
theorem PutO.step (h : PutO w w' b o) {w0 : World} {M : Nat → Prop} (e : Chg M w0 w) (hb : w0.heap.size ≤ b ∨ M b) : Chg M w0 w' :=
  e.step h.chg fun x hx hm => by subst hm; rcases hb with hb | hb; omega; exact hb
variable {κ ν : Type} {ek : κ → Value} {eV : ν → Value} {es : List (κ × ν)} {b' : Nat}
theorem PutO.keepM (h : PutO w w' b o) (hne : b' ≠ b) (hb : MapAt w b' ek eV es) : MapAt w' b' ek eV es := h.chg.keepM hne hb
end
/-- What is asked of a key's type. -/
structure KeyOk (P : Program) (kt : TypeId) {κ : Type} [DecidableEq κ] (ek : κ → Value) : Prop where
  check : ∀ (b : Bool) (w : World) (k : κ), (Instr.checkKey b 10000 kt (ek k)).run P w = .ok () w
  find : ∀ (ν : Type) (w : World) (k : κ) (es : List (κ × ν)) (eV : ν → Value) (L : List MapEntry), L.map (fun e => (e.key, e.val)) = es.map (fun p => (ek p.1, eV p.2)) → (Instr.findKey kt (ek k) L).run P w = .ok (findM eV es k 0) w
  same : ∀ k, Instr.sameBits 10000 (ek k) (ek k) = true
def kInt (x : Int) : Value := .int .i64 x
def kStr (s : ByteArray) : Value := .string s
def kBool (x : Bool) : Value := .bool x
theorem keyInt {P : Program} {kt : TypeId} (hu : P.underlying kt = some (.int .i64)) : KeyOk P kt kInt where
  check := fun b w k => by rw [show (10000 : Nat) = 9999 + 1 from rfl, Instr.checkKey]; simp only [Sem.run_bind, run_underlying hu, Result.andThen_ok, kInt]; rfl
  find := fun ν w k es eV L hL => by
    have key : ∀ (L : List MapEntry) (es : List (Int × ν)) (i : Nat), L.map (fun e => (e.key, e.val)) = es.map (fun p => (kInt p.1, eV p.2)) → Instr.findNow (.int .i64) (kInt k) L i = some (findM eV es k i) := by
      intro L
      induction L with
      | nil =>
        intro es i h
        cases es with
        | nil => rfl
        | cons _ _ => simp at h
      | cons e L ih =>
        intro es i h
        cases es with
        | nil => simp at h
        | cons p es =>
          simp only [List.map_cons, List.cons.injEq, Prod.mk.injEq] at h
          obtain ⟨⟨h1, h2⟩, h3⟩ := h
          unfold Instr.findNow findM
          rw [h1]
          simp only [kInt, Instr.sameNow, if_true]
          by_cases hk : p.1 = k
          · rw [if_pos hk, hk]; simp [h2]
          · have : (k == p.1) = false := by simp; exact fun h => hk h.symm
            rw [if_neg hk, this]
            exact ih es (i + 1) h3
    simp [Instr.findKey, run_underlying hu, key L es 0 hL]
  same := fun k => by unfold kInt; rw [Instr.sameBits]; simp
theorem keyStr {P : Program} {kt : TypeId} (hu : P.underlying kt = some .string) : KeyOk P kt kStr where
  check := fun b w k => by rw [show (10000 : Nat) = 9999 + 1 from rfl, Instr.checkKey]; simp only [Sem.run_bind, run_underlying hu, Result.andThen_ok, kStr]; rfl
  find := fun ν w k es eV L hL => by
    have key : ∀ (L : List MapEntry) (es : List (ByteArray × ν)) (i : Nat), L.map (fun e => (e.key, e.val)) = es.map (fun p => (kStr p.1, eV p.2)) → Instr.findNow .string (kStr k) L i = some (findM eV es k i) := by
      intro L
      induction L with
      | nil =>
        intro es i h
        cases es with
        | nil => rfl
        | cons _ _ => simp at h
      | cons e L ih =>
        intro es i h
        cases es with
        | nil => simp at h
        | cons p es =>
          simp only [List.map_cons, List.cons.injEq, Prod.mk.injEq] at h
          obtain ⟨⟨h1, h2⟩, h3⟩ := h
          unfold Instr.findNow findM
          rw [h1]
          simp only [kStr, Instr.sameNow]
          by_cases hk : p.1 = k
          · rw [if_pos hk, hk, (MapKept.bytes_beq k k).2 rfl]; simp [h2]
          · have : (k == p.1) = false := by rw [Bool.eq_false_iff]; exact fun h => hk ((MapKept.bytes_beq _ _).1 h).symm
            rw [if_neg hk, this]
            exact ih es (i + 1) h3
    simp [Instr.findKey, run_underlying hu, key L es 0 hL]
  same := fun k => by unfold kStr; rw [Instr.sameBits]; exact (MapKept.bytes_beq k k).2 rfl
section
variable {P : Program} {N : Nat} {Q : Post} {σ : Env} {w : World} {K : Env → World → Prop} {ops : Array Oper} {rest : List Oper} {d : Nat} {ty : TypeId} {pos : String} {af : Array Edge} {g : Option (Nat × Bool)} {dst : Option Tmp} {t kt et : TypeId} {m x y : Operand} {b : Nat}
variable {κ ν : Type} [DecidableEq κ] {ek : κ → Value} {eV : ν → Value} {es : List (κ × ν)} {k : κ} {v : ν}
omit [DecidableEq κ] in
theorem s_makeMap (ek : κ → Value) (eV : ν → Value) (hN : d < N) (kk : ∀ b w', NewO w w' b (.map #[] 0) → MapAt w' b ek eV [] → WpL P N ops K Q rest (upd σ d (.map (some b))) w') :
    WpL P N ops K Q (⟨some d, .makeMap t none, ty, pos, af, none⟩ :: rest) σ w := by
  refine WpL_val (v := .map (some w.heap.size)) (w' := { w with heap := w.heap.push (.map #[] 0) }) rfl rfl hN ?_ (kk _ _ (NewO.mk' w _) (NewO.mk' w _).at')
  simp [execOp, Instr.makeMap]
theorem run_mapUpdate (hu : P.underlying t = some (.map kt et)) (hk : KeyOk P kt ek) (hm : MapAt w b ek eV es) :
    (Instr.mapUpdate t (.map (some b)) (ek k) (eV v)).run P w = .ok () { w with heap := w.heap.setIfInBounds b (.map (ents ek eV (putM es k v)).toArray (putM es k v).length) } := by
  have hlt := hm.lt
  unfold MapAt at hm
  have hg : (getObj b).run P w = .ok (.map (ents ek eV es).toArray es.length) w := by simp [getObj, Sem.run, hm]
  have hs : ∀ o, (setObj b o).run P w = .ok () { w with heap := w.heap.setIfInBounds b o } := fun o => by simp [setObj, Sem.run, hm]
  have hf := hk.find ν w k es eV (ents ek eV es) (ents_kv ek eV es)
  simp only [Instr.mapUpdate, Sem.run_bind, run_underlying hu, Result.andThen_ok, hg, hk.check, hf]
  cases hgm : getM es k with
  | none =>
    rw [findM_none hgm]
    simp only [hs]
    congr 4
    · apply Array.ext'
      rw [putM_none v hgm]
      simp [ents, List.zipIdx_append]
    · rw [putM_none v hgm]; simp
  | some u =>
    obtain ⟨j, h1, h2, h3⟩ := findM_some (eV := eV) (i := 0) hgm
    rw [Nat.zero_add] at h1
    rw [h1]
    have hj := lt_of_get h2
    have he : (ents ek eV es).toArray[j]? = some { key := ek k, val := eV u, born := j } := by rw [List.getElem?_toArray, ents_get, h2]; rfl
    simp only [he, Option.map_some, Option.getD_some, Instr.keyThatStays, hk.same, if_true, Sem.run_bind, Sem.run_pure, Result.andThen_ok, hs]
    congr 4
    · apply Array.ext'
      rw [h3 v]
      apply List.ext_getElem?
      intro i
      rw [List.getElem?_toArray.symm.trans (by rfl)] <;> simp only [Array.getElem?_toList, Array.getElem?_modify, List.getElem?_toArray, ents_get, List.getElem?_set]
      by_cases hi : j = i
      · subst hi; simp [h2, hj]
      · simp [hi]
    · rw [h3 v]; simp
theorem s_mapUpdate (hu : P.underlying t = some (.map kt et)) (hk : KeyOk P kt ek) (hm : MapAt w b ek eV es) (h1 : ev σ m = .map (some b)) (h2 : ev σ x = ek k) (h3 : ev σ y = eV v)
    (kk : ∀ w', PutO w w' b (.map (ents ek eV (putM es k v)).toArray (putM es k v).length) → MapAt w' b ek eV (putM es k v) → WpL P N ops K Q rest σ w') :
    WpL P N ops K Q (⟨none, .mapUpdate t m x y, ty, pos, af, none⟩ :: rest) σ w := by
  have hr := run_mapUpdate (k := k) (v := v) hu hk hm
  refine WpL_skip rfl rfl (w' := { w with heap := w.heap.setIfInBounds b (.map (ents ek eV (putM es k v)).toArray (putM es k v).length) }) ?_ (kk _ (PutO.mk' _ hm.lt) (PutO.mk' _ hm.lt).at')
  simp [execOp, h1, h2, h3, hr]
theorem s_insert (hu : P.underlying t = some (.map kt et)) (hk : KeyOk P kt ek) (hm : MapAt w b ek eV es) (h1 : ev σ m = .map (some b)) (h2 : ev σ x = ek k) (h3 : ev σ y = eV v)
    (kk : ∀ w', PutO w w' b (.map (ents ek eV (putM es k v)).toArray (putM es k v).length) → MapAt w' b ek eV (putM es k v) → WpL P N ops K Q rest σ w') :
    WpL P N ops K Q (⟨none, .insert t m x y, ty, pos, af, none⟩ :: rest) σ w := by
  have hr := run_mapUpdate (k := k) (v := v) hu hk hm
  refine WpL_skip rfl rfl (w' := { w with heap := w.heap.setIfInBounds b (.map (ents ek eV (putM es k v)).toArray (putM es k v).length) }) ?_ (kk _ (PutO.mk' _ hm.lt) (PutO.mk' _ hm.lt).at')
  simp [execOp, h1, h2, h3, hr]
theorem run_lookup (c : Bool) {z : ν} (hu : P.underlying t = some (.map kt et)) (hk : KeyOk P kt ek) (hz : Zer P et (eV z)) (hm : MapAt w b ek eV es) :
    (Instr.lookup t (.map (some b)) (ek k) c).run P w = .ok (if c then .tuple #[eV ((getM es k).getD z), .bool (getM es k).isSome] else eV ((getM es k).getD z)) w := by
  unfold MapAt at hm
  have hg : (getObj b).run P w = .ok (.map (ents ek eV es).toArray es.length) w := by simp [getObj, Sem.run, hm]
  have hf := hk.find ν w k es eV (ents ek eV es) (ents_kv ek eV es)
  simp only [Instr.lookup, Sem.run_bind, run_underlying hu, Result.andThen_ok, hg, Sem.run_pure, hk.check, hf]
  cases hgm : getM es k with
  | none => rw [findM_none hgm]; simp [hz.run]
  | some u =>
    obtain ⟨j, h1, _, _⟩ := findM_some (eV := eV) (i := 0) hgm
    rw [h1]; simp
theorem r_lookup {z : ν} (hu : P.underlying t = some (.map kt et)) (hk : KeyOk P kt ek) (hz : Zer P et (eV z)) (hm : MapAt w b ek eV es) (h1 : ev σ m = .map (some b)) (h2 : ev σ x = ek k) :
    (execOp (ev σ) ⟨dst, .lookup t m x false, ty, pos, af, g⟩).run P w = .ok (.value (eV ((getM es k).getD z))) w := by
  simp [execOp, h1, h2, run_lookup false hu hk hz hm]
theorem r_lookup2 {z : ν} (hu : P.underlying t = some (.map kt et)) (hk : KeyOk P kt ek) (hz : Zer P et (eV z)) (hm : MapAt w b ek eV es) (h1 : ev σ m = .map (some b)) (h2 : ev σ x = ek k) :
    (execOp (ev σ) ⟨dst, .lookup t m x true, ty, pos, af, g⟩).run P w = .ok (.value (.tuple #[eV ((getM es k).getD z), .bool (getM es k).isSome])) w := by
  simp [execOp, h1, h2, run_lookup true hu hk hz hm]
omit [DecidableEq κ] in
theorem r_lenMap (hu : P.underlying t = some (.map kt et)) (hm : MapAt w b ek eV es) (h1 : ev σ m = .map (some b)) :
    (execOp (ev σ) ⟨dst, .call ⟨.builtin .len, #[m], #[t]⟩, ty, pos, af, g⟩).run P w = .ok (.value (.int .i64 es.length)) w := by
  unfold MapAt at hm
  have hg : (getObj b).run P w = .ok (.map (ents ek eV es).toArray es.length) w := by simp [getObj, Sem.run, hm]
  simp [execOp, resolve, h1, invoke, builtin, Builtin.len_, run_underlying hu, hg, goInt, ents_len]
end
def IterAt (w : World) (it b n : Nat) (seen : List Nat) : Prop := w.heap[it]? = some (.mapIter (some b) n seen.toArray n)
theorem IterAt.lt {w : World} {it b n : Nat} {seen : List Nat} (h : IterAt w it b n seen) : it < w.heap.size := (Array.getElem?_eq_some_iff.1 h).1
theorem IterAt.chg {M : Nat → Prop} {w w' : World} {it b n : Nat} {seen : List Nat} (h : IterAt w it b n seen) (c : Chg M w w') (hm : ¬ M it) : IterAt w' it b n seen := (c.blk it h.lt hm).trans h
theorem IterAt.ext {w w' : World} {it b n : Nat} {seen : List Nat} (h : IterAt w it b n seen) (c : Ext w w') : IterAt w' it b n seen := h.chg c fun f => f
end Go.Eng
