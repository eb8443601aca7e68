/- The engine of the walks: weakest preconditions over frames that are functions, and one rule an operation. It is generic: no program is named. -/
import Derived.Tactics
import Derived.Deep.Quiet
import Derived.Laws.AppendOwn
import Derived.KernelRfl
namespace Go.Eng
open Go

abbrev Env := Nat → Value
abbrev Post := Exit → Env → World → Prop

def upd (σ : Env) (d : Nat) (v : Value) : Env := fun t => bif Nat.beq t d then v else σ t
def ev (σ : Env) : Operand → Value
  | .tmp t => σ t
  | .const v => v
  | .global g => .pointer (some ⟨g, 0, none⟩)
  | .func f => .func (.func f) #[] #[]
def env (a : Act) : Env := fun t => a.tmps.getD t undef
def lk (t : Nat) : List (Nat × Value) → Value → Value
  | [], d => d
  | (k, v) :: r, d => bif Nat.beq t k then v else lk t r d
def upds (σ : Env) (l : List (Nat × Value)) : Env := fun t => lk t l (σ t)

theorem upds_self (σ : Env) (l : List (Nat × Value)) (h : ∀ p ∈ l, σ p.1 = p.2) : upds σ l = σ := by
  funext t
  unfold upds
  induction l with
  | nil => rfl
  | cons p r ih =>
    obtain ⟨k, v⟩ := p
    simp only [lk]
    cases hb : Nat.beq t k
    · simp only [cond_false]
      exact ih fun p hp => h p (List.mem_cons_of_mem _ hp)
    · have : t = k := Nat.eq_of_beq_eq_true hb
      subst this
      simp only [cond_true]
      exact (h (t, v) List.mem_cons_self).symm

def Fits (σ : Env) : List (Nat × Value) → Prop
  | [] => True
  | (k, v) :: r => σ k = v ∧ Fits σ r

theorem Fits.all {σ : Env} : ∀ {l : List (Nat × Value)}, Fits σ l → ∀ p ∈ l, σ p.1 = p.2
  | [], _, _, hp => by cases hp
  | (k, v) :: r, h, p, hp => by
    cases hp with
    | head => exact h.1
    | tail _ hp => exact Fits.all h.2 p hp

theorem Fits.out {σ : Env} {l : List (Nat × Value)} (h : Fits σ l) : ∃ j, σ = upds j l := ⟨σ, (upds_self σ l h.all).symm⟩

theorem eval_env (a : Act) : a.eval = ev (env a) := by
  funext x
  cases x <;> rfl

structure Ok (N : Nat) (a : Act) : Prop where
  size : a.tmps.size = N
  defers : a.defers = []

theorem env_put {N : Nat} {a : Act} (h : Ok N a) {d : Nat} (hd : d < N) (v : Value) : env (a.put (some d) v) = upd (env a) d v := by
  funext t
  have hs := h.size
  simp only [env, upd, Act.put]
  cases hb : Nat.beq t d
  · have hne : d ≠ t := fun e => by subst e; rw [Nat.beq_refl] at hb; cases hb
    simp [Array.getElem?_setIfInBounds_ne hne]
  · have : t = d := Nat.eq_of_beq_eq_true hb
    subst this
    simp [hs, hd]

theorem Ok.put {N : Nat} {a : Act} (h : Ok N a) (d : Option Nat) (v : Value) : Ok N (a.put d v) := by
  cases d with
  | none => exact h
  | some d => exact ⟨by simp [Act.put, h.size], h.defers⟩

def lift (N : Nat) (Q : Post) : Exit → Act → World → Prop := fun e a w => Ok N a ∧ Q e (env a) w

def Wp (P : Program) (N : Nat) (c : Code) (Q : Post) (σ : Env) (w : World) : Prop :=
  ∀ a, Ok N a → env a = σ → c.wp P (lift N Q) a w

def thn (K : Env → World → Prop) (Q : Post) : Post
  | .normal => K
  | e => Q e

def inB (id : Nat) (Q : Post) : Post
  | .exit j => if j = id then Q .normal else Q (.exit j)
  | e => Q e

section
variable {P : Program} {N : Nat} {Q : Post} {σ : Env} {w : World} {K : Env → World → Prop}

theorem thn_normal (h : K σ w) : thn K Q .normal σ w := h
theorem thn_exit {j : Nat} (h : Q (.exit j) σ w) : thn K Q (.exit j) σ w := h
theorem thn_ret (h : Q .ret σ w) : thn K Q .ret σ w := h
theorem inB_normal {id : Nat} (h : Q .normal σ w) : inB id Q .normal σ w := h
theorem inB_ret {id : Nat} (h : Q .ret σ w) : inB id Q .ret σ w := h
theorem inB_here {id : Nat} (h : Q .normal σ w) : inB id Q (.exit id) σ w := by unfold inB; simp only [if_true]; exact h
theorem inB_there {id j : Nat} (hne : j ≠ id) (h : Q (.exit j) σ w) : inB id Q (.exit j) σ w := by unfold inB; simp only [hne, if_false]; exact h

theorem Wp_mono {c : Code} {Q' : Post} (h : Wp P N c Q σ w) (hq : ∀ e σ w, Q e σ w → Q' e σ w) : Wp P N c Q' σ w :=
  fun a ha he => Code.wp_mono (fun _ _ _ ⟨o, q⟩ => ⟨o, hq _ _ _ q⟩) (h a ha he)

theorem Wp_seq {x y : Code} (h : Wp P N x (thn (Wp P N y Q) Q) σ w) : Wp P N (.seq x y) Q σ w := by
  intro a ha he
  refine wp_seq (Code.wp_mono ?_ (h a ha he))
  rintro e a w ⟨o, q⟩
  cases e <;> first | exact q a o rfl | exact ⟨o, q⟩

theorem Wp_skip (h : Q .normal σ w) : Wp P N .skip Q σ w := fun _ ha he => wp_skip ⟨ha, he ▸ h⟩
theorem Wp_exit {id : Nat} (h : Q (.exit id) σ w) : Wp P N (.exit id) Q σ w := fun _ ha he => wp_exit ⟨ha, he ▸ h⟩
theorem Wp_ret (h : Q .ret σ w) : Wp P N .ret Q σ w := fun _ ha he => wp_ret ⟨ha, he ▸ h⟩

theorem Wp_block {id : Nat} {c : Code} (h : Wp P N c (inB id Q) σ w) : Wp P N (.block id c) Q σ w := by
  intro a ha he
  refine wp_block (Code.wp_mono ?_ (h a ha he))
  rintro e a w ⟨o, q⟩
  cases e with
  | exit j =>
    unfold Exit.inBlock
    unfold inB at q
    by_cases hj : j = id
    · simp only [hj, if_true] at q ⊢; exact ⟨o, q⟩
    · simp only [hj, if_false] at q ⊢; exact ⟨o, q⟩
  | normal => exact ⟨o, q⟩
  | goto l => exact ⟨o, q⟩
  | ret => exact ⟨o, q⟩
  | panic c => exact ⟨o, q⟩
  | outgrown => exact ⟨o, q⟩

theorem Wp_cond {c : Operand} {x y : Code} {b : Bool} (hc : ev σ c = .bool b) (ht : b = true → Wp P N x Q σ w) (hf : b = false → Wp P N y Q σ w) :
    Wp P N (.cond c x y) Q σ w := by
  intro a ha he
  refine wp_cond_split (t := b) (by rw [eval_env, he]; exact hc) (fun h => ht h a ha he) (fun h => hf h a ha he)

theorem Wp_cond_true {c : Operand} {x y : Code} (hc : ev σ c = .bool true) (h : Wp P N x Q σ w) : Wp P N (.cond c x y) Q σ w :=
  Wp_cond hc (fun _ => h) (fun h => by cases h)
theorem Wp_cond_false {c : Operand} {x y : Code} (hc : ev σ c = .bool false) (h : Wp P N y Q σ w) : Wp P N (.cond c x y) Q σ w :=
  Wp_cond hc (fun h => by cases h) (fun _ => h)

/-- A loop, by a relation that is indexed by a number that falls in every round. -/
theorem Wp_loop {c : Code} (I : Nat → Env → World → Prop) {n : Nat} (h0 : I n σ w)
    (round : ∀ n σ w, I n σ w → Wp P N c (thn (fun σ' w' => ∃ m, m < n ∧ I m σ' w') Q) σ w) : Wp P N (.loop c) Q σ w := by
  intro a ha he b k cs
  have key : ∀ n a w, Ok N a → I n (env a) w →
      ∃ e a' w', lift N Q e a' w' ∧ Arrives P (lone (b.at a (.code c :: .inLoop c :: k)) cs w) b k cs e a' w' := by
    intro n
    induction n using Nat.strongRecOn with
    | _ n ih =>
      intro a w ha hI
      obtain ⟨e, a1, w1, ⟨ho, hq⟩, harr⟩ := round n _ w hI a ha rfl b (.inLoop c :: k) cs
      cases e with
      | normal =>
        obtain ⟨m, hlt, hI1⟩ := hq
        obtain ⟨e2, a2, w2, hq2, harr2⟩ := ih m hlt a1 w1 ho hI1
        exact ⟨e2, a2, w2, hq2, .of_steps (Steps.trans harr (.one step_inLoop)) harr2⟩
      | exit id => exact ⟨_, a1, w1, ⟨ho, hq⟩, .pass (x := .inLoop c) rfl (fun _ _ => .inl (by simp)) harr⟩
      | goto l => exact ⟨_, a1, w1, ⟨ho, hq⟩, .pass (x := .inLoop c) rfl (fun _ _ => .inl (by simp)) harr⟩
      | ret => exact ⟨_, a1, w1, ⟨ho, hq⟩, .pass (x := .inLoop c) rfl (fun _ _ => .inl (by simp)) harr⟩
      | panic ch => exact ⟨_, a1, w1, ⟨ho, hq⟩, .pass (x := .inLoop c) rfl (fun _ _ => .inl (by simp)) harr⟩
      | outgrown => exact ⟨_, a1, w1, ⟨ho, hq⟩, .pass (x := .inLoop c) rfl (fun _ _ => .inl (by simp)) harr⟩
  obtain ⟨e, a', w', hq, harr⟩ := key n a w ha (he ▸ h0)
  exact ⟨e, a', w', hq, .of_steps (.one step_loop) harr⟩

end

/-! Lists of operations. -/
def WpL (P : Program) (N : Nat) (ops : Array Oper) (K : Env → World → Prop) (Q : Post) (l : List Oper) (σ : Env) (w : World) : Prop :=
  ∀ a, Ok N a → env a = σ → wpList P ops (lift N (thn K Q)) l a w

section
variable {P : Program} {N : Nat} {Q : Post} {σ : Env} {w : World} {K : Env → World → Prop} {ops : Array Oper} {rest : List Oper}

theorem Wp_region {id : Nat} {l : List Oper} (h : WpL P N l.toArray (Q .normal) Q l σ w) : Wp P N (.region id l.toArray false) Q σ w := by
  intro a ha he
  refine wp_region_lit ?_
  have := h a ha he
  have e : lift N (thn (Q .normal) Q) = lift N Q := by funext e a w; cases e <;> rfl
  rwa [e] at this

theorem Wp_seq_region {id : Nat} {l : List Oper} {y : Code} (h : WpL P N l.toArray (Wp P N y Q) Q l σ w) : Wp P N (.seq (.region id l.toArray false) y) Q σ w := by
  refine Wp_seq ?_
  intro a ha he
  exact wp_region_lit (h a ha he)

theorem WpL_nil (h : K σ w) : WpL P N ops K Q [] σ w := fun a ha he => ⟨ha, by subst he; exact h⟩

theorem WpL_val {o : Oper} (hg : o.guard = none) {d : Nat} (hd : o.dst = some d) (hN : d < N) {v : Value} {w' : World}
    (hr : (execOp (ev σ) o).run P w = .ok (.value v) w') (k : WpL P N ops K Q rest (upd σ d v) w') : WpL P N ops K Q (o :: rest) σ w := by
  intro a ha he
  refine wpList_plain hg fun K' hK => ?_
  unfold Oper.wp
  rw [eval_env, he, hr]
  simp only [Oper.upon, hd]
  exact hK _ _ (k _ (ha.put _ _) (by rw [env_put ha hN, he]))

theorem WpL_skip {o : Oper} (hg : o.guard = none) (hd : o.dst = none) {w' : World}
    (hr : (execOp (ev σ) o).run P w = .ok .skip w') (k : WpL P N ops K Q rest σ w') : WpL P N ops K Q (o :: rest) σ w := by
  intro a ha he
  refine wpList_plain hg fun K' hK => ?_
  unfold Oper.wp
  rw [eval_env, he, hr]
  simp only [Oper.upon, hd]
  exact hK _ _ (k a ha he)

/-- The contract of a call: it returns a value, and what is said of it and of the world holds. -/
def Ret (P : Program) (f : FuncId) (args : Array Value) (w : World) (R : Value → World → Prop) : Prop :=
  Calls P f args w fun e w' => ∃ v, e = .returned v ∧ R v w'

theorem Ret.mono {f : FuncId} {args : Array Value} {R R' : Value → World → Prop} (h : Ret P f args w R) (hr : ∀ v w', R v w' → R' v w') : Ret P f args w R' :=
  Calls.mono h fun _ _ ⟨v, e, r⟩ => ⟨v, e, hr _ _ r⟩

theorem WpL_enter {o : Oper} (hg : o.guard = none) {d : Nat} (hd : o.dst = some d) (hN : d < N) {f : FuncId} {args : Array Value} {R : Value → World → Prop}
    (hr : (execOp (ev σ) o).run P w = .ok (.enter f args) w) (hc : Ret P f args w R) (k : ∀ v w', R v w' → WpL P N ops K Q rest (upd σ d v) w') : WpL P N ops K Q (o :: rest) σ w := by
  intro a ha he
  refine wpList_plain hg fun K' hK => ?_
  unfold Oper.wp
  rw [eval_env, he, hr]
  simp only [Oper.upon, hd]
  refine Calls.mono hc ?_
  rintro e w' ⟨v, rfl, r⟩
  exact hK _ _ (k v w' r _ (ha.put _ _) (by rw [env_put ha hN, he]))

theorem WpL_enter0 {o : Oper} (hg : o.guard = none) (hd : o.dst = none) {f : FuncId} {args : Array Value} {R : Value → World → Prop}
    (hr : (execOp (ev σ) o).run P w = .ok (.enter f args) w) (hc : Ret P f args w R) (k : ∀ v w', R v w' → WpL P N ops K Q rest σ w') : WpL P N ops K Q (o :: rest) σ w := by
  intro a ha he
  refine wpList_plain hg fun K' hK => ?_
  unfold Oper.wp
  rw [eval_env, he, hr]
  simp only [Oper.upon, hd]
  refine Calls.mono hc ?_
  rintro e w' ⟨v, rfl, r⟩
  exact hK _ _ (k v w' r a ha he)

/-- An operation that is guarded: carried out. -/
theorem WpL_guard_yes {dst : Option Tmp} {op : Op} {ty : TypeId} {pos : String} {af : Array Edge} {j : Nat} {b : Bool} {oj : Oper} {dj : Nat}
    (hj : ops[j]? = some oj) (hdj : oj.dst = some dj) (hN : dj < N) (hy : σ dj = .bool b)
    (k : WpL P N ops K Q (⟨dst, op, ty, pos, af, none⟩ :: rest) σ w) : WpL P N ops K Q (⟨dst, op, ty, pos, af, some (j, b)⟩ :: rest) σ w := by
  intro a ha he
  have h1 := k a ha he
  have hw : Region.wanted ⟨dst, op, ty, pos, af, some (j, b)⟩ (yielded ops a.tmps) = true := by
    simp only [Region.wanted, yielded, hj, hdj, Option.bind_some]
    have : a.tmps[dj]? = some (Value.bool b) := by
      have h2 : a.tmps.getD dj undef = .bool b := by rw [← hy, ← he]; rfl
      have hlt : dj < a.tmps.size := by rw [ha.size]; exact hN
      rw [Array.getElem?_eq_getElem hlt]
      simpa [hlt] using h2
    simp [this]
  unfold wpList at h1 ⊢
  rw [if_pos hw]
  rw [if_pos (by rfl)] at h1
  exact h1

/-- An operation that is guarded: passed over. -/
theorem WpL_guard_no {d : Nat} {op : Op} {ty : TypeId} {pos : String} {af : Array Edge} {j : Nat} {b : Bool} {oj : Oper} {dj : Nat} {v : Value}
    (hj : ops[j]? = some oj) (hdj : oj.dst = some dj) (hd : d < N) (hy : σ dj = v) (hv : v = .bool (!b) ∨ v = undef)
    (k : WpL P N ops K Q rest (upd σ d undef) w) : WpL P N ops K Q (⟨some d, op, ty, pos, af, some (j, b)⟩ :: rest) σ w := by
  intro a ha he
  have hw : Region.wanted ⟨some d, op, ty, pos, af, some (j, b)⟩ (yielded ops a.tmps) = false := by
    simp only [Region.wanted, yielded, hj, hdj, Option.bind_some]
    have h2 : a.tmps.getD dj undef = v := by rw [← hy, ← he]; rfl
    cases hx : a.tmps[dj]? with
    | none => simp
    | some u =>
      have : u = v := by simpa [hx] using h2
      subst this
      rcases hv with rfl | rfl
      · cases b <;> simp
      · simp [undef]
  unfold wpList
  rw [hw, if_neg (by simp)]
  exact k _ (ha.put _ _) (by rw [env_put ha hd, he])
/-- An operation that is guarded, whether it is carried out or not. -/
theorem WpL_guard_any {d : Nat} {op : Op} {ty : TypeId} {pos : String} {af : Array Edge} {j : Nat} {b : Bool} {oj : Oper} {dj : Nat} {gv u : Value}
    (hj : ops[j]? = some oj) (hdj : oj.dst = some dj) (hN : dj < N) (hd : d < N) (hy : σ dj = gv)
    (h : (gv = .bool b ∧ (execOp (ev σ) ⟨some d, op, ty, pos, af, none⟩).run P w = .ok (.value u) w) ∨ ((gv = .bool (!b) ∨ gv = undef) ∧ u = undef))
    (k : WpL P N ops K Q rest (upd σ d u) w) : WpL P N ops K Q (⟨some d, op, ty, pos, af, some (j, b)⟩ :: rest) σ w := by
  rcases h with ⟨h1, h2⟩ | ⟨h1, rfl⟩
  · exact WpL_guard_yes hj hdj hN (hy.trans h1) (WpL_val rfl rfl hd h2 k)
  · exact WpL_guard_no hj hdj hd hy h1 k
end

/-! The body of a function. -/
def fin (P : Program) (fn : Func) (R : Value → World → Prop) : Post
  | .normal, σ, w | .ret, σ, w => ∃ v, (∀ a : Act, env a = σ → (results fn a.tmps).run P w = .ok v w) ∧ R v w
  | _, _, _ => False

theorem Ret_of {P : Program} {f : FuncId} {fn : Func} {c : Code} {N : Nat} {args : Array Value} {w : World} {R : Value → World → Prop}
    (hf : P.funcs[f]? = some fn) (hb : fn.body = some c) (hn : fn.ntmps = N) (hsz : args.size ≤ N)
    (h : Wp P N c (fin P fn R) (fun t => args.getD t undef) w) : Ret P f args w R := by
  refine calls_of_wp hf hb ?_
  refine Code.wp_mono ?_ (h _ ⟨?_, rfl⟩ ?_)
  · rintro e a w ⟨o, q⟩
    cases e <;> simp only [fin] at q
    · obtain ⟨v, hv, r⟩ := q; exact ⟨o.defers, v, hv a rfl, v, rfl, r⟩
    · obtain ⟨v, hv, r⟩ := q; exact ⟨o.defers, v, hv a rfl, v, rfl, r⟩
  · simp [hn]; omega
  · funext t
    simp only [env, Array.getD_eq_getD_getElem?, Array.getElem?_append]
    split
    · rfl
    · rename_i hlt
      rw [Array.getElem?_replicate, Array.getElem?_eq_none (xs := args) (by omega)]
      split <;> rfl

theorem fin_tmp {P : Program} {fn : Func} {R : Value → World → Prop} {t : Nat} (hr : fn.results = #[.tmp t]) {σ : Env} {w : World} {v : Value} (hv : σ t = v) (h : R v w) : fin P fn R .ret σ w :=
  ⟨v, fun a ha => by rw [results_tmp hr]; subst ha; rw [← hv]; rfl, h⟩
theorem fin_tmp2 {P : Program} {fn : Func} {R : Value → World → Prop} {t u : Nat} (hr : fn.results = #[.tmp t, .tmp u]) {σ : Env} {w : World} {v v' : Value} (hv : σ t = v) (hv' : σ u = v') (h : R (.tuple #[v, v']) w) : fin P fn R .ret σ w :=
  ⟨.tuple #[v, v'], fun a ha => by rw [results_tmp2 hr]; subst ha; rw [← hv, ← hv']; rfl, h⟩
theorem fin_none {P : Program} {fn : Func} {R : Value → World → Prop} (hr : fn.results = #[]) {σ : Env} {w : World} (h : R (.tuple #[]) w) : fin P fn R .normal σ w :=
  ⟨.tuple #[], fun a ha => by rw [results_none hr], h⟩
theorem fin_noneR {P : Program} {fn : Func} {R : Value → World → Prop} (hr : fn.results = #[]) {σ : Env} {w : World} (h : R (.tuple #[]) w) : fin P fn R .ret σ w :=
  ⟨.tuple #[], fun a ha => by rw [results_none hr], h⟩
end Go.Eng
