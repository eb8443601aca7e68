/- Contracts and plain lemmas, part 1. -/
import Derived.Tactics
import Derived.Deep.Quiet
import Derived.Laws.AppendOwn
import Derived.KernelRfl
import Derived.Laws.Entries
import Derived.Laws.Build
import Derived.Below
import Derived.RowKit3
import Derived.StillTail
import Derived.Sort.Grow
import Derived.Deep.Draws
import Derived.Test.YtnnkdgabkoggaaaGreatDoorChecked
import Derived.Laws.StructEq
import Derived.MapKept
import Derived.Laws.BytesArg
import Derived.Defers
import Derived.Recover
import Derived.Shelf.SlSortCmp.WholeK
import Derived.Shelf.Sort.Plain
import Derived.Shelf.Slices.CompactI
import Derived.Test.YtnnkdgabkoggaaaGreatDoorProg
import Derived.Shelf.Small.Bits
import Derived.DeepKeys3
set_option maxHeartbeats 16000000
set_option maxRecDepth 100000
theorem Go.Proofs.kQ {p : Prop} (h : p := by kernel_rfl) : p := h
theorem Go.Proofs.kH {p : Prop} (h : ¬ p := by intro h; first | omega | (dsimp only at h; omega)) : ¬ p := h
namespace Go.Eng
open Go
abbrev Env := Nat → Value
abbrev Post := Exit → Env → World → Prop
def upd (σ : Env) (d : Nat) (v : Value) : Env := fun t => bif Nat.beq t d then v else σ t
def ev (σ : Env) : Operand → Value
  | .tmp t => σ t
  | .const v => v
  | .global g => .pointer (some ⟨g,0,none⟩)
  | .func f => .func (.func f) #[] #[]
def env (a : Act) : Env := fun t => a.tmps.getD t undef
def lk (t : Nat) : List (Nat × Value) → Value → Value
  | [],d => d
  | (k,v) :: r,d => bif Nat.beq t k then v else lk t r d
def upds (σ : Env) (l : List (Nat × Value)) : Env := fun t => lk t l (σ t)
theorem upds_self (σ : Env) (l : List (Nat × Value)) (h : ∀ p ∈ l,σ p.1 = p.2) : upds σ l = σ := by
  funext t
  unfold upds
  induction l with
  | nil => rfl
  | cons p r ih =>
    obtain ⟨k,v⟩ := p
    simp only [lk]
    cases hb : Nat.beq t k
    · simp only [cond_false]
      exact ih fun p hp => h p (List.mem_cons_of_mem _ hp)
    · have : t = k := Nat.eq_of_beq_eq_true hb
      subst this
      simp only [cond_true]
      exact (h (t,v) List.mem_cons_self).symm
def Fits (σ : Env) : List (Nat × Value) → Prop
  | [] => True
  | (k,v) :: r => σ k = v ∧ Fits σ r
theorem Fits.all {σ : Env} : ∀ {l : List (Nat × Value)},Fits σ l → ∀ p ∈ l,σ p.1 = p.2
  | [],_,_,hp => by cases hp
  | (k,v) :: r,h,p,hp => by
    cases hp with
    | head => exact h.1
    | tail _ hp => exact Fits.all h.2 p hp
theorem Fits.out {σ : Env} {l : List (Nat × Value)} (h : Fits σ l) : ∃ j,σ = upds j l := ⟨σ,(upds_self σ l h.all).symm⟩
theorem eval_env (a : Act) : a.eval = ev (env a) := by
  funext x
  cases x <;> rfl
structure Ok (dz : List Deferred) (N : Nat) (a : Act) : Prop where
  size : a.tmps.size = N
  defers : a.defers = dz
theorem env_put {dz : List Deferred} {N : Nat} {a : Act} (h : Ok dz N a) {d : Nat} (hd : d < N) (v : Value) : env (a.put (some d) v) = upd (env a) d v := by
  funext t
  have hs := h.size
  simp only [env,upd,Act.put]
  cases hb : Nat.beq t d
  · have hne : d ≠ t := fun e => by subst e; rw [Nat.beq_refl] at hb; cases hb
    simp [Array.getElem?_setIfInBounds_ne hne]
  · have : t = d := Nat.eq_of_beq_eq_true hb
    subst this
    simp [hs,hd]
theorem Ok.put {dz : List Deferred} {N : Nat} {a : Act} (h : Ok dz N a) (d : Option Nat) (v : Value) : Ok dz N (a.put d v) := by
  cases d with
  | none => exact h
  | some d => exact ⟨by simp [Act.put,h.size],h.defers⟩
def lift (dz : List Deferred) (N : Nat) (Q : Post) : Exit → Act → World → Prop := fun e a w => Ok dz N a ∧ Q e (env a) w
def Wp (P : Program) (N : Nat) (c : Code) (Q : Post) (σ : Env) (w : World) : Prop :=
  ∀ dz a,Ok dz N a → env a = σ → c.wp P (lift dz N Q) a w
def thn (K : Env → World → Prop) (Q : Post) : Post
  | .normal => K
  | e => Q e
def inB (id : Nat) (Q : Post) : Post
  | .exit j => if j = id then Q .normal else Q (.exit j)
  | e => Q e
section
variable {P : Program} {N : Nat} {Q : Post} {σ : Env} {w : World} {K : Env → World → Prop}
theorem thn_normal (h : K σ w) : thn K Q .normal σ w := h
theorem thn_exit {j : Nat} (h : Q (.exit j) σ w) : thn K Q (.exit j) σ w := h
theorem thn_ret (h : Q .ret σ w) : thn K Q .ret σ w := h
theorem inB_normal {id : Nat} (h : Q .normal σ w) : inB id Q .normal σ w := h
theorem inB_ret {id : Nat} (h : Q .ret σ w) : inB id Q .ret σ w := h
theorem inB_here {id : Nat} (h : Q .normal σ w) : inB id Q (.exit id) σ w := by unfold inB; simp only [if_true]; exact h
theorem Wp_mono {c : Code} {Q' : Post} (h : Wp P N c Q σ w) (hq : ∀ e σ w,Q e σ w → Q' e σ w) : Wp P N c Q' σ w :=
  fun dz a ha he => Code.wp_mono (fun _ _ _ ⟨o,q⟩ => ⟨o,hq _ _ _ q⟩) (h dz a ha he)
theorem Wp_seq {x y : Code} (h : Wp P N x (thn (Wp P N y Q) Q) σ w) : Wp P N (.seq x y) Q σ w := by
  intro dz a ha he
  refine wp_seq (Code.wp_mono ?_ (h dz a ha he))
  rintro e a w ⟨o,q⟩
  cases e <;> first | exact q dz a o rfl | exact ⟨o,q⟩
theorem Wp_skip (h : Q .normal σ w) : Wp P N .skip Q σ w := fun _ _ ha he => wp_skip ⟨ha,he ▸ h⟩
theorem Wp_exit {id : Nat} (h : Q (.exit id) σ w) : Wp P N (.exit id) Q σ w := fun _ _ ha he => wp_exit ⟨ha,he ▸ h⟩
theorem Wp_ret (h : Q .ret σ w) : Wp P N .ret Q σ w := fun _ _ ha he => wp_ret ⟨ha,he ▸ h⟩
theorem Wp_block {id : Nat} {c : Code} (h : Wp P N c (inB id Q) σ w) : Wp P N (.block id c) Q σ w := by
  intro dz a ha he
  refine wp_block (Code.wp_mono ?_ (h dz a ha he))
  rintro e a w ⟨o,q⟩
  cases e with
  | exit j =>
    unfold Exit.inBlock
    unfold inB at q
    by_cases hj : j = id
    · simp only [hj,if_true] at q ⊢; exact ⟨o,q⟩
    · simp only [hj,if_false] at q ⊢; exact ⟨o,q⟩
  | normal => exact ⟨o,q⟩
  | goto l => exact ⟨o,q⟩
  | ret => exact ⟨o,q⟩
  | panic c => exact ⟨o,q⟩
  | outgrown => exact ⟨o,q⟩
theorem Wp_cond {c : Operand} {x y : Code} {b : Bool} (hc : ev σ c = .bool b) (ht : b = true → Wp P N x Q σ w) (hf : b = false → Wp P N y Q σ w) :
    Wp P N (.cond c x y) Q σ w := by
  intro dz a ha he
  refine wp_cond_split (t := b) (by rw [eval_env,he]; exact hc) (fun h => ht h dz a ha he) (fun h => hf h dz a ha he)
theorem Wp_cond_true {c : Operand} {x y : Code} (hc : ev σ c = .bool true) (h : Wp P N x Q σ w) : Wp P N (.cond c x y) Q σ w :=
  Wp_cond hc (fun _ => h) (fun h => by cases h)
theorem Wp_cond_false {c : Operand} {x y : Code} (hc : ev σ c = .bool false) (h : Wp P N y Q σ w) : Wp P N (.cond c x y) Q σ w :=
  Wp_cond hc (fun h => by cases h) (fun _ => h)
/-- A loop, by a relation that is indexed by a number that falls in every round. -/
theorem Wp_loop {c : Code} (I : Nat → Env → World → Prop) {n : Nat} (h0 : I n σ w)
    (round : ∀ n σ w,I n σ w → Wp P N c (thn (fun σ' w' => ∃ m,m < n ∧ I m σ' w') Q) σ w) : Wp P N (.loop c) Q σ w := by
  intro dz a ha he b k cs
  have key : ∀ n a w,Ok dz N a → I n (env a) w →
      ∃ e a' w',lift dz N Q e a' w' ∧ Arrives P (lone (b.at a (.code c :: .inLoop c :: k)) cs w) b k cs e a' w' := by
    intro n
    induction n using Nat.strongRecOn with
    | _ n ih =>
      intro a w ha hI
      obtain ⟨e,a1,w1,⟨ho,hq⟩,harr⟩ := round n _ w hI dz a ha rfl b (.inLoop c :: k) cs
      cases e with
      | normal =>
        obtain ⟨m,hlt,hI1⟩ := hq
        obtain ⟨e2,a2,w2,hq2,harr2⟩ := ih m hlt a1 w1 ho hI1
        exact ⟨e2,a2,w2,hq2,.of_steps (Steps.trans harr (.one step_inLoop)) harr2⟩
      | exit id => exact ⟨_,a1,w1,⟨ho,hq⟩,.pass (x := .inLoop c) rfl (fun _ _ => .inl (by simp)) harr⟩
      | goto l => exact ⟨_,a1,w1,⟨ho,hq⟩,.pass (x := .inLoop c) rfl (fun _ _ => .inl (by simp)) harr⟩
      | ret => exact ⟨_,a1,w1,⟨ho,hq⟩,.pass (x := .inLoop c) rfl (fun _ _ => .inl (by simp)) harr⟩
      | panic ch => exact ⟨_,a1,w1,⟨ho,hq⟩,.pass (x := .inLoop c) rfl (fun _ _ => .inl (by simp)) harr⟩
      | outgrown => exact ⟨_,a1,w1,⟨ho,hq⟩,.pass (x := .inLoop c) rfl (fun _ _ => .inl (by simp)) harr⟩
  obtain ⟨e,a',w',hq,harr⟩ := key n a w ha (he ▸ h0)
  exact ⟨e,a',w',hq,.of_steps (.one step_loop) harr⟩
end
def WpL (P : Program) (N : Nat) (ops : Array Oper) (K : Env → World → Prop) (Q : Post) (l : List Oper) (σ : Env) (w : World) : Prop :=
  ∀ dz a,Ok dz N a → env a = σ → wpList P ops (lift dz N (thn K Q)) l a w
section
variable {P : Program} {N : Nat} {Q : Post} {σ : Env} {w : World} {K : Env → World → Prop} {ops : Array Oper} {rest : List Oper}
theorem Wp_region {id : Nat} {l : List Oper} (h : WpL P N l.toArray (Q .normal) Q l σ w) : Wp P N (.region id l.toArray false) Q σ w := by
  intro dz a ha he
  refine wp_region_lit ?_
  have := h dz a ha he
  have e : lift dz N (thn (Q .normal) Q) = lift dz N Q := by funext e a w; cases e <;> rfl
  rwa [e] at this
theorem Wp_seq_region {id : Nat} {l : List Oper} {y : Code} (h : WpL P N l.toArray (Wp P N y Q) Q l σ w) : Wp P N (.seq (.region id l.toArray false) y) Q σ w := by
  refine Wp_seq ?_
  intro dz a ha he
  exact wp_region_lit (h dz a ha he)
theorem WpL_nil (h : K σ w) : WpL P N ops K Q [] σ w := fun dz a ha he => ⟨ha,by subst he; exact h⟩
theorem WpL_val {o : Oper} (hg : o.guard = none) {d : Nat} (hd : o.dst = some d) (hN : d < N) {v : Value} {w' : World}
    (hr : (execOp (ev σ) o).run P w = .ok (.value v) w') (k : WpL P N ops K Q rest (upd σ d v) w') : WpL P N ops K Q (o :: rest) σ w := by
  intro dz a ha he
  refine wpList_plain hg fun K' hK => ?_
  unfold Oper.wp
  rw [eval_env,he,hr]
  simp only [Oper.upon,hd]
  exact hK _ _ (k dz _ (ha.put _ _) (by rw [env_put ha hN,he]))
theorem WpL_skip {o : Oper} (hg : o.guard = none) (hd : o.dst = none) {w' : World}
    (hr : (execOp (ev σ) o).run P w = .ok .skip w') (k : WpL P N ops K Q rest σ w') : WpL P N ops K Q (o :: rest) σ w := by
  intro dz a ha he
  refine wpList_plain hg fun K' hK => ?_
  unfold Oper.wp
  rw [eval_env,he,hr]
  simp only [Oper.upon,hd]
  exact hK _ _ (k dz a ha he)
/-- The contract of a call: it returns a value, and what is said of it and of the world holds. -/
def Ret (P : Program) (f : FuncId) (args : Array Value) (w : World) (R : Value → World → Prop) : Prop :=
  Calls P f args w fun e w' => ∃ v,e = .returned v ∧ R v w'
theorem Ret.mono {f : FuncId} {args : Array Value} {R R' : Value → World → Prop} (h : Ret P f args w R) (hr : ∀ v w',R v w' → R' v w') : Ret P f args w R' :=
  Calls.mono h fun _ _ ⟨v,e,r⟩ => ⟨v,e,hr _ _ r⟩
theorem WpL_enter {o : Oper} (hg : o.guard = none) {d : Nat} (hd : o.dst = some d) (hN : d < N) {f : FuncId} {args : Array Value} {R : Value → World → Prop}
    (hr : (execOp (ev σ) o).run P w = .ok (.enter f args) w) (hc : Ret P f args w R) (k : ∀ v w',R v w' → WpL P N ops K Q rest (upd σ d v) w') : WpL P N ops K Q (o :: rest) σ w := by
  intro dz a ha he
  refine wpList_plain hg fun K' hK => ?_
  unfold Oper.wp
  rw [eval_env,he,hr]
  simp only [Oper.upon,hd]
  refine Calls.mono hc ?_
  rintro e w' ⟨v,rfl,r⟩
  exact hK _ _ (k v w' r dz _ (ha.put _ _) (by rw [env_put ha hN,he]))
/-- A call that returns, or panics with one chain. -/
def RetX (P : Program) (ch : List PanicEntry) (f : FuncId) (args : Array Value) (w : World) (R : Value → World → Prop) (X : World → Prop) : Prop :=
  Calls P f args w fun e w' => (∃ v,e = .returned v ∧ R v w') ∨ (e = .panicked ch ∧ X w')
theorem RetX.mono {ch : List PanicEntry} {f : FuncId} {args : Array Value} {R R' : Value → World → Prop} {X X' : World → Prop} (h : RetX P ch f args w R X) (hr : ∀ v w',R v w' → R' v w') (hx : ∀ w',X w' → X' w') : RetX P ch f args w R' X' :=
  Calls.mono h fun _ _ h => h.imp (fun ⟨v,e,r⟩ => ⟨v,e,hr _ _ r⟩) fun ⟨e,x⟩ => ⟨e,hx _ x⟩
theorem WpL_enterX {o : Oper} (hg : o.guard = none) {d : Nat} (hd : o.dst = some d) (hN : d < N) {ch : List PanicEntry} {f : FuncId} {args : Array Value} {R : Value → World → Prop} {X : World → Prop}
    (hr : (execOp (ev σ) o).run P w = .ok (.enter f args) w) (hc : RetX P ch f args w R X) (hx : ∀ w',X w' → Q (.panic ch) σ w') (k : ∀ v w',R v w' → WpL P N ops K Q rest (upd σ d v) w') : WpL P N ops K Q (o :: rest) σ w := by
  intro dz a ha he
  refine wpList_plain hg fun K' hK => ?_
  unfold Oper.wp
  rw [eval_env,he,hr]
  simp only [Oper.upon,hd]
  refine Calls.mono hc ?_
  rintro e w' (⟨v,rfl,r⟩ | ⟨rfl,x⟩)
  · exact hK _ _ (k v w' r dz _ (ha.put _ _) (by rw [env_put ha hN,he]))
  · exact ⟨ha,by rw [he]; exact hx _ x⟩
/-- An operation that is guarded: carried out. -/
theorem WpL_guard_yes {dst : Option Tmp} {op : Op} {ty : TypeId} {pos : String} {af : Array Edge} {j : Nat} {b : Bool} {oj : Oper} {dj : Nat}
    (hj : ops[j]? = some oj) (hdj : oj.dst = some dj) (hN : dj < N) (hy : σ dj = .bool b)
    (k : WpL P N ops K Q (⟨dst,op,ty,pos,af,none⟩ :: rest) σ w) : WpL P N ops K Q (⟨dst,op,ty,pos,af,some (j,b)⟩ :: rest) σ w := by
  intro dz a ha he
  have h1 := k dz a ha he
  have hw : Region.wanted ⟨dst,op,ty,pos,af,some (j,b)⟩ (yielded ops a.tmps) = true := by
    simp only [Region.wanted,yielded,hj,hdj,Option.bind_some]
    have : a.tmps[dj]? = some (Value.bool b) := by
      have h2 : a.tmps.getD dj undef = .bool b := by rw [← hy,← he]; rfl
      have hlt : dj < a.tmps.size := by rw [ha.size]; exact hN
      rw [Array.getElem?_eq_getElem hlt]
      simpa [hlt] using h2
    simp [this]
  unfold wpList at h1 ⊢
  rw [if_pos hw]
  rw [if_pos (by rfl)] at h1
  exact h1
/-- An operation that is guarded: passed over. -/
theorem WpL_guard_no {d : Nat} {op : Op} {ty : TypeId} {pos : String} {af : Array Edge} {j : Nat} {b : Bool} {oj : Oper} {dj : Nat} {v : Value}
    (hj : ops[j]? = some oj) (hdj : oj.dst = some dj) (hd : d < N) (hy : σ dj = v) (hv : v = .bool (!b) ∨ v = undef)
    (k : WpL P N ops K Q rest (upd σ d undef) w) : WpL P N ops K Q (⟨some d,op,ty,pos,af,some (j,b)⟩ :: rest) σ w := by
  intro dz a ha he
  have hw : Region.wanted ⟨some d,op,ty,pos,af,some (j,b)⟩ (yielded ops a.tmps) = false := by
    simp only [Region.wanted,yielded,hj,hdj,Option.bind_some]
    have h2 : a.tmps.getD dj undef = v := by rw [← hy,← he]; rfl
    cases hx : a.tmps[dj]? with
    | none => simp
    | some u =>
      have : u = v := by simpa [hx] using h2
      subst this
      rcases hv with rfl | rfl
      · cases b <;> simp
      · simp [undef]
  unfold wpList
  rw [hw,if_neg (by simp)]
  exact k dz _ (ha.put _ _) (by rw [env_put ha hd,he])
/-- An operation that is guarded, whether it is carried out or not. -/
theorem WpL_guard_any {d : Nat} {op : Op} {ty : TypeId} {pos : String} {af : Array Edge} {j : Nat} {b : Bool} {oj : Oper} {dj : Nat} {gv u : Value}
    (hj : ops[j]? = some oj) (hdj : oj.dst = some dj) (hN : dj < N) (hd : d < N) (hy : σ dj = gv)
    (h : (gv = .bool b ∧ (execOp (ev σ) ⟨some d,op,ty,pos,af,none⟩).run P w = .ok (.value u) w) ∨ ((gv = .bool (!b) ∨ gv = undef) ∧ u = undef))
    (k : WpL P N ops K Q rest (upd σ d u) w) : WpL P N ops K Q (⟨some d,op,ty,pos,af,some (j,b)⟩ :: rest) σ w := by
  rcases h with ⟨h1,h2⟩ | ⟨h1,rfl⟩
  · exact WpL_guard_yes hj hdj hN (hy.trans h1) (WpL_val rfl rfl hd h2 k)
  · exact WpL_guard_no hj hdj hd hy h1 k
end
def fin (P : Program) (fn : Func) (R : Value → World → Prop) : Post
  | .normal,σ,w | .ret,σ,w => ∃ v,(∀ a : Act,env a = σ → (results fn a.tmps).run P w = .ok v w) ∧ R v w
  | _,_,_ => False
theorem Ret_of {P : Program} {f : FuncId} {fn : Func} {c : Code} {N : Nat} {args : Array Value} {w : World} {R : Value → World → Prop}
    (hf : P.funcs[f]? = some fn) (hb : fn.body = some c) (hn : fn.ntmps = N) (hsz : args.size ≤ N)
    (h : Wp P N c (fin P fn R) (fun t => args.getD t undef) w) : Ret P f args w R := by
  refine calls_of_wp hf hb ?_
  refine Code.wp_mono ?_ (h [] _ ⟨?_,rfl⟩ ?_)
  · rintro e a w ⟨o,q⟩
    cases e <;> simp only [fin] at q
    · obtain ⟨v,hv,r⟩ := q; exact ⟨o.defers,v,hv a rfl,v,rfl,r⟩
    · obtain ⟨v,hv,r⟩ := q; exact ⟨o.defers,v,hv a rfl,v,rfl,r⟩
  · simp [hn]; omega
  · funext t
    simp only [env,Array.getD_eq_getD_getElem?,Array.getElem?_append]
    split
    · rfl
    · rename_i hlt
      rw [Array.getElem?_replicate,Array.getElem?_eq_none (xs := args) (by omega)]
      split <;> rfl
/-- The body of a function that may panic with one chain. -/
def finX (P : Program) (ch : List PanicEntry) (fn : Func) (R : Value → World → Prop) (X : World → Prop) : Post
  | .panic c,_,w => c = ch ∧ X w
  | e,σ,w => fin P fn R e σ w
theorem RetX_of {P : Program} {ch : List PanicEntry} {f : FuncId} {fn : Func} {c : Code} {N : Nat} {args : Array Value} {w : World} {R : Value → World → Prop} {X : World → Prop}
    (hf : P.funcs[f]? = some fn) (hb : fn.body = some c) (hn : fn.ntmps = N) (hsz : args.size ≤ N)
    (h : Wp P N c (finX P ch fn R X) (fun t => args.getD t undef) w) : RetX P ch f args w R X := by
  refine calls_of_wp hf hb ?_
  refine Code.wp_mono ?_ (h [] _ ⟨?_,rfl⟩ ?_)
  · rintro e a w ⟨o,q⟩
    cases e <;> simp only [finX,fin] at q
    · obtain ⟨v,hv,r⟩ := q; exact ⟨o.defers,v,hv a rfl,.inl ⟨v,rfl,r⟩⟩
    · obtain ⟨v,hv,r⟩ := q; exact ⟨o.defers,v,hv a rfl,.inl ⟨v,rfl,r⟩⟩
    · obtain ⟨rfl,x⟩ := q; exact ⟨o.defers,.inr ⟨rfl,x⟩⟩
  · simp [hn]; omega
  · funext t
    simp only [env,Array.getD_eq_getD_getElem?,Array.getElem?_append]
    split
    · rfl
    · rename_i hlt
      rw [Array.getElem?_replicate,Array.getElem?_eq_none (xs := args) (by omega)]
      split <;> rfl
theorem fin_tmp {P : Program} {fn : Func} {R : Value → World → Prop} {t : Nat} (hr : fn.results = #[.tmp t]) {σ : Env} {w : World} {v : Value} (hv : σ t = v) (h : R v w) : fin P fn R .ret σ w :=
  ⟨v,fun a ha => by rw [results_tmp hr]; subst ha; rw [← hv]; rfl,h⟩
theorem fin_tmp2 {P : Program} {fn : Func} {R : Value → World → Prop} {t u : Nat} (hr : fn.results = #[.tmp t,.tmp u]) {σ : Env} {w : World} {v v' : Value} (hv : σ t = v) (hv' : σ u = v') (h : R (.tuple #[v,v']) w) : fin P fn R .ret σ w :=
  ⟨.tuple #[v,v'],fun a ha => by rw [results_tmp2 hr]; subst ha; rw [← hv,← hv']; rfl,h⟩
theorem fin_none {P : Program} {fn : Func} {R : Value → World → Prop} (hr : fn.results = #[]) {σ : Env} {w : World} (h : R (.tuple #[]) w) : fin P fn R .normal σ w :=
  ⟨.tuple #[],fun a ha => by rw [results_none hr],h⟩
theorem fin_noneR {P : Program} {fn : Func} {R : Value → World → Prop} (hr : fn.results = #[]) {σ : Env} {w : World} (h : R (.tuple #[]) w) : fin P fn R .ret σ w :=
  ⟨.tuple #[],fun a ha => by rw [results_none hr],h⟩
/-- From w to w' only blocks in M may have changed, and blocks may have been made. -/
structure Chg (M : Nat → Prop) (w w' : World) : Prop where
  os : w'.os = w.os
  tape : w'.tape = w.tape
  output : w'.output = w.output
  drw : w.drawn ≤ w'.drawn
  size : w.heap.size ≤ w'.heap.size
  blk : ∀ b,b < w.heap.size → ¬ M b → w'.heap[b]? = w.heap[b]?
def none1 : Nat → Prop := fun _ => False
def Ext (w w' : World) : Prop := Chg none1 w w'
def Blk (w : World) (b : Nat) (c : Array Value) (t : TypeId) : Prop := w.heap[b]? = some (.cells c t (0,0))
theorem Chg.refl (M : Nat → Prop) (w : World) : Chg M w w := ⟨rfl,rfl,rfl,Nat.le_refl _,Nat.le_refl _,fun _ _ _ => rfl⟩
theorem Ext.refl (w : World) : Ext w w := Chg.refl _ w
theorem Chg.step {M M' : Nat → Prop} {a b c : World} (h : Chg M a b) (k : Chg M' b c) (hm : ∀ x,x < a.heap.size → M' x → M x) : Chg M a c :=
  ⟨k.os.trans h.os,k.tape.trans h.tape,k.output.trans h.output,Nat.le_trans h.drw k.drw,Nat.le_trans h.size k.size,
    fun x hx hn => (k.blk x (Nat.lt_of_lt_of_le hx h.size) (fun hm' => hn (hm x hx hm'))).trans (h.blk x hx hn)⟩
theorem Chg.trans {M : Nat → Prop} {a b c : World} (h : Chg M a b) (k : Chg M b c) : Chg M a c := h.step k fun _ _ x => x
theorem Chg.ext {M : Nat → Prop} {a b c : World} (h : Chg M a b) (k : Ext b c) : Chg M a c := h.step k fun _ _ x => x.elim
theorem Ext.trans {a b c : World} (h : Ext a b) (k : Ext b c) : Ext a c := Chg.trans h k
theorem Ext.chg {M : Nat → Prop} {a b : World} (h : Ext a b) : Chg M a b := ⟨h.os,h.tape,h.output,h.drw,h.size,fun x hx _ => h.blk x hx (fun f => f)⟩
theorem Chg.mono {M M' : Nat → Prop} {a b : World} (h : Chg M a b) (hm : ∀ x,x < a.heap.size → M x → M' x) : Chg M' a b :=
  ⟨h.os,h.tape,h.output,h.drw,h.size,fun x hx hn => h.blk x hx fun m => hn (hm x hx m)⟩
theorem Blk.lt {w : World} {b : Nat} {c : Array Value} {t : TypeId} (h : Blk w b c t) : b < w.heap.size := (Array.getElem?_eq_some_iff.1 h).1
theorem Chg.keep {M : Nat → Prop} {w w' : World} (h : Chg M w w') {b : Nat} {c : Array Value} {t : TypeId} (hm : ¬ M b) (hb : Blk w b c t) : Blk w' b c t :=
  (h.blk b hb.lt hm).trans hb
theorem Ext.keep {w w' : World} (h : Ext w w') {b : Nat} {c : Array Value} {t : TypeId} (hb : Blk w b c t) : Blk w' b c t := Chg.keep h (fun f => f) hb
theorem Chg.cell {M : Nat → Prop} {w w' : World} (h : Chg M w w') {a : Addr} {v : Value} (hm : ¬ M a.block) (hc : w.cell? a = some v) : w'.cell? a = some v :=
  (World.cell?_of_block (w := w) (h.blk a.block (World.block_lt_of_cell? w a hc) hm)).trans hc
theorem Ext.cell {w w' : World} (h : Ext w w') {a : Addr} {v : Value} (hc : w.cell? a = some v) : w'.cell? a = some v := Chg.cell h (fun f => f) hc
theorem Blk.cell {w : World} {b : Nat} {c : Array Value} {t : TypeId} (h : Blk w b c t) {o : Nat} {v : Value} (hv : c[o]? = some v) : w.cell? ⟨b,o,none⟩ = some v := by
  unfold Blk at h
  simp [World.cell?,h,hv]
theorem Ext.below {w w' : World} (h : Ext w w') : RowKit.Below w.heap.size w w' := ⟨h.os,h.tape,h.output,h.size,fun k hk => h.blk k hk fun f => f⟩
/-- What only made blocks, as a world that has grown. -/
theorem Ext.grown {w w' : World} (h : Ext w w') : ∃ q os,w' = Sort.grow (w.drewN q) os := by
  refine ⟨w'.drawn - w.drawn,w'.heap.extract w.heap.size w'.heap.size,?_⟩
  have h1 := h.os; have h2 := h.tape; have h3 := h.output; have h4 := h.drw; have h5 := h.size; have h6 := h.blk
  obtain ⟨hp,tp,dr,o,ou⟩ := w'
  obtain ⟨hp',tp',dr',o',ou'⟩ := w
  simp only at h1 h2 h3 h4 h5 h6
  subst h1; subst h2; subst h3
  simp only [Sort.grow,World.drewN,World.mk.injEq,and_true,true_and]
  refine ⟨?_,by omega⟩
  apply Array.ext_getElem?
  intro i
  rw [Array.getElem?_append]
  by_cases hi : i < hp'.size
  · rw [if_pos hi]; exact h6 i hi fun f => f
  · rw [if_neg hi,Array.getElem?_extract]
    by_cases h7 : i < hp.size
    · rw [if_pos (by omega)]; congr 1; omega
    · rw [if_neg (by omega),Array.getElem?_eq_none (by omega)]
/-- A new block. -/
structure New (w w' : World) (b : Nat) (c : Array Value) (t : TypeId) : Prop where
  blk : Blk w' b c t
  ext : Ext w w'
  eq : b = w.heap.size
  size : w'.heap.size = w.heap.size + 1
theorem New.mk' (w : World) (c : Array Value) (t : TypeId) : New w { w with heap := w.heap.push (.cells c t (0,0)) } w.heap.size c t :=
  ⟨by unfold Blk; simp,⟨rfl,rfl,rfl,Nat.le_refl _,by simp,fun x hx _ => by simp [Array.getElem?_push,Nat.ne_of_lt hx]⟩,rfl,by simp⟩
theorem New.keep {w w' : World} {b : Nat} {c : Array Value} {t : TypeId} (h : New w w' b c t) {b' : Nat} {c' : Array Value} {t' : TypeId} (hb : Blk w b' c' t') : Blk w' b' c' t' := h.ext.keep hb
theorem New.lt {w w' : World} {b : Nat} {c : Array Value} {t : TypeId} (h : New w w' b c t) {b' : Nat} {c' : Array Value} {t' : TypeId} (hb : Blk w b' c' t') : b' < b := by rw [h.eq]; exact hb.lt
theorem New.ge {w0 w w' : World} {b : Nat} {c : Array Value} {t : TypeId} (h : New w w' b c t) {M : Nat → Prop} (e : Chg M w0 w) : w0.heap.size ≤ b := by rw [h.eq]; exact e.size
/-- A block is written. -/
structure Put (w w' : World) (b : Nat) (c : Array Value) (t : TypeId) : Prop where
  blk : Blk w' b c t
  chg : Chg (fun x => x = b) w w'
  size : w'.heap.size = w.heap.size
theorem Put.of_setRow {w : World} {b : Nat} {c : Array Value} {t : TypeId} (h : Blk w b c t) (c' : Array Value) : Put w (w.setRow b c') b c' t :=
  ⟨setRow_heap w b c c' t _ h,⟨rfl,rfl,rfl,Nat.le_refl _,by simp [World.setRow],fun x _ hn => setRow_other w b x c' hn⟩,by simp [World.setRow]⟩
theorem Put.keep {w w' : World} {b : Nat} {c : Array Value} {t : TypeId} (h : Put w w' b c t) {b' : Nat} {c' : Array Value} {t' : TypeId} (hne : b' ≠ b) (hb : Blk w b' c' t') : Blk w' b' c' t' := h.chg.keep hne hb
theorem Put.ext {w0 w w' : World} {b : Nat} {c : Array Value} {t : TypeId} (h : Put w w' b c t) {M : Nat → Prop} (e : Chg M w0 w) (hb : w0.heap.size ≤ b) : Chg M w0 w' :=
  e.step h.chg fun x hx hm => by subst hm; omega
theorem Put.step {w0 w w' : World} {b : Nat} {c : Array Value} {t : TypeId} (h : Put w w' b c t) {M : Nat → Prop} (e : Chg M w0 w) (hb : w0.heap.size ≤ b ∨ M b) : Chg M w0 w' :=
  e.step h.chg fun x hx hm => by subst hm; rcases hb with hb | hb; omega; exact hb
/-- Cells in a row. -/
def CellsAt (w : World) (b o : Nat) (vs : List Value) : Prop := ∀ i v,vs[i]? = some v → w.cell? ⟨b,o + i,none⟩ = some v
theorem CellsAt.chg {M : Nat → Prop} {w w' : World} {b o : Nat} {vs : List Value} (h : CellsAt w b o vs) (e : Chg M w w') (hm : ¬ M b) : CellsAt w' b o vs :=
  fun i v hv => e.cell hm (h i v hv)
theorem CellsAt.ext {w w' : World} {b o : Nat} {vs : List Value} (h : CellsAt w b o vs) (e : Ext w w') : CellsAt w' b o vs := h.chg e fun f => f
theorem Blk.cells {w : World} {b : Nat} {c : Array Value} {t : TypeId} (h : Blk w b c t) {o : Nat} {vs : List Value} (hv : (c.toList.drop o).take vs.length = vs) : CellsAt w b o vs := by
  intro i v hi
  refine h.cell ?_
  have hlt : i < vs.length := by
    rcases Nat.lt_or_ge i vs.length with h | h
    · exact h
    · simp [List.getElem?_eq_none h] at hi
  rw [← hv,List.getElem?_take_of_lt hlt,List.getElem?_drop] at hi
  simpa using hi
def Siz (P : Program) (t : TypeId) (n : Nat) : Prop := (P.info? t).map (fun i => i.size) = some n
def Byt (P : Program) (t : TypeId) (n : Nat) : Prop := (P.info? t).map (fun i => i.bytes) = some n
def Zer (P : Program) (t : TypeId) (z : Value) : Prop := (P.info? t).bind (fun i => i.zero) = some z
def flatB (P : Program) (t : TypeId) : Bool := match P.underlying t with
  | some (.struct _) | some (.array _ _) | none => false
  | some _ => true
def aggB (P : Program) (t : TypeId) : Bool := match P.underlying t with
  | some (.struct _) | some (.array _ _) => true
  | _ => false
theorem Siz.run {P : Program} {t : TypeId} {n : Nat} (h : Siz P t n) (w : World) : (sizeOf t).run P w = .ok n w := by
  unfold Siz at h
  cases hi : P.info? t with
  | none => simp [hi] at h
  | some i => simp [hi] at h; simp [sizeOf,typeInfo,hi,h]
theorem Zer.run {P : Program} {t : TypeId} {z : Value} (h : Zer P t z) (w : World) : (zeroValue t).run P w = .ok z w := by
  unfold Zer at h
  cases hi : P.info? t with
  | none => simp [hi] at h
  | some i => simp [hi] at h; simp [zeroValue,typeInfo,hi,h]
theorem flatB.run {P : Program} {t : TypeId} (h : flatB P t = true) (w : World) : (isAgg t).run P w = .ok false w := by
  unfold flatB at h
  cases hi : P.underlying t with
  | none => simp [hi] at h
  | some d => cases d <;> simp [hi] at h <;> simp [isAgg,run_underlying hi]
theorem aggB.run {P : Program} {t : TypeId} (h : aggB P t = true) (w : World) : (isAgg t).run P w = .ok true w := by
  unfold aggB at h
  cases hi : P.underlying t with
  | none => simp [hi] at h
  | some d => cases d <;> simp [hi] at h <;> simp [isAgg,run_underlying hi]
section
variable {P : Program} {σ : Env} {w : World} {dst : Option Tmp} {ty : TypeId} {pos : String} {af : Array Edge} {g : Option (Nat × Bool)}
theorem r_move {x : Operand} {v : Value} (hx : ev σ x = v) : (execOp (ev σ) ⟨dst,.move x,ty,pos,af,g⟩).run P w = .ok (.value v) w := by subst hx; rfl
theorem r_assign {x : Operand} {v : Value} (hx : ev σ x = v) : (execOp (ev σ) ⟨dst,.assign x,ty,pos,af,g⟩).run P w = .ok (.value v) w := by subst hx; rfl
theorem r_pick {c x y : Operand} {b : Bool} {v : Value} (hc : ev σ c = .bool b) (hv : (if b then ev σ x else ev σ y) = v) : (execOp (ev σ) ⟨dst,.pick c x y,ty,pos,af,g⟩).run P w = .ok (.value v) w := by
  subst hv; simp only [execOp,hc,asBool]; cases b <;> rfl
theorem r_nilCheck {x : Operand} {a : Addr} (hx : ev σ x = .pointer (some a)) : (execOp (ev σ) ⟨dst,.nilCheck x,ty,pos,af,g⟩).run P w = .ok (.value (.pointer (some a))) w := by
  simp only [execOp,hx]; rfl
theorem r_not {t : TypeId} {x : Operand} {b : Bool} (hx : ev σ x = .bool b) : (execOp (ev σ) ⟨dst,.unOp .not t x,ty,pos,af,g⟩).run P w = .ok (.value (.bool (!b))) w := by
  simp only [execOp,hx]; rfl
theorem r_neg {t : TypeId} {x : Operand} {k : IntKind} {n c : Int} (hx : ev σ x = .int k n) (hw : k.wrap (0 - n) = c) : (execOp (ev σ) ⟨dst,.unOp .neg t x,ty,pos,af,g⟩).run P w = .ok (.value (.int k c)) w := by
  subst hw; simp only [execOp,hx]; rfl
theorem r_convInt {s t : TypeId} {x : Operand} {k k' : IntKind} {n c : Int} (hs : ∃ d,P.underlying s = some d) (ht : P.underlying t = some (.int k')) (hx : ev σ x = .int k n) (hw : k'.wrap n = c) :
    (execOp (ev σ) ⟨dst,.convert s t x,ty,pos,af,g⟩).run P w = .ok (.value (.int k' c)) w := by
  obtain ⟨d,hd⟩ := hs
  subst hw; simp only [execOp,hx,convert,Sem.run_bind,run_underlying hd,run_underlying ht,Result.andThen_ok]; rfl
variable {t t' : TypeId} {x y : Operand} {k : IntKind} {a b c : Int}
theorem r_add (hx : ev σ x = .int k a) (hy : ev σ y = .int k b) (hw : k.wrap (a + b) = c) : (execOp (ev σ) ⟨dst,.binOp .add t x y t',ty,pos,af,g⟩).run P w = .ok (.value (.int k c)) w := by
  subst hw; simp only [execOp,hx,hy,eqGuard,binOp]; simp [Op.intArith]
theorem r_sub (hx : ev σ x = .int k a) (hy : ev σ y = .int k b) (hw : k.wrap (a - b) = c) : (execOp (ev σ) ⟨dst,.binOp .sub t x y t',ty,pos,af,g⟩).run P w = .ok (.value (.int k c)) w := by
  subst hw; simp only [execOp,hx,hy,eqGuard,binOp]; simp [Op.intArith]
theorem r_mul (hx : ev σ x = .int k a) (hy : ev σ y = .int k b) (hw : k.wrap (a * b) = c) : (execOp (ev σ) ⟨dst,.binOp .mul t x y t',ty,pos,af,g⟩).run P w = .ok (.value (.int k c)) w := by
  subst hw; simp only [execOp,hx,hy,eqGuard,binOp]; simp [Op.intArith]
theorem r_rem (hx : ev σ x = .int k a) (hy : ev σ y = .int k b) (h0 : b ≠ 0) (hw : a.tmod b = c) : (execOp (ev σ) ⟨dst,.binOp .rem t x y t',ty,pos,af,g⟩).run P w = .ok (.value (.int k c)) w := by
  subst hw; simp only [execOp,hx,hy,eqGuard,binOp]; simp [Op.intDiv,h0]
theorem r_lss (hx : ev σ x = .int k a) (hy : ev σ y = .int k b) : (execOp (ev σ) ⟨dst,.binOp .lss t x y t',ty,pos,af,g⟩).run P w = .ok (.value (.bool (decide (a < b)))) w := by
  simp only [execOp,hx,hy,eqGuard,binOp]; simp [Op.intCmp]
theorem r_leq (hx : ev σ x = .int k a) (hy : ev σ y = .int k b) : (execOp (ev σ) ⟨dst,.binOp .leq t x y t',ty,pos,af,g⟩).run P w = .ok (.value (.bool (decide (a ≤ b)))) w := by
  simp only [execOp,hx,hy,eqGuard,binOp]; simp [Op.intCmp]
theorem r_gtr (hx : ev σ x = .int k a) (hy : ev σ y = .int k b) : (execOp (ev σ) ⟨dst,.binOp .gtr t x y t',ty,pos,af,g⟩).run P w = .ok (.value (.bool (decide (b < a)))) w := by
  simp only [execOp,hx,hy,eqGuard,binOp]; simp [Op.intCmp]
theorem r_geq (hx : ev σ x = .int k a) (hy : ev σ y = .int k b) : (execOp (ev σ) ⟨dst,.binOp .geq t x y t',ty,pos,af,g⟩).run P w = .ok (.value (.bool (decide (b ≤ a)))) w := by
  simp only [execOp,hx,hy,eqGuard,binOp]; simp [Op.intCmp]
theorem r_eql (hx : ev σ x = .int k a) (hy : ev σ y = .int k b) : (execOp (ev σ) ⟨dst,.binOp .eql t x y t',ty,pos,af,g⟩).run P w = .ok (.value (.bool (decide (a = b)))) w := by
  have : (a == b) = decide (a = b) := by rw [Bool.eq_iff_iff]; simp
  rw [← this]; simp only [execOp,hx,hy,eqGuard,binOp]; simp [Op.intCmp]
theorem r_neq (hx : ev σ x = .int k a) (hy : ev σ y = .int k b) : (execOp (ev σ) ⟨dst,.binOp .neq t x y t',ty,pos,af,g⟩).run P w = .ok (.value (.bool (decide (a ≠ b)))) w := by
  have : (a != b) = decide (a ≠ b) := by rw [Bool.eq_iff_iff]; simp
  rw [← this]; simp only [execOp,hx,hy,eqGuard,binOp]; simp [Op.intCmp]
theorem equalIn_bool {p q : Bool} (d : Nat) (hu : P.underlying t = some .bool) : (Op.equalIn (d + 1) t (.bool p) (.bool q)).run P w = .ok (p == q) w := by
  simp only [Op.equalIn,Sem.run_bind,run_underlying hu,Result.andThen_ok]; rfl
theorem r_eqlB {p q : Bool} (hu : P.underlying t = some .bool) (hx : ev σ x = .bool p) (hy : ev σ y = .bool q) : (execOp (ev σ) ⟨dst,.binOp .eql t x y t',ty,pos,af,g⟩).run P w = .ok (.value (.bool (p == q))) w := by
  have h := equalIn_bool (P := P) (w := w) (p := p) (q := q) 9999 hu
  simp only [execOp,hx,hy,eqGuard,binOp,Op.equal,Op.maxDepth]; simp [h]
theorem r_neqB {p q : Bool} (hu : P.underlying t = some .bool) (hx : ev σ x = .bool p) (hy : ev σ y = .bool q) : (execOp (ev σ) ⟨dst,.binOp .neq t x y t',ty,pos,af,g⟩).run P w = .ok (.value (.bool (p != q))) w := by
  have h := equalIn_bool (P := P) (w := w) (p := p) (q := q) 9999 hu
  simp only [execOp,hx,hy,eqGuard,binOp,Op.equal,Op.maxDepth]; simp [h,bne]
theorem r_bits {op : BinOp} {v : Value} (hx : ev σ x = .int k a) (hy : ev σ y = .int k b) (ho : op = .and ∨ op = .or ∨ op = .xor ∨ op = .andNot) (hv : (Op.intBits op k a b).run P w = .ok v w) :
    (execOp (ev σ) ⟨dst,.binOp op t x y t',ty,pos,af,g⟩).run P w = .ok (.value v) w := by
  rcases ho with rfl | rfl | rfl | rfl <;> (simp only [execOp,hx,hy,eqGuard,binOp]; simp [hv])
theorem r_shl {k' : IntKind} (hx : ev σ x = .int k a) (hy : ev σ y = .int k' b) (h0 : 0 ≤ b) (hw : k.wrap (a * 2 ^ (min b.toNat k.bits)) = c) :
    (execOp (ev σ) ⟨dst,.binOp .shl t x y t',ty,pos,af,g⟩).run P w = .ok (.value (.int k c)) w := by
  subst hw; simp only [execOp,hx,hy,eqGuard,binOp]; simp [Op.shift,Int.not_lt.2 h0]
theorem r_shr {k' : IntKind} (hx : ev σ x = .int k a) (hy : ev σ y = .int k' b) (h0 : 0 ≤ b) (hw : a.fdiv (2 ^ (min b.toNat k.bits)) = c) :
    (execOp (ev σ) ⟨dst,.binOp .shr t x y t',ty,pos,af,g⟩).run P w = .ok (.value (.int k c)) w := by
  subst hw; simp only [execOp,hx,hy,eqGuard,binOp]; simp [Op.shift,Int.not_lt.2 h0]
theorem r_lenSlice {e : TypeId} {ad : Option Addr} {n cap : Nat} (hu : P.underlying t = some (.slice e)) (hx : ev σ x = .slice ad n cap) :
    (execOp (ev σ) ⟨dst,.call ⟨.builtin .len,#[x],#[t]⟩,ty,pos,af,g⟩).run P w = .ok (.value (.int .i64 n)) w := by
  simp only [execOp,resolve,List.map_toArray,List.map_cons,List.map_nil,hx]
  simp [invoke,builtin,Builtin.len_,run_underlying hu,goInt]
theorem r_fieldAddr {fs : Array Field} {f : Field} {i n b o o' : Nat} (hx : ev σ x = .pointer (some ⟨b,o,none⟩)) (hu : P.underlying t = some (.struct fs)) (hf : fs[i]? = some f) (hs : Siz P f.type (n + 1)) (ho : o + f.offset = o') :
    (execOp (ev σ) ⟨dst,.fieldAddr t x i,ty,pos,af,g⟩).run P w = .ok (.value (.pointer (some ⟨b,o',none⟩))) w := by
  subst ho
  simp [execOp,hx,Instr.fieldAt,run_underlying hu,hf,Instr.sureAddr,fieldPlace,hs.run,Addr.add_lit]
theorem r_indexSlice {e : TypeId} {n b o o' len cap i : Nat} {k : IntKind} {a : Int} (hx : ev σ x = .slice (some ⟨b,o,none⟩) len cap) (hy : ev σ y = .int k a) (ha : a = (i : Int)) (hu : P.underlying t = some (.slice e)) (hs : Siz P e n) (hi : i < len) (ho : o + i * n = o') :
    (execOp (ev σ) ⟨dst,.indexAddr t x y,ty,pos,af,g⟩).run P w = .ok (.value (.pointer (some ⟨b,o',none⟩))) w := by
  subst ho; subst ha
  have h1 : (0 : Int) ≤ (i : Int) ∧ (i : Int) < (len : Int) := by omega
  simp [execOp,hx,hy,Instr.indexAt,asIntOf,run_underlying hu,hs.run,Addr.add_lit,hi]
theorem r_indexArr {e : TypeId} {n b o o' len i : Nat} {k : IntKind} {a : Int} (hx : ev σ x = .pointer (some ⟨b,o,none⟩)) (hy : ev σ y = .int k a) (ha : a = (i : Int)) (hu : P.underlying t = some (.array len e)) (hs : Siz P e n) (hi : i < len) (ho : o + i * n = o') :
    (execOp (ev σ) ⟨dst,.indexAddr t x y,ty,pos,af,g⟩).run P w = .ok (.value (.pointer (some ⟨b,o',none⟩))) w := by
  subst ho; subst ha
  simp [execOp,hx,hy,Instr.indexAt,Instr.sureAddr,asIntOf,run_underlying hu,hs.run,Addr.add_lit,hi]
theorem r_sliceLo {e : TypeId} {a a' : Option Addr} {n len cap lo n' c' : Nat} {k : IntKind} {l : Int} (hu : P.underlying t = some (.slice e)) (hs : Siz P e n) (hx : ev σ x = .slice a len cap) (hy : ev σ y = .int k l) (hl : l = (lo : Int)) (h1 : lo ≤ len) (ha : (if cap = lo then a else a.map (·.add (lo * n))) = a') (hn : len - lo = n') (hc : cap - lo = c') :
    (execOp (ev σ) ⟨dst,.slice t x (some y) none none,ty,pos,af,g⟩).run P w = .ok (.value (.slice a' n' c')) w := by
  subst ha; subst hn; subst hc; subst hl
  have h2 : (0 : Int) ≤ (lo : Int) ∧ (lo : Int) ≤ (len : Int) := by omega
  simp [execOp,hx,hy,Instr.sliceAt,Instr.slice,run_underlying hu,Instr.sliceBounds,Instr.sliceBound,asIntOf,h1,hs.run]
theorem r_sliceHi {e : TypeId} {a a' : Option Addr} {n len cap hi : Nat} {k : IntKind} {l : Int} (hu : P.underlying t = some (.slice e)) (hs : Siz P e n) (hx : ev σ x = .slice a len cap) (hy : ev σ y = .int k l) (hl : l = (hi : Int)) (h1 : hi ≤ cap) (ha : (if cap = 0 then a else a.map (·.add (0 * n))) = a') :
    (execOp (ev σ) ⟨dst,.slice t x none (some y) none,ty,pos,af,g⟩).run P w = .ok (.value (.slice a' hi cap)) w := by
  subst ha; subst hl
  simp [execOp,hx,hy,Instr.sliceAt,Instr.slice,run_underlying hu,Instr.sliceBounds,Instr.sliceBound,asIntOf,h1,hs.run]
theorem r_load {ad : Addr} {v : Value} (hx : ev σ x = .pointer (some ad)) (hf : flatB P t = true) (hc : w.cell? ad = some v) :
    (execOp (ev σ) ⟨dst,.load t x,ty,pos,af,g⟩).run P w = .ok (.value v) w := by
  simp [execOp,hx,Instr.loadAt,Instr.sureAddr,loadVar,flatB.run hf,hc]
theorem r_loadAgg {b o n : Nat} {vs : List Value} (hx : ev σ x = .pointer (some ⟨b,o,none⟩)) (hf : aggB P t = true) (hs : Siz P t n) (hn : vs.length = n) (hc : CellsAt w b o vs) :
    (execOp (ev σ) ⟨dst,.load t x,ty,pos,af,g⟩).run P w = .ok (.value (.agg vs.toArray)) w := by
  subst hn
  have h1 := run_loadCells_list (P := P) w ⟨b,o,none⟩ vs (fun j v hj => by rw [Addr.add_lit]; exact hc j v hj)
  simp [execOp,hx,Instr.loadAt,Instr.sureAddr,loadVar,aggB.run hf,hs.run,h1]
theorem r_makeFunc {fn : Fn} {first captured : List Operand} {vs us : List Value} (h1 : first.map (ev σ) = vs) (h2 : captured.map (ev σ) = us) :
    (execOp (ev σ) ⟨dst,.makeFunc fn first.toArray captured.toArray,ty,pos,af,g⟩).run P w = .ok (.value (.func fn vs.toArray us.toArray)) w := by
  subst h1; subst h2; simp [execOp,Instr.makeFunc]
theorem r_extract {i : Nat} {vs : Array Value} {v : Value} (hx : ev σ x = .tuple vs) (hv : vs[i]? = some v) :
    (execOp (ev σ) ⟨dst,.extract x i,ty,pos,af,g⟩).run P w = .ok (.value v) w := by
  simp [execOp,hx,Instr.extract,hv]
theorem r_build {parts : List (Nat × Operand)} {ps : List (Nat × Value)} {v : Value} (hp : (parts.map fun (i,x) => (i,ev σ x)) = ps) (hb : (Instr.build t ps.toArray).run P w = .ok v w) :
    (execOp (ev σ) ⟨dst,.build t parts.toArray,ty,pos,af,g⟩).run P w = .ok (.value v) w := by
  subst hp; simp [execOp,hb]
theorem run_callF {f : FuncId} {fn : Func} {vs : Array Value} (hf : P.funcs[f]? = some fn) (hn : (fn.name == "runtime.NumGoroutine") = false) (hb : fn.body.isNone = false) :
    (callFunc f vs).run P w = .ok (.enter f vs) w := by
  simp only [callFunc,Sem.run_bind,run_program,Result.andThen_ok,hf,hn,hb,Bool.false_eq_true,if_false]; rfl
/-- The call of a function of the program by its number. -/
theorem r_callF {f : FuncId} {fn : Func} {args : List Operand} {tys : Array TypeId} {vs : List Value} (hf : P.funcs[f]? = some fn) (hn : (fn.name == "runtime.NumGoroutine") = false) (hb : fn.body.isNone = false) (ha : args.map (ev σ) = vs) :
    (execOp (ev σ) ⟨dst,.call ⟨.value (.func f),args.toArray,tys⟩,ty,pos,af,g⟩).run P w = .ok (.enter f vs.toArray) w := by
  subst ha; simp [execOp,resolve,ev,Deferred.ofValue,invoke,run_callF hf hn hb]
/-- The call of a function value. -/
theorem r_callV {f : FuncId} {fn : Func} {z : Operand} {args : List Operand} {tys : Array TypeId} {first cap ws : Array Value} {vs : List Value} (hz : ev σ z = .func (.func f) first cap) (hf : P.funcs[f]? = some fn) (hn : (fn.name == "runtime.NumGoroutine") = false) (hb : fn.body.isNone = false) (ha : args.map (ev σ) = vs) (hws : first ++ vs.toArray ++ cap = ws) :
    (execOp (ev σ) ⟨dst,.call ⟨.value z,args.toArray,tys⟩,ty,pos,af,g⟩).run P w = .ok (.enter f ws) w := by
  subst ha; subst hws; simp [execOp,resolve,hz,Deferred.ofValue,invoke,run_callF hf hn hb]
end
section
variable {P : Program} {N : Nat} {Q : Post} {σ : Env} {w : World} {K : Env → World → Prop} {ops : Array Oper} {rest : List Oper} {d : Nat} {ty : TypeId} {pos : String} {af : Array Edge} {t : TypeId} {x y : Operand}
theorem s_box {v : Value} {c : Array Value} (hN : d < N) (hx : ev σ x = v) (hc : v.cells = c) (k : ∀ b w',New w w' b c t → WpL P N ops K Q rest (upd σ d (.pointer (some ⟨b,0,none⟩))) w') :
    WpL P N ops K Q (⟨some d,.box t x,ty,pos,af,none⟩ :: rest) σ w := by
  subst hc
  refine WpL_val (v := .pointer (some ⟨w.heap.size,0,none⟩)) (w' := { w with heap := w.heap.push (.cells v.cells t (0,0)) }) rfl rfl hN ?_ (k _ _ (New.mk' w v.cells t))
  simp [execOp,hx,Instr.box,newVar,newRow]
theorem s_alloc {z : Value} {c : Array Value} (hN : d < N) (hz : Zer P t z) (hc : z.cells = c) (k : ∀ b w',New w w' b c t → WpL P N ops K Q rest (upd σ d (.pointer (some ⟨b,0,none⟩))) w') :
    WpL P N ops K Q (⟨some d,.alloc t,ty,pos,af,none⟩ :: rest) σ w := by
  subst hc
  refine WpL_val (v := .pointer (some ⟨w.heap.size,0,none⟩)) (w' := { w with heap := w.heap.push (.cells z.cells t (0,0)) }) rfl rfl hN ?_ (k _ _ (New.mk' w z.cells t))
  simp [execOp,Instr.alloc,hz.run,newVar,newRow]
theorem s_store {b o : Nat} {v : Value} {c c' : Array Value} {e : TypeId} (hx : ev σ x = .pointer (some ⟨b,o,none⟩)) (hy : ev σ y = v) (h1 : v.oneCell' = true) (hs : Siz P t 1) (hB : Blk w b c e) (ho : o < c.size) (hc : c.setIfInBounds o v = c')
    (k : ∀ w',Put w w' b c' e → WpL P N ops K Q rest σ w') : WpL P N ops K Q (⟨none,.store t x y,ty,pos,af,none⟩ :: rest) σ w := by
  subst hc
  refine WpL_skip (w' := w.setRow b (c.setIfInBounds o v)) rfl rfl ?_ (k _ (Put.of_setRow hB _))
  have hcs : v.cells = #[v] := by cases v <;> first | rfl | (simp [Value.oneCell'] at h1; done)
  have hst := run_storeCells_at P b o e [v] 0 c w hB (by simp; omega) (by simpa using h1)
  have he : (c.toList.take (o + 0) ++ [v] ++ c.toList.drop (o + 0 + [v].length)).toArray = c.setIfInBounds o v := by
    apply Array.ext'
    simp only [Nat.add_zero,List.length_singleton,Array.toList_setIfInBounds]
    rw [List.set_eq_take_append_cons_drop,if_pos (by simpa using ho)]
    simp
  rw [he] at hst
  simp [execOp,hx,hy,Instr.storeAt,Instr.sureAddr,storeVar,hs.run,hcs,hst]
theorem s_storeAgg {b o n : Nat} {vs c c' : Array Value} {e : TypeId} (hx : ev σ x = .pointer (some ⟨b,o,none⟩)) (hy : ev σ y = .agg vs) (h1 : ∀ v ∈ vs.toList,v.oneCell' = true) (hs : Siz P t n) (hn : vs.size = n) (hB : Blk w b c e) (ho : o + n ≤ c.size) (hc : (c.toList.take o ++ vs.toList ++ c.toList.drop (o + n)).toArray = c')
    (k : ∀ w',Put w w' b c' e → WpL P N ops K Q rest σ w') : WpL P N ops K Q (⟨none,.store t x y,ty,pos,af,none⟩ :: rest) σ w := by
  subst hc; subst hn
  refine WpL_skip (w' := w.setRow b _) rfl rfl ?_ (k _ (Put.of_setRow hB _))
  have hst := run_storeCells_at P b o e vs.toList 0 c w hB (by simpa using ho) h1
  simp only [Nat.add_zero,Array.length_toList] at hst
  simp [execOp,hx,hy,Instr.storeAt,Instr.sureAddr,storeVar,hs.run,Value.cells,hst]
/-- A variable is made and stored into at once. -/
theorem s_allocStore {z v : Value} {n : Nat} {c : Array Value} {ty' : TypeId} {pos' : String} {af' : Array Edge} (hN : d < N) (hz : Zer P t z) (hzs : z.cells.size = n) (hs : Siz P t n) (hy : ev (upd σ d (.pointer (some ⟨w.heap.size,0,none⟩))) y = v) (hc : v.cells = c) (hn : c.size = n) (h1 : ∀ u ∈ c.toList,u.oneCell' = true)
    (k : ∀ b w',New w w' b c t → WpL P N ops K Q rest (upd σ d (.pointer (some ⟨b,0,none⟩))) w') :
    WpL P N ops K Q (⟨some d,.alloc t,ty,pos,af,none⟩ :: ⟨none,.store t (.tmp d) y,ty',pos',af',none⟩ :: rest) σ w := by
  subst hc
  refine WpL_val (v := .pointer (some ⟨w.heap.size,0,none⟩)) (w' := { w with heap := w.heap.push (.cells z.cells t (0,0)) }) rfl rfl hN ?_ ?_
  · simp [execOp,Instr.alloc,hz.run,newVar,newRow]
  · refine WpL_skip (w' := { w with heap := w.heap.push (.cells v.cells t (0,0)) }) rfl rfl ?_ (k _ _ (New.mk' w v.cells t))
    have hB : Blk { w with heap := w.heap.push (.cells z.cells t (0,0)) } w.heap.size z.cells t := (New.mk' w z.cells t).blk
    have hst := run_storeCells_at P w.heap.size 0 t v.cells.toList 0 z.cells _ hB (by simp [hn,hzs]) h1
    have hd : ev (upd σ d (.pointer (some ⟨w.heap.size,0,none⟩))) (.tmp d) = .pointer (some ⟨w.heap.size,0,none⟩) := by simp [ev,upd]
    have hw : World.setRow { w with heap := w.heap.push (.cells z.cells t (0,0)) } w.heap.size (z.cells.toList.take (0 + 0) ++ v.cells.toList ++ z.cells.toList.drop (0 + 0 + v.cells.toList.length)).toArray = { w with heap := w.heap.push (.cells v.cells t (0,0)) } := by
      have e : (z.cells.toList.take (0 + 0) ++ v.cells.toList ++ z.cells.toList.drop (0 + 0 + v.cells.toList.length)).toArray = v.cells := by
        apply Array.ext'
        simp [hn,← hzs]
      rw [e]
      simp only [World.setRow]
      congr 1
      apply Array.ext
      · simp
      · intro i h1 h2
        simp only [Array.getElem_modify,Array.getElem_push]
        by_cases hi : i < w.heap.size
        · simp [hi,Nat.ne_of_gt hi]
        · have : i = w.heap.size := by simp at h2; omega
          simp [this]
    rw [hw] at hst
    have hst' : (storeCells ⟨w.heap.size,0,none⟩ v.cells.toList).run P (w.alloc (.cells z.cells t)) = .ok () (w.alloc (.cells v.cells t)) := hst
    simp [execOp,hd,hy,Instr.storeAt,Instr.sureAddr,storeVar,hs.run,hn,hst']
theorem s_buildSlice {e : TypeId} {len n : Nat} {z : Value} {parts : List (Nat × Operand)} {ps : List (Nat × Value)} {c : Array Value} (hN : d < N) (hp : (parts.map fun (i,x) => (i,ev σ x)) = ps) (hu : P.underlying t = some (.slice e)) (hs : Siz P e n) (hz : Zer P e z) (hl : ¬ (len * n > 2 ^ 24)) (h0 : len * n ≠ 0)
    (hc : Instr.fill (fun i => some (i * n,n)) ((Array.range (len * n)).map (z.cells[· % z.cells.size]!)) ps = some c)
    (k : ∀ b w',New w w' b c e → WpL P N ops K Q rest (upd σ d (.slice (some ⟨b,0,none⟩) len len)) w') : WpL P N ops K Q (⟨some d,.buildSlice t len parts.toArray,ty,pos,af,none⟩ :: rest) σ w := by
  subst hp
  refine WpL_val (v := .slice (some ⟨w.heap.size,0,none⟩) len len) (w' := { w with heap := w.heap.push (.cells c e (0,0)) }) rfl rfl hN ?_ (k _ _ (New.mk' w c e))
  simp only [execOp,Instr.buildSlice,List.map_toArray,Sem.run_bind,run_underlying hu,Result.andThen_ok,hs.run,hl,h0,if_false,Sem.run_pure,hz.run,hc]
  simp [newRow]
end
theorem wpStill_post {P : Program} {ops : Array Oper} {w : World} {R R' : Act → Prop} (h : ∀ a,R a → R' a) : ∀ (l : List Oper) (a : Act),wpStill P ops w R l a → wpStill P ops w R' l a
  | [],a,hr => h a hr
  | o :: rest,a,hr => by
    unfold wpStill at hr ⊢
    split
    · rename_i hw
      rw [if_pos hw] at hr
      exact Oper.still_mono (fun a' => wpStill_post h rest a') hr
    · rename_i hw
      rw [if_neg hw] at hr
      exact wpStill_post h rest _ hr
def WpS (P : Program) (N : Nat) (ops : Array Oper) (w : World) (K : Env → Prop) (l : List Oper) (σ : Env) : Prop :=
  ∀ dz a,Ok dz N a → env a = σ → wpStill P ops w (fun a' => Ok dz N a' ∧ K (env a')) l a
def WpT (P : Program) (N : Nat) (ops : Array Oper) (w : World) (K : Env → World → Prop) (Q : Post) : Nat → List Oper → Env → Prop
  | n,l,σ => WpS P N ops w (fun σ' => WpL P N ops K Q (l.drop n) σ' w) (l.take n) σ
section
variable {P : Program} {N : Nat} {Q : Post} {σ : Env} {w : World} {K : Env → World → Prop} {ops : Array Oper} {rest : List Oper} {n : Nat}
theorem WpT_zero {l : List Oper} (h : WpL P N ops K Q l σ w) : WpT P N ops w K Q 0 l σ := fun dz a ha he => by
  simp only [List.take_zero,List.drop_zero]; exact ⟨ha,he ▸ h⟩
theorem WpT_val {o : Oper} (hg : o.guard = none) {d : Nat} (hd : o.dst = some d) (hN : d < N) {v : Value}
    (hr : (execOp (ev σ) o).run P w = .ok (.value v) w) (k : WpT P N ops w K Q n rest (upd σ d v)) : WpT P N ops w K Q (n + 1) (o :: rest) σ := by
  intro dz a ha he
  simp only [List.take_succ_cons,List.drop_succ_cons]
  unfold wpStill
  rw [if_pos (by simp [Region.wanted,hg])]
  unfold Oper.still
  rw [eval_env,he,hr]
  refine ⟨rfl,?_⟩
  rw [hd]
  exact k dz _ (ha.put _ _) (by rw [env_put ha hN,he])
theorem WpT_enter {o : Oper} (hg : o.guard = none) {d : Nat} (hd : o.dst = some d) (hN : d < N) {f : FuncId} {args : Array Value} {v : Value}
    (hr : (execOp (ev σ) o).run P w = .ok (.enter f args) w) (hc : Ret P f args w fun v' w' => v' = v ∧ w' = w) (k : WpT P N ops w K Q n rest (upd σ d v)) : WpT P N ops w K Q (n + 1) (o :: rest) σ := by
  intro dz a ha he
  simp only [List.take_succ_cons,List.drop_succ_cons]
  unfold wpStill
  rw [if_pos (by simp [Region.wanted,hg])]
  unfold Oper.still
  rw [eval_env,he,hr]
  refine ⟨rfl,v,Calls.mono hc ?_,?_⟩
  · rintro e w' ⟨v',rfl,rfl,rfl⟩; exact ⟨rfl,rfl⟩
  · rw [hd]
    exact k dz _ (ha.put _ _) (by rw [env_put ha hN,he])
theorem WpT_guard_any {d : Nat} {op : Op} {ty : TypeId} {pos : String} {af : Array Edge} {j : Nat} {b : Bool} {oj : Oper} {dj : Nat} {gv u : Value}
    (hj : ops[j]? = some oj) (hdj : oj.dst = some dj) (hN : dj < N) (hd : d < N) (hy : σ dj = gv)
    (h : (gv = .bool b ∧ (execOp (ev σ) ⟨some d,op,ty,pos,af,none⟩).run P w = .ok (.value u) w) ∨ ((gv = .bool (!b) ∨ gv = undef) ∧ u = undef))
    (k : WpT P N ops w K Q n rest (upd σ d u)) : WpT P N ops w K Q (n + 1) (⟨some d,op,ty,pos,af,some (j,b)⟩ :: rest) σ := by
  intro dz a ha he
  simp only [List.take_succ_cons,List.drop_succ_cons]
  have hk := k dz _ (ha.put (some d) u) (by rw [env_put ha hd,he])
  have h2 : a.tmps.getD dj undef = gv := by rw [← hy,← he]; rfl
  have hlt : dj < a.tmps.size := by rw [ha.size]; exact hN
  have h3 : a.tmps[dj]? = some gv := by rw [Array.getElem?_eq_getElem hlt]; simpa [hlt] using h2
  unfold wpStill
  rcases h with ⟨h1,h4⟩ | ⟨h1,rfl⟩
  · subst h1
    rw [if_pos (by simp [Region.wanted,yielded,hj,hdj,h3])]
    unfold Oper.still
    have h5 : (execOp a.eval ⟨some d,op,ty,pos,af,some (j,b)⟩).run P w = .ok (.value u) w := by rw [eval_env,he]; exact h4
    rw [h5]
    exact ⟨rfl,hk⟩
  · rw [if_neg]
    · exact hk
    · rcases h1 with rfl | rfl
      · cases b <;> simp [Region.wanted,yielded,hj,hdj,h3]
      · simp [Region.wanted,yielded,hj,hdj,h3,undef]
theorem drew_ext (w : World) : Ext w { w with drawn := w.drawn + 1 } := ⟨rfl,rfl,rfl,Nat.le_succ _,Nat.le_refl _,fun _ _ _ => rfl⟩
theorem Wp_draw {id : Nat} {l : List Oper} (n : Nat) (hm : P.follows .mixedOrders = true) (hB : Region.lexTailB .any l.toArray n = true)
    (h : ∀ w',Ext w w' → w'.heap = w.heap → WpT P N l.toArray w' (Q .normal) Q n l σ) : Wp P N (.region id l.toArray true) Q σ w := by
  intro dz a ha he
  have e : lift dz N (thn (Q .normal) Q) = lift dz N Q := by funext e a w; cases e <;> rfl
  refine wp_region_still_tail n hm hB ?_
  have h1 := h _ (drew_ext w) rfl dz a ha he
  have : (fun a' => Ok dz N a' ∧ WpL P N l.toArray (Q .normal) Q (l.drop n) (env a') { w with drawn := w.drawn + 1 }) = (fun a' => Ok dz N a' ∧ WpL P N l.toArray (Q .normal) Q (l.drop n) (env a') { w with drawn := w.drawn + 1 }) := rfl
  refine wpStill_post ?_ _ _ h1
  rintro a' ⟨ha',hk⟩
  have := hk dz a' ha' rfl
  rwa [e] at this
theorem Wp_seq_draw {id : Nat} {l : List Oper} {y : Code} (n : Nat) (hm : P.follows .mixedOrders = true) (hB : Region.lexTailB .any l.toArray n = true)
    (h : ∀ w',Ext w w' → w'.heap = w.heap → WpT P N l.toArray w' (Wp P N y Q) Q n l σ) : Wp P N (.seq (.region id l.toArray true) y) Q σ w := by
  refine Wp_seq ?_
  refine Wp_draw n hm hB fun w' e he => ?_
  have : thn (Wp P N y Q) Q .normal = Wp P N y Q := rfl
  intro dz a ha hae
  have h1 := h w' e he dz a ha hae
  refine wpStill_post ?_ _ _ h1
  rintro a' ⟨ha',hk⟩
  refine ⟨ha',fun dz2 a2 h2 h3 => ?_⟩
  have h4 := hk dz2 a2 h2 h3
  have e2 : lift dz2 N (thn (thn (Wp P N y Q) Q .normal) (thn (Wp P N y Q) Q)) = lift dz2 N (thn (Wp P N y Q) Q) := by funext e a w; cases e <;> rfl
  rw [e2]
  exact h4
end
theorem wI64 {n : Int} (h : -9223372036854775808 ≤ n ∧ n ≤ 9223372036854775807) : IntKind.i64.wrap n = n := by
  simp only [IntKind.wrap,IntKind.bits,IntKind.signed,Bool.true_and,Bool.false_and,decide_eq_true_eq,ge_iff_le,Int.reducePow,Nat.reduceSub,Bool.false_eq_true,if_false]
  split <;> omega
theorem wU64 {n : Int} (h : 0 ≤ n ∧ n ≤ 18446744073709551615) : IntKind.u64.wrap n = n := by
  simp only [IntKind.wrap,IntKind.bits,IntKind.signed,Bool.true_and,Bool.false_and,decide_eq_true_eq,ge_iff_le,Int.reducePow,Nat.reduceSub,Bool.false_eq_true,if_false]
  omega
theorem wU32 {n : Int} (h : 0 ≤ n ∧ n ≤ 4294967295) : IntKind.u32.wrap n = n := by
  simp only [IntKind.wrap,IntKind.bits,IntKind.signed,Bool.true_and,Bool.false_and,decide_eq_true_eq,ge_iff_le,Int.reducePow,Nat.reduceSub,Bool.false_eq_true,if_false]
  omega
theorem Wp_cut {P : Program} {N : Nat} {Q : Post} {σ : Env} {w : World} {x y : Code} (J : Env → World → Prop) (h : Wp P N x (thn J Q) σ w) (k : ∀ σ' w',J σ' w' → Wp P N y Q σ' w') : Wp P N (.seq x y) Q σ w :=
  Wp_seq (Wp_mono h fun e σ' w' q => by cases e <;> first | exact k _ _ q | exact q)
theorem run_loadVar {P : Program} {w : World} {b o n : Nat} {t : TypeId} {vs : List Value} (hf : aggB P t = true) (hs : Siz P t n) (hn : vs.length = n) (hc : CellsAt w b o vs) : (loadVar t ⟨b,o,none⟩).run P w = .ok (.agg vs.toArray) w := by
  subst hn
  have h1 := run_loadCells_list (P := P) w ⟨b,o,none⟩ vs (fun j v hj => by rw [Addr.add_lit]; exact hc j v hj)
  simp [loadVar,aggB.run hf,hs.run,h1]
theorem fin_agg {P : Program} {fn : Func} {R : Value → World → Prop} {a0 t b n : Nat} (hr : fn.results = #[.cell a0 t]) {σ : Env} {w : World} {vs : List Value} (hv : σ a0 = .pointer (some ⟨b,0,none⟩)) (hf : aggB P t = true) (hs : Siz P t n) (hn : vs.length = n) (hc : CellsAt w b 0 vs) (h : R (.agg vs.toArray) w) : fin P fn R .ret σ w :=
  ⟨.agg vs.toArray,fun a ha => by
    subst ha
    have hv' : a.tmps.getD a0 undef = .pointer (some ⟨b,0,none⟩) := hv
    simp only [Array.getD_eq_getD_getElem?] at hv'
    simp [results,hr,hv',asAddr,run_loadVar hf hs hn hc],h⟩
theorem fin_agg_tmp {P : Program} {fn : Func} {R : Value → World → Prop} {a0 t b n u : Nat} (hr : fn.results = #[.cell a0 t,.tmp u]) {σ : Env} {w : World} {vs : List Value} {v' : Value} (hv : σ a0 = .pointer (some ⟨b,0,none⟩)) (hf : aggB P t = true) (hs : Siz P t n) (hn : vs.length = n) (hc : CellsAt w b 0 vs) (hv' : σ u = v') (h : R (.tuple #[.agg vs.toArray,v']) w) : fin P fn R .ret σ w :=
  ⟨.tuple #[.agg vs.toArray,v'],fun a ha => by
    subst ha
    have h0 : a.tmps.getD a0 undef = .pointer (some ⟨b,0,none⟩) := hv
    have h1 : a.tmps.getD u undef = v' := hv'
    simp only [Array.getD_eq_getD_getElem?] at h0 h1
    simp [results,hr,h0,h1,asAddr,run_loadVar hf hs hn hc],h⟩
abbrev I6 (x : Int) : Value := .int .i64 x
abbrev P6 (b o : Nat) : Value := .pointer (some ⟨b,o,none⟩)
abbrev nU (b : Bool) (v : Value) : Value := bif b then undef else v
abbrev yU (b : Bool) (v : Value) : Value := bif b then v else undef
section
variable {P : Program} {N : Nat} {Q : Post} {σ : Env} {w : World} {K : Env → World → Prop} {ops : Array Oper} {rest : List Oper} {n d : Nat} {op : Op} {ty : TypeId} {pos : String} {af : Array Edge} {v : Value} {x : Operand}
theorem qV {w' : World} (hr : (execOp (ev σ) ⟨some d,op,ty,pos,af,none⟩).run P w = .ok (.value v) w') (k : WpL P N ops K Q rest (upd σ d v) w') (hN : d < N := by decide) : WpL P N ops K Q (⟨some d,op,ty,pos,af,none⟩ :: rest) σ w := WpL_val rfl rfl hN hr k
theorem qT (hr : (execOp (ev σ) ⟨some d,op,ty,pos,af,none⟩).run P w = .ok (.value v) w) (k : WpT P N ops w K Q n rest (upd σ d v)) (hN : d < N := by decide) : WpT P N ops w K Q (n + 1) (⟨some d,op,ty,pos,af,none⟩ :: rest) σ := WpT_val rfl rfl hN hr k
theorem qM (v : Value) (hx : ev σ x = v) (k : WpL P N ops K Q rest (upd σ d v) w) (hN : d < N := by decide) : WpL P N ops K Q (⟨some d,.move x,ty,pos,af,none⟩ :: rest) σ w := qV (r_move hx) k hN
theorem qA (v : Value) (hx : ev σ x = v) (k : WpL P N ops K Q rest (upd σ d v) w) (hN : d < N := by decide) : WpL P N ops K Q (⟨some d,.assign x,ty,pos,af,none⟩ :: rest) σ w := qV (r_assign hx) k hN
theorem gA {A : Prop} {v : Value} : A ∨ ((v = v ∨ v = undef) ∧ undef = undef) := .inr ⟨.inl rfl,rfl⟩
theorem gB {A : Prop} {u : Value} : A ∨ ((undef = u ∨ undef = undef) ∧ undef = undef) := .inr ⟨.inr rfl,rfl⟩
theorem qG {j : Nat} {b : Bool} {oj : Oper} {dj : Nat} (gv u : Value)
    (h : (gv = .bool b ∧ (execOp (ev σ) ⟨some d,op,ty,pos,af,none⟩).run P w = .ok (.value u) w) ∨ ((gv = .bool (!b) ∨ gv = undef) ∧ u = undef))
    (k : WpL P N ops K Q rest (upd σ d u) w) (hj : ops[j]? = some oj := by rfl) (hdj : oj.dst = some dj := by rfl) (hN : dj < N := by decide) (hd : d < N := by decide) (hy : σ dj = gv := by rfl) : WpL P N ops K Q (⟨some d,op,ty,pos,af,some (j,b)⟩ :: rest) σ w := WpL_guard_any hj hdj hN hd hy h k
theorem qF {t : TypeId} {fs : Array Field} {f : Field} {i m : Nat} (b o o' : Nat) (hx : ev σ x = .pointer (some ⟨b,o,none⟩)) (hu : P.underlying t = some (.struct fs)) (hf : fs[i]? = some f) (hs : Siz P f.type (m + 1)) (ho : o + f.offset = o')
    (k : WpL P N ops K Q rest (upd σ d (.pointer (some ⟨b,o',none⟩))) w) (hN : d < N := by decide) : WpL P N ops K Q (⟨some d,.fieldAddr t x i,ty,pos,af,none⟩ :: rest) σ w := qV (r_fieldAddr hx hu hf hs ho) k hN
end
inductive Re where
  | mk (kind : Int) (set : List (Int × Int)) (args : List Re) (mn mx : Int) (neg : Bool)
namespace Re
def kind : Re → Int | .mk k _ _ _ _ _ => k
def set : Re → List (Int × Int) | .mk _ s _ _ _ _ => s
def args : Re → List Re | .mk _ _ a _ _ _ => a
def mn : Re → Int | .mk _ _ _ m _ _ => m
def mx : Re → Int | .mk _ _ _ _ m _ => m
def neg : Re → Bool | .mk _ _ _ _ _ n => n
mutual
def size : Re → Nat
  | .mk _ _ a _ _ _ => sizes a + 1
def sizes : List Re → Nat
  | [] => 0
  | t :: ts => size t + sizes ts
end
theorem size_pos (t : Re) : 0 < t.size := by cases t; simp [size]
theorem size_eq (t : Re) : t.size = sizes t.args + 1 := by cases t; rfl
theorem sizes_get {ts : List Re} {i : Nat} {t : Re} (h : ts[i]? = some t) : t.size ≤ sizes ts := by
  induction ts generalizing i with
  | nil => simp at h
  | cons a r ih =>
    cases i with
    | zero => simp at h; subst h; simp [sizes]
    | succ i => simp at h; have := ih h; simp [sizes]; omega
theorem size_arg {t : Re} {i : Nat} {x : Re} (h : t.args[i]? = some x) : x.size < t.size := by
 have := sizes_get h; rw [size_eq t]; omega
end Re
abbrev R6 (t : Re) (sa : Option Addr) (sc : Nat) (aa : Option Addr) (ac : Nat) : Array Value := #[.int .i64 t.kind,.slice sa t.set.length sc,.slice aa t.args.length ac,.int .i64 t.mn,.int .i64 t.mx,.bool t.neg]
theorem lt_of_get {α : Type} {l : List α} {i : Nat} {y : α} (h : l[i]? = some y) : i < l.length := by
 rcases Nat.lt_or_ge i l.length with h' | h'
 ·exact h'
 ·simp [List.getElem?_eq_none h'] at h
/-- A slice value that reads as a list of rows of k cells. -/
def SlAt (w : World) (k : Nat) (v : Value) (rows : List (List Value)) : Prop :=
 ∃ a cap,v = .slice a rows.length cap ∧ rows.length ≤ 9223372036854775807 ∧ rows.length ≤ cap ∧ (rows = [] ∨ ∃ b o,a = some ⟨b,o,none⟩ ∧ ∀ i r,rows[i]? = some r → CellsAt w b (o + i * k) r)
theorem SlAt.ext {w w' : World} {k : Nat} {v : Value} {rows : List (List Value)} (h : SlAt w k v rows) (e : Ext w w') : SlAt w' k v rows := by
 obtain ⟨a,cap,hv,hl,hc,h⟩ := h
 refine ⟨a,cap,hv,hl,hc,?_⟩
 rcases h with h | ⟨b,o,ha,hc⟩
 ·exact .inl h
 ·exact .inr ⟨b,o,ha,fun i r hr => (hc i r hr).ext e⟩
theorem SlAt.nil (w : World) (k : Nat) (a : Option Addr) (cap : Nat) : SlAt w k (.slice a 0 cap) [] := ⟨a,cap,rfl,by simp,by simp,.inl rfl⟩
/-- Where there is an element the slice has an address. -/
theorem SlAt.at {w : World} {k : Nat} {a : Option Addr} {n cap : Nat} {rows : List (List Value)} (h : SlAt w k (.slice a n cap) rows) (hn : 0 < n) :
  ∃ b o,a = some ⟨b,o,none⟩ ∧ ∀ i r,rows[i]? = some r → CellsAt w b (o + i * k) r := by
 obtain ⟨a',cap',hv,_,_,h⟩ := h
 simp only [Value.slice.injEq] at hv
 obtain ⟨rfl,rfl,rfl⟩ := hv
 rcases h with rfl | h
 ·simp at hn
 ·exact h
theorem SlAt.le {w : World} {k : Nat} {v : Value} {rows : List (List Value)} (h : SlAt w k v rows) : rows.length ≤ 9223372036854775807 := let ⟨_,_,_,h,_⟩ := h; h
theorem SlAt.cap {w : World} {k : Nat} {a : Option Addr} {n c : Nat} {rows : List (List Value)} (h : SlAt w k (.slice a n c) rows) : n ≤ c ∧ rows.length = n := by
 obtain ⟨a',cap',hv,_,hc,_⟩ := h
 simp only [Value.slice.injEq] at hv
 obtain ⟨rfl,rfl,rfl⟩ := hv
 exact ⟨hc,rfl⟩
/-- A part of a slice. -/
theorem SlAt.cut {w : World} {k : Nat} {a a' : Option Addr} {n c lo hi n' c' : Nat} {rows : List (List Value)} (h : SlAt w k (.slice a n c) rows) (h1 : lo ≤ hi) (h2 : hi ≤ n) (ha : (if c = lo then a else a.map (·.add (lo * k))) = a') (hn : hi - lo = n') (hc : c - lo = c') :
  SlAt w k (.slice a' n' c') ((rows.drop lo).take n') := by
 obtain ⟨h3,h4⟩ := h.cap
 have hl := h.le
 have hlen : ((rows.drop lo).take n').length = n' := by simp; omega
 refine ⟨a',c',by rw [hlen],by rw [hlen]; omega,by rw [hlen]; omega,?_⟩
 rcases Nat.eq_zero_or_pos n' with h0 | h0
 ·left; subst h0; simp
 ·obtain ⟨b,o,rfl,hcells⟩ := h.at (by omega)
  rw [if_neg (by omega)] at ha
  refine .inr ⟨b,o + lo * k,?_,fun i r hr => ?_⟩
  ·rw [← ha]; simp [Addr.add_lit]
  ·have hi' := lt_of_get hr
   rw [hlen] at hi'
   rw [List.getElem?_take_of_lt hi',List.getElem?_drop] at hr
   have := hcells (lo + i) r hr
   rwa [show o + (lo + i) * k = o + lo * k + i * k from by rw [Nat.add_mul]; omega] at this
theorem SlAt.form {w : World} {k : Nat} {v : Value} {rows : List (List Value)} (h : SlAt w k v rows) : ∃ a cap,v = .slice a rows.length cap := let ⟨a,c,h,_⟩ := h; ⟨a,c,h⟩
def intV (x : Int) : List Value := [.int .i64 x]
def spanV (s : Int × Int) : List Value := [.int .i64 s.1,.int .i64 s.2]
def IntsAt (w : World) (v : Value) (l : List Int) : Prop := SlAt w 1 v (l.map intV)
def SpansAt (w : World) (v : Value) (l : List (Int × Int)) : Prop := SlAt w 2 v (l.map spanV)
theorem IntsAt.ext {w w' : World} {v : Value} {l : List Int} (h : IntsAt w v l) (e : Ext w w') : IntsAt w' v l := SlAt.ext h e
theorem SpansAt.ext {w w' : World} {v : Value} {l : List (Int × Int)} (h : SpansAt w v l) (e : Ext w w') : SpansAt w' v l := SlAt.ext h e
theorem CellsAt.at1 {w : World} {b o : Nat} {x y : Value} (h : CellsAt w b o [x,y]) : w.cell? ⟨b,o + 1,none⟩ = some y := h 1 y rfl
theorem spans_cells {w : World} {a : Option Addr} {n c : Nat} {l : List (Int × Int)} (h : SpansAt w (.slice a n c) l) (hn : 0 < n) :
  ∃ b o,a = some ⟨b,o,none⟩ ∧ ∀ i s,l[i]? = some s → CellsAt w b (o + i * 2) [.int .i64 s.1,.int .i64 s.2] := by
 obtain ⟨b,o,ha,h⟩ := SlAt.at h hn
 exact ⟨b,o,ha,fun i s hs => h i (spanV s) (by simp [hs])⟩
mutual
/-- The cells of an expression. -/
def ReAt (w : World) : Re → List Value → Prop
  | .mk k set args mn mx ng,vs => ∃ sa sc aa ac,vs = [.int .i64 k,.slice sa set.length sc,.slice aa args.length ac,.int .i64 mn,.int .i64 mx,.bool ng] ∧ SpansAt w (.slice sa set.length sc) set ∧ (args.length ≤ ac ∧ ac ≤ 9223372036854775807) ∧
      (args = [] ∨ ∃ b o,aa = some ⟨b,o,none⟩ ∧ ResAt w b o args)
/-- Expressions one behind the other. -/
def ResAt (w : World) (b : Nat) : Nat → List Re → Prop
  | _,[] => True
  | o,t :: ts => (∃ vs,CellsAt w b o vs ∧ ReAt w t vs) ∧ ResAt w b (o + 6) ts
end
mutual
theorem ReAt.ext {w w' : World} (e : Ext w w') : ∀ (t : Re) {vs : List Value},ReAt w t vs → ReAt w' t vs
  | .mk k set args mn mx ng,vs,h => by
    simp only [ReAt] at h ⊢
    obtain ⟨sa,sc,aa,ac,hv,hs,hl,ha⟩ := h
    refine ⟨sa,sc,aa,ac,hv,hs.ext e,hl,?_⟩
    rcases ha with h | ⟨b,o,h1,h2⟩
    · exact .inl h
    · exact .inr ⟨b,o,h1,ResAt.ext e args h2⟩
theorem ResAt.ext {w w' : World} (e : Ext w w') {b : Nat} : ∀ (ts : List Re) {o : Nat},ResAt w b o ts → ResAt w' b o ts
  | [],_,_ => by simp only [ResAt]
  | t :: ts,o,h => by
    simp only [ResAt] at h ⊢
    obtain ⟨⟨vs,h1,h2⟩,h3⟩ := h
    exact ⟨⟨vs,h1.ext e,ReAt.ext e t h2⟩,ResAt.ext e ts h3⟩
end
theorem ResAt.get {w : World} {b : Nat} : ∀ {ts : List Re} {o i : Nat} {t : Re},ResAt w b o ts → ts[i]? = some t → ∃ vs,CellsAt w b (o + i * 6) vs ∧ ReAt w t vs
  | [],_,_,_,_,h => by simp at h
  | x :: ts,o,0,t,h,hi => by
    simp only [ResAt] at h
    simp at hi
    subst hi
    simpa using h.1
  | x :: ts,o,i + 1,t,h,hi => by
    simp only [ResAt] at h
    have := ResAt.get h.2 (i := i) (by simpa using hi)
    rwa [show o + (i + 1) * 6 = o + 6 + i * 6 from by omega]
/-- The form of an expression's value. -/
theorem ReAt.form {w : World} {t : Re} {vs : List Value} (h : ReAt w t vs) : ∃ sa sc aa ac,vs = [.int .i64 t.kind,.slice sa t.set.length sc,.slice aa t.args.length ac,.int .i64 t.mn,.int .i64 t.mx,.bool t.neg] ∧ SpansAt w (.slice sa t.set.length sc) t.set ∧ (t.args.length ≤ ac ∧ ac ≤ 9223372036854775807) ∧
  (t.args = [] ∨ ∃ b o,aa = some ⟨b,o,none⟩ ∧ ResAt w b o t.args) := by
 cases t; simp only [ReAt] at h; exact h
theorem ReAt.of {w : World} {k : Int} {set : List (Int × Int)} {args : List Re} {mn mx : Int} {ng : Bool} {sa aa : Option Addr} {sc ac : Nat} (hs : SpansAt w (.slice sa set.length sc) set) (hl : (args.length ≤ ac ∧ ac ≤ 9223372036854775807)) (ha : args = [] ∨ ∃ b o,aa = some ⟨b,o,none⟩ ∧ ResAt w b o args) :
  ReAt w (.mk k set args mn mx ng) [.int .i64 k,.slice sa set.length sc,.slice aa args.length ac,.int .i64 mn,.int .i64 mx,.bool ng] := by
 simp only [ReAt]; exact ⟨sa,sc,aa,ac,rfl,hs,hl,ha⟩
theorem ReAt.len {w : World} {t : Re} {vs : List Value} (h : ReAt w t vs) : vs.length = 6 := by
 obtain ⟨_,_,_,_,rfl,_⟩ := h.form; rfl
/-- A call of a function value. -/
def CallV (P : Program) (fv : Value) (args : Array Value) (w : World) (R : Value → World → Prop) : Prop :=
 ∃ f fn first cap, fv = .func (.func f) first cap ∧ P.funcs[f]? = some fn ∧ (fn.name == "runtime.NumGoroutine") = false ∧ fn.body.isNone = false ∧ Ret P f (first ++ args ++ cap) w R
theorem CallV.mk {P : Program} {f : FuncId} {fn : Func} {first cap args ws : Array Value} {w : World} {R : Value → World → Prop} (hf : P.funcs[f]? = some fn) (hn : (fn.name == "runtime.NumGoroutine") = false) (hb : fn.body.isNone = false) (hw : first ++ args ++ cap = ws) (h : Ret P f ws w R) :
  CallV P (.func (.func f) first cap) args w R := ⟨f,fn,first,cap,rfl,hf,hn,hb,hw ▸ h⟩
theorem WpL_callV {P : Program} {N : Nat} {Q : Post} {σ : Env} {w : World} {K : Env → World → Prop} {ops : Array Oper} {rest : List Oper} {d : Nat} {z : Operand} {args : List Operand} {tys : Array TypeId} {ty : TypeId} {pos : String} {af : Array Edge} {fv : Value} {vs : List Value} {R : Value → World → Prop}
  (hN : d < N) (hz : ev σ z = fv) (ha : args.map (ev σ) = vs) (hc : CallV P fv vs.toArray w R) (k : ∀ v w',R v w' → WpL P N ops K Q rest (upd σ d v) w') :
  WpL P N ops K Q (⟨some d,.call ⟨.value z,args.toArray,tys⟩,ty,pos,af,none⟩ :: rest) σ w := by
 obtain ⟨f,fn,first,cap,rfl,hf,hn,hb,hr⟩ := hc
 exact WpL_enter rfl rfl hN (r_callV hz hf hn hb ha rfl) hr k
section
variable {S : Type} (F : S → Re → Bool × S)
mutual
def walkF : Re → S → Bool × S
  | .mk k set args mn mx ng,s => match F s (.mk k set args mn mx ng) with
    | (false,s') => (false,s')
    | (true,s') => walkFs args s'
def walkFs : List Re → S → Bool × S
  | [],s => (true,s)
  | t :: ts,s => match walkF t s with
    | (false,s') => (false,s')
    | (true,s') => walkFs ts s'
end
theorem walkF_eq (t : Re) (s : S) : walkF F t s = if (F s t).1 then walkFs F t.args (F s t).2 else (false,(F s t).2) := by
 cases t
 simp only [walkF,Re.args]
 split <;> rename_i h <;> simp [h]
theorem walkFs_cons (t : Re) (ts : List Re) (s : S) : walkFs F (t :: ts) s = if (walkF F t s).1 then walkFs F ts (walkF F t s).2 else (false,(walkF F t s).2) := by
 simp only [walkFs]
 split <;> rename_i h <;> simp [h]
end
/-- The first place at which a test holds, or -1. -/
def idx {α : Type} (p : α → Bool) (l : List α) : Int := match l.findIdx? p with
  | some i => i
  | none => -1
theorem idx_any {α : Type} (p : α → Bool) (l : List α) : decide (0 ≤ idx p l) = l.any p := by
  unfold idx
  cases h : l.findIdx? p with
  | none =>
    have h' : l.any p = false := by
      rw [List.findIdx?_eq_none_iff] at h
      rw [List.any_eq_false]
      intro x hx
      simp [h x hx]
    rw [h']
    decide
  | some i =>
    have h' : l.any p = true := by
      rw [List.findIdx?_eq_some_iff_getElem] at h
      obtain ⟨hi,hp,_⟩ := h
      rw [List.any_eq_true]
      exact ⟨_,List.getElem_mem hi,hp⟩
    rw [h']
    simp
theorem idx_hit {α : Type} {p : α → Bool} {l : List α} {k : Nat} {x : α} (hk : l[k]? = some x) (hp : p x = true) (hb : ∀ i y,i < k → l[i]? = some y → p y = false) : idx p l = k := by
 unfold idx
 have hlt : k < l.length := by
  rcases Nat.lt_or_ge k l.length with h | h
  ·exact h
  ·simp [List.getElem?_eq_none h] at hk
 have : l.findIdx? p = some k := by
  rw [List.findIdx?_eq_some_iff_getElem]
  refine ⟨hlt,?_,fun j hj => ?_⟩
  ·rw [List.getElem?_eq_getElem hlt] at hk; cases hk; exact hp
  ·have := hb j l[j] hj (List.getElem?_eq_getElem (by omega)); simp [this]
 rw [this]
theorem idx_miss {α : Type} {p : α → Bool} {l : List α} (hb : ∀ (i : Nat) (y : α),l[i]? = some y → p y = false) : idx p l = -1 := by
 unfold idx
 have : l.findIdx? p = none := by
  rw [List.findIdx?_eq_none_iff]
  intro x hx
  obtain ⟨i,hi⟩ := List.mem_iff_getElem?.1 hx
  simp [hb i x hi]
 rw [this]
theorem int_eq {a b : Int} (h : a = b) : Value.int .i64 a = .int .i64 b := by rw [h]
theorem bool_eq {a b : Bool} (h : a = b) : Value.bool a = .bool b := by rw [h]
theorem ints_cells {w : World} {a : Option Addr} {n c : Nat} {l : List Int} (h : IntsAt w (.slice a n c) l) (hn : 0 < n) :
  ∃ b o,a = some ⟨b,o,none⟩ ∧ ∀ i x,l[i]? = some x → w.cell? ⟨b,o + i,none⟩ = some (.int .i64 x) := by
 obtain ⟨b,o,ha,h⟩ := SlAt.at h hn
 refine ⟨b,o,ha,fun i x hx => ?_⟩
 have := h i (intV x) (by simp [hx]) 0 _ rfl
 simpa using this
theorem get_of_lt {α : Type} {l : List α} {i : Nat} (h : i < l.length) : ∃ x,l[i]? = some x := ⟨_,List.getElem?_eq_getElem h⟩
theorem drop_cons {α : Type} {l : List α} {k : Nat} {x : α} (h : l[k]? = some x) : l.drop k = x :: l.drop (k + 1) := by
 have hlt := lt_of_get h
 rw [List.drop_eq_getElem_cons hlt]; rw [List.getElem?_eq_getElem hlt] at h; cases h; rfl
theorem below_next {α : Type} {p : α → Bool} {l : List α} {k : Nat} {x : α} (hx : l[k]? = some x) (hp : p x = false) (hno : ∀ (i : Nat) (y : α),i < k → l[i]? = some y → p y = false) : ∀ (i : Nat) (y : α),i < k + 1 → l[i]? = some y → p y = false := by
 intro i y hi hy
 rcases Nat.lt_or_ge i k with h | h
 ·exact hno i y h hy
 ·obtain rfl : i = k := by omega
  rw [hx] at hy; cases hy; exact hp
theorem slat_of_blk {w : World} {b t k cap : Nat} {rows : List (List Value)} (h : Blk w b rows.flatten.toArray t) (hk : ∀ r ∈ rows,r.length = k) (hl : rows.length ≤ 9223372036854775807) (hcap : rows.length ≤ cap) : SlAt w k (.slice (some ⟨b,0,none⟩) rows.length cap) rows := by
  refine ⟨_,cap,rfl,hl,hcap,.inr ⟨b,0,rfl,fun i r hr j u hu => ?_⟩⟩
  have hc : (rows.flatten)[i * k + j]? = some u := by
    clear h hl hcap
    induction rows generalizing i with
    | nil => simp at hr
    | cons x rs ih =>
      have hx : x.length = k := hk x (by simp)
      cases i with
      | zero =>
        simp at hr; subst hr
        have hj := lt_of_get hu
        simp only [List.flatten_cons,Nat.zero_mul,Nat.zero_add]
        rw [List.getElem?_append_left hj]; exact hu
      | succ i =>
        simp at hr
        simp only [List.flatten_cons]
        rw [List.getElem?_append_right (by rw [hx,Nat.succ_mul]; omega)]
        rw [show (i + 1) * k + j - x.length = i * k + j from by rw [hx,Nat.succ_mul]; omega]
        exact ih (fun r hr => hk r (by simp [hr])) _ hr
  rw [Nat.zero_add]
  exact h.cell (by simpa using hc)
theorem ints_of_blk {w : World} {b t cap : Nat} (l : List Int) (h : Blk w b (l.map intV).flatten.toArray t) (hl : l.length ≤ 9223372036854775807) (hcap : l.length ≤ cap) : IntsAt w (.slice (some ⟨b,0,none⟩) l.length cap) l := by
 have := slat_of_blk (k := 1) (cap := cap) h (by intro r hr; simp only [List.mem_map] at hr; obtain ⟨x,_,rfl⟩ := hr; rfl) (by simpa using hl) (by simpa using hcap)
 simpa [IntsAt] using this
theorem spans_of_blk {w : World} {b t cap : Nat} (l : List (Int × Int)) (h : Blk w b (l.map spanV).flatten.toArray t) (hl : l.length ≤ 9223372036854775807) (hcap : l.length ≤ cap) : SpansAt w (.slice (some ⟨b,0,none⟩) l.length cap) l := by
 have := slat_of_blk (k := 2) (cap := cap) h (by intro r hr; simp only [List.mem_map] at hr; obtain ⟨x,_,rfl⟩ := hr; rfl) (by simpa using hl) (by simpa using hcap)
 simpa [SpansAt] using this
theorem ReAt.one {w : World} {t : Re} {vs : List Value} (h : ReAt w t vs) : ∀ u ∈ vs,u.oneCell' = true := by
 obtain ⟨_,_,_,_,rfl,_⟩ := h.form
 simp [Value.oneCell']
/-- The word whose bits below n are f's. -/
def maskN : Nat → (Nat → Bool) → Nat
  | 0,_ => 0
  | n + 1,f => maskN n f + (if f n then 2 ^ n else 0)
theorem maskN_lt (n : Nat) (f : Nat → Bool) : maskN n f < 2 ^ n := by
  induction n with
  | zero => simp [maskN]
  | succ n ih => simp only [maskN,Nat.pow_succ]; split <;> omega
theorem maskN_bit (n : Nat) (f : Nat → Bool) (j : Nat) : (maskN n f).testBit j = (decide (j < n) && f j) := by
  induction n with
  | zero => simp [maskN]
  | succ n ih =>
    simp only [maskN]
    have hlt := maskN_lt n f
    have e : maskN n f + (if f n then 2 ^ n else 0) = 2 ^ n * (if f n then 1 else 0) + maskN n f := by split <;> omega
    rw [e,Nat.testBit_two_pow_mul_add _ hlt]
    split
    · rename_i h; rw [ih]; simp [h]; omega
    · rename_i h
      by_cases hj : j = n
      · subst hj; simp; cases f j <;> simp
      · have h1 : ¬ j < n + 1 := by omega
        simp only [h1,decide_false,Bool.false_and]
        have : j - n ≠ 0 := by omega
        cases f n
        · simp
        · simp only [if_true]
          rw [show (1 : Nat) = 2 ^ 0 from rfl,Nat.testBit_two_pow]
          simp; omega
theorem mask_ext {x : Nat} {n : Nat} {f : Nat → Bool} (hx : x < 2 ^ n) (h : ∀ j,j < n → x.testBit j = f j) : x = maskN n f := by
 apply Nat.eq_of_testBit_eq
 intro j
 rw [maskN_bit]
 by_cases hj : j < n
 ·simp [hj,h j hj]
 ·simp only [hj,decide_false,Bool.false_and]
  exact Nat.testBit_lt_two_pow (Nat.lt_of_lt_of_le hx (Nat.pow_le_pow_right (by omega) (by omega)))
theorem mask_congr {n : Nat} {f g : Nat → Bool} (h : ∀ j,j < n → f j = g j) : maskN n f = maskN n g :=
 mask_ext (maskN_lt n f) fun j hj => by rw [maskN_bit]; simp [hj,h j hj]
theorem mask_inj {n : Nat} {f g : Nat → Bool} (h : maskN n f = maskN n g) : ∀ j,j < n → f j = g j := fun j hj => by
 have := congrArg (fun x => x.testBit j) h
 simpa [maskN_bit,hj] using this
theorem mask_or (n : Nat) (f g : Nat → Bool) : maskN n f ||| maskN n g = maskN n fun j => f j || g j :=
 mask_ext (Nat.or_lt_two_pow (maskN_lt n f) (maskN_lt n g)) fun j hj => by simp [maskN_bit,hj]
theorem mask_and (n : Nat) (f g : Nat → Bool) : maskN n f &&& maskN n g = maskN n fun j => f j && g j :=
 mask_ext (Nat.and_lt_two_pow _ (maskN_lt n g)) fun j hj => by simp [maskN_bit,hj]
theorem mask_one {n i : Nat} (h : i < n) : 2 ^ i = maskN n fun j => decide (j = i) :=
 mask_ext (Nat.pow_lt_pow_right (by omega) h) fun j hj => by
  rw [Nat.testBit_two_pow]; rw [Bool.eq_iff_iff]; simp; omega
theorem mask_zero (n : Nat) : 0 = maskN n fun _ => false := mask_ext (Nat.two_pow_pos n) fun j _ => by simp
theorem mask_eq_zero {n : Nat} {f : Nat → Bool} : maskN n f = 0 ↔ ∀ j,j < n → f j = false := by
 rw [mask_zero n]
 exact ⟨fun h j hj => mask_inj h j hj,fun h => mask_congr h⟩
/-- A number that is not zero, by its lowest bit. -/
theorem low_form : ∀ (x : Nat),0 < x → ∃ k m,x = 2 ^ (k + 1) * m + 2 ^ k := by
  intro x
  induction x using Nat.strongRecOn with
  | _ x ih =>
    intro hx
    rcases Nat.mod_two_eq_zero_or_one x with h | h
    · obtain ⟨k,m,hk⟩ := ih (x / 2) (by omega) (by omega)
      refine ⟨k + 1,m,?_⟩
      have : x = 2 * (x / 2) := by omega
      rw [this,hk,Nat.pow_succ 2 (k + 1),Nat.pow_succ 2 k]
      simp only [Nat.mul_add,← Nat.mul_assoc]
      simp only [Nat.mul_comm 2,Nat.mul_assoc]
    · exact ⟨0,x / 2,by omega⟩
theorem low_bit {x k m : Nat} (h : x = 2 ^ (k + 1) * m + 2 ^ k) (j : Nat) : x.testBit j = if j < k + 1 then decide (j = k) else m.testBit (j - (k + 1)) := by
 rw [h,Nat.testBit_two_pow_mul_add m (Nat.pow_lt_pow_right (by omega) (by omega))]
 split
 ·rw [Nat.testBit_two_pow]; rw [Bool.eq_iff_iff]; simp; omega
 ·rfl
theorem low_clear {x k m : Nat} (h : x = 2 ^ (k + 1) * m + 2 ^ k) (j : Nat) : (x &&& (x - 1)).testBit j = (x.testBit j && decide (j ≠ k)) := by
 have hp := Nat.two_pow_pos k
 have h1 : x - 1 = 2 ^ (k + 1) * m + (2 ^ k - 1) := by omega
 have hlt : 2 ^ k - 1 < 2 ^ (k + 1) := by rw [Nat.pow_succ]; omega
 rw [Nat.testBit_and,low_bit h,h1,Nat.testBit_two_pow_mul_add m hlt]
 split
 ·rw [Nat.testBit_two_pow_sub_one,Bool.eq_iff_iff]; simp; omega
 ·rw [Bool.eq_iff_iff]; simp; omega
theorem low_neg {x k m : Nat} (h : x = 2 ^ (k + 1) * m + 2 ^ k) (hx : x < 2 ^ 32) : x &&& (2 ^ 32 - x) = 2 ^ k := by
 have hk : k < 32 := by
  rcases Nat.lt_or_ge k 32 with h' | h'
  ·exact h'
  ·have := Nat.pow_le_pow_right (n := 2) (by omega) h'; omega
 have hp := Nat.two_pow_pos k
 have e32 : 2 ^ 32 = 2 ^ (k + 1) * 2 ^ (31 - k) := by rw [← Nat.pow_add]; congr 1; omega
 have hm : m < 2 ^ (31 - k) := by
  rcases Nat.lt_or_ge m (2 ^ (31 - k)) with h' | h'
  ·exact h'
  ·have := Nat.mul_le_mul_left (2 ^ (k + 1)) h'; omega
 have h1 : 2 ^ 32 - x = 2 ^ (k + 1) * (2 ^ (31 - k) - (m + 1)) + 2 ^ k := by
  have hps : 2 ^ (k + 1) = 2 ^ k + 2 ^ k := by rw [Nat.pow_succ]; omega
  rw [Nat.mul_sub,← e32,Nat.mul_add,Nat.mul_one]
  have := Nat.mul_le_mul_left (2 ^ (k + 1)) (show m + 1 ≤ 2 ^ (31 - k) by omega)
  rw [← e32,Nat.mul_add,Nat.mul_one] at this
  omega
 apply Nat.eq_of_testBit_eq
 intro j
 rw [Nat.testBit_and,low_bit h,low_bit h1,Nat.testBit_two_pow]
 split
 ·rw [Bool.eq_iff_iff]; simp; omega
 ·rw [Nat.testBit_two_pow_sub_succ hm]
  cases m.testBit (j - (k + 1)) <;> simp <;> omega
abbrev Rl := Nat → Nat → Bool
def thenR (A B : Rl) (n : Nat) : Rl := fun i k => decide (i ≤ n) && (List.range 25).any fun j => A i j && B j k
def orR (A B : Rl) : Rl := fun i j => A i j || B i j
def andR (A B : Rl) : Rl := fun i j => A i j && B i j
def idR (n : Nat) : Rl := fun i j => decide (i ≤ n) && decide (j = i)
def noR : Rl := fun _ _ => false
def inS (l : List (Int × Int)) (r : Int) : Bool := l.any fun s => decide (s.1 ≤ r) && decide (r ≤ s.2)
def setR (text : List Int) (set : List (Int × Int)) : Rl := fun i j => (match text[i]? with | some c => inS set c | none => false) && decide (j = i + 1)
def notR (n : Nat) (A : Rl) : Rl := fun i j => (decide (i ≤ n) && (decide (i ≤ j) && decide (j ≤ n))) && !A i j
def starN (n : Nat) (A : Rl) : Nat → Rl
  | 0 => idR n
  | m + 1 => orR (starN n A m) (thenR (starN n A m) A n)
def powR (n : Nat) (A : Rl) : Nat → Rl
  | 0 => idR n
  | m + 1 => thenR (powR n A m) A n
def repR (n : Nat) (A : Rl) (mn : Int) : Nat → Rl
  | 0 => noR
  | m + 1 => if mn ≤ (m : Int) then orR (repR n A mn m) (powR n A m) else repR n A mn m
def lookR (n : Nat) (A : Rl) (neg : Bool) : Rl := fun i j => (decide (i ≤ n) && decide (j = i)) && (decide (maskN 25 (A i) ≠ 0) != neg)
def relK (text : List Int) (k : Int) (set : List (Int × Int)) (L : List Rl) (mn mx : Int) (ng : Bool) : Rl :=
 if k = 1 then idR text.length else if k = 2 then setR text set
 else if k = 3 then L.foldl (fun a x => thenR a x text.length) (idR text.length)
 else if k = 4 then L.foldl orR noR
 else if k = 7 then L.foldl andR (L.headD noR)
 else if k = 8 then notR text.length (L.headD noR)
 else if k = 5 then starN text.length (L.headD noR) (text.length + 1)
 else if k = 6 then repR text.length (L.headD noR) mn (mx + 1).toNat
 else if k = 9 then L.headD noR
 else if k = 10 then lookR text.length (L.headD noR) ng
 else noR
mutual
def relOf (text : List Int) : Re → Rl
  | .mk k set args mn mx ng => relK text k set (relsOf text args) mn mx ng
def relsOf (text : List Int) : List Re → List Rl
  | [] => []
  | t :: ts => relOf text t :: relsOf text ts
end
theorem relsOf_eq (text : List Int) (ts : List Re) : relsOf text ts = ts.map (relOf text) := by
  induction ts with
  | nil => rfl
  | cons t ts ih => simp [relsOf,ih]
theorem relOf_eq (text : List Int) (t : Re) : relOf text t = relK text t.kind t.set (t.args.map (relOf text)) t.mn t.mx t.neg := by
 cases t; simp [relOf,relsOf_eq,Re.kind,Re.set,Re.args,Re.mn,Re.mx,Re.neg]
theorem own_form {w : World} {base e size n : Nat} {v : Value} {xs : List Value} (h : w.ownsRow base e size v n xs) : ∃ a c,v = .slice a n c := by
 rcases h.2 with ⟨rfl,rfl⟩ | ⟨g,cap,cur,rfl,_⟩
 ·exact ⟨_,_,rfl⟩
 ·exact ⟨_,_,rfl⟩
theorem own_chg {M : Nat → Prop} {w w' : World} {base e size n : Nat} {v : Value} {xs : List Value} (h : w.ownsRow base e size v n xs) (c : Chg M w w') (hm : ∀ k,v.ownBlock = some k → ¬ M k) : w'.ownsRow base e size v n xs := by
 refine ⟨h.1,?_⟩
 rcases h.2 with hn | ⟨g,cap,cur,rfl,hb,hgg,rest⟩
 ·exact .inl hn
 ·refine .inr ⟨g,cap,cur,rfl,hb,?_,rest⟩
  rw [c.blk g (Array.getElem?_eq_some_iff.1 hgg).1 (hm g rfl)]
  exact hgg
/-- A slice of one's own, cut at its end. -/
theorem own_cut {w : World} {base e size n m cap : Nat} {a : Option Addr} {xs : List Value} (h : w.ownsRow base e size (.slice a n cap) n xs) (hm : m ≤ n) (h0 : 0 < n) : w.ownsRow base e size (.slice a m cap) m (xs.take (m * size)) := by
 rcases h.2 with ⟨h1,rfl⟩ | ⟨g,cap',cur,hv,hb,hgg,hnc,hcm,hcs,htake⟩
 ·omega
 ·simp only [Value.slice.injEq] at hv
  obtain ⟨rfl,_,rfl⟩ := hv
  have hle : m * size ≤ n * size := Nat.mul_le_mul_right _ hm
  refine ⟨by rw [List.length_take,h.1]; omega,.inr ⟨g,cap,cur,rfl,hb,hgg,by omega,hcm,hcs,?_⟩⟩
  rw [← htake,List.take_take,Nat.min_eq_left hle]
theorem own_ext {w w' : World} {base e size n : Nat} {v : Value} {xs : List Value} (h : w.ownsRow base e size v n xs) (c : Ext w w') : w'.ownsRow base e size v n xs := own_chg h c fun _ _ f => f
theorem own_cells {w : World} {base e size n : Nat} {a : Option Addr} {c : Nat} {xs : List Value} (h : w.ownsRow base e size (.slice a n c) n xs) (hn : 0 < n) :
  ∃ g,a = some ⟨g,0,none⟩ ∧ base ≤ g ∧ CellsAt w g 0 xs := by
 rcases h.2 with ⟨h1,rfl⟩ | ⟨g,cap,cur,hv,hb,hgg,_,_,_,htake⟩
 ·omega
 ·simp only [Value.slice.injEq] at hv
  obtain ⟨rfl,_,rfl⟩ := hv
  refine ⟨g,rfl,hb,fun i v hv => ?_⟩
  have := h.cells (g := g) rfl i v hv
  rwa [Addr.add_lit] at this
theorem own_slat {w : World} {base e k n : Nat} {v : Value} {rows : List (List Value)} (h : w.ownsRow base e k v n rows.flatten) (hk : ∀ r ∈ rows,r.length = k) (hn : rows.length = n) (hpos : 0 < k) : SlAt w k v rows := by
  obtain ⟨h1,h2⟩ := h
  rcases h2 with ⟨rfl,rfl⟩ | ⟨g,cap,cur,rfl,hb,hgg,hnc,hcm,hcs,htake⟩
  · have : rows = [] := List.eq_nil_of_length_eq_zero hn
    subst this
    exact SlAt.nil w k _ _
  · refine ⟨_,cap,by rw [hn],by simp only [maxLen] at hcm; omega,by omega,.inr ⟨g,0,rfl,fun i r hr j u hu => ?_⟩⟩
    have hc : (rows.flatten)[i * k + j]? = some u := by
      clear htake hgg h1 hn
      induction rows generalizing i with
      | nil => simp at hr
      | cons x rs ih =>
        have hx : x.length = k := hk x (by simp)
        cases i with
        | zero =>
          simp at hr; subst hr
          have hj := lt_of_get hu
          simp only [List.flatten_cons,Nat.zero_mul,Nat.zero_add]
          rw [List.getElem?_append_left hj]; exact hu
        | succ i =>
          simp at hr
          simp only [List.flatten_cons]
          rw [List.getElem?_append_right (by rw [hx,Nat.succ_mul]; omega)]
          rw [show (i + 1) * k + j - x.length = i * k + j from by rw [hx,Nat.succ_mul]; omega]
          exact ih (fun r hr => hk r (by simp [hr])) _ hr
    rw [← htake] at hc
    have hlt : i * k + j < n * k := by
      have := lt_of_get hc
      simp at this; omega
    rw [List.getElem?_take_of_lt hlt] at hc
    show w.cell? ⟨g,0 + i * k + j,none⟩ = some u
    rw [Nat.zero_add]
    simp only [World.cell?,hgg]
    simpa using hc
/-- Where the slice lies behind an append. -/
theorem append_where {P : Program} {w w' : World} {base t ty e size bytes n m c : Nat} {i : TypeInfo} {z v v' : Value} {xs news : List Value} {a : Addr} (ht : P.underlying t = some (.slice e)) (hi : P.info? e = some i) (hz : i.zero = some z) (hsize : i.size = size) (hby : i.bytes = bytes) (hzs : z.cells.size = size) (hsz : 0 < size)
  (hown : w.ownsRow base e size v n xs) (hl : news.length = m * size) (hnews : ∀ j u,news[j]? = some u → w.cell? (a.add j) = some u) (h1 : ∀ u ∈ news,u.oneCell' = true) (h63 : n + m ≤ maxLen) (hbytes : (n + m) * bytes ≤ 140737488355328)
  (hr : (Builtin.append_ #[t,t] ty #[v,.slice (some a) m c]).run P w = .ok v' w') : ∀ k,v'.ownBlock = some k → v.ownBlock = some k ∨ w.heap.size ≤ k := by
 rcases hown.2 with ⟨rfl,rfl⟩ | ⟨g,cap,cur,rfl,hbg,hg,hnc,hcm,hcs,htake⟩
 ·have hx : xs = [] := List.eq_nil_of_length_eq_zero (by simpa using hown.1)
  subst hx
  obtain ⟨v2,w2,hr2,ho2,_⟩ := run_append_own (P := P) w w.heap.size t ty e i z size bytes ht hi hz hsize hby hzs hsz (.slice none 0 0) 0 [] (World.ownsRow_nil w w.heap.size e size) a m c news hl hnews h1 h63 hbytes (Nat.le_refl _)
  rw [hr2] at hr
  cases hr
  intro k hk
  exact .inr (ho2.lt k hk).1
 ·have hsmall : n + m ≤ 9223372036854775807 := by simp only [maxLen] at h63; omega
  subst hsize; subst hby
  by_cases hroom : n + m ≤ cap
  ·have hfit : n * i.size + news.length ≤ cur.size := by rw [hl,hcs,← Nat.add_mul]; exact Nat.mul_le_mul_right _ hroom
   have hr2 := run_append_room (P := P) w t ty e i ht hi g n cap cur hg a m c news hl hnews h1 hroom hfit
   rw [hr2] at hr
   cases hr
   intro k hk
   exact .inl hk
  ·have holds : ∀ j u,xs[j]? = some u → w.cell? ((⟨g,0,none⟩ : Addr).add j) = some u := hown.cells (g := g) rfl
   have hr2 := run_append_grow (P := P) w t ty e i z ht hi hz ⟨g,0,none⟩ n cap xs hown.1 holds a m c news hl hnews (by omega) (by omega) (growslice_fits (by omega) hbytes)
   rw [hr2] at hr
   cases hr
   intro k hk
   simp only [Value.ownBlock,Option.some.injEq] at hk
   exact .inr (by omega)
/-- An append never draws less than nothing. -/
theorem append_drawn {P : Program} {w w' : World} {base t ty e size bytes n m c : Nat} {i : TypeInfo} {z v v' : Value} {xs news : List Value} {a : Addr} (ht : P.underlying t = some (.slice e)) (hi : P.info? e = some i) (hz : i.zero = some z) (hsize : i.size = size) (hby : i.bytes = bytes)
  (hown : w.ownsRow base e size v n xs) (hl : news.length = m * size) (hnews : ∀ j u,news[j]? = some u → w.cell? (a.add j) = some u) (h1 : ∀ u ∈ news,u.oneCell' = true) (h63 : n + m ≤ maxLen) (hbytes : (n + m) * bytes ≤ 140737488355328)
  (hr : (Builtin.append_ #[t,t] ty #[v,.slice (some a) m c]).run P w = .ok v' w') : w.drawn ≤ w'.drawn := by
 have hsmall : n + m ≤ 9223372036854775807 := by simp only [maxLen] at h63; omega
 subst hsize; subst hby
 rcases hown.2 with ⟨rfl,rfl⟩ | ⟨g,cap,cur,rfl,hbg,hg,hnc,hcm,hcs,htake⟩
 ·by_cases hm : m = 0
  ·subst hm
   have h2 : (Builtin.append_ #[t,t] ty #[.slice none 0 0,.slice (some a) 0 c]).run P w = .ok (.slice none 0 0) w := by
    simp [Builtin.append_,run_underlying ht,sizeOf,typeInfo,hi,Builtin.lenOf,Builtin.firstCells,loadCells,loadCellsFrom]
   rw [h2] at hr; cases hr; exact Nat.le_refl _
  ·have hr2 := run_append_nil (P := P) w t ty e i z ht hi hz a m c news hl hnews (by omega) (by omega) (by have hb := hbytes; simp only [Nat.zero_add] at hb; omega)
   rw [hr2] at hr; cases hr; exact Nat.le_succ _
 ·by_cases hroom : n + m ≤ cap
  ·have hfit : n * i.size + news.length ≤ cur.size := by rw [hl,hcs,← Nat.add_mul]; exact Nat.mul_le_mul_right _ hroom
   have hr2 := run_append_room (P := P) w t ty e i ht hi g n cap cur hg a m c news hl hnews h1 hroom hfit
   rw [hr2] at hr; cases hr; exact Nat.le_refl _
  ·have holds : ∀ j u,xs[j]? = some u → w.cell? ((⟨g,0,none⟩ : Addr).add j) = some u := hown.cells (g := g) rfl
   have hr2 := run_append_grow (P := P) w t ty e i z ht hi hz ⟨g,0,none⟩ n cap xs hown.1 holds a m c news hl hnews (by omega) (by omega) (growslice_fits (by omega) hbytes)
   rw [hr2] at hr; cases hr; exact Nat.le_succ _
/-- One append to a slice of the call's own. -/
theorem s_append {P : Program} {N : Nat} {Q : Post} {σ : Env} {w : World} {K : Env → World → Prop} {ops : Array Oper} {rest : List Oper} {d : Nat} {ty : TypeId} {pos : String} {af : Array Edge} {t : TypeId} {s x : Operand}
    {base e size bytes n m c bx ox : Nat} {z v : Value} {xs news : List Value} (hN : d < N) (hu : P.underlying t = some (.slice e)) (hsz : Siz P e size) (hby : Byt P e bytes) (hz : Zer P e z) (hzs : z.cells.size = size) (h0 : 0 < size)
    (hs : ev σ s = v) (hown : w.ownsRow base e size v n xs) (hx : ev σ x = .slice (some ⟨bx,ox,none⟩) m c) (hl : news.length = m * size) (hnews : CellsAt w bx ox news) (h1 : ∀ u ∈ news,u.oneCell' = true)
    (h63 : n + m ≤ maxLen) (hbytes : (n + m) * bytes ≤ 140737488355328) (hbase : base ≤ w.heap.size)
    (k : ∀ v' w',w'.ownsRow base e size v' (n + m) (xs ++ news) → Chg (fun x => v.ownBlock = some x) w w' → (∀ k,v'.ownBlock = some k → v.ownBlock = some k ∨ w.heap.size ≤ k) → WpL P N ops K Q rest (upd σ d v') w') :
    WpL P N ops K Q (⟨some d,.call ⟨.builtin .append,#[s,x],#[t,t]⟩,ty,pos,af,none⟩ :: rest) σ w := by
  unfold Siz at hsz; unfold Byt at hby; unfold Zer at hz
  cases hi : P.info? e with
  | none => rw [hi] at hsz; simp at hsz
  | some i =>
  rw [hi] at hsz hby hz
  simp at hsz hby hz
  obtain ⟨v',w',hr,h2,h3,_⟩ := run_append_own (P := P) w base t ty e i z size bytes hu hi hz hsz hby hzs h0 v n xs hown ⟨bx,ox,none⟩ m c news hl (fun j u hj => by rw [Addr.add_lit]; exact hnews j u hj) h1 h63 hbytes hbase
  refine WpL_val (v := v') (w' := w') rfl rfl hN ?_ (k v' w' h2 ⟨h3.os,h3.tape,h3.output,append_drawn (P := P) hu hi hz hsz hby hown hl (fun j u hj => by rw [Addr.add_lit]; exact hnews j u hj) h1 h63 hbytes hr,h3.size,fun b hb hn => h3.block b hb (fun h => hn h.symm)⟩ (append_where (P := P) hu hi hz hsz hby hzs h0 hown hl (fun j u hj => by rw [Addr.add_lit]; exact hnews j u hj) h1 h63 hbytes hr))
  simp [execOp,resolve,invoke,builtin,hs,hx,hr]
end Go.Eng
namespace Go.Proofs
open Go Go.Eng
abbrev Sp := Int × Int
abbrev Ed := Int × Int × List Sp
structure Nf where
 states : Int
 start : Int
 ends : List Int
 eps : List (Int × Int)
 edges : List Ed
inductive EpsR (eps : List (Int × Int)) : Int → Int → Prop
  | refl (s : Int) : EpsR eps s s
  | tail {s t u : Int} : EpsR eps s t → (t,u) ∈ eps → EpsR eps s u
theorem EpsR.trans {eps : List (Int × Int)} {s t u : Int} (h : EpsR eps s t) (k : EpsR eps t u) : EpsR eps s u := by
  induction k with
  | refl => exact h
  | tail _ h2 ih => exact .tail ih h2
theorem EpsR.head {eps : List (Int × Int)} {s t u : Int} (h : (s,t) ∈ eps) (k : EpsR eps t u) : EpsR eps s u := (EpsR.tail (.refl s) h).trans k
inductive Pth (n : Nf) : Int → List Int → Int → Prop
  | nil (s : Int) : Pth n s [] s
  | eps {s t u : Int} {w : List Int} : (s,t) ∈ n.eps → Pth n t w u → Pth n s w u
  | edge {s t u c : Int} {z : List Sp} {w : List Int} : (s,t,z) ∈ n.edges → inS z c = true → Pth n t w u → Pth n s (c :: w) u
def Acc (n : Nf) (w : List Int) : Prop := ∃ e ∈ n.ends,Pth n n.start w e
def cloP (eps : List (Int × Int)) (I : Int → Prop) : Int → Prop := fun t => ∃ s,I s ∧ EpsR eps s t
def stpP (n : Nf) (I : Int → Prop) (c : Int) : Int → Prop := fun t => ∃ e ∈ n.edges,I e.1 ∧ inS e.2.2 c = true ∧ e.2.1 = t
def setP (n : Nf) (I : Int → Prop) (w : List Int) : Int → Prop := w.foldl (fun J c => cloP n.eps (stpP n J c)) I
theorem cloP_self {eps : List (Int × Int)} {I : Int → Prop} {s : Int} (h : I s) : cloP eps I s := ⟨s,h,.refl s⟩
theorem cloP_step {eps : List (Int × Int)} {I : Int → Prop} {s t : Int} (h : cloP eps I s) (k : EpsR eps s t) : cloP eps I t := by
 obtain ⟨r,h1,h2⟩ := h; exact ⟨r,h1,h2.trans k⟩
theorem EpsR.pth {n : Nf} {s t u : Int} {w : List Int} (h : EpsR n.eps s t) : Pth n t w u → Pth n s w u := by
  induction h with
  | refl => exact id
  | tail _ k ih => exact fun h => ih (.eps k h)
theorem pth_nil {n : Nf} {s t : Int} {w : List Int} (h : Pth n s w t) (hw : w = []) : EpsR n.eps s t := by
  induction h with
  | nil s => exact .refl s
  | eps h _ ih => exact .head h (ih hw)
  | edge => cases hw
theorem pth_cons {n : Nf} {s t c : Int} {v w : List Int} (h : Pth n s v t) (hv : v = c :: w) : ∃ a e,EpsR n.eps s a ∧ e ∈ n.edges ∧ e.1 = a ∧ inS e.2.2 c = true ∧ Pth n e.2.1 w t := by
  induction h with
  | nil s => cases hv
  | eps h _ ih =>
    obtain ⟨a,e,h1,h2⟩ := ih hv
    exact ⟨a,e,.head h h1,h2⟩
  | @edge s t u c' z w' h hc hp _ =>
    cases hv
    exact ⟨s,(s,t,z),.refl s,h,rfl,hc,hp⟩
theorem setP_pth (n : Nf) (t : Int) : ∀ (w : List Int) (I : Int → Prop),(∀ a b,I a → EpsR n.eps a b → I b) → (setP n I w t ↔ ∃ s,I s ∧ Pth n s w t)
  | [],I,hI => by
    constructor
    · exact fun h => ⟨t,h,.nil t⟩
    · rintro ⟨s,h1,h2⟩
      exact hI s t h1 (pth_nil h2 rfl)
  | c :: w,I,hI => by
    have ih := setP_pth n t w (cloP n.eps (stpP n I c)) (fun a b h k => cloP_step h k)
    show setP n (cloP n.eps (stpP n I c)) w t ↔ _
    rw [ih]
    constructor
    · rintro ⟨s,⟨r,⟨e,he,hi,hc,hr⟩,hk⟩,hp⟩
      subst hr
      exact ⟨e.1,hi,.edge (z := e.2.2) he hc (hk.pth hp)⟩
    · rintro ⟨s,hi,hp⟩
      obtain ⟨a,e,h1,h2,h3,h4,h5⟩ := pth_cons hp rfl
      exact ⟨e.2.1,cloP_self ⟨e,h2,by rw [h3]; exact hI s a hi h1,h4,rfl⟩,h5⟩
theorem acc_set (n : Nf) (w : List Int) : Acc n w ↔ ∃ e ∈ n.ends,setP n (cloP n.eps fun s => s = n.start) w e := by
 unfold Acc
 have h := fun e => setP_pth n e w (cloP n.eps fun s => s = n.start) (fun a b h k => cloP_step h k)
 constructor
 ·rintro ⟨e,he,hp⟩
  exact ⟨e,he,(h e).2 ⟨n.start,cloP_self rfl,hp⟩⟩
 ·rintro ⟨e,he,hp⟩
  obtain ⟨s,⟨r,h1,h2⟩,h3⟩ := (h e).1 hp
  exact ⟨e,he,by rw [← h1]; exact h2.pth h3⟩
def MarkOf (m : List Bool) (I : Int → Prop) : Prop := ∀ k : Nat,k < m.length → (m[k]? = some true ↔ I (k : Int))
/-- Closing under way: w waits, the states of o are at work. -/
structure CloSt (eps : List (Int × Int)) (n : Nat) (I : Int → Prop) (m : List Bool) (w o : List Int) : Prop where
 len : m.length = n
 mkd : ∀ k : Nat,m[k]? = some true → cloP eps I k
 st : ∀ k : Nat,k < n → I k → m[k]? = some true
 wm : ∀ s ∈ w,∃ k : Nat,s = (k : Int) ∧ m[k]? = some true
 cl : ∀ k : Nat,m[k]? = some true → (k : Int) ∈ w ∨ (k : Int) ∈ o ∨ ∀ u : Nat,((k : Int),(u : Int)) ∈ eps → m[u]? = some true
def cntT (m : List Bool) : Nat := m.countP fun b => !b
theorem cntT_set {m : List Bool} {k : Nat} (h : m[k]? = some false) : cntT (m.set k true) + 1 = cntT m := by
  induction m generalizing k with
  | nil => simp at h
  | cons b m ih =>
    cases k with
    | zero => simp at h; subst h; simp [cntT]
    | succ k =>
      have := ih (k := k) (by simpa using h)
      simp only [cntT,List.set_cons_succ,List.countP_cons] at this ⊢
      omega
theorem CloSt.start {eps : List (Int × Int)} {n : Nat} {m : List Bool} {I : Int → Prop} (hl : m.length = n) (h : MarkOf m I) {w : List Int} (hw : ∀ k : Nat,m[k]? = some true → (k : Int) ∈ w) (hw2 : ∀ s ∈ w,∃ k : Nat,s = (k : Int) ∧ m[k]? = some true) : CloSt eps n I m w [] :=
 ⟨hl,fun k hk => cloP_self ((h k (lt_of_get hk)).1 hk),fun k hk hi => (h k (by omega)).2 hi,hw2,fun k hk => .inl (hw k hk)⟩
theorem CloSt.fin {eps : List (Int × Int)} {n : Nat} {m : List Bool} {I : Int → Prop} (h : CloSt eps n I m [] []) (hI : ∀ s,I s → 0 ≤ s ∧ s < n) (he : ∀ p ∈ eps,0 ≤ p.2 ∧ p.2 < n) : MarkOf m (cloP eps I) := by
  intro k hk
  constructor
  · exact h.mkd k
  · rintro ⟨s,hs,hr⟩
    have : ∀ t,EpsR eps s t → ∃ u : Nat,t = (u : Int) ∧ m[u]? = some true := by
      intro t ht
      induction ht with
      | refl =>
        obtain ⟨h1,h2⟩ := hI s hs
        refine ⟨s.toNat,by omega,h.st _ (by omega) ?_⟩
        rw [Int.toNat_of_nonneg h1]; exact hs
      | @tail t u _ hp ih =>
        obtain ⟨q,rfl,hq⟩ := ih
        obtain ⟨h1,h2⟩ := he _ hp
        refine ⟨u.toNat,by omega,?_⟩
        rcases h.cl q hq with h3 | h3 | h3
        · cases h3
        · cases h3
        · refine h3 u.toNat ?_
          rw [Int.toNat_of_nonneg h1]; exact hp
    obtain ⟨u,hu,hm⟩ := this _ hr
    rw [show k = u by omega]; exact hm
/-- The last of those that wait is taken. -/
theorem CloSt.pop {eps : List (Int × Int)} {n : Nat} {m : List Bool} {I : Int → Prop} {w : List Int} {s : Int} (h : CloSt eps n I m (w ++ [s]) []) : CloSt eps n I m w [s] :=
 ⟨h.len,h.mkd,h.st,fun t ht => h.wm t (List.mem_append_left _ ht),fun k hk => by
  rcases h.cl k hk with h1 | h1 | h1
  ·rcases List.mem_append.1 h1 with h2 | h2
   ·exact .inl h2
   ·exact .inr (.inl h2)
  ·cases h1
  ·exact .inr (.inr h1)⟩
theorem CloSt.mark {eps : List (Int × Int)} {n : Nat} {m : List Bool} {I : Int → Prop} {w : List Int} {s : Int} (h : CloSt eps n I m w [s]) {t : Nat} (ht : t < n) (hs : ∃ k : Nat,s = (k : Int) ∧ m[k]? = some true) (hp : (s,(t : Int)) ∈ eps) : CloSt eps n I (m.set t true) (w ++ [(t : Int)]) [s] := by
 have hg : ∀ k : Nat,(m.set t true)[k]? = some true ↔ (k = t ∨ m[k]? = some true) := by
  intro k
  rw [List.getElem?_set]
  by_cases e : t = k
  ·subst e; rw [if_pos rfl,if_pos (by rw [h.len]; exact ht)]; simp
  ·rw [if_neg e]; constructor
   ·exact .inr
   ·rintro (h1 | h1)
    ·exact absurd h1.symm e
    ·exact h1
 refine ⟨by rw [List.length_set]; exact h.len,fun k hk => ?_,fun k hk hi => (hg k).2 (.inr (h.st k hk hi)),fun u hu => ?_,fun k hk => ?_⟩
 ·rcases (hg k).1 hk with rfl | h1
  ·obtain ⟨q,rfl,hq⟩ := hs
   exact cloP_step (h.mkd q hq) (.tail (.refl _) hp)
  ·exact h.mkd k h1
 ·rcases List.mem_append.1 hu with h1 | h1
  ·obtain ⟨k,rfl,hk⟩ := h.wm u h1
   exact ⟨k,rfl,(hg k).2 (.inr hk)⟩
  ·exact ⟨t,List.mem_singleton.1 h1,(hg t).2 (.inl rfl)⟩
 ·rcases (hg k).1 hk with rfl | h1
  ·exact .inl (List.mem_append_right _ (List.mem_singleton_self _))
  ·rcases h.cl k h1 with h2 | h2 | h2
   ·exact .inl (List.mem_append_left _ h2)
   ·exact .inr (.inl h2)
   ·exact .inr (.inr fun u hu => (hg u).2 (.inr (h2 u hu)))
theorem CloSt.done {eps : List (Int × Int)} {n : Nat} {m : List Bool} {I : Int → Prop} {w : List Int} {s : Int} (h : CloSt eps n I m w [s]) (hp : ∀ u : Nat,(s,(u : Int)) ∈ eps → m[u]? = some true) : CloSt eps n I m w [] :=
 ⟨h.len,h.mkd,h.st,h.wm,fun k hk => by
  rcases h.cl k hk with h1 | h1 | h1
  ·exact .inl h1
  ·rw [List.mem_singleton.1 h1]; exact .inr (.inr hp)
  ·exact .inr (.inr h1)⟩
/-- What follows a state, in order. -/
def sucL (eps : List (Int × Int)) (s : Nat) : List Int := (eps.filter fun p => p.1 == (s : Int)).map (·.2)
theorem sucL_mem {eps : List (Int × Int)} {s : Nat} {t : Int} : t ∈ sucL eps s ↔ ((s : Int),t) ∈ eps := by
 unfold sucL
 simp only [List.mem_map,List.mem_filter,beq_iff_eq]
 constructor
 ·rintro ⟨⟨a,b⟩,⟨h1,h2⟩,h3⟩
  simp only at h2 h3
  rw [← h2,← h3]; exact h1
 ·exact fun h => ⟨((s : Int),t),⟨h,rfl⟩,rfl⟩
theorem sucL_snoc {eps : List (Int × Int)} {p : Int × Int} {a s : Nat} (h : p.1 = (a : Int)) : sucL (eps ++ [p]) s = if s = a then sucL eps s ++ [p.2] else sucL eps s := by
 unfold sucL
 rw [List.filter_append,List.map_append]
 by_cases e : s = a
 ·subst e; rw [if_pos rfl]; simp [h]
 ·rw [if_neg e]
  have : ((p.1 == (s : Int)) = false) := by rw [h]; simp; omega
  simp [this]
theorem sucL_len (eps : List (Int × Int)) (s : Nat) : (sucL eps s).length ≤ eps.length := by
 unfold sucL; rw [List.length_map]; exact List.length_filter_le _ _
/-- What is built so far: the number of states, the steps for nothing, the edges. -/
structure ThS where
 n : Nat
 eps : List (Int × Int)
 edges : List Ed
abbrev TF := ThS → Option (ThS × Nat × Nat)
def newT (s : ThS) : Option (ThS × Nat) := if 500 < s.n + 1 then none else some (⟨s.n + 1,s.eps,s.edges⟩,s.n)
def epsT (s : ThS) (a b : Nat) : ThS := ⟨s.n,s.eps ++ [((a : Int),(b : Int))],s.edges⟩
def edgeT (s : ThS) (a b : Nat) (z : List Sp) : ThS := ⟨s.n,s.eps,s.edges ++ [((a : Int),(b : Int),z)]⟩
def catT : List TF → ThS → Nat → Option (ThS × Nat)
  | [],s,b => some (s,b)
  | f :: fs,s,b => (f s).bind fun (s1,x,y) => catT fs (epsT s1 b x) y
def altT (e : Nat) : List TF → ThS → Nat → Option ThS
  | [],s,_ => some s
  | f :: fs,s,a => (f s).bind fun (s1,x,y) =>
    if 2 ≤ fs.length then (newT (epsT (epsT s1 a x) y e)).bind fun (s2,q) => altT e fs (epsT s2 a q) q
    else altT e fs (epsT (epsT s1 a x) y e) a
def copyT (f : TF) (s : ThS) (b : Nat) (out : Bool) : Option (ThS × Nat) :=
 (f s).bind fun (s1,x,y) =>
  if out then (newT (epsT s1 b x)).bind fun (s2,e) => some (epsT (epsT s2 b e) y e,e)
  else some (epsT s1 b x,y)
/-- k copies are made, of which those before mn must be. -/
def repT (f : TF) (mn : Int) (s : ThS) (b : Nat) : Nat → Option (ThS × Nat)
  | 0 => some (s,b)
  | k + 1 => (repT f mn s b k).bind fun (s1,b1) => copyT f s1 b1 (decide (mn ≤ (k : Int)))
def nodeT (k : Int) (z : List Sp) (mn mx : Int) (fs : List TF) : TF := fun s =>
 (newT s).bind fun (s1,a) =>
  if k = 0 then (newT s1).bind fun (s2,b) => some (s2,a,b)
  else if k = 1 then some (s1,a,a)
  else if k = 2 then (newT s1).bind fun (s2,b) => some (edgeT s2 a b z,a,b)
  else if k = 3 then (catT fs s1 a).bind fun (s2,b) => some (s2,a,b)
  else if k = 4 then (newT s1).bind fun (s2,e) => (altT e fs s2 a).bind fun s3 => some (s3,a,e)
  else if k = 9 then (match fs with | f :: _ => (f s1).bind fun (s2,x,y) => some (epsT s2 a x,a,y) | [] => none)
  else if k = 5 then (match fs with | f :: _ => (f s1).bind fun (s2,x,y) => (newT s2).bind fun (s3,e) => some (epsT (epsT (epsT s3 a x) a e) y a,a,e) | [] => none)
  else (match fs with | f :: _ => (repT f mn s1 a mx.toNat).bind fun (s2,b) => some (s2,a,b) | [] => if mx ≤ 0 then some (s1,a,a) else none)
mutual
def tmO : Re → TF
  | .mk k z a mn mx _ => nodeT k z mn mx (tmL a)
def tmL : List Re → List TF
  | [] => []
  | x :: l => tmO x :: tmL l
end
theorem tmL_map : ∀ l : List Re,tmL l = l.map tmO
  | [] => rfl
  | x :: l => by rw [tmL,tmL_map l]; rfl
def epN (s : ThS) (q : Int) : Nat := s.eps.countP fun p => p.1 == q
def edN (s : ThS) (q : Int) : Nat := s.edges.countP fun e => e.1 == q
/-- The states that begin steps are few-branched, and there. -/
structure Shp (Z : List Sp → Prop) (s : ThS) : Prop where
 nl : s.n ≤ 500
 ep : ∀ p ∈ s.eps,(0 ≤ p.1 ∧ p.1 < s.n) ∧ 0 ≤ p.2 ∧ p.2 < s.n
 ed : ∀ e ∈ s.edges,(0 ≤ e.1 ∧ e.1 < s.n) ∧ (0 ≤ e.2.1 ∧ e.2.1 < s.n) ∧ Z e.2.2
 dg : ∀ q : Nat,edN s q ≤ 1 ∧ epN s q ≤ 2 ∧ ¬ (0 < edN s q ∧ 0 < epN s q)
def zero (s : ThS) (q : Nat) : Prop := epN s q = 0 ∧ edN s q = 0
/-- A step of building: no old state begins more steps, apart from a. -/
structure Stp (Z : List Sp → Prop) (s s' : ThS) (a : Nat) : Prop where
 sh : Shp Z s'
 le : s.n ≤ s'.n
 old : ∀ q : Nat,q < s.n → q ≠ a → epN s' q = epN s q ∧ edN s' q = edN s q
def FragOk (Z : List Sp → Prop) (f : TF) : Prop := ∀ s s' a b,Shp Z s → f s = some (s',a,b) → Stp Z s s' s.n ∧ a = s.n ∧ s.n < s'.n ∧ b < s'.n ∧ s.n ≤ b ∧ zero s' b
theorem edN_nil {Z : List Sp → Prop} {s : ThS} (h : Shp Z s) {q : Nat} (hq : s.n ≤ q) : zero s q := by
 constructor
 ·unfold epN; rw [List.countP_eq_zero]
  intro p hp; have := (h.ep p hp).1; simp only [beq_iff_eq]; omega
 ·unfold edN; rw [List.countP_eq_zero]
  intro p hp; have := (h.ed p hp).1; simp only [beq_iff_eq]; omega
theorem epN_eps (s : ThS) (a b : Nat) (q : Nat) : epN (epsT s a b) q = epN s q + (if q = a then 1 else 0) := by
 unfold epN epsT
 rw [List.countP_append,List.countP_singleton]
 congr 1
 by_cases h : q = a
 ·subst h; simp
 ·rw [if_neg h]; simp; omega
theorem edN_eps (s : ThS) (a b : Nat) (q : Int) : edN (epsT s a b) q = edN s q := rfl
theorem Shp.eps {Z : List Sp → Prop} {s : ThS} (h : Shp Z s) {a b : Nat} (ha : a < s.n) (hb : b < s.n) (h1 : epN s a ≤ 1) (h2 : edN s a = 0) : Shp Z (epsT s a b) := by
 refine ⟨h.nl,fun p hp => ?_,h.ed,fun q => ?_⟩
 ·rcases List.mem_append.1 hp with h3 | h3
  ·exact h.ep p h3
  ·rw [List.mem_singleton.1 h3]
   show (0 ≤ (a : Int) ∧ (a : Int) < (s.n : Int)) ∧ 0 ≤ (b : Int) ∧ (b : Int) < (s.n : Int)
   omega
 ·rw [epN_eps,edN_eps]
  have := h.dg q
  split
  ·rename_i e; subst e; omega
  ·omega
theorem newT_some {s s' : ThS} {a : Nat} (h : newT s = some (s',a)) : a = s.n ∧ s' = ⟨s.n + 1,s.eps,s.edges⟩ ∧ s.n + 1 ≤ 500 := by
 unfold newT at h
 split at h
 ·cases h
 ·cases h; exact ⟨rfl,rfl,by omega⟩
theorem Shp.new {Z : List Sp → Prop} {s s' : ThS} {a : Nat} (h : Shp Z s) (e : newT s = some (s',a)) : Shp Z s' ∧ a = s.n ∧ s'.n = s.n + 1 ∧ (∀ q : Nat,epN s' q = epN s q ∧ edN s' q = edN s q) ∧ zero s' a := by
 obtain ⟨rfl,rfl,hn⟩ := newT_some e
 have hz := edN_nil h (Nat.le_refl s.n)
 refine ⟨⟨hn,fun p hp => ?_,fun p hp => ?_,h.dg⟩,rfl,rfl,fun q => ⟨rfl,rfl⟩,hz⟩
 ·have := h.ep p hp
  show (0 ≤ p.1 ∧ p.1 < ((s.n + 1 : Nat) : Int)) ∧ 0 ≤ p.2 ∧ p.2 < ((s.n + 1 : Nat) : Int)
  omega
 ·have := h.ed p hp
  show (0 ≤ p.1 ∧ p.1 < ((s.n + 1 : Nat) : Int)) ∧ (0 ≤ p.2.1 ∧ p.2.1 < ((s.n + 1 : Nat) : Int)) ∧ Z p.2.2
  exact ⟨by omega,by omega,this.2.2⟩
/-- A fragment is built behind b, which begins nothing yet or one step. -/
theorem frag_at {Z : List Sp → Prop} {f : TF} (hf : FragOk Z f) {s s1 : ThS} {x y b : Nat} (h : Shp Z s) (e : f s = some (s1,x,y)) (hb : b < s.n) (h1 : epN s b ≤ 1) (h2 : edN s b = 0) :
  Shp Z (epsT s1 b x) ∧ s.n < s1.n ∧ x = s.n ∧ s.n ≤ y ∧ y < s1.n ∧ zero (epsT s1 b x) y ∧ (∀ q : Nat,q < s.n → epN (epsT s1 b x) q = epN s q + (if q = b then 1 else 0) ∧ edN (epsT s1 b x) q = edN s q) := by
 obtain ⟨k1,k2,k3,k4,k5,k6⟩ := hf s s1 x y h e
 have ho := fun q hq => k1.old q hq (by omega : q ≠ s.n)
 have hob := ho b hb
 refine ⟨k1.sh.eps (by omega) (by omega) (by omega) (by omega),k3,k2,k5,k4,⟨?_,k6.2⟩,fun q hq => ⟨?_,(ho q hq).2⟩⟩
 ·rw [epN_eps,if_neg (by omega),k6.1]
 ·rw [epN_eps,(ho q hq).1]
theorem cat_ok {Z : List Sp → Prop} : ∀ (fs : List TF),(∀ f ∈ fs,FragOk Z f) → ∀ (s s' : ThS) (a b b' : Nat),Shp Z s → catT fs s b = some (s',b') → b < s.n → a ≤ b → zero s b → (∀ q : Nat,q < s.n → q ≠ b → True) →
    Shp Z s' ∧ s.n ≤ s'.n ∧ b' < s'.n ∧ (b' = b ∨ s.n ≤ b') ∧ zero s' b' ∧ (∀ q : Nat,q < s.n → q ≠ b → epN s' q = epN s q ∧ edN s' q = edN s q)
  | [],_,s,s',a,b,b',h,e,hb,hab,hz,_ => by
    simp only [catT,Option.some.injEq,Prod.mk.injEq] at e
    obtain ⟨rfl,rfl⟩ := e
    exact ⟨h,Nat.le_refl _,hb,.inl rfl,hz,fun q _ _ => ⟨rfl,rfl⟩⟩
  | f :: fs,hf,s,s',a,b,b',h,e,hb,hab,hz,_ => by
    rw [catT] at e
    obtain ⟨⟨s1,x,y⟩,e1,e2⟩ := Option.bind_eq_some_iff.1 e
    simp only at e2
    obtain ⟨k1,k2,k3,k4,k5,k6,k7⟩ := frag_at (hf f List.mem_cons_self) h e1 hb (by rw [hz.1]; omega) hz.2
    obtain ⟨m1,m2,m3,m4,m5,m6⟩ := cat_ok fs (fun g hg => hf g (List.mem_cons_of_mem _ hg)) _ _ 0 _ _ k1 e2 k5 (Nat.zero_le _) k6 (fun _ _ _ => trivial)
    have hn : (epsT s1 b x).n = s1.n := rfl
    rw [hn] at m2 m4 m6
    refine ⟨m1,by omega,m3,by omega,m5,fun q hq hqb => ?_⟩
    have h1 := m6 q (by omega) (by omega)
    have h2 := k7 q hq
    rw [if_neg hqb] at h2
    omega
theorem naltF_ok {Z : List Sp → Prop} (e : Nat) : ∀ (fs : List TF),(∀ f ∈ fs,FragOk Z f) → ∀ (s s' : ThS) (a : Nat),Shp Z s → altT e fs s a = some s' → a < s.n → e < s.n → e ≠ a → edN s a = 0 → epN s a + min fs.length 2 ≤ 2 → zero s e →
    Shp Z s' ∧ s.n ≤ s'.n ∧ zero s' e ∧ (∀ q : Nat,q < s.n → q ≠ a → epN s' q = epN s q ∧ edN s' q = edN s q)
  | [],_,s,s',a,h,h1,_,_,_,_,_,hz => by
    simp only [altT,Option.some.injEq] at h1
    subst h1
    exact ⟨h,Nat.le_refl _,hz,fun q _ _ => ⟨rfl,rfl⟩⟩
  | f :: fs,hf,s,s',a,h,h1,ha,he,hea,hda,hpa,hz => by
    rw [altT] at h1
    obtain ⟨⟨s1,x,y⟩,e1,e2⟩ := Option.bind_eq_some_iff.1 h1
    simp only at e2
    rw [List.length_cons] at hpa
    obtain ⟨k1,k2,k3,k4,k5,k6,k7⟩ := frag_at (hf f List.mem_cons_self) h e1 ha (by omega) hda
    have hn : (epsT s1 a x).n = s1.n := rfl
    have hke := k7 e he
    rw [if_neg hea] at hke
    have hka := k7 a ha
    rw [if_pos rfl] at hka
    have k8 := k1.eps (a := y) (b := e) (by omega) (by omega) (by rw [k6.1]; omega) k6.2
    have k9 : ∀ q : Nat,q < s.n → epN (epsT (epsT s1 a x) y e) q = epN s q + (if q = a then 1 else 0) ∧ edN (epsT (epsT s1 a x) y e) q = edN s q := by
      intro q hq
      have := k7 q hq
      rw [epN_eps,edN_eps,if_neg (by omega)]
      omega
    have hn2 : (epsT (epsT s1 a x) y e).n = s1.n := rfl
    have ih := naltF_ok (Z := Z) e fs (fun g hg => hf g (List.mem_cons_of_mem _ hg))
    split at e2
    · rename_i hlen
      obtain ⟨⟨s2,q0⟩,e3,e4⟩ := Option.bind_eq_some_iff.1 e2
      simp only at e4
      obtain ⟨n1,n2,n3,n4,n5⟩ := k8.new e3
      have ha9 := k9 a ha
      rw [if_pos rfl] at ha9
      have he9 := k9 e he
      rw [if_neg hea] at he9
      have n6 := n1.eps (a := a) (b := q0) (by omega) (by omega) (by rw [(n4 a).1]; omega) (by rw [(n4 a).2]; omega)
      have hn3 : (epsT s2 a q0).n = s2.n := rfl
      have hq0 : epN (epsT s2 a q0) q0 = 0 ∧ edN (epsT s2 a q0) q0 = 0 := ⟨by rw [epN_eps,if_neg (by omega)]; exact n5.1,n5.2⟩
      obtain ⟨m1,m2,m3,m4⟩ := ih _ _ _ n6 e4 (by omega) (by omega) (by omega) hq0.2 (by rw [hq0.1]; omega) ⟨by rw [epN_eps,if_neg (by omega),(n4 e).1,he9.1,hz.1],by rw [edN_eps,(n4 e).2,he9.2,hz.2]⟩
      refine ⟨m1,by omega,m3,fun q hq hqa => ?_⟩
      have g1 := m4 q (by omega) (by omega)
      have g2 := n4 q
      have g3 := k9 q hq
      rw [if_neg hqa] at g3
      rw [epN_eps,edN_eps,if_neg hqa] at g1
      omega
    · rename_i hlen
      have ha9 := k9 a ha
      rw [if_pos rfl] at ha9
      have he9 := k9 e he
      rw [if_neg hea] at he9
      obtain ⟨m1,m2,m3,m4⟩ := ih _ _ _ k8 e2 (by omega) (by omega) hea (by omega) (by omega) ⟨by rw [he9.1,hz.1],by rw [he9.2,hz.2]⟩
      refine ⟨m1,by omega,m3,fun q hq hqa => ?_⟩
      have g1 := m4 q (by omega) hqa
      have g3 := k9 q hq
      rw [if_neg hqa] at g3
      omega
theorem copy_ok {Z : List Sp → Prop} {f : TF} (hf : FragOk Z f) {s s' : ThS} {b b' : Nat} {out : Bool} (h : Shp Z s) (e : copyT f s b out = some (s',b')) (hb : b < s.n) (hz : zero s b) :
  Shp Z s' ∧ s.n ≤ s'.n ∧ b' < s'.n ∧ s.n ≤ b' ∧ zero s' b' ∧ (∀ q : Nat,q < s.n → q ≠ b → epN s' q = epN s q ∧ edN s' q = edN s q) := by
 unfold copyT at e
 obtain ⟨⟨s1,x,y⟩,e1,e2⟩ := Option.bind_eq_some_iff.1 e
 simp only at e2
 obtain ⟨k1,k2,k3,k4,k5,k6,k7⟩ := frag_at hf h e1 hb (by rw [hz.1]; omega) hz.2
 have hn : (epsT s1 b x).n = s1.n := rfl
 split at e2
 ·obtain ⟨⟨s2,q0⟩,e3,e4⟩ := Option.bind_eq_some_iff.1 e2
  simp only [Option.some.injEq,Prod.mk.injEq] at e4
  obtain ⟨rfl,rfl⟩ := e4
  obtain ⟨n1,n2,n3,n4,n5⟩ := k1.new e3
  have hb7 := k7 b hb
  rw [if_pos rfl] at hb7
  have n6 := n1.eps (a := b) (b := q0) (by omega) (by omega) (by rw [(n4 b).1,hb7.1,hz.1]; omega) (by rw [(n4 b).2,hb7.2,hz.2])
  have hn3 : (epsT s2 b q0).n = s2.n := rfl
  have n7 := n6.eps (a := y) (b := q0) (by omega) (by omega) (by rw [epN_eps,if_neg (by omega),(n4 y).1,k6.1]; omega) (by rw [edN_eps,(n4 y).2,k6.2])
  have hn4 : (epsT (epsT s2 b q0) y q0).n = s2.n := rfl
  refine ⟨n7,by omega,by omega,by omega,⟨by rw [epN_eps,epN_eps,if_neg (by omega),if_neg (by omega)]; exact n5.1,n5.2⟩,fun q hq hqb => ?_⟩
  have g1 := k7 q hq
  rw [if_neg hqb] at g1
  have g2 := n4 q
  rw [epN_eps,epN_eps,edN_eps,edN_eps,if_neg hqb,if_neg (by omega)]
  omega
 ·simp only [Option.some.injEq,Prod.mk.injEq] at e2
  obtain ⟨rfl,rfl⟩ := e2
  refine ⟨k1,by omega,by omega,k4,k6,fun q hq hqb => ?_⟩
  have g1 := k7 q hq
  rw [if_neg hqb] at g1
  omega
theorem rep_ok {Z : List Sp → Prop} {f : TF} (hf : FragOk Z f) {mn : Int} {s : ThS} {b : Nat} (h : Shp Z s) (hb : b < s.n) (hz : zero s b) : ∀ (k : Nat) (s' : ThS) (b' : Nat),repT f mn s b k = some (s',b') →
    Shp Z s' ∧ s.n ≤ s'.n ∧ b' < s'.n ∧ (b' = b ∨ s.n ≤ b') ∧ zero s' b' ∧ (∀ q : Nat,q < s.n → q ≠ b → epN s' q = epN s q ∧ edN s' q = edN s q)
  | 0,s',b',e => by
    simp only [repT,Option.some.injEq,Prod.mk.injEq] at e
    obtain ⟨rfl,rfl⟩ := e
    exact ⟨h,Nat.le_refl _,hb,.inl rfl,hz,fun q _ _ => ⟨rfl,rfl⟩⟩
  | k + 1,s',b',e => by
    rw [repT] at e
    obtain ⟨⟨s1,b1⟩,e1,e2⟩ := Option.bind_eq_some_iff.1 e
    simp only at e2
    obtain ⟨k1,k2,k3,k4,k5,k6⟩ := rep_ok hf h hb hz k s1 b1 e1
    obtain ⟨m1,m2,m3,m4,m5,m6⟩ := copy_ok hf k1 e2 k3 k5
    refine ⟨m1,by omega,m3,by omega,m5,fun q hq hqb => ?_⟩
    have g1 := k6 q hq hqb
    have g2 := m6 q (by omega) (by omega)
    omega
theorem node_frag {Z : List Sp → Prop} {k : Int} {z : List Sp} {mn mx : Int} {fs : List TF} (hz : k = 2 → Z z) (hf : ∀ f ∈ fs,FragOk Z f) : FragOk Z (nodeT k z mn mx fs) := by
  intro s s' a b h e
  unfold nodeT at e
  obtain ⟨⟨s1,a1⟩,e1,e2⟩ := Option.bind_eq_some_iff.1 e
  simp only at e2
  obtain ⟨n1,n2,n3,n4,n5⟩ := h.new e1
  subst n2
  have old : ∀ s2 : ThS,Shp Z s2 → s1.n ≤ s2.n → (∀ q : Nat,q < s1.n → q ≠ s.n → epN s2 q = epN s1 q ∧ edN s2 q = edN s1 q) → Stp Z s s2 s.n := fun s2 g1 g2 g3 => ⟨g1,by omega,fun q hq hqa => by
    have g4 := g3 q (by omega) hqa
    have g5 := n4 q
    omega⟩
  split at e2
  · obtain ⟨⟨s2,b2⟩,e3,e4⟩ := Option.bind_eq_some_iff.1 e2
    simp only [Option.some.injEq,Prod.mk.injEq] at e4
    obtain ⟨rfl,rfl,rfl⟩ := e4
    obtain ⟨m1,m2,m3,m4,m5⟩ := n1.new e3
    exact ⟨old _ m1 (by omega) fun q _ _ => m4 q,rfl,by omega,by omega,by omega,m5⟩
  split at e2
  · simp only [Option.some.injEq,Prod.mk.injEq] at e2
    obtain ⟨rfl,rfl,rfl⟩ := e2
    exact ⟨old _ n1 (Nat.le_refl _) fun q _ _ => ⟨rfl,rfl⟩,rfl,by omega,by omega,Nat.le_refl _,n5⟩
  split at e2
  · rename_i hk
    obtain ⟨⟨s2,b2⟩,e3,e4⟩ := Option.bind_eq_some_iff.1 e2
    simp only [Option.some.injEq,Prod.mk.injEq] at e4
    obtain ⟨rfl,rfl,rfl⟩ := e4
    obtain ⟨m1,m2,m3,m4,m5⟩ := n1.new e3
    have hed : ∀ q : Nat,edN (edgeT s2 s.n b2 z) q = edN s2 q + (if q = s.n then 1 else 0) := by
      intro q
      unfold edN edgeT
      rw [List.countP_append,List.countP_singleton]
      congr 1
      by_cases h : q = s.n
      · subst h; simp
      · rw [if_neg h]; simp; omega
    have hep : ∀ q : Nat,epN (edgeT s2 s.n b2 z) q = epN s2 q := fun q => rfl
    have h0 := m4 s.n
    refine ⟨old _ ⟨m1.nl,m1.ep,fun p hp => ?_,fun q => ?_⟩ (by show s1.n ≤ s2.n; omega) fun q _ hq => ?_,rfl,by show s.n < s2.n; omega,by show b2 < s2.n; omega,by omega,⟨m5.1,?_⟩⟩
    · rcases List.mem_append.1 hp with h3 | h3
      · exact m1.ed p h3
      · rw [List.mem_singleton.1 h3]
        refine ⟨?_,?_,hz hk⟩
        · show 0 ≤ (s.n : Int) ∧ (s.n : Int) < (s2.n : Int); omega
        · show 0 ≤ (b2 : Int) ∧ (b2 : Int) < (s2.n : Int); omega
    · have := m1.dg q
      rw [hed,hep]
      split
      · rename_i e; subst e
        have := n5.1; have := n5.2
        omega
      · omega
    · have := m4 q
      rw [hed,hep,if_neg hq]
      omega
    · rw [hed,if_neg (by omega)]; exact m5.2
  split at e2
  · obtain ⟨⟨s2,b2⟩,e3,e4⟩ := Option.bind_eq_some_iff.1 e2
    simp only [Option.some.injEq,Prod.mk.injEq] at e4
    obtain ⟨rfl,rfl,rfl⟩ := e4
    obtain ⟨m1,m2,m3,m4,m5,m6⟩ := cat_ok fs hf _ _ 0 _ _ n1 e3 (by omega) (Nat.zero_le _) n5 (fun _ _ _ => trivial)
    exact ⟨old _ m1 m2 m6,rfl,by omega,m3,by omega,m5⟩
  split at e2
  · obtain ⟨⟨s2,b2⟩,e3,e4⟩ := Option.bind_eq_some_iff.1 e2
    simp only at e4
    obtain ⟨s3,e5,e6⟩ := Option.bind_eq_some_iff.1 e4
    simp only [Option.some.injEq,Prod.mk.injEq] at e6
    obtain ⟨rfl,rfl,rfl⟩ := e6
    obtain ⟨m1,m2,m3,m4,m5⟩ := n1.new e3
    have h0 := m4 s.n
    have hz5 := n5.1
    have hz6 := n5.2
    obtain ⟨q1,q2,q3,q4⟩ := naltF_ok b2 fs hf _ _ _ m1 e5 (by omega) (by omega) (by omega) (by omega) (by omega) m5
    exact ⟨old _ q1 (by omega) fun q hq hqa => by have g1 := q4 q (by omega) hqa; have g2 := m4 q; omega,rfl,by omega,by omega,by omega,q3⟩
  split at e2
  · cases fs with
    | nil => cases e2
    | cons f fs =>
      simp only at e2
      obtain ⟨⟨s2,x,y⟩,e3,e4⟩ := Option.bind_eq_some_iff.1 e2
      simp only [Option.some.injEq,Prod.mk.injEq] at e4
      obtain ⟨rfl,rfl,rfl⟩ := e4
      obtain ⟨k1,k2,k3,k4,k5,k6,k7⟩ := frag_at (hf f List.mem_cons_self) n1 e3 (by omega) (by rw [n5.1]; omega) n5.2
      have hn : (epsT s2 s.n x).n = s2.n := rfl
      exact ⟨old _ k1 (by omega) fun q hq hqa => by have g := k7 q hq; rw [if_neg hqa] at g; omega,rfl,by omega,by omega,by omega,k6⟩
  split at e2
  · cases fs with
    | nil => cases e2
    | cons f fs =>
      simp only at e2
      obtain ⟨⟨s2,x,y⟩,e3,e4⟩ := Option.bind_eq_some_iff.1 e2
      simp only at e4
      obtain ⟨⟨s3,q0⟩,e5,e6⟩ := Option.bind_eq_some_iff.1 e4
      simp only [Option.some.injEq,Prod.mk.injEq] at e6
      obtain ⟨rfl,rfl,rfl⟩ := e6
      obtain ⟨k1,k2,k3,k4,k5,k6⟩ := hf f List.mem_cons_self s1 s2 x y n1 e3
      obtain ⟨m1,m2,m3,m4,m5⟩ := k1.sh.new e5
      have ho := k1.old s.n (by omega) (by omega)
      have hz5 := n5.1
      have hz6 := n5.2
      have h0 := m4 s.n
      have g1 := m1.eps (a := s.n) (b := x) (by omega) (by omega) (by omega) (by omega)
      have hn1 : (epsT s3 s.n x).n = s3.n := rfl
      have g2 := g1.eps (a := s.n) (b := q0) (by omega) (by omega) (by rw [epN_eps,if_pos rfl]; omega) (by rw [edN_eps]; omega)
      have hn2 : (epsT (epsT s3 s.n x) s.n q0).n = s3.n := rfl
      have hy := m4 y
      have hy1 := k6.1
      have hy2 := k6.2
      have g3 := g2.eps (a := y) (b := s.n) (by omega) (by omega) (by rw [epN_eps,epN_eps,if_neg (by omega)]; omega) (by rw [edN_eps,edN_eps]; omega)
      have hn3 : (epsT (epsT (epsT s3 s.n x) s.n q0) y s.n).n = s3.n := rfl
      refine ⟨old _ g3 (by omega) fun q hq hqa => ?_,rfl,by omega,by omega,by omega,⟨by rw [epN_eps,epN_eps,epN_eps,if_neg (by omega),if_neg (by omega)]; exact m5.1,m5.2⟩⟩
      have t1 := k1.old q hq (by omega)
      have t2 := m4 q
      rw [epN_eps,epN_eps,epN_eps,edN_eps,edN_eps,edN_eps,if_neg hqa,if_neg (by omega)]
      omega
  · cases fs with
    | nil =>
      simp only at e2
      split at e2
      · simp only [Option.some.injEq,Prod.mk.injEq] at e2
        obtain ⟨rfl,rfl,rfl⟩ := e2
        exact ⟨old _ n1 (Nat.le_refl _) fun q _ _ => ⟨rfl,rfl⟩,rfl,by omega,by omega,Nat.le_refl _,n5⟩
      · cases e2
    | cons f fs =>
      simp only at e2
      obtain ⟨⟨s2,b2⟩,e3,e4⟩ := Option.bind_eq_some_iff.1 e2
      simp only [Option.some.injEq,Prod.mk.injEq] at e4
      obtain ⟨rfl,rfl,rfl⟩ := e4
      obtain ⟨m1,m2,m3,m4,m5,m6⟩ := rep_ok (hf f List.mem_cons_self) n1 (by omega) n5 _ _ _ e3
      exact ⟨old _ m1 m2 m6,rfl,by omega,m3,by omega,m5⟩
theorem siz3 : Siz Tryz.prog 3 1 := by unfold Siz; kernel_rfl
theorem byt3 : Byt Tryz.prog 3 8 := by unfold Byt; kernel_rfl
theorem zer3 : Zer Tryz.prog 3 (.int .i64 0) := by unfold Zer; kernel_rfl
theorem flat3 : flatB Tryz.prog 3 = true := by kernel_rfl
theorem siz4 : Siz Tryz.prog 4 1 := by unfold Siz; kernel_rfl
theorem byt4 : Byt Tryz.prog 4 1 := by unfold Byt; kernel_rfl
theorem zer4 : Zer Tryz.prog 4 (.bool false) := by unfold Zer; kernel_rfl
theorem flat4 : flatB Tryz.prog 4 = true := by kernel_rfl
theorem siz5 : Siz Tryz.prog 5 1 := by unfold Siz; kernel_rfl
theorem flat5 : flatB Tryz.prog 5 = true := by kernel_rfl
theorem siz22 : Siz Tryz.prog 22 1 := by unfold Siz; kernel_rfl
theorem byt22 : Byt Tryz.prog 22 24 := by unfold Byt; kernel_rfl
theorem zer22 : Zer Tryz.prog 22 (.slice none 0 0) := by unfold Zer; kernel_rfl
theorem flat22 : flatB Tryz.prog 22 = true := by kernel_rfl
theorem siz24 : Siz Tryz.prog 24 1 := by unfold Siz; kernel_rfl
theorem byt24 : Byt Tryz.prog 24 24 := by unfold Byt; kernel_rfl
theorem zer24 : Zer Tryz.prog 24 (.slice none 0 0) := by unfold Zer; kernel_rfl
theorem flat24 : flatB Tryz.prog 24 = true := by kernel_rfl
theorem siz25 : Siz Tryz.prog 25 1 := by unfold Siz; kernel_rfl
theorem flat25 : flatB Tryz.prog 25 = true := by kernel_rfl
theorem siz27 : Siz Tryz.prog 27 6 := by unfold Siz; kernel_rfl
theorem zer27 : Zer Tryz.prog 27 (.agg #[(.int .i64 0),(.slice none 0 0),(.slice none 0 0),(.int .i64 0),(.int .i64 0),(.bool false)]) := by unfold Zer; kernel_rfl
theorem agg27 : aggB Tryz.prog 27 = true := by kernel_rfl
theorem siz30 : Siz Tryz.prog 30 1 := by unfold Siz; kernel_rfl
theorem zer30 : Zer Tryz.prog 30 (.int .i64 0) := by unfold Zer; kernel_rfl
theorem flat30 : flatB Tryz.prog 30 = true := by kernel_rfl
theorem siz34 : Siz Tryz.prog 34 1 := by unfold Siz; kernel_rfl
theorem flat34 : flatB Tryz.prog 34 = true := by kernel_rfl
theorem siz35 : Siz Tryz.prog 35 1 := by unfold Siz; kernel_rfl
theorem byt35 : Byt Tryz.prog 35 24 := by unfold Byt; kernel_rfl
theorem zer35 : Zer Tryz.prog 35 (.slice none 0 0) := by unfold Zer; kernel_rfl
theorem flat35 : flatB Tryz.prog 35 = true := by kernel_rfl
theorem siz37 : Siz Tryz.prog 37 5 := by unfold Siz; kernel_rfl
theorem zer37 : Zer Tryz.prog 37 (.agg #[(.int .i64 0),(.int .i64 0),(.slice none 0 0),(.slice none 0 0),(.slice none 0 0)]) := by unfold Zer; kernel_rfl
theorem agg37 : aggB Tryz.prog 37 = true := by kernel_rfl
theorem siz47 : Siz Tryz.prog 47 2 := by unfold Siz; kernel_rfl
theorem byt47 : Byt Tryz.prog 47 16 := by unfold Byt; kernel_rfl
theorem zer47 : Zer Tryz.prog 47 (.agg #[(.int .i64 0),(.int .i64 0)]) := by unfold Zer; kernel_rfl
theorem agg47 : aggB Tryz.prog 47 = true := by kernel_rfl
theorem siz55 : Siz Tryz.prog 55 1 := by unfold Siz; kernel_rfl
theorem flat55 : flatB Tryz.prog 55 = true := by kernel_rfl
theorem siz56 : Siz Tryz.prog 56 1 := by unfold Siz; kernel_rfl
theorem byt56 : Byt Tryz.prog 56 8 := by unfold Byt; kernel_rfl
theorem zer56 : Zer Tryz.prog 56 (.pointer none) := by unfold Zer; kernel_rfl
theorem flat56 : flatB Tryz.prog 56 = true := by kernel_rfl
theorem siz62 : Siz Tryz.prog 62 1 := by unfold Siz; kernel_rfl
theorem flat62 : flatB Tryz.prog 62 = true := by kernel_rfl
theorem siz63 : Siz Tryz.prog 63 1 := by unfold Siz; kernel_rfl
theorem flat63 : flatB Tryz.prog 63 = true := by kernel_rfl
theorem siz67 : Siz Tryz.prog 67 3 := by unfold Siz; kernel_rfl
theorem zer67 : Zer Tryz.prog 67 (.agg #[(.bool false),(.slice none 0 0),(.slice none 0 0)]) := by unfold Zer; kernel_rfl
theorem agg67 : aggB Tryz.prog 67 = true := by kernel_rfl
theorem siz72 : Siz Tryz.prog 72 2 := by unfold Siz; kernel_rfl
theorem byt72 : Byt Tryz.prog 72 16 := by unfold Byt; kernel_rfl
theorem zer72 : Zer Tryz.prog 72 (.agg #[(.int .i64 0),(.int .i64 0)]) := by unfold Zer; kernel_rfl
theorem agg72 : aggB Tryz.prog 72 = true := by kernel_rfl
theorem siz74 : Siz Tryz.prog 74 3 := by unfold Siz; kernel_rfl
theorem byt74 : Byt Tryz.prog 74 40 := by unfold Byt; kernel_rfl
theorem zer74 : Zer Tryz.prog 74 (.agg #[(.int .i64 0),(.int .i64 0),(.slice none 0 0)]) := by unfold Zer; kernel_rfl
theorem agg74 : aggB Tryz.prog 74 = true := by kernel_rfl
theorem siz77 : Siz Tryz.prog 77 1 := by unfold Siz; kernel_rfl
theorem zer77 : Zer Tryz.prog 77 (.slice none 0 0) := by unfold Zer; kernel_rfl
theorem flat77 : flatB Tryz.prog 77 = true := by kernel_rfl
theorem siz106 : Siz Tryz.prog 106 25 := by unfold Siz; kernel_rfl
theorem zer106 : Zer Tryz.prog 106 (.agg #[(.int .u32 0),(.int .u32 0),(.int .u32 0),(.int .u32 0),(.int .u32 0),(.int .u32 0),(.int .u32 0),(.int .u32 0),(.int .u32 0),(.int .u32 0),(.int .u32 0),(.int .u32 0),(.int .u32 0),(.int .u32 0),(.int .u32 0),(.int .u32 0),(.int .u32 0),(.int .u32 0),(.int .u32 0),(.int .u32 0),(.int .u32 0),(.int .u32 0),(.int .u32 0),(.int .u32 0),(.int .u32 0)]) := by unfold Zer; kernel_rfl
theorem agg106 : aggB Tryz.prog 106 = true := by kernel_rfl
theorem mixed : Tryz.prog.follows .mixedOrders = true := by kernel_rfl
theorem walk_c {S : Type} (F : S → Re → Bool × S) (Inv : S → World → Prop) (M : Nat → Prop) (bd : Nat) (fv : Value) (wb : World)
    (hM : ∀ b,M b → wb.heap.size ≤ b ∧ b < bd) (hst : ∀ s w w',Inv s w → Ext w w' → Inv s w')
    (hf : ∀ s w t vs,bd ≤ w.heap.size → Ext wb w → Inv s w → ReAt wb t vs → CallV Tryz.prog fv #[.agg vs.toArray] w fun v w' => v = .bool (F s t).1 ∧ Chg M w w' ∧ Inv (F s t).2 w') :
    ∀ n t,t.size ≤ n → ∀ s w0 vs,bd ≤ w0.heap.size → Ext wb w0 → Inv s w0 → ReAt wb t vs →
      Ret Tryz.prog 50 #[.agg vs.toArray,fv] w0 fun v w' => v = .bool (walkF F t s).1 ∧ Chg M w0 w' ∧ Inv (walkF F t s).2 w' := by
  have toExt : ∀ {w w' : World},Ext wb w → Chg M w w' → Ext wb w' := fun e c => Chg.step e c fun x hx hm => by have := (hM x hm).1; omega
  intro n
  induction n with
  | zero => intro t ht; have := t.size_pos; omega
  | succ n ih =>
  intro t hn s w0 vs hbd hE hI ht
  obtain ⟨sa,sc,aa,ac,rfl,hset,hlen,hargs⟩ := ht.form
  rw [walkF_eq]
  refine Ret_of Tryz.func50 rfl Tryz.ntmps50 (Nat.le_of_ble_eq_true rfl) ?_
  have E : Chg M w0 w0 := Chg.refl _ _
  refine Wp_seq_region ?_
  refine s_box (v := (.agg (R6 t sa sc aa ac))) (c := (R6 t sa sc aa ac)) (by decide) rfl rfl ?_
  intro b1 w1 N1
  have F1 := N1.ge E
  replace hI := hst _ _ _ hI N1.ext
  replace E := E.ext N1.ext
  have B1 := N1.blk
  refine qA (.bool false) rfl ?_
  refine WpL_nil (Wp_seq (Wp_seq_region ?_))
  refine qM fv rfl ?_
  refine qV (r_loadAgg (vs := [(I6 t.kind),(.slice sa t.set.length sc),(.slice aa t.args.length ac),(I6 t.mn),(I6 t.mx),(.bool t.neg)]) rfl agg27 siz27 rfl (B1.cells rfl)) ?_
  refine WpL_callV (fv := fv) (vs := [(.agg (R6 t sa sc aa ac))]) (by decide) rfl rfl (hf s _ t _ (by have := N1.size; omega) (hE.trans N1.ext) hI ht) ?_
  rintro _ w2 ⟨rfl,C2,hI⟩
  replace B1 := C2.keep (fun h => by have := (hM _ h).2; omega) B1
  replace E := E.trans C2
  have hE2 : Ext wb w2 := toExt hE E
  have z2 : bd ≤ w2.heap.size := by have := C2.size; have := N1.size; omega
  refine qV (r_not (b := (F s t).1) rfl) ?_
  refine WpL_nil ?_
  refine Wp_cond (b := !((F s t).1)) rfl (fun h => ?_) (fun h => ?_)
  · have kh := h
    replace h := by simpa using h
    refine Wp_seq_region ?_
    refine qA (.bool false) rfl ?_
    refine WpL_nil (Wp_ret (thn_ret ?_))
    refine fin_tmp Tryz.results50 (v := (.bool false)) rfl ?_
    exact ⟨by rw [if_neg (by simp [h])],E,by rw [if_neg (by simp [h])]; exact hI⟩
  · have kh := h
    replace h := by simpa using h
    rw [if_pos (by simpa using h)]
    generalize (F s t).2 = s1 at hI ⊢
    refine Wp_skip (thn_normal (Wp_seq (Wp_seq_region ?_)))
    refine qF b1 0 2 rfl Tryz.underlying27 rfl siz25 rfl ?_
    refine qV (r_load (v := (.slice aa t.args.length ac)) rfl flat25 (B1.cell rfl)) ?_
    refine qV (r_lenSlice (ad := aa) (n := t.args.length) (cap := ac) Tryz.underlying25 rfl) ?_
    refine qM (I6 0) rfl ?_
    refine WpL_nil (Wp_block ?_)
    refine Wp_loop (fun nn_ σ W3 => ∃ (k : Nat) (s' : S),(∃ jj_,σ = upds jj_ [(1,fv),(12,(.slice aa t.args.length ac)),(13,(I6 (t.args.length : Int))),(14,(I6 (k : Int)))]) ∧ Chg M w0 W3 ∧ Blk W3 b1 (R6 t sa sc aa ac) 27 ∧ (k ≤ t.args.length) ∧ (bd ≤ W3.heap.size) ∧ (Inv s' W3) ∧ (walkFs F t.args s1 = walkFs F (t.args.drop k) s') ∧ nn_ = t.args.length - k) (n := t.args.length - 0) ?_ ?_
    · exact ⟨0,s1,Fits.out ⟨rfl,rfl,rfl,rfl,trivial⟩,E,B1,Nat.zero_le _,z2,hI,rfl,rfl⟩
    · clear E B1
      rintro _ _ W3 ⟨k,s',⟨j3,rfl⟩,E,B1,hk,hz,hI,hrel,rfl⟩
      refine Wp_seq_region ?_
      refine qV (r_lss (k := .i64) (a := (k : Int)) (b := (t.args.length : Int)) rfl rfl) ?_
      refine WpL_nil (Wp_seq ?_)
      refine Wp_cond (b := decide (((k : Int) : Int) < (t.args.length : Int))) rfl (fun hlt => ?_) (fun hlt => ?_)
      · have khlt := hlt
        replace hlt := of_decide_eq_true hlt
        have hlt' : k < t.args.length := by omega
        obtain ⟨x,hx⟩ : ∃ x,t.args[k]? = some x := ⟨_,List.getElem?_eq_getElem hlt'⟩
        obtain ⟨b,o,rfl,hres⟩ : ∃ b o,aa = some ⟨b,o,none⟩ ∧ ResAt wb b o t.args := by
          rcases hargs with h | h
          · rw [h] at hlt'; simp at hlt'
          · exact h
        obtain ⟨us,hus,hxt⟩ := hres.get hx
        have hEW : Ext wb _ := toExt hE E
        refine Wp_skip (thn_normal (Wp_seq (Wp_block (Wp_seq_region ?_))))
        refine qV (r_indexSlice (b := b) (o := o) (len := t.args.length) (cap := ac) (i := k) (o' := o + k * 6) rfl rfl rfl Tryz.underlying25 siz27 (by omega) (by omega)) ?_
        refine qV (r_loadAgg (vs := us) rfl agg27 siz27 hxt.len (hus.ext hEW)) ?_
        have hsz := Re.size_arg hx
        refine s_allocStore (v := (.agg us.toArray)) (c := us.toArray) (n := 6) (by decide) zer27 rfl siz27 rfl rfl (by simpa using hxt.len) (by simpa using ReAt.one hxt) ?_
        intro b5 w5 N5
        have F5 := N5.ge E
        have O5_b1 := N5.lt B1
        replace B1 := N5.keep B1
        replace hI := hst _ _ _ hI N5.ext
        replace E := E.ext N5.ext
        have B5 := N5.blk
        refine WpL_nil (Wp_seq_region ?_)
        refine qV (r_loadAgg (vs := us) rfl agg27 siz27 hxt.len (B5.cells (by simp))) ?_
        refine qM fv rfl ?_
        refine WpL_enter rfl rfl (by decide) (r_callF (vs := [(.agg us.toArray),fv]) Tryz.func50 kQ kQ rfl) (ih x (by omega) s' _ us (by have := N5.size; omega) (toExt hE E) hI hxt) ?_
        rintro _ w9 ⟨rfl,C9,hI⟩
        replace B1 := C9.keep (fun h => by have := (hM _ h).2; omega) B1
        replace B5 := C9.keep (fun h => by have := (hM _ h).2; omega) B5
        replace E := E.trans C9
        have hdr : t.args.drop k = x :: t.args.drop (k + 1) := by rw [List.drop_eq_getElem_cons hlt']; rw [List.getElem?_eq_getElem hlt'] at hx; cases hx; rfl
        rw [hdr,walkFs_cons] at hrel
        refine qV (r_not (b := (walkF F x s').1) rfl) ?_
        refine WpL_nil ?_
        refine Wp_cond (b := !((walkF F x s').1)) rfl (fun h2 => ?_) (fun h2 => ?_)
        · have kh2 := h2
          replace h2 := by simpa using h2
          refine Wp_seq_region ?_
          refine qA (.bool false) rfl ?_
          refine WpL_nil (Wp_ret (inB_ret (thn_ret (thn_ret (inB_ret (thn_ret ?_))))))
          refine fin_tmp Tryz.results50 (v := (.bool false)) rfl ?_
          exact ⟨by rw [hrel,if_neg (by simp [h2])],E,by rw [hrel,if_neg (by simp [h2])]; exact hI⟩
        · have kh2 := h2
          replace h2 := by simpa using h2
          rw [if_pos (by simpa using h2)] at hrel
          refine Wp_skip (inB_normal (thn_normal (Wp_region ?_)))
          refine qV (r_add (k := .i64) (a := (k : Int)) (b := 1) (c := (k : Int) + 1) rfl rfl (wI64 (by omega))) ?_
          refine qM (I6 ((k : Int) + 1)) rfl ?_
          refine WpL_nil (thn_normal ?_)
          exact ⟨t.args.length - (k + 1),by omega,k + 1,(walkF F x s').2,Fits.out ⟨rfl,rfl,rfl,rfl,trivial⟩,E,B1,(by omega),(by have := C9.size; have := N5.size; omega),hI,hrel,rfl⟩
      · have khlt := hlt
        replace hlt := of_decide_eq_false hlt
        have hkk : k = t.args.length := by omega
        rw [hkk,List.drop_length] at hrel
        refine Wp_exit (thn_exit (thn_exit (inB_here (thn_normal (Wp_seq_region ?_)))))
        refine qA (.bool true) rfl ?_
        refine WpL_nil (Wp_ret ?_)
        refine fin_tmp Tryz.results50 (v := (.bool true)) rfl ?_
        exact ⟨by rw [hrel]; rfl,E,by rw [hrel]; exact hI⟩
def validB (s : Int × Int) : Bool := (decide (0 ≤ s.1) && decide (s.1 ≤ s.2)) && decide (s.2 ≤ 1114111)
theorem valid_c (s : Int × Int) (w0 : World) :
  Ret Tryz.prog 93 #[.agg #[.int .i64 s.1,.int .i64 s.2]] w0 fun v w => v = .bool (validB s) ∧ Ext w0 w := by
 refine Ret_of Tryz.func93 rfl Tryz.ntmps93 (Nat.le_of_ble_eq_true rfl) ?_
 have E : Chg none1 w0 w0 := Chg.refl _ _
 refine Wp_seq_region ?_
 refine s_box (v := (.agg #[(I6 s.1),(I6 s.2)])) (c := #[(I6 s.1),(I6 s.2)]) (by decide) rfl rfl ?_
 intro b1 w1 N1
 have F1 := N1.ge E
 replace E := E.ext N1.ext
 have B1 := N1.blk
 refine qA (.bool false) rfl ?_
 refine WpL_nil (Wp_seq_region ?_)
 refine qF b1 0 0 rfl Tryz.underlying72 rfl siz3 rfl ?_
 refine qV (r_load (v := (I6 s.1)) rfl flat3 (B1.cell rfl)) ?_
 obtain ⟨e2,he2⟩ : ∃ e,(decide ((0 : Int) ≤ s.1)) = e := ⟨_,rfl⟩
 refine qV ((r_geq (k := .i64) (a := s.1) (b := 0) rfl rfl).trans (by rw [he2]; try rfl)) ?_
 refine qM (.bool e2) rfl ?_
 refine qG (.bool e2) (yU e2 (P6 b1 0)) (by cases e2 <;> first | exact gA | exact gB | exact .inl ⟨rfl,r_fieldAddr (b := b1) (o := 0) (o' := 0) rfl Tryz.underlying72 rfl siz3 rfl⟩) ?_
 refine qG (.bool e2) (yU e2 (I6 s.1)) (by cases e2 <;> first | exact gA | exact gB | exact .inl ⟨rfl,r_load (v := (I6 s.1)) rfl flat3 (B1.cell rfl)⟩) ?_
 refine qG (.bool e2) (yU e2 (P6 b1 1)) (by cases e2 <;> first | exact gA | exact gB | exact .inl ⟨rfl,r_fieldAddr (b := b1) (o := 0) (o' := 1) rfl Tryz.underlying72 rfl siz3 rfl⟩) ?_
 refine qG (.bool e2) (yU e2 (I6 s.2)) (by cases e2 <;> first | exact gA | exact gB | exact .inl ⟨rfl,r_load (v := (I6 s.2)) rfl flat3 (B1.cell rfl)⟩) ?_
 obtain ⟨e3,he3⟩ : ∃ e,(decide ((s.1 : Int) ≤ s.2)) = e := ⟨_,rfl⟩
 refine qG (.bool e2) (yU e2 (.bool e3)) (by cases e2 <;> first | exact gA | exact gB | exact .inl ⟨rfl,(r_leq (k := .i64) (a := s.1) (b := s.2) rfl rfl).trans (by rw [he3]; try rfl)⟩) ?_
 obtain ⟨e4,he4⟩ : ∃ e,(e2 && e3) = e := ⟨_,rfl⟩
 refine qV (r_pick (b := e2) (v := .bool e4) rfl (by rw [← he4]; cases e2 <;> rfl)) ?_
 refine qM (.bool e4) rfl ?_
 refine qG (.bool e4) (yU e4 (P6 b1 1)) (by cases e4 <;> first | exact gA | exact gB | exact .inl ⟨rfl,r_fieldAddr (b := b1) (o := 0) (o' := 1) rfl Tryz.underlying72 rfl siz3 rfl⟩) ?_
 refine qG (.bool e4) (yU e4 (I6 s.2)) (by cases e4 <;> first | exact gA | exact gB | exact .inl ⟨rfl,r_load (v := (I6 s.2)) rfl flat3 (B1.cell rfl)⟩) ?_
 obtain ⟨e5,he5⟩ : ∃ e,(decide ((s.2 : Int) ≤ 1114111)) = e := ⟨_,rfl⟩
 refine qG (.bool e4) (yU e4 (.bool e5)) (by cases e4 <;> first | exact gA | exact gB | exact .inl ⟨rfl,(r_leq (k := .i64) (a := s.2) (b := 1114111) rfl rfl).trans (by rw [he5]; try rfl)⟩) ?_
 obtain ⟨e6,he6⟩ : ∃ e,(e4 && e5) = e := ⟨_,rfl⟩
 refine qV (r_pick (b := e4) (v := .bool e6) rfl (by rw [← he6]; cases e4 <;> rfl)) ?_
 refine qA (.bool e6) rfl ?_
 refine WpL_nil ?_
 subst he6
 subst he5
 subst he4
 subst he3
 subst he2
 refine Wp_ret ?_
 refine fin_tmp Tryz.results93 (v := (.bool (((decide ((0 : Int) ≤ s.1)) && (decide ((s.1 : Int) ≤ s.2))) && (decide ((s.2 : Int) ≤ 1114111))))) rfl ?_
 exact ⟨rfl,E⟩
def okB (k n : Int) : Bool := if k = 3 ∨ k = 4 ∨ k = 7 then decide (2 ≤ n) else if k = 5 ∨ k = 6 ∨ k = 8 ∨ k = 9 ∨ k = 10 then decide (n = 1) else decide (n = 0)
def formB (t : Re) : Bool :=
 (((okB t.kind t.args.length && (decide (t.kind = 2) || decide ((t.set.length : Int) = 0))) && ((decide (t.kind = 6) || decide (t.kind = 9)) || decide (t.mn = 0))) && (decide (t.kind = 6) || decide (t.mx = 0))) && (decide (t.kind = 10) || !t.neg)
theorem form_c (wb w0 : World) (t : Re) (vs : List Value) (ht : ReAt wb t vs) :
  Ret Tryz.prog 106 #[.agg vs.toArray] w0 fun v w => v = .bool (formB t) ∧ Ext w0 w := by
 obtain ⟨sa,sc,aa,ac,rfl,hset,hlen,hargs⟩ := ht.form
 refine Ret_of Tryz.func106 rfl Tryz.ntmps106 (Nat.le_of_ble_eq_true rfl) ?_
 have E : Chg none1 w0 w0 := Chg.refl _ _
 refine Wp_seq_region ?_
 refine s_box (v := (.agg (R6 t sa sc aa ac))) (c := (R6 t sa sc aa ac)) (by decide) rfl rfl ?_
 intro b1 w1 N1
 have F1 := N1.ge E
 replace E := E.ext N1.ext
 have B1 := N1.blk
 refine qA (.bool false) rfl ?_
 refine WpL_nil (Wp_seq_region ?_)
 refine qF b1 0 2 rfl Tryz.underlying27 rfl siz25 rfl ?_
 refine qV (r_load (v := (.slice aa t.args.length ac)) rfl flat25 (B1.cell rfl)) ?_
 refine qV (r_lenSlice (ad := aa) (n := t.args.length) (cap := ac) Tryz.underlying25 rfl) ?_
 refine qA (I6 (t.args.length : Int)) rfl ?_
 refine WpL_nil (Wp_seq_region ?_)
 refine qM (I6 (t.args.length : Int)) rfl ?_
 refine qV (r_eql (k := .i64) (a := (t.args.length : Int)) (b := 0) rfl rfl) ?_
 refine qA (.bool (decide (((t.args.length : Int) : Int) = 0))) rfl ?_
 refine WpL_nil ?_
 refine Wp_cut (fun σ W2 => ∃ (ok : Bool),(∃ jj_,σ = upds jj_ [(1,(P6 b1 0)),(4,(.bool ok))]) ∧ Chg none1 w0 W2 ∧ Blk W2 b1 (R6 t sa sc aa ac) 27 ∧ (ok = okB t.kind t.args.length)) ?_ ?_
 ·skip
  refine Wp_seq_region ?_
  refine qF b1 0 0 rfl Tryz.underlying27 rfl siz3 rfl ?_
  refine qV (r_load (v := (I6 t.kind)) rfl flat3 (B1.cell rfl)) ?_
  refine WpL_nil (Wp_block (Wp_seq (Wp_seq_region ?_)))
  refine qV (r_eql (k := .i64) (a := t.kind) (b := 3) rfl rfl) ?_
  refine qA (.bool (decide ((t.kind : Int) = 3))) rfl ?_
  refine WpL_nil ?_
  refine Wp_cond (b := decide ((t.kind : Int) = 3)) rfl (fun hc3 => ?_) (fun hc3 => ?_)
  ·have khc3 := hc3
   replace hc3 := of_decide_eq_true hc3
   refine Wp_skip (thn_normal ?_)
   refine Wp_cond_true (congrArg Value.bool khc3) ?_
   refine Wp_region ?_
   refine qM (I6 (t.args.length : Int)) rfl ?_
   refine qV (r_geq (k := .i64) (a := (t.args.length : Int)) (b := 2) rfl rfl) ?_
   refine qA (.bool (decide ((2 : Int) ≤ (t.args.length : Int)))) rfl ?_
   refine WpL_nil (inB_normal (thn_normal ?_))
   exact ⟨(decide ((2 : Int) ≤ ((t.args.length : Nat) : Int))),Fits.out ⟨rfl,rfl,trivial⟩,E,B1,(by unfold okB; (repeat' split) <;> first | rfl | omega)⟩
  ·have khc3 := hc3
   replace hc3 := of_decide_eq_false hc3
   refine Wp_seq_region ?_
   refine qV (r_eql (k := .i64) (a := t.kind) (b := 4) rfl rfl) ?_
   refine qA (.bool (decide ((t.kind : Int) = 4))) rfl ?_
   refine WpL_nil ?_
   refine Wp_cond (b := decide ((t.kind : Int) = 4)) rfl (fun hc4 => ?_) (fun hc4 => ?_)
   ·have khc4 := hc4
    replace hc4 := of_decide_eq_true hc4
    refine Wp_skip (thn_normal ?_)
    refine Wp_cond_true (congrArg Value.bool khc4) ?_
    refine Wp_region ?_
    refine qM (I6 (t.args.length : Int)) rfl ?_
    refine qV (r_geq (k := .i64) (a := (t.args.length : Int)) (b := 2) rfl rfl) ?_
    refine qA (.bool (decide ((2 : Int) ≤ (t.args.length : Int)))) rfl ?_
    refine WpL_nil (inB_normal (thn_normal ?_))
    exact ⟨(decide ((2 : Int) ≤ ((t.args.length : Nat) : Int))),Fits.out ⟨rfl,rfl,trivial⟩,E,B1,(by unfold okB; (repeat' split) <;> first | rfl | omega)⟩
   ·have khc4 := hc4
    replace hc4 := of_decide_eq_false hc4
    refine Wp_region ?_
    refine qV (r_eql (k := .i64) (a := t.kind) (b := 7) rfl rfl) ?_
    refine qA (.bool (decide ((t.kind : Int) = 7))) rfl ?_
    refine WpL_nil (thn_normal ?_)
    refine Wp_cond (b := decide ((t.kind : Int) = 7)) rfl (fun hc5 => ?_) (fun hc5 => ?_)
    ·have khc5 := hc5
     replace hc5 := of_decide_eq_true hc5
     refine Wp_region ?_
     refine qM (I6 (t.args.length : Int)) rfl ?_
     refine qV (r_geq (k := .i64) (a := (t.args.length : Int)) (b := 2) rfl rfl) ?_
     refine qA (.bool (decide ((2 : Int) ≤ (t.args.length : Int)))) rfl ?_
     refine WpL_nil (inB_normal (thn_normal ?_))
     exact ⟨(decide ((2 : Int) ≤ ((t.args.length : Nat) : Int))),Fits.out ⟨rfl,rfl,trivial⟩,E,B1,(by unfold okB; (repeat' split) <;> first | rfl | omega)⟩
    ·have khc5 := hc5
     replace hc5 := of_decide_eq_false hc5
     refine Wp_seq (Wp_seq_region ?_)
     refine qV (r_eql (k := .i64) (a := t.kind) (b := 5) rfl rfl) ?_
     refine qA (.bool (decide ((t.kind : Int) = 5))) rfl ?_
     refine WpL_nil ?_
     refine Wp_cond (b := decide ((t.kind : Int) = 5)) rfl (fun hc6 => ?_) (fun hc6 => ?_)
     ·have khc6 := hc6
      replace hc6 := of_decide_eq_true hc6
      refine Wp_skip (thn_normal ?_)
      refine Wp_cond_true (congrArg Value.bool khc6) ?_
      refine Wp_region ?_
      refine qM (I6 (t.args.length : Int)) rfl ?_
      refine qV (r_eql (k := .i64) (a := (t.args.length : Int)) (b := 1) rfl rfl) ?_
      refine qA (.bool (decide (((t.args.length : Int) : Int) = 1))) rfl ?_
      refine WpL_nil (inB_normal (thn_normal ?_))
      exact ⟨(decide ((((t.args.length : Nat) : Int) : Int) = 1)),Fits.out ⟨rfl,rfl,trivial⟩,E,B1,(by unfold okB; (repeat' split) <;> first | rfl | omega)⟩
     ·have khc6 := hc6
      replace hc6 := of_decide_eq_false hc6
      refine Wp_seq_region ?_
      refine qV (r_eql (k := .i64) (a := t.kind) (b := 6) rfl rfl) ?_
      refine qA (.bool (decide ((t.kind : Int) = 6))) rfl ?_
      refine WpL_nil ?_
      refine Wp_cond (b := decide ((t.kind : Int) = 6)) rfl (fun hc7 => ?_) (fun hc7 => ?_)
      ·have khc7 := hc7
       replace hc7 := of_decide_eq_true hc7
       refine Wp_skip (thn_normal ?_)
       refine Wp_cond_true (congrArg Value.bool khc7) ?_
       refine Wp_region ?_
       refine qM (I6 (t.args.length : Int)) rfl ?_
       refine qV (r_eql (k := .i64) (a := (t.args.length : Int)) (b := 1) rfl rfl) ?_
       refine qA (.bool (decide (((t.args.length : Int) : Int) = 1))) rfl ?_
       refine WpL_nil (inB_normal (thn_normal ?_))
       exact ⟨(decide ((((t.args.length : Nat) : Int) : Int) = 1)),Fits.out ⟨rfl,rfl,trivial⟩,E,B1,(by unfold okB; (repeat' split) <;> first | rfl | omega)⟩
      ·have khc7 := hc7
       replace hc7 := of_decide_eq_false hc7
       refine Wp_seq_region ?_
       refine qV (r_eql (k := .i64) (a := t.kind) (b := 8) rfl rfl) ?_
       refine qA (.bool (decide ((t.kind : Int) = 8))) rfl ?_
       refine WpL_nil ?_
       refine Wp_cond (b := decide ((t.kind : Int) = 8)) rfl (fun hc8 => ?_) (fun hc8 => ?_)
       ·have khc8 := hc8
        replace hc8 := of_decide_eq_true hc8
        refine Wp_skip (thn_normal ?_)
        refine Wp_cond_true (congrArg Value.bool khc8) ?_
        refine Wp_region ?_
        refine qM (I6 (t.args.length : Int)) rfl ?_
        refine qV (r_eql (k := .i64) (a := (t.args.length : Int)) (b := 1) rfl rfl) ?_
        refine qA (.bool (decide (((t.args.length : Int) : Int) = 1))) rfl ?_
        refine WpL_nil (inB_normal (thn_normal ?_))
        exact ⟨(decide ((((t.args.length : Nat) : Int) : Int) = 1)),Fits.out ⟨rfl,rfl,trivial⟩,E,B1,(by unfold okB; (repeat' split) <;> first | rfl | omega)⟩
       ·have khc8 := hc8
        replace hc8 := of_decide_eq_false hc8
        refine Wp_seq_region ?_
        refine qV (r_eql (k := .i64) (a := t.kind) (b := 9) rfl rfl) ?_
        refine qA (.bool (decide ((t.kind : Int) = 9))) rfl ?_
        refine WpL_nil ?_
        refine Wp_cond (b := decide ((t.kind : Int) = 9)) rfl (fun hc9 => ?_) (fun hc9 => ?_)
        ·have khc9 := hc9
         replace hc9 := of_decide_eq_true hc9
         refine Wp_skip (thn_normal ?_)
         refine Wp_cond_true (congrArg Value.bool khc9) ?_
         refine Wp_region ?_
         refine qM (I6 (t.args.length : Int)) rfl ?_
         refine qV (r_eql (k := .i64) (a := (t.args.length : Int)) (b := 1) rfl rfl) ?_
         refine qA (.bool (decide (((t.args.length : Int) : Int) = 1))) rfl ?_
         refine WpL_nil (inB_normal (thn_normal ?_))
         exact ⟨(decide ((((t.args.length : Nat) : Int) : Int) = 1)),Fits.out ⟨rfl,rfl,trivial⟩,E,B1,(by unfold okB; (repeat' split) <;> first | rfl | omega)⟩
        ·have khc9 := hc9
         replace hc9 := of_decide_eq_false hc9
         refine Wp_region ?_
         refine qV (r_eql (k := .i64) (a := t.kind) (b := 10) rfl rfl) ?_
         refine qA (.bool (decide ((t.kind : Int) = 10))) rfl ?_
         refine WpL_nil (thn_normal ?_)
         refine Wp_cond (b := decide ((t.kind : Int) = 10)) rfl (fun hc10 => ?_) (fun hc10 => ?_)
         ·have khc10 := hc10
          replace hc10 := of_decide_eq_true hc10
          refine Wp_region ?_
          refine qM (I6 (t.args.length : Int)) rfl ?_
          refine qV (r_eql (k := .i64) (a := (t.args.length : Int)) (b := 1) rfl rfl) ?_
          refine qA (.bool (decide (((t.args.length : Int) : Int) = 1))) rfl ?_
          refine WpL_nil (inB_normal (thn_normal ?_))
          exact ⟨(decide ((((t.args.length : Nat) : Int) : Int) = 1)),Fits.out ⟨rfl,rfl,trivial⟩,E,B1,(by unfold okB; (repeat' split) <;> first | rfl | omega)⟩
         ·have khc10 := hc10
          replace hc10 := of_decide_eq_false hc10
          refine Wp_skip (inB_normal (thn_normal ?_))
          exact ⟨(decide ((((t.args.length : Nat) : Int) : Int) = 0)),Fits.out ⟨rfl,rfl,trivial⟩,E,B1,(by unfold okB; (repeat' split) <;> first | rfl | omega)⟩
 ·clear E B1
  rintro _ W2 ⟨ok,⟨j2,rfl⟩,E,B1,hok⟩
  refine Wp_seq_region ?_
  refine qM (.bool ok) rfl ?_
  refine qM (.bool ok) rfl ?_
  refine qG (.bool ok) (yU ok (P6 b1 0)) (by cases ok <;> first | exact gA | exact gB | exact .inl ⟨rfl,r_fieldAddr (b := b1) (o := 0) (o' := 0) rfl Tryz.underlying27 rfl siz3 rfl⟩) ?_
  refine qG (.bool ok) (yU ok (I6 t.kind)) (by cases ok <;> first | exact gA | exact gB | exact .inl ⟨rfl,r_load (v := (I6 t.kind)) rfl flat3 (B1.cell rfl)⟩) ?_
  obtain ⟨e11,he11⟩ : ∃ e,(decide ((t.kind : Int) = 2)) = e := ⟨_,rfl⟩
  refine qG (.bool ok) (yU ok (.bool e11)) (by cases ok <;> first | exact gA | exact gB | exact .inl ⟨rfl,(r_eql (k := .i64) (a := t.kind) (b := 2) rfl rfl).trans (by rw [he11]; try rfl)⟩) ?_
  refine qG (.bool ok) (yU ok (.bool e11)) (by cases ok <;> first | exact gA | exact gB | exact .inl ⟨rfl,r_move (v := (.bool e11)) rfl⟩) ?_
  refine qG (yU ok (.bool e11)) (yU ok (nU e11 (P6 b1 1))) (by cases ok <;> cases e11 <;> first | exact gA | exact gB | exact .inl ⟨rfl,r_fieldAddr (b := b1) (o := 0) (o' := 1) rfl Tryz.underlying27 rfl siz24 rfl⟩) ?_
  refine qG (yU ok (.bool e11)) (yU ok (nU e11 (.slice sa t.set.length sc))) (by cases ok <;> cases e11 <;> first | exact gA | exact gB | exact .inl ⟨rfl,r_load (v := (.slice sa t.set.length sc)) rfl flat24 (B1.cell rfl)⟩) ?_
  refine qG (yU ok (.bool e11)) (yU ok (nU e11 (I6 (t.set.length : Int)))) (by cases ok <;> cases e11 <;> first | exact gA | exact gB | exact .inl ⟨rfl,r_lenSlice (ad := sa) (n := t.set.length) (cap := sc) Tryz.underlying24 rfl⟩) ?_
  obtain ⟨e12,he12⟩ : ∃ e,(decide ((((t.set.length : Nat) : Int) : Int) = 0)) = e := ⟨_,rfl⟩
  refine qG (yU ok (.bool e11)) (yU ok (nU e11 (.bool e12))) (by cases ok <;> cases e11 <;> first | exact gA | exact gB | exact .inl ⟨rfl,(r_eql (k := .i64) (a := (t.set.length : Int)) (b := 0) rfl rfl).trans (by rw [he12]; try rfl)⟩) ?_
  obtain ⟨e13,he13⟩ : ∃ e,(e11 || e12) = e := ⟨_,rfl⟩
  refine qG (.bool ok) (yU ok (.bool e13)) (by cases ok <;> first | exact gA | exact gB | exact .inl ⟨rfl,r_pick (b := e11) (v := .bool e13) rfl (by rw [← he13]; cases e11 <;> rfl)⟩) ?_
  obtain ⟨e14,he14⟩ : ∃ e,(ok && e13) = e := ⟨_,rfl⟩
  refine qV (r_pick (b := ok) (v := .bool e14) rfl (by rw [← he14]; cases ok <;> rfl)) ?_
  refine qM (.bool e14) rfl ?_
  refine qG (.bool e14) (yU e14 (P6 b1 0)) (by cases e14 <;> first | exact gA | exact gB | exact .inl ⟨rfl,r_fieldAddr (b := b1) (o := 0) (o' := 0) rfl Tryz.underlying27 rfl siz3 rfl⟩) ?_
  refine qG (.bool e14) (yU e14 (I6 t.kind)) (by cases e14 <;> first | exact gA | exact gB | exact .inl ⟨rfl,r_load (v := (I6 t.kind)) rfl flat3 (B1.cell rfl)⟩) ?_
  obtain ⟨e15,he15⟩ : ∃ e,(decide ((t.kind : Int) = 6)) = e := ⟨_,rfl⟩
  refine qG (.bool e14) (yU e14 (.bool e15)) (by cases e14 <;> first | exact gA | exact gB | exact .inl ⟨rfl,(r_eql (k := .i64) (a := t.kind) (b := 6) rfl rfl).trans (by rw [he15]; try rfl)⟩) ?_
  refine qG (.bool e14) (yU e14 (.bool e15)) (by cases e14 <;> first | exact gA | exact gB | exact .inl ⟨rfl,r_move (v := (.bool e15)) rfl⟩) ?_
  refine qG (yU e14 (.bool e15)) (yU e14 (nU e15 (P6 b1 0))) (by cases e14 <;> cases e15 <;> first | exact gA | exact gB | exact .inl ⟨rfl,r_fieldAddr (b := b1) (o := 0) (o' := 0) rfl Tryz.underlying27 rfl siz3 rfl⟩) ?_
  refine qG (yU e14 (.bool e15)) (yU e14 (nU e15 (I6 t.kind))) (by cases e14 <;> cases e15 <;> first | exact gA | exact gB | exact .inl ⟨rfl,r_load (v := (I6 t.kind)) rfl flat3 (B1.cell rfl)⟩) ?_
  obtain ⟨e16,he16⟩ : ∃ e,(decide ((t.kind : Int) = 9)) = e := ⟨_,rfl⟩
  refine qG (yU e14 (.bool e15)) (yU e14 (nU e15 (.bool e16))) (by cases e14 <;> cases e15 <;> first | exact gA | exact gB | exact .inl ⟨rfl,(r_eql (k := .i64) (a := t.kind) (b := 9) rfl rfl).trans (by rw [he16]; try rfl)⟩) ?_
  obtain ⟨e17,he17⟩ : ∃ e,(e15 || e16) = e := ⟨_,rfl⟩
  refine qG (.bool e14) (yU e14 (.bool e17)) (by cases e14 <;> first | exact gA | exact gB | exact .inl ⟨rfl,r_pick (b := e15) (v := .bool e17) rfl (by rw [← he17]; cases e15 <;> rfl)⟩) ?_
  refine qG (.bool e14) (yU e14 (.bool e17)) (by cases e14 <;> first | exact gA | exact gB | exact .inl ⟨rfl,r_move (v := (.bool e17)) rfl⟩) ?_
  refine qG (yU e14 (.bool e17)) (yU e14 (nU e17 (P6 b1 3))) (by cases e14 <;> cases e17 <;> first | exact gA | exact gB | exact .inl ⟨rfl,r_fieldAddr (b := b1) (o := 0) (o' := 3) rfl Tryz.underlying27 rfl siz3 rfl⟩) ?_
  refine qG (yU e14 (.bool e17)) (yU e14 (nU e17 (I6 t.mn))) (by cases e14 <;> cases e17 <;> first | exact gA | exact gB | exact .inl ⟨rfl,r_load (v := (I6 t.mn)) rfl flat3 (B1.cell rfl)⟩) ?_
  obtain ⟨e18,he18⟩ : ∃ e,(decide ((t.mn : Int) = 0)) = e := ⟨_,rfl⟩
  refine qG (yU e14 (.bool e17)) (yU e14 (nU e17 (.bool e18))) (by cases e14 <;> cases e17 <;> first | exact gA | exact gB | exact .inl ⟨rfl,(r_eql (k := .i64) (a := t.mn) (b := 0) rfl rfl).trans (by rw [he18]; try rfl)⟩) ?_
  obtain ⟨e19,he19⟩ : ∃ e,(e17 || e18) = e := ⟨_,rfl⟩
  refine qG (.bool e14) (yU e14 (.bool e19)) (by cases e14 <;> first | exact gA | exact gB | exact .inl ⟨rfl,r_pick (b := e17) (v := .bool e19) rfl (by rw [← he19]; cases e17 <;> rfl)⟩) ?_
  obtain ⟨e20,he20⟩ : ∃ e,(e14 && e19) = e := ⟨_,rfl⟩
  refine qV (r_pick (b := e14) (v := .bool e20) rfl (by rw [← he20]; cases e14 <;> rfl)) ?_
  refine qM (.bool e20) rfl ?_
  refine qG (.bool e20) (yU e20 (P6 b1 0)) (by cases e20 <;> first | exact gA | exact gB | exact .inl ⟨rfl,r_fieldAddr (b := b1) (o := 0) (o' := 0) rfl Tryz.underlying27 rfl siz3 rfl⟩) ?_
  refine qG (.bool e20) (yU e20 (I6 t.kind)) (by cases e20 <;> first | exact gA | exact gB | exact .inl ⟨rfl,r_load (v := (I6 t.kind)) rfl flat3 (B1.cell rfl)⟩) ?_
  obtain ⟨e21,he21⟩ : ∃ e,(decide ((t.kind : Int) = 6)) = e := ⟨_,rfl⟩
  refine qG (.bool e20) (yU e20 (.bool e21)) (by cases e20 <;> first | exact gA | exact gB | exact .inl ⟨rfl,(r_eql (k := .i64) (a := t.kind) (b := 6) rfl rfl).trans (by rw [he21]; try rfl)⟩) ?_
  refine qG (.bool e20) (yU e20 (.bool e21)) (by cases e20 <;> first | exact gA | exact gB | exact .inl ⟨rfl,r_move (v := (.bool e21)) rfl⟩) ?_
  refine qG (yU e20 (.bool e21)) (yU e20 (nU e21 (P6 b1 4))) (by cases e20 <;> cases e21 <;> first | exact gA | exact gB | exact .inl ⟨rfl,r_fieldAddr (b := b1) (o := 0) (o' := 4) rfl Tryz.underlying27 rfl siz3 rfl⟩) ?_
  refine qG (yU e20 (.bool e21)) (yU e20 (nU e21 (I6 t.mx))) (by cases e20 <;> cases e21 <;> first | exact gA | exact gB | exact .inl ⟨rfl,r_load (v := (I6 t.mx)) rfl flat3 (B1.cell rfl)⟩) ?_
  obtain ⟨e22,he22⟩ : ∃ e,(decide ((t.mx : Int) = 0)) = e := ⟨_,rfl⟩
  refine qG (yU e20 (.bool e21)) (yU e20 (nU e21 (.bool e22))) (by cases e20 <;> cases e21 <;> first | exact gA | exact gB | exact .inl ⟨rfl,(r_eql (k := .i64) (a := t.mx) (b := 0) rfl rfl).trans (by rw [he22]; try rfl)⟩) ?_
  obtain ⟨e23,he23⟩ : ∃ e,(e21 || e22) = e := ⟨_,rfl⟩
  refine qG (.bool e20) (yU e20 (.bool e23)) (by cases e20 <;> first | exact gA | exact gB | exact .inl ⟨rfl,r_pick (b := e21) (v := .bool e23) rfl (by rw [← he23]; cases e21 <;> rfl)⟩) ?_
  obtain ⟨e24,he24⟩ : ∃ e,(e20 && e23) = e := ⟨_,rfl⟩
  refine qV (r_pick (b := e20) (v := .bool e24) rfl (by rw [← he24]; cases e20 <;> rfl)) ?_
  refine qM (.bool e24) rfl ?_
  refine qG (.bool e24) (yU e24 (P6 b1 0)) (by cases e24 <;> first | exact gA | exact gB | exact .inl ⟨rfl,r_fieldAddr (b := b1) (o := 0) (o' := 0) rfl Tryz.underlying27 rfl siz3 rfl⟩) ?_
  refine qG (.bool e24) (yU e24 (I6 t.kind)) (by cases e24 <;> first | exact gA | exact gB | exact .inl ⟨rfl,r_load (v := (I6 t.kind)) rfl flat3 (B1.cell rfl)⟩) ?_
  obtain ⟨e25,he25⟩ : ∃ e,(decide ((t.kind : Int) = 10)) = e := ⟨_,rfl⟩
  refine qG (.bool e24) (yU e24 (.bool e25)) (by cases e24 <;> first | exact gA | exact gB | exact .inl ⟨rfl,(r_eql (k := .i64) (a := t.kind) (b := 10) rfl rfl).trans (by rw [he25]; try rfl)⟩) ?_
  refine qG (.bool e24) (yU e24 (.bool e25)) (by cases e24 <;> first | exact gA | exact gB | exact .inl ⟨rfl,r_move (v := (.bool e25)) rfl⟩) ?_
  refine qG (yU e24 (.bool e25)) (yU e24 (nU e25 (P6 b1 5))) (by cases e24 <;> cases e25 <;> first | exact gA | exact gB | exact .inl ⟨rfl,r_fieldAddr (b := b1) (o := 0) (o' := 5) rfl Tryz.underlying27 rfl siz4 rfl⟩) ?_
  refine qG (yU e24 (.bool e25)) (yU e24 (nU e25 (.bool t.neg))) (by cases e24 <;> cases e25 <;> first | exact gA | exact gB | exact .inl ⟨rfl,r_load (v := (.bool t.neg)) rfl flat4 (B1.cell rfl)⟩) ?_
  obtain ⟨e26,he26⟩ : ∃ e,(!t.neg) = e := ⟨_,rfl⟩
  refine qG (yU e24 (.bool e25)) (yU e24 (nU e25 (.bool e26))) (by cases e24 <;> cases e25 <;> first | exact gA | exact gB | exact .inl ⟨rfl,(r_not (b := t.neg) rfl).trans (by rw [he26]; try rfl)⟩) ?_
  obtain ⟨e27,he27⟩ : ∃ e,(e25 || e26) = e := ⟨_,rfl⟩
  refine qG (.bool e24) (yU e24 (.bool e27)) (by cases e24 <;> first | exact gA | exact gB | exact .inl ⟨rfl,r_pick (b := e25) (v := .bool e27) rfl (by rw [← he27]; cases e25 <;> rfl)⟩) ?_
  obtain ⟨e28,he28⟩ : ∃ e,(e24 && e27) = e := ⟨_,rfl⟩
  refine qV (r_pick (b := e24) (v := .bool e28) rfl (by rw [← he28]; cases e24 <;> rfl)) ?_
  refine qA (.bool e28) rfl ?_
  refine WpL_nil ?_
  subst he28
  subst he27
  subst he26
  subst he25
  subst he24
  subst he23
  subst he22
  subst he21
  subst he20
  subst he19
  subst he18
  subst he17
  subst he16
  subst he15
  subst he14
  subst he13
  subst he12
  subst he11
  refine Wp_ret ?_
  refine fin_tmp Tryz.results106 (v := (.bool ((((ok && ((decide ((t.kind : Int) = 2)) || (decide ((((t.set.length : Nat) : Int) : Int) = 0)))) && (((decide ((t.kind : Int) = 6)) || (decide ((t.kind : Int) = 9))) || (decide ((t.mn : Int) = 0)))) && ((decide ((t.kind : Int) = 6)) || (decide ((t.mx : Int) = 0)))) && ((decide ((t.kind : Int) = 10)) || (!t.neg))))) rfl ?_
  subst hok
  exact ⟨rfl,E⟩
def checkL : Option Int → List (Int × Int) → Int
  | _,[] => 0
  | p,s :: r => if validB s = false then 1 else if (match p with | some h => decide (s.1 < h + 2) | none => false) = true then 3 else checkL (some s.2) r
theorem checkL_cons (p : Option Int) (s : Int × Int) (r : List (Int × Int)) : checkL p (s :: r) = if validB s = false then 1 else if (match p with | some h => decide (s.1 < h + 2) | none => false) = true then 3 else checkL (some s.2) r := rfl
def checkE (l : List (Int × Int)) : Int := if 16 < l.length then 2 else checkL none l
def prevHi (l : List (Int × Int)) (k : Nat) : Option Int := if k = 0 then none else (l[k - 1]?).map (·.2)
theorem nextHi {l : List (Int × Int)} {k : Nat} {s : Int × Int} (h : l[k]? = some s) : prevHi l (k + 1) = some s.2 := by
 unfold prevHi; simp [h]
theorem notHi {l : List (Int × Int)} {k : Nat} {s : Int × Int} {p : Int} (hpq : 0 < k → ∃ q,l[k - 1]? = some q ∧ q.2 = p ∧ prevHi l k = some p)
  (hf : (decide ((0 : Int) < ((k : Nat) : Int)) && decide (s.1 < p + 2)) = false) : ¬ (match prevHi l k with | some h => decide (s.1 < h + 2) | none => false) = true := by
 by_cases h0 : 0 < k
 ·obtain ⟨q,_,_,h3⟩ := hpq h0
  rw [h3]
  simp at hf ⊢
  exact hf h0
 ·have : prevHi l k = none := by unfold prevHi; rw [if_pos (by omega)]
  rw [this]; simp
theorem rcheck_c (w0 : World) (v : Value) (l : List (Int × Int)) (hs : SpansAt w0 v l) :
  Ret Tryz.prog 62 #[v] w0 fun v w => v = .int .i64 (checkE l) ∧ Ext w0 w := by
 obtain ⟨a,c,rfl⟩ := SlAt.form hs
 have hlen : l.length ≤ 9223372036854775807 := by simpa using SlAt.le hs
 simp only [List.length_map] at hs ⊢
 refine Ret_of Tryz.func62 rfl Tryz.ntmps62 (Nat.le_of_ble_eq_true rfl) ?_
 have E : Chg none1 w0 w0 := Chg.refl _ _
 refine Wp_seq_region ?_
 refine qA (I6 0) rfl ?_
 refine WpL_nil (Wp_seq (Wp_seq_region ?_))
 refine qM (.slice a l.length c) rfl ?_
 refine qV (r_lenSlice (ad := a) (n := l.length) (cap := c) Tryz.underlying24 rfl) ?_
 refine qV (r_gtr (k := .i64) (a := (l.length : Int)) (b := 16) rfl rfl) ?_
 refine WpL_nil ?_
 refine Wp_cond (b := decide ((16 : Int) < (l.length : Int))) rfl (fun h16 => ?_) (fun h16 => ?_)
 ·have kh16 := h16
  replace h16 := of_decide_eq_true h16
  refine Wp_seq_region ?_
  refine qA (I6 2) rfl ?_
  refine WpL_nil (Wp_ret (thn_ret ?_))
  refine fin_tmp Tryz.results62 (v := (.int .i64 2)) rfl ?_
  exact ⟨by unfold checkE; rw [if_pos (by omega)],E⟩
 ·have kh16 := h16
  replace h16 := of_decide_eq_false h16
  have hE0 : checkE l = checkL none l := by unfold checkE; rw [if_neg (by omega)]
  rw [hE0]
  refine Wp_skip (thn_normal (Wp_seq (Wp_seq_region ?_)))
  refine qM (.slice a l.length c) rfl ?_
  refine qV (r_lenSlice (ad := a) (n := l.length) (cap := c) Tryz.underlying24 rfl) ?_
  refine qM (I6 0) rfl ?_
  refine WpL_nil (Wp_block ?_)
  refine Wp_loop (fun nn_ σ W2 => ∃ (k : Nat),(∃ jj_,σ = upds jj_ [(0,(.slice a l.length c)),(8,(.slice a l.length c)),(9,(I6 (l.length : Int))),(10,(I6 (k : Int)))]) ∧ Chg none1 w0 W2 ∧ (k ≤ l.length) ∧ (checkL none l = checkL (prevHi l k) (l.drop k)) ∧ (∀ h,prevHi l k = some h → 0 ≤ h ∧ h ≤ 1114111) ∧ nn_ = l.length - k) (n := l.length - 0) ?_ ?_
  ·exact ⟨0,Fits.out ⟨rfl,rfl,rfl,rfl,trivial⟩,E,Nat.zero_le _,rfl,(by intro h hh; simp [prevHi] at hh),rfl⟩
  ·clear E
   rintro _ _ W2 ⟨k,⟨j2,rfl⟩,E,hk,hrel,hpv,rfl⟩
   refine Wp_seq_region ?_
   refine qV (r_lss (k := .i64) (a := (k : Int)) (b := (l.length : Int)) rfl rfl) ?_
   refine WpL_nil (Wp_seq ?_)
   refine Wp_cond (b := decide (((k : Int) : Int) < (l.length : Int))) rfl (fun hlt => ?_) (fun hlt => ?_)
   ·have khlt := hlt
    replace hlt := of_decide_eq_true hlt
    have hlt' : k < l.length := by omega
    obtain ⟨s,hsk⟩ : ∃ s,l[k]? = some s := ⟨_,List.getElem?_eq_getElem hlt'⟩
    obtain ⟨b,o,rfl,hcells⟩ := spans_cells hs (by omega)
    have hdr : l.drop k = s :: l.drop (k + 1) := by rw [List.drop_eq_getElem_cons hlt']; rw [List.getElem?_eq_getElem hlt'] at hsk; cases hsk; rfl
    rw [hdr] at hrel
    refine Wp_skip (thn_normal (Wp_seq (Wp_block (Wp_seq_region ?_))))
    refine qM (I6 (k : Int)) rfl ?_
    refine qV (r_indexSlice (b := b) (o := o) (len := l.length) (cap := c) (i := k) (o' := o + k * 2) rfl rfl rfl Tryz.underlying24 siz72 (by omega) (by omega)) ?_
    refine qV (r_loadAgg (vs := [(I6 s.1),(I6 s.2)]) rfl agg72 siz72 rfl ((hcells k s hsk).ext E)) ?_
    refine s_alloc (c := #[(I6 0),(I6 0)]) (by decide) zer72 rfl ?_
    intro b4 w4 N4
    have F4 := N4.ge E
    replace E := E.ext N4.ext
    have B4 := N4.blk
    refine qA (I6 (k : Int)) rfl ?_
    refine s_storeAgg (b := b4) (o := 0) (c' := #[(I6 s.1),(I6 s.2)]) rfl rfl (by simp [Value.oneCell']) siz72 rfl B4 (by first | (simp; done) | exact Nat.le_of_ble_eq_true rfl) rfl ?_
    intro w5 S5
    replace E := S5.step E (by first | exact Or.inl (by omega) | exact Or.inr rfl | exact Or.inr (by assumption) | exact Or.inr (by simp) | exact Or.inr (by omega) | exact Or.inr (by dsimp only; omega))
    replace B4 := S5.blk
    refine WpL_nil (Wp_seq (Wp_seq_region ?_))
    refine qV (r_loadAgg (vs := [(I6 s.1),(I6 s.2)]) rfl agg72 siz72 rfl (B4.cells rfl)) ?_
    refine WpL_enter rfl rfl (by decide) (r_callF (vs := [(.agg #[(I6 s.1),(I6 s.2)])]) Tryz.func93 kQ kQ rfl) (valid_c s _) ?_
    rintro _ w9 ⟨rfl,X9⟩
    replace B4 := X9.keep B4
    replace E := E.ext X9
    refine qV (r_not (b := validB s) rfl) ?_
    refine WpL_nil ?_
    refine Wp_cond (b := !(validB s)) rfl (fun hv => ?_) (fun hv => ?_)
    ·have khv := hv
     replace hv := by simpa using hv
     refine Wp_seq_region ?_
     refine qA (I6 1) rfl ?_
     refine WpL_nil (Wp_ret (thn_ret (inB_ret (thn_ret (thn_ret (inB_ret (thn_ret ?_)))))))
     refine fin_tmp Tryz.results62 (v := (.int .i64 1)) rfl ?_
     exact ⟨by rw [hrel]; rw [checkL_cons,if_pos hv],E⟩
    ·have khv := hv
     replace hv := by simpa using hv
     have hvt : validB s = true := by simpa using hv
     have hvb : 0 ≤ s.2 ∧ s.2 ≤ 1114111 := by unfold validB at hvt; simp at hvt; omega
     obtain ⟨p,hpe⟩ : ∃ p,(prevHi l k).getD 0 = p := ⟨_,rfl⟩
     have hpq : 0 < k → ∃ q,l[k - 1]? = some q ∧ q.2 = p ∧ prevHi l k = some p := by
      intro h0
      have h1 : k - 1 < l.length := by omega
      have h2 : prevHi l k = some (l[k - 1]).2 := by unfold prevHi; rw [if_neg (by omega),List.getElem?_eq_getElem h1]; rfl
      rw [h2] at hpe; simp at hpe
      exact ⟨_,List.getElem?_eq_getElem h1,hpe,by rw [h2,hpe]⟩
     have hpb : 0 ≤ p ∧ p ≤ 1114111 := by
      by_cases h0 : 0 < k
      ·obtain ⟨q,_,_,h3⟩ := hpq h0; exact hpv p h3
      ·have : prevHi l k = none := by unfold prevHi; rw [if_pos (by omega)]
       rw [this] at hpe; simp at hpe; omega
     refine Wp_skip (thn_normal ?_)
     refine Wp_seq_draw 13 mixed (by kernel_rfl) ?_
     intro w7 X7 _
     replace B4 := X7.keep B4
     replace E := E.ext X7
     refine qT (r_move (v := (I6 (k : Int))) rfl) ?_
     obtain ⟨e8,he8⟩ : ∃ e,(decide ((0 : Int) < ((k : Nat) : Int))) = e := ⟨_,rfl⟩
     refine qT ((r_gtr (k := .i64) (a := (k : Int)) (b := 0) rfl rfl).trans (by rw [he8]; try rfl)) ?_
     refine qT (r_move (v := (.bool e8)) rfl) ?_
     refine WpT_guard_any (oj := _) (gv := (.bool e8)) (u := (yU e8 (P6 b4 0))) rfl rfl (by decide) (by decide) rfl (by cases e8 <;> first | exact gA | exact gB | exact .inl ⟨rfl,r_fieldAddr (b := b4) (o := 0) (o' := 0) rfl Tryz.underlying72 rfl siz3 rfl⟩) ?_
     refine WpT_guard_any (oj := _) (gv := (.bool e8)) (u := (yU e8 (I6 s.1))) rfl rfl (by decide) (by decide) rfl (by cases e8 <;> first | exact gA | exact gB | exact .inl ⟨rfl,r_load (v := (I6 s.1)) rfl flat3 (B4.cell rfl)⟩) ?_
     refine WpT_guard_any (oj := _) (gv := (.bool e8)) (u := (yU e8 (.slice (some ⟨b,o,none⟩) l.length c))) rfl rfl (by decide) (by decide) rfl (by cases e8 <;> first | exact gA | exact gB | exact .inl ⟨rfl,r_move (v := (.slice (some ⟨b,o,none⟩) l.length c)) rfl⟩) ?_
     refine WpT_guard_any (oj := _) (gv := (.bool e8)) (u := (yU e8 (I6 (k : Int)))) rfl rfl (by decide) (by decide) rfl (by cases e8 <;> first | exact gA | exact gB | exact .inl ⟨rfl,r_move (v := (I6 (k : Int))) rfl⟩) ?_
     refine WpT_guard_any (oj := _) (gv := (.bool e8)) (u := (yU e8 (I6 ((k : Int) - 1)))) rfl rfl (by decide) (by decide) rfl (by cases e8 <;> first | exact gA | exact gB | exact .inl ⟨rfl,r_sub (k := .i64) (a := (k : Int)) (b := 1) (c := (k : Int) - 1) rfl rfl (wI64 (by have := of_decide_eq_true he8; omega))⟩) ?_
     refine WpT_guard_any (oj := _) (gv := (.bool e8)) (u := (yU e8 (.pointer (some ⟨b,o + (k - 1) * 2,none⟩)))) rfl rfl (by decide) (by decide) rfl (by cases e8 <;> first | exact gA | exact gB | exact .inl ⟨rfl,r_indexSlice (b := b) (o := o) (len := l.length) (cap := c) (i := k - 1) (o' := o + (k - 1) * 2) rfl rfl (by have := of_decide_eq_true he8; omega) Tryz.underlying24 siz72 (by have := of_decide_eq_true he8; omega) (by omega)⟩) ?_
     refine WpT_guard_any (oj := _) (gv := (.bool e8)) (u := (yU e8 (.pointer (some ⟨b,o + (k - 1) * 2 + 1,none⟩)))) rfl rfl (by decide) (by decide) rfl (by cases e8 <;> first | exact gA | exact gB | exact .inl ⟨rfl,r_fieldAddr (b := b) (o := o + (k - 1) * 2) (o' := o + (k - 1) * 2 + 1) rfl Tryz.underlying72 rfl siz3 rfl⟩) ?_
     refine WpT_guard_any (oj := _) (gv := (.bool e8)) (u := (yU e8 (I6 p))) rfl rfl (by decide) (by decide) rfl (by cases e8 <;> first | exact gA | exact gB | exact .inl ⟨rfl,r_load (v := (I6 p)) rfl flat3 ((by have := of_decide_eq_true he8;  obtain ⟨q,hq,rfl,_⟩ := hpq (by omega); exact ((hcells (k - 1) q hq).ext E).at1))⟩) ?_
     refine WpT_guard_any (oj := _) (gv := (.bool e8)) (u := (yU e8 (I6 (p + 2)))) rfl rfl (by decide) (by decide) rfl (by cases e8 <;> first | exact gA | exact gB | exact .inl ⟨rfl,r_add (k := .i64) (a := p) (b := 2) (c := p + 2) rfl rfl (wI64 (by have := of_decide_eq_true he8; omega))⟩) ?_
     obtain ⟨e9,he9⟩ : ∃ e,(decide ((s.1 : Int) < p + 2)) = e := ⟨_,rfl⟩
     refine WpT_guard_any (oj := _) (gv := (.bool e8)) (u := (yU e8 (.bool e9))) rfl rfl (by decide) (by decide) rfl (by cases e8 <;> first | exact gA | exact gB | exact .inl ⟨rfl,(r_lss (k := .i64) (a := s.1) (b := p + 2) rfl rfl).trans (by rw [he9]; try rfl)⟩) ?_
     refine WpT_zero ?_
     obtain ⟨e10,he10⟩ : ∃ e,(e8 && e9) = e := ⟨_,rfl⟩
     refine qV (r_pick (b := e8) (v := .bool e10) rfl (by rw [← he10]; cases e8 <;> rfl)) ?_
     refine WpL_nil ?_
     subst he10
     subst he9
     subst he8
     refine Wp_cond (b := ((decide ((0 : Int) < (k : Int))) && (decide ((s.1 : Int) < p + 2)))) rfl (fun hf => ?_) (fun hf => ?_)
     ·have khf := hf
      have hf2 : 0 < k ∧ s.1 < p + 2 := by simpa using hf
      obtain ⟨q,_,_,h3⟩ := hpq hf2.1
      refine Wp_seq_region ?_
      refine qA (I6 3) rfl ?_
      refine WpL_nil (Wp_ret (inB_ret (thn_ret (thn_ret (inB_ret (thn_ret ?_))))))
      refine fin_tmp Tryz.results62 (v := (.int .i64 3)) rfl ?_
      exact ⟨by rw [hrel]; rw [checkL_cons,if_neg (by simp [hvt]),h3,if_pos (by simp [hf2.2])],E⟩
     ·have khf := hf
      refine Wp_skip (inB_normal (thn_normal (Wp_region ?_)))
      refine qV (r_add (k := .i64) (a := (k : Int)) (b := 1) (c := (k : Int) + 1) rfl rfl (wI64 (by omega))) ?_
      refine qM (I6 ((k : Int) + 1)) rfl ?_
      refine WpL_nil (thn_normal ?_)
      exact ⟨l.length - (k + 1),by omega,k + 1,Fits.out ⟨rfl,rfl,rfl,rfl,trivial⟩,E,(by omega),(by rw [hrel]; rw [checkL_cons,if_neg (by simp [hvt]),if_neg ?_,nextHi hsk]; exact notHi hpq hf),(by intro h hh; rw [nextHi hsk] at hh; cases hh; exact hvb),rfl⟩
   ·have khlt := hlt
    replace hlt := of_decide_eq_false hlt
    have hkk : k = l.length := by omega
    rw [hkk,List.drop_length] at hrel
    refine Wp_exit (thn_exit (thn_exit (inB_here (thn_normal (Wp_seq_region ?_)))))
    refine qA (I6 0) rfl ?_
    refine WpL_nil (Wp_ret ?_)
    refine fin_tmp Tryz.results62 (v := (.int .i64 0)) rfl ?_
    exact ⟨by rw [hrel]; rfl,E⟩
def nodeE (t : Re) : Int := if t.kind < 0 ∨ 10 < t.kind then 1 else if formB t = false then 3 else if t.kind = 2 then (if checkE t.set ≠ 0 then checkE t.set else if (t.set.length : Int) = 0 then 3 else 0)
 else if t.kind = 6 then (if t.mn < 0 ∨ t.mx < t.mn ∨ 8 < t.mx then 1 else 0) else if t.kind = 9 then (if t.mn < 0 ∨ 9 < t.mn then 1 else 0) else 0
theorem node_c (wb w0 : World) (t : Re) (vs : List Value) (ht : ReAt wb t vs) (hE : Ext wb w0) :
  Ret Tryz.prog 79 #[.agg vs.toArray] w0 fun v w => v = .int .i64 (nodeE t) ∧ Ext w0 w := by
 have ht0 := ht
 obtain ⟨sa,sc,aa,ac,rfl,hset,hlen,hargs⟩ := ht.form
 refine Ret_of Tryz.func79 rfl Tryz.ntmps79 (Nat.le_of_ble_eq_true rfl) ?_
 have E : Chg none1 w0 w0 := Chg.refl _ _
 refine Wp_seq_region ?_
 refine s_box (v := (.agg (R6 t sa sc aa ac))) (c := (R6 t sa sc aa ac)) (by decide) rfl rfl ?_
 intro b1 w1 N1
 have F1 := N1.ge E
 replace E := E.ext N1.ext
 have B1 := N1.blk
 refine qA (I6 0) rfl ?_
 refine WpL_nil (Wp_seq (Wp_seq_region ?_))
 refine qF b1 0 0 rfl Tryz.underlying27 rfl siz3 rfl ?_
 refine qV (r_load (v := (I6 t.kind)) rfl flat3 (B1.cell rfl)) ?_
 obtain ⟨e2,he2⟩ : ∃ e,(decide ((t.kind : Int) < 0)) = e := ⟨_,rfl⟩
 refine qV ((r_lss (k := .i64) (a := t.kind) (b := 0) rfl rfl).trans (by rw [he2]; try rfl)) ?_
 refine qM (.bool e2) rfl ?_
 refine qG (.bool e2) (nU e2 (P6 b1 0)) (by cases e2 <;> first | exact gA | exact gB | exact .inl ⟨rfl,r_fieldAddr (b := b1) (o := 0) (o' := 0) rfl Tryz.underlying27 rfl siz3 rfl⟩) ?_
 refine qG (.bool e2) (nU e2 (I6 t.kind)) (by cases e2 <;> first | exact gA | exact gB | exact .inl ⟨rfl,r_load (v := (I6 t.kind)) rfl flat3 (B1.cell rfl)⟩) ?_
 obtain ⟨e3,he3⟩ : ∃ e,(decide ((10 : Int) < t.kind)) = e := ⟨_,rfl⟩
 refine qG (.bool e2) (nU e2 (.bool e3)) (by cases e2 <;> first | exact gA | exact gB | exact .inl ⟨rfl,(r_gtr (k := .i64) (a := t.kind) (b := 10) rfl rfl).trans (by rw [he3]; try rfl)⟩) ?_
 obtain ⟨e4,he4⟩ : ∃ e,(e2 || e3) = e := ⟨_,rfl⟩
 refine qV (r_pick (b := e2) (v := .bool e4) rfl (by rw [← he4]; cases e2 <;> rfl)) ?_
 refine WpL_nil ?_
 subst he4
 subst he3
 subst he2
 refine Wp_cond (b := ((decide ((t.kind : Int) < 0)) || (decide ((10 : Int) < t.kind)))) rfl (fun hk => ?_) (fun hk => ?_)
 ·have khk := hk
  simp at hk
  refine Wp_seq_region ?_
  refine qA (I6 1) rfl ?_
  refine WpL_nil (Wp_ret (thn_ret ?_))
  refine fin_tmp Tryz.results79 (v := (.int .i64 1)) rfl ?_
  exact ⟨int_eq (by unfold nodeE; rw [if_pos (by omega)]),E⟩
 ·have khk := hk
  simp at hk
  refine Wp_skip (thn_normal (Wp_seq (Wp_seq_region ?_)))
  refine qV (r_loadAgg (vs := [(I6 t.kind),(.slice sa t.set.length sc),(.slice aa t.args.length ac),(I6 t.mn),(I6 t.mx),(.bool t.neg)]) rfl agg27 siz27 rfl (B1.cells rfl)) ?_
  refine WpL_enter rfl rfl (by decide) (r_callF (vs := [(.agg (R6 t sa sc aa ac))]) Tryz.func106 kQ kQ rfl) (form_c wb _ t _ ht0) ?_
  rintro _ w9 ⟨rfl,X9⟩
  replace B1 := X9.keep B1
  replace E := E.ext X9
  refine qV (r_not (b := formB t) rfl) ?_
  refine WpL_nil ?_
  refine Wp_cond (b := !(formB t)) rfl (fun hf => ?_) (fun hf => ?_)
  ·have khf := hf
   replace hf := by simpa using hf
   refine Wp_seq_region ?_
   refine qA (I6 3) rfl ?_
   refine WpL_nil (Wp_ret (thn_ret ?_))
   refine fin_tmp Tryz.results79 (v := (.int .i64 3)) rfl ?_
   exact ⟨int_eq (by unfold nodeE; rw [if_neg (by omega),if_pos hf]),E⟩
  ·have khf := hf
   replace hf := by simpa using hf
   have hN : nodeE t = if t.kind = 2 then (if checkE t.set ≠ 0 then checkE t.set else if (t.set.length : Int) = 0 then 3 else 0) else if t.kind = 6 then (if t.mn < 0 ∨ t.mx < t.mn ∨ 8 < t.mx then 1 else 0) else if t.kind = 9 then (if t.mn < 0 ∨ 9 < t.mn then 1 else 0) else 0 := by unfold nodeE; rw [if_neg (by omega),if_neg (by simp [hf])]
   rw [hN]
   refine Wp_skip (thn_normal (Wp_seq (Wp_seq_region ?_)))
   refine qF b1 0 0 rfl Tryz.underlying27 rfl siz3 rfl ?_
   refine qV (r_load (v := (I6 t.kind)) rfl flat3 (B1.cell rfl)) ?_
   refine WpL_nil (Wp_block (Wp_seq_region ?_))
   refine qV (r_eql (k := .i64) (a := t.kind) (b := 2) rfl rfl) ?_
   refine qA (.bool (decide ((t.kind : Int) = 2))) rfl ?_
   refine WpL_nil ?_
   refine Wp_cond (b := decide ((t.kind : Int) = 2)) rfl (fun h2 => ?_) (fun h2 => ?_)
   ·have kh2 := h2
    replace h2 := of_decide_eq_true h2
    rw [if_pos h2]
    refine Wp_seq (Wp_seq_region ?_)
    refine qF b1 0 1 rfl Tryz.underlying27 rfl siz24 rfl ?_
    refine qV (r_load (v := (.slice sa t.set.length sc)) rfl flat24 (B1.cell rfl)) ?_
    refine WpL_enter rfl rfl (by decide) (r_callF (vs := [(.slice sa t.set.length sc)]) Tryz.func62 kQ kQ rfl) (rcheck_c _ _ t.set ((hset.ext hE).ext E)) ?_
    rintro _ w10 ⟨rfl,X10⟩
    replace B1 := X10.keep B1
    replace E := E.ext X10
    refine qA (I6 (checkE t.set)) rfl ?_
    refine WpL_nil (Wp_seq_region ?_)
    refine qM (I6 (checkE t.set)) rfl ?_
    refine qV (r_neq (k := .i64) (a := checkE t.set) (b := 0) rfl rfl) ?_
    refine WpL_nil ?_
    refine Wp_cond (b := decide ((checkE t.set : Int) ≠ 0)) rfl (fun h3 => ?_) (fun h3 => ?_)
    ·have kh3 := h3
     replace h3 := of_decide_eq_true h3
     refine Wp_seq_region ?_
     refine qM (I6 (checkE t.set)) rfl ?_
     refine qA (I6 (checkE t.set)) rfl ?_
     refine WpL_nil (Wp_ret (thn_ret (inB_ret (thn_ret ?_))))
     refine fin_tmp Tryz.results79 (v := (.int .i64 (checkE t.set))) rfl ?_
     exact ⟨int_eq (by rw [if_pos h3]),E⟩
    ·have kh3 := h3
     replace h3 := of_decide_eq_false h3
     rw [if_neg h3]
     refine Wp_skip (thn_normal (Wp_seq_region ?_))
     refine qF b1 0 1 rfl Tryz.underlying27 rfl siz24 rfl ?_
     refine qV (r_load (v := (.slice sa t.set.length sc)) rfl flat24 (B1.cell rfl)) ?_
     refine qV (r_lenSlice (ad := sa) (n := t.set.length) (cap := sc) Tryz.underlying24 rfl) ?_
     refine qV (r_eql (k := .i64) (a := (t.set.length : Int)) (b := 0) rfl rfl) ?_
     refine WpL_nil ?_
     refine Wp_cond (b := decide (((t.set.length : Int) : Int) = 0)) rfl (fun h4 => ?_) (fun h4 => ?_)
     ·have kh4 := h4
      replace h4 := of_decide_eq_true h4
      refine Wp_seq_region ?_
      refine qA (I6 3) rfl ?_
      refine WpL_nil (Wp_ret (inB_ret (thn_ret ?_)))
      refine fin_tmp Tryz.results79 (v := (.int .i64 3)) rfl ?_
      exact ⟨int_eq (by rw [if_pos h4]),E⟩
     ·have kh4 := h4
      replace h4 := of_decide_eq_false h4
      refine Wp_skip (inB_normal (thn_normal (Wp_seq_region ?_)))
      refine qA (I6 0) rfl ?_
      refine WpL_nil (Wp_ret ?_)
      refine fin_tmp Tryz.results79 (v := (.int .i64 0)) rfl ?_
      exact ⟨int_eq (by rw [if_neg h4]),E⟩
   ·have kh2 := h2
    replace h2 := of_decide_eq_false h2
    rw [if_neg h2]
    refine Wp_seq_region ?_
    refine qV (r_eql (k := .i64) (a := t.kind) (b := 6) rfl rfl) ?_
    refine qA (.bool (decide ((t.kind : Int) = 6))) rfl ?_
    refine WpL_nil ?_
    refine Wp_cond (b := decide ((t.kind : Int) = 6)) rfl (fun h6 => ?_) (fun h6 => ?_)
    ·have kh6 := h6
     replace h6 := of_decide_eq_true h6
     rw [if_pos h6]
     refine Wp_seq_region ?_
     refine qF b1 0 3 rfl Tryz.underlying27 rfl siz3 rfl ?_
     refine qV (r_load (v := (I6 t.mn)) rfl flat3 (B1.cell rfl)) ?_
     obtain ⟨e11,he11⟩ : ∃ e,(decide ((t.mn : Int) < 0)) = e := ⟨_,rfl⟩
     refine qV ((r_lss (k := .i64) (a := t.mn) (b := 0) rfl rfl).trans (by rw [he11]; try rfl)) ?_
     refine qM (.bool e11) rfl ?_
     refine qG (.bool e11) (nU e11 (P6 b1 3)) (by cases e11 <;> first | exact gA | exact gB | exact .inl ⟨rfl,r_fieldAddr (b := b1) (o := 0) (o' := 3) rfl Tryz.underlying27 rfl siz3 rfl⟩) ?_
     refine qG (.bool e11) (nU e11 (I6 t.mn)) (by cases e11 <;> first | exact gA | exact gB | exact .inl ⟨rfl,r_load (v := (I6 t.mn)) rfl flat3 (B1.cell rfl)⟩) ?_
     refine qG (.bool e11) (nU e11 (P6 b1 4)) (by cases e11 <;> first | exact gA | exact gB | exact .inl ⟨rfl,r_fieldAddr (b := b1) (o := 0) (o' := 4) rfl Tryz.underlying27 rfl siz3 rfl⟩) ?_
     refine qG (.bool e11) (nU e11 (I6 t.mx)) (by cases e11 <;> first | exact gA | exact gB | exact .inl ⟨rfl,r_load (v := (I6 t.mx)) rfl flat3 (B1.cell rfl)⟩) ?_
     obtain ⟨e12,he12⟩ : ∃ e,(decide ((t.mx : Int) < t.mn)) = e := ⟨_,rfl⟩
     refine qG (.bool e11) (nU e11 (.bool e12)) (by cases e11 <;> first | exact gA | exact gB | exact .inl ⟨rfl,(r_gtr (k := .i64) (a := t.mn) (b := t.mx) rfl rfl).trans (by rw [he12]; try rfl)⟩) ?_
     obtain ⟨e13,he13⟩ : ∃ e,(e11 || e12) = e := ⟨_,rfl⟩
     refine qV (r_pick (b := e11) (v := .bool e13) rfl (by rw [← he13]; cases e11 <;> rfl)) ?_
     refine qM (.bool e13) rfl ?_
     refine qG (.bool e13) (nU e13 (P6 b1 4)) (by cases e13 <;> first | exact gA | exact gB | exact .inl ⟨rfl,r_fieldAddr (b := b1) (o := 0) (o' := 4) rfl Tryz.underlying27 rfl siz3 rfl⟩) ?_
     refine qG (.bool e13) (nU e13 (I6 t.mx)) (by cases e13 <;> first | exact gA | exact gB | exact .inl ⟨rfl,r_load (v := (I6 t.mx)) rfl flat3 (B1.cell rfl)⟩) ?_
     obtain ⟨e14,he14⟩ : ∃ e,(decide ((8 : Int) < t.mx)) = e := ⟨_,rfl⟩
     refine qG (.bool e13) (nU e13 (.bool e14)) (by cases e13 <;> first | exact gA | exact gB | exact .inl ⟨rfl,(r_gtr (k := .i64) (a := t.mx) (b := 8) rfl rfl).trans (by rw [he14]; try rfl)⟩) ?_
     obtain ⟨e15,he15⟩ : ∃ e,(e13 || e14) = e := ⟨_,rfl⟩
     refine qV (r_pick (b := e13) (v := .bool e15) rfl (by rw [← he15]; cases e13 <;> rfl)) ?_
     refine WpL_nil ?_
     subst he15
     subst he14
     subst he13
     subst he12
     subst he11
     refine Wp_cond (b := (((decide ((t.mn : Int) < 0)) || (decide ((t.mx : Int) < t.mn))) || (decide ((8 : Int) < t.mx)))) rfl (fun h7 => ?_) (fun h7 => ?_)
     ·have kh7 := h7
      simp at h7
      refine Wp_seq_region ?_
      refine qA (I6 1) rfl ?_
      refine WpL_nil (Wp_ret (inB_ret (thn_ret ?_)))
      refine fin_tmp Tryz.results79 (v := (.int .i64 1)) rfl ?_
      exact ⟨int_eq (by rw [if_pos (by omega)]),E⟩
     ·have kh7 := h7
      simp at h7
      refine Wp_skip (inB_normal (thn_normal (Wp_seq_region ?_)))
      refine qA (I6 0) rfl ?_
      refine WpL_nil (Wp_ret ?_)
      refine fin_tmp Tryz.results79 (v := (.int .i64 0)) rfl ?_
      exact ⟨int_eq (by rw [if_neg (by omega)]),E⟩
    ·have kh6 := h6
     replace h6 := of_decide_eq_false h6
     rw [if_neg h6]
     refine Wp_seq_region ?_
     refine qV (r_eql (k := .i64) (a := t.kind) (b := 9) rfl rfl) ?_
     refine qA (.bool (decide ((t.kind : Int) = 9))) rfl ?_
     refine WpL_nil ?_
     refine Wp_cond (b := decide ((t.kind : Int) = 9)) rfl (fun h9 => ?_) (fun h9 => ?_)
     ·have kh9 := h9
      replace h9 := of_decide_eq_true h9
      rw [if_pos h9]
      refine Wp_seq_region ?_
      refine qF b1 0 3 rfl Tryz.underlying27 rfl siz3 rfl ?_
      refine qV (r_load (v := (I6 t.mn)) rfl flat3 (B1.cell rfl)) ?_
      obtain ⟨e18,he18⟩ : ∃ e,(decide ((t.mn : Int) < 0)) = e := ⟨_,rfl⟩
      refine qV ((r_lss (k := .i64) (a := t.mn) (b := 0) rfl rfl).trans (by rw [he18]; try rfl)) ?_
      refine qM (.bool e18) rfl ?_
      refine qG (.bool e18) (nU e18 (P6 b1 3)) (by cases e18 <;> first | exact gA | exact gB | exact .inl ⟨rfl,r_fieldAddr (b := b1) (o := 0) (o' := 3) rfl Tryz.underlying27 rfl siz3 rfl⟩) ?_
      refine qG (.bool e18) (nU e18 (I6 t.mn)) (by cases e18 <;> first | exact gA | exact gB | exact .inl ⟨rfl,r_load (v := (I6 t.mn)) rfl flat3 (B1.cell rfl)⟩) ?_
      obtain ⟨e19,he19⟩ : ∃ e,(decide ((9 : Int) < t.mn)) = e := ⟨_,rfl⟩
      refine qG (.bool e18) (nU e18 (.bool e19)) (by cases e18 <;> first | exact gA | exact gB | exact .inl ⟨rfl,(r_gtr (k := .i64) (a := t.mn) (b := 9) rfl rfl).trans (by rw [he19]; try rfl)⟩) ?_
      obtain ⟨e20,he20⟩ : ∃ e,(e18 || e19) = e := ⟨_,rfl⟩
      refine qV (r_pick (b := e18) (v := .bool e20) rfl (by rw [← he20]; cases e18 <;> rfl)) ?_
      refine WpL_nil ?_
      subst he20
      subst he19
      subst he18
      refine Wp_cond (b := ((decide ((t.mn : Int) < 0)) || (decide ((9 : Int) < t.mn)))) rfl (fun h8 => ?_) (fun h8 => ?_)
      ·have kh8 := h8
       simp at h8
       refine Wp_seq_region ?_
       refine qA (I6 1) rfl ?_
       refine WpL_nil (Wp_ret (inB_ret (thn_ret ?_)))
       refine fin_tmp Tryz.results79 (v := (.int .i64 1)) rfl ?_
       exact ⟨int_eq (by rw [if_pos (by omega)]),E⟩
      ·have kh8 := h8
       simp at h8
       refine Wp_skip (inB_normal (thn_normal (Wp_seq_region ?_)))
       refine qA (I6 0) rfl ?_
       refine WpL_nil (Wp_ret ?_)
       refine fin_tmp Tryz.results79 (v := (.int .i64 0)) rfl ?_
       exact ⟨int_eq (by rw [if_neg (by omega)]),E⟩
     ·have kh9 := h9
      replace h9 := of_decide_eq_false h9
      rw [if_neg h9]
      refine Wp_skip (inB_normal (thn_normal (Wp_seq_region ?_)))
      refine qA (I6 0) rfl ?_
      refine WpL_nil (Wp_ret ?_)
      refine fin_tmp Tryz.results79 (v := (.int .i64 0)) rfl ?_
      exact ⟨rfl,E⟩
theorem ints_idx_c (w0 : World) (v fv : Value) (l : List (Int)) (p : Int → Bool) (hs : IntsAt w0 v l) (hf : ∀ (w : World) (x : Int),Ext w0 w → x ∈ l → CallV Tryz.prog fv #[.int .i64 x] w fun r w' => r = .bool (p x) ∧ Ext w w') :
  Ret Tryz.prog 67 #[v,fv] w0 fun r w => r = .int .i64 (idx p l) ∧ Ext w0 w := by
 obtain ⟨a,c,rfl⟩ := SlAt.form hs
 have hlen : l.length ≤ 9223372036854775807 := by simpa using SlAt.le hs
 simp only [List.length_map] at hs ⊢
 refine Ret_of Tryz.func67 rfl Tryz.ntmps67 (Nat.le_of_ble_eq_true rfl) ?_
 have E : Chg none1 w0 w0 := Chg.refl _ _
 refine Wp_seq_region ?_
 refine qA (I6 0) rfl ?_
 refine WpL_nil (Wp_seq (Wp_seq_region ?_))
 refine qM (.slice a l.length c) rfl ?_
 refine qV (r_lenSlice (ad := a) (n := l.length) (cap := c) Tryz.underlying22 rfl) ?_
 refine qM (I6 0) rfl ?_
 refine WpL_nil (Wp_block ?_)
 refine Wp_loop (fun nn_ σ W1 => ∃ (k : Nat),(∃ jj_,σ = upds jj_ [(0,(.slice a l.length c)),(1,fv),(7,(I6 (l.length : Int))),(8,(I6 (k : Int)))]) ∧ Chg none1 w0 W1 ∧ (k ≤ l.length) ∧ (∀ (i : Nat) (y : Int),i < k → l[i]? = some y → p y = false) ∧ nn_ = l.length - k) (n := l.length - 0) ?_ ?_
 ·exact ⟨0,Fits.out ⟨rfl,rfl,rfl,rfl,trivial⟩,E,Nat.zero_le _,(fun i y h => absurd h (Nat.not_lt_zero _)),rfl⟩
 ·clear E
  rintro _ _ W1 ⟨k,⟨j1,rfl⟩,E,hk,hno,rfl⟩
  refine Wp_seq_region ?_
  refine qV (r_lss (k := .i64) (a := (k : Int)) (b := (l.length : Int)) rfl rfl) ?_
  refine WpL_nil (Wp_seq ?_)
  refine Wp_cond (b := decide (((k : Int) : Int) < (l.length : Int))) rfl (fun hlt => ?_) (fun hlt => ?_)
  ·have khlt := hlt
   replace hlt := of_decide_eq_true hlt
   obtain ⟨x,hx⟩ := get_of_lt (l := l) (i := k) (by omega)
   obtain ⟨b,o,rfl,hcells⟩ := ints_cells hs (by omega)
   refine Wp_skip (thn_normal (Wp_seq (Wp_block (Wp_seq_region ?_))))
   refine qM (I6 (k : Int)) rfl ?_
   refine qA (I6 (k : Int)) rfl ?_
   refine WpL_nil (Wp_seq_region ?_)
   refine qM fv rfl ?_
   refine qM (.slice (some ⟨b,o,none⟩) l.length c) rfl ?_
   refine qM (I6 (k : Int)) rfl ?_
   refine qV (r_indexSlice (b := b) (o := o) (len := l.length) (cap := c) (i := k) (o' := o + k) rfl rfl rfl Tryz.underlying22 siz3 (by omega) (by omega)) ?_
   refine qV (r_load (v := (I6 x)) rfl flat3 (E.cell (fun f => f) (hcells k x hx))) ?_
   refine WpL_callV (fv := fv) (vs := [(I6 x)]) (by decide) rfl rfl (hf _ x E (List.mem_of_getElem? hx)) ?_
   rintro _ w9 ⟨rfl,X9⟩
   replace E := E.ext X9
   refine WpL_nil ?_
   refine Wp_cond (b := p x) rfl (fun hp => ?_) (fun hp => ?_)
   ·have khp := hp
    refine Wp_seq_region ?_
    refine qM (I6 (k : Int)) rfl ?_
    refine qA (I6 (k : Int)) rfl ?_
    refine WpL_nil (Wp_ret (inB_ret (thn_ret (thn_ret (inB_ret (thn_ret ?_))))))
    refine fin_tmp Tryz.results67 (v := (.int .i64 ((k : Nat) : Int))) rfl ?_
    exact ⟨int_eq (idx_hit hx hp hno).symm,E⟩
   ·have khp := hp
    refine Wp_skip (inB_normal (thn_normal (Wp_region ?_)))
    refine qV (r_add (k := .i64) (a := (k : Int)) (b := 1) (c := (k : Int) + 1) rfl rfl (wI64 (by omega))) ?_
    refine qM (I6 ((k : Int) + 1)) rfl ?_
    refine WpL_nil (thn_normal ?_)
    exact ⟨l.length - (k + 1),by omega,k + 1,Fits.out ⟨rfl,rfl,rfl,rfl,trivial⟩,E,(by omega),below_next hx hp hno,rfl⟩
  ·have khlt := hlt
   replace hlt := of_decide_eq_false hlt
   have hkk : k = l.length := by omega
   refine Wp_exit (thn_exit (thn_exit (inB_here (thn_normal (Wp_seq_region ?_)))))
   refine qA (I6 (-1)) rfl ?_
   refine WpL_nil (Wp_ret ?_)
   refine fin_tmp Tryz.results67 (v := (.int .i64 (-1))) rfl ?_
   exact ⟨int_eq (idx_miss fun i y hy => hno i y (by have := lt_of_get hy; omega) hy).symm,E⟩
theorem ints_has_c (w0 : World) (v fv : Value) (l : List (Int)) (p : Int → Bool) (hs : IntsAt w0 v l) (hf : ∀ (w : World) (x : Int),Ext w0 w → x ∈ l → CallV Tryz.prog fv #[.int .i64 x] w fun r w' => r = .bool (p x) ∧ Ext w w') :
  Ret Tryz.prog 34 #[v,fv] w0 fun r w => r = .bool (l.any p) ∧ Ext w0 w := by
 refine Ret_of Tryz.func34 rfl Tryz.ntmps34 (Nat.le_of_ble_eq_true rfl) ?_
 have E : Chg none1 w0 w0 := Chg.refl _ _
 refine Wp_seq_region ?_
 refine qA (.bool false) rfl ?_
 refine WpL_nil (Wp_seq_region ?_)
 refine qM v rfl ?_
 refine qM fv rfl ?_
 refine WpL_enter rfl rfl (by decide) (r_callF (vs := [v,fv]) Tryz.func67 kQ kQ rfl) (ints_idx_c _ v fv l p hs hf) ?_
 rintro _ w9 ⟨rfl,X9⟩
 replace E := E.ext X9
 refine qV (r_geq (k := .i64) (a := idx p l) (b := 0) rfl rfl) ?_
 refine qA (.bool (decide ((0 : Int) ≤ idx p l))) rfl ?_
 refine WpL_nil (Wp_ret ?_)
 refine fin_tmp Tryz.results34 (v := (.bool (decide ((0 : Int) ≤ idx p l)))) rfl ?_
 exact ⟨bool_eq (idx_any p l),E⟩
theorem errs_idx_c (w0 : World) (v fv : Value) (l : List (Int)) (p : Int → Bool) (hs : IntsAt w0 v l) (hf : ∀ (w : World) (x : Int),Ext w0 w → x ∈ l → CallV Tryz.prog fv #[.int .i64 x] w fun r w' => r = .bool (p x) ∧ Ext w w') :
  Ret Tryz.prog 77 #[v,fv] w0 fun r w => r = .int .i64 (idx p l) ∧ Ext w0 w := by
 obtain ⟨a,c,rfl⟩ := SlAt.form hs
 have hlen : l.length ≤ 9223372036854775807 := by simpa using SlAt.le hs
 simp only [List.length_map] at hs ⊢
 refine Ret_of Tryz.func77 rfl Tryz.ntmps77 (Nat.le_of_ble_eq_true rfl) ?_
 have E : Chg none1 w0 w0 := Chg.refl _ _
 refine Wp_seq_region ?_
 refine qA (I6 0) rfl ?_
 refine WpL_nil (Wp_seq (Wp_seq_region ?_))
 refine qM (.slice a l.length c) rfl ?_
 refine qV (r_lenSlice (ad := a) (n := l.length) (cap := c) Tryz.underlying94 rfl) ?_
 refine qM (I6 0) rfl ?_
 refine WpL_nil (Wp_block ?_)
 refine Wp_loop (fun nn_ σ W1 => ∃ (k : Nat),(∃ jj_,σ = upds jj_ [(0,(.slice a l.length c)),(1,fv),(7,(I6 (l.length : Int))),(8,(I6 (k : Int)))]) ∧ Chg none1 w0 W1 ∧ (k ≤ l.length) ∧ (∀ (i : Nat) (y : Int),i < k → l[i]? = some y → p y = false) ∧ nn_ = l.length - k) (n := l.length - 0) ?_ ?_
 ·exact ⟨0,Fits.out ⟨rfl,rfl,rfl,rfl,trivial⟩,E,Nat.zero_le _,(fun i y h => absurd h (Nat.not_lt_zero _)),rfl⟩
 ·clear E
  rintro _ _ W1 ⟨k,⟨j1,rfl⟩,E,hk,hno,rfl⟩
  refine Wp_seq_region ?_
  refine qV (r_lss (k := .i64) (a := (k : Int)) (b := (l.length : Int)) rfl rfl) ?_
  refine WpL_nil (Wp_seq ?_)
  refine Wp_cond (b := decide (((k : Int) : Int) < (l.length : Int))) rfl (fun hlt => ?_) (fun hlt => ?_)
  ·have khlt := hlt
   replace hlt := of_decide_eq_true hlt
   obtain ⟨x,hx⟩ := get_of_lt (l := l) (i := k) (by omega)
   obtain ⟨b,o,rfl,hcells⟩ := ints_cells hs (by omega)
   refine Wp_skip (thn_normal (Wp_seq (Wp_block (Wp_seq_region ?_))))
   refine qM (I6 (k : Int)) rfl ?_
   refine qA (I6 (k : Int)) rfl ?_
   refine WpL_nil (Wp_seq_region ?_)
   refine qM fv rfl ?_
   refine qM (.slice (some ⟨b,o,none⟩) l.length c) rfl ?_
   refine qM (I6 (k : Int)) rfl ?_
   refine qV (r_indexSlice (b := b) (o := o) (len := l.length) (cap := c) (i := k) (o' := o + k) rfl rfl rfl Tryz.underlying94 siz30 (by omega) (by omega)) ?_
   refine qV (r_load (v := (I6 x)) rfl flat30 (E.cell (fun f => f) (hcells k x hx))) ?_
   refine WpL_callV (fv := fv) (vs := [(I6 x)]) (by decide) rfl rfl (hf _ x E (List.mem_of_getElem? hx)) ?_
   rintro _ w9 ⟨rfl,X9⟩
   replace E := E.ext X9
   refine WpL_nil ?_
   refine Wp_cond (b := p x) rfl (fun hp => ?_) (fun hp => ?_)
   ·have khp := hp
    refine Wp_seq_region ?_
    refine qM (I6 (k : Int)) rfl ?_
    refine qA (I6 (k : Int)) rfl ?_
    refine WpL_nil (Wp_ret (inB_ret (thn_ret (thn_ret (inB_ret (thn_ret ?_))))))
    refine fin_tmp Tryz.results77 (v := (.int .i64 ((k : Nat) : Int))) rfl ?_
    exact ⟨int_eq (idx_hit hx hp hno).symm,E⟩
   ·have khp := hp
    refine Wp_skip (inB_normal (thn_normal (Wp_region ?_)))
    refine qV (r_add (k := .i64) (a := (k : Int)) (b := 1) (c := (k : Int) + 1) rfl rfl (wI64 (by omega))) ?_
    refine qM (I6 ((k : Int) + 1)) rfl ?_
    refine WpL_nil (thn_normal ?_)
    exact ⟨l.length - (k + 1),by omega,k + 1,Fits.out ⟨rfl,rfl,rfl,rfl,trivial⟩,E,(by omega),below_next hx hp hno,rfl⟩
  ·have khlt := hlt
   replace hlt := of_decide_eq_false hlt
   have hkk : k = l.length := by omega
   refine Wp_exit (thn_exit (thn_exit (inB_here (thn_normal (Wp_seq_region ?_)))))
   refine qA (I6 (-1)) rfl ?_
   refine WpL_nil (Wp_ret ?_)
   refine fin_tmp Tryz.results77 (v := (.int .i64 (-1))) rfl ?_
   exact ⟨int_eq (idx_miss fun i y hy => hno i y (by have := lt_of_get hy; omega) hy).symm,E⟩
theorem errs_has_c (w0 : World) (v fv : Value) (l : List (Int)) (p : Int → Bool) (hs : IntsAt w0 v l) (hf : ∀ (w : World) (x : Int),Ext w0 w → x ∈ l → CallV Tryz.prog fv #[.int .i64 x] w fun r w' => r = .bool (p x) ∧ Ext w w') :
  Ret Tryz.prog 44 #[v,fv] w0 fun r w => r = .bool (l.any p) ∧ Ext w0 w := by
 refine Ret_of Tryz.func44 rfl Tryz.ntmps44 (Nat.le_of_ble_eq_true rfl) ?_
 have E : Chg none1 w0 w0 := Chg.refl _ _
 refine Wp_seq_region ?_
 refine qA (.bool false) rfl ?_
 refine WpL_nil (Wp_seq_region ?_)
 refine qM v rfl ?_
 refine qM fv rfl ?_
 refine WpL_enter rfl rfl (by decide) (r_callF (vs := [v,fv]) Tryz.func77 kQ kQ rfl) (errs_idx_c _ v fv l p hs hf) ?_
 rintro _ w9 ⟨rfl,X9⟩
 replace E := E.ext X9
 refine qV (r_geq (k := .i64) (a := idx p l) (b := 0) rfl rfl) ?_
 refine qA (.bool (decide ((0 : Int) ≤ idx p l))) rfl ?_
 refine WpL_nil (Wp_ret ?_)
 refine fin_tmp Tryz.results44 (v := (.bool (decide ((0 : Int) ≤ idx p l)))) rfl ?_
 exact ⟨bool_eq (idx_any p l),E⟩
theorem spans_idx_c (w0 : World) (v fv : Value) (l : List (Int × Int)) (p : Int × Int → Bool) (hs : SpansAt w0 v l) (hf : ∀ (w : World) (x : Int × Int),Ext w0 w → x ∈ l → CallV Tryz.prog fv #[.agg #[.int .i64 x.1,.int .i64 x.2]] w fun r w' => r = .bool (p x) ∧ Ext w w') :
  Ret Tryz.prog 94 #[v,fv] w0 fun r w => r = .int .i64 (idx p l) ∧ Ext w0 w := by
 obtain ⟨a,c,rfl⟩ := SlAt.form hs
 have hlen : l.length ≤ 9223372036854775807 := by simpa using SlAt.le hs
 simp only [List.length_map] at hs ⊢
 refine Ret_of Tryz.func94 rfl Tryz.ntmps94 (Nat.le_of_ble_eq_true rfl) ?_
 have E : Chg none1 w0 w0 := Chg.refl _ _
 refine Wp_seq_region ?_
 refine qA (I6 0) rfl ?_
 refine WpL_nil (Wp_seq (Wp_seq_region ?_))
 refine qM (.slice a l.length c) rfl ?_
 refine qV (r_lenSlice (ad := a) (n := l.length) (cap := c) Tryz.underlying24 rfl) ?_
 refine qM (I6 0) rfl ?_
 refine WpL_nil (Wp_block ?_)
 refine Wp_loop (fun nn_ σ W1 => ∃ (k : Nat),(∃ jj_,σ = upds jj_ [(0,(.slice a l.length c)),(1,fv),(7,(I6 (l.length : Int))),(8,(I6 (k : Int)))]) ∧ Chg none1 w0 W1 ∧ (k ≤ l.length) ∧ (∀ (i : Nat) (y : Int × Int),i < k → l[i]? = some y → p y = false) ∧ nn_ = l.length - k) (n := l.length - 0) ?_ ?_
 ·exact ⟨0,Fits.out ⟨rfl,rfl,rfl,rfl,trivial⟩,E,Nat.zero_le _,(fun i y h => absurd h (Nat.not_lt_zero _)),rfl⟩
 ·clear E
  rintro _ _ W1 ⟨k,⟨j1,rfl⟩,E,hk,hno,rfl⟩
  refine Wp_seq_region ?_
  refine qV (r_lss (k := .i64) (a := (k : Int)) (b := (l.length : Int)) rfl rfl) ?_
  refine WpL_nil (Wp_seq ?_)
  refine Wp_cond (b := decide (((k : Int) : Int) < (l.length : Int))) rfl (fun hlt => ?_) (fun hlt => ?_)
  ·have khlt := hlt
   replace hlt := of_decide_eq_true hlt
   obtain ⟨x,hx⟩ := get_of_lt (l := l) (i := k) (by omega)
   obtain ⟨b,o,rfl,hcells⟩ := spans_cells hs (by omega)
   refine Wp_skip (thn_normal (Wp_seq (Wp_block (Wp_seq_region ?_))))
   refine qM (I6 (k : Int)) rfl ?_
   refine qA (I6 (k : Int)) rfl ?_
   refine WpL_nil (Wp_seq_region ?_)
   refine qM fv rfl ?_
   refine qM (.slice (some ⟨b,o,none⟩) l.length c) rfl ?_
   refine qM (I6 (k : Int)) rfl ?_
   refine qV (r_indexSlice (b := b) (o := o) (len := l.length) (cap := c) (i := k) (o' := o + k * 2) rfl rfl rfl Tryz.underlying24 siz72 (by omega) (by omega)) ?_
   refine qV (r_loadAgg (vs := [(I6 x.1),(I6 x.2)]) rfl agg72 siz72 rfl ((hcells k x hx).ext E)) ?_
   refine WpL_callV (fv := fv) (vs := [(.agg #[(I6 x.1),(I6 x.2)])]) (by decide) rfl rfl (hf _ x E (List.mem_of_getElem? hx)) ?_
   rintro _ w9 ⟨rfl,X9⟩
   replace E := E.ext X9
   refine WpL_nil ?_
   refine Wp_cond (b := p x) rfl (fun hp => ?_) (fun hp => ?_)
   ·have khp := hp
    refine Wp_seq_region ?_
    refine qM (I6 (k : Int)) rfl ?_
    refine qA (I6 (k : Int)) rfl ?_
    refine WpL_nil (Wp_ret (inB_ret (thn_ret (thn_ret (inB_ret (thn_ret ?_))))))
    refine fin_tmp Tryz.results94 (v := (.int .i64 ((k : Nat) : Int))) rfl ?_
    exact ⟨int_eq (idx_hit hx hp hno).symm,E⟩
   ·have khp := hp
    refine Wp_skip (inB_normal (thn_normal (Wp_region ?_)))
    refine qV (r_add (k := .i64) (a := (k : Int)) (b := 1) (c := (k : Int) + 1) rfl rfl (wI64 (by omega))) ?_
    refine qM (I6 ((k : Int) + 1)) rfl ?_
    refine WpL_nil (thn_normal ?_)
    exact ⟨l.length - (k + 1),by omega,k + 1,Fits.out ⟨rfl,rfl,rfl,rfl,trivial⟩,E,(by omega),below_next hx hp hno,rfl⟩
  ·have khlt := hlt
   replace hlt := of_decide_eq_false hlt
   have hkk : k = l.length := by omega
   refine Wp_exit (thn_exit (thn_exit (inB_here (thn_normal (Wp_seq_region ?_)))))
   refine qA (I6 (-1)) rfl ?_
   refine WpL_nil (Wp_ret ?_)
   refine fin_tmp Tryz.results94 (v := (.int .i64 (-1))) rfl ?_
   exact ⟨int_eq (idx_miss fun i y hy => hno i y (by have := lt_of_get hy; omega) hy).symm,E⟩
theorem spans_has_c (w0 : World) (v fv : Value) (l : List (Int × Int)) (p : Int × Int → Bool) (hs : SpansAt w0 v l) (hf : ∀ (w : World) (x : Int × Int),Ext w0 w → x ∈ l → CallV Tryz.prog fv #[.agg #[.int .i64 x.1,.int .i64 x.2]] w fun r w' => r = .bool (p x) ∧ Ext w w') :
  Ret Tryz.prog 65 #[v,fv] w0 fun r w => r = .bool (l.any p) ∧ Ext w0 w := by
 refine Ret_of Tryz.func65 rfl Tryz.ntmps65 (Nat.le_of_ble_eq_true rfl) ?_
 have E : Chg none1 w0 w0 := Chg.refl _ _
 refine Wp_seq_region ?_
 refine qA (.bool false) rfl ?_
 refine WpL_nil (Wp_seq_region ?_)
 refine qM v rfl ?_
 refine qM fv rfl ?_
 refine WpL_enter rfl rfl (by decide) (r_callF (vs := [v,fv]) Tryz.func94 kQ kQ rfl) (spans_idx_c _ v fv l p hs hf) ?_
 rintro _ w9 ⟨rfl,X9⟩
 replace E := E.ext X9
 refine qV (r_geq (k := .i64) (a := idx p l) (b := 0) rfl rfl) ?_
 refine qA (.bool (decide ((0 : Int) ≤ idx p l))) rfl ?_
 refine WpL_nil (Wp_ret ?_)
 refine fin_tmp Tryz.results65 (v := (.bool (decide ((0 : Int) ≤ idx p l)))) rfl ?_
 exact ⟨bool_eq (idx_any p l),E⟩
theorem in1_c (w0 : World) (s : Int × Int) (r : Int) (b : Nat) (hB : Blk w0 b #[.int .i64 r] 3) :
  Ret Tryz.prog 66 #[.agg #[.int .i64 s.1,.int .i64 s.2],.pointer (some ⟨b,0,none⟩)] w0 fun v w => v = .bool (decide (s.1 ≤ r) && decide (r ≤ s.2)) ∧ Ext w0 w := by
 refine Ret_of Tryz.func66 rfl Tryz.ntmps66 (Nat.le_of_ble_eq_true rfl) ?_
 have E : Chg none1 w0 w0 := Chg.refl _ _
 refine Wp_seq_region ?_
 refine s_box (v := (.agg #[(I6 s.1),(I6 s.2)])) (c := #[(I6 s.1),(I6 s.2)]) (by decide) rfl rfl ?_
 intro b1 w1 N1
 have F1 := N1.ge E
 have O1_b := N1.lt hB
 replace hB := N1.keep hB
 replace E := E.ext N1.ext
 have B1 := N1.blk
 refine qA (.bool false) rfl ?_
 refine WpL_nil (Wp_seq_region ?_)
 refine qF b1 0 0 rfl Tryz.underlying72 rfl siz3 rfl ?_
 refine qV (r_load (v := (I6 s.1)) rfl flat3 (B1.cell rfl)) ?_
 refine qV (r_load (v := (I6 r)) rfl flat3 (hB.cell rfl)) ?_
 obtain ⟨e2,he2⟩ : ∃ e,(decide ((s.1 : Int) ≤ r)) = e := ⟨_,rfl⟩
 refine qV ((r_leq (k := .i64) (a := s.1) (b := r) rfl rfl).trans (by rw [he2]; try rfl)) ?_
 refine qM (.bool e2) rfl ?_
 refine qG (.bool e2) (yU e2 (I6 r)) (by cases e2 <;> first | exact gA | exact gB | exact .inl ⟨rfl,r_load (v := (I6 r)) rfl flat3 (hB.cell rfl)⟩) ?_
 refine qG (.bool e2) (yU e2 (P6 b1 1)) (by cases e2 <;> first | exact gA | exact gB | exact .inl ⟨rfl,r_fieldAddr (b := b1) (o := 0) (o' := 1) rfl Tryz.underlying72 rfl siz3 rfl⟩) ?_
 refine qG (.bool e2) (yU e2 (I6 s.2)) (by cases e2 <;> first | exact gA | exact gB | exact .inl ⟨rfl,r_load (v := (I6 s.2)) rfl flat3 (B1.cell rfl)⟩) ?_
 obtain ⟨e3,he3⟩ : ∃ e,(decide ((r : Int) ≤ s.2)) = e := ⟨_,rfl⟩
 refine qG (.bool e2) (yU e2 (.bool e3)) (by cases e2 <;> first | exact gA | exact gB | exact .inl ⟨rfl,(r_leq (k := .i64) (a := r) (b := s.2) rfl rfl).trans (by rw [he3]; try rfl)⟩) ?_
 obtain ⟨e4,he4⟩ : ∃ e,(e2 && e3) = e := ⟨_,rfl⟩
 refine qV (r_pick (b := e2) (v := .bool e4) rfl (by rw [← he4]; cases e2 <;> rfl)) ?_
 refine qA (.bool e4) rfl ?_
 refine WpL_nil ?_
 subst he4
 subst he3
 subst he2
 refine Wp_ret ?_
 refine fin_tmp Tryz.results66 (v := (.bool ((decide ((s.1 : Int) ≤ r)) && (decide ((r : Int) ≤ s.2))))) rfl ?_
 exact ⟨rfl,E⟩
theorem in_c (w0 : World) (v : Value) (l : List (Int × Int)) (r : Int) (hs : SpansAt w0 v l) :
  Ret Tryz.prog 32 #[v,.int .i64 r] w0 fun u w => u = .bool (inS l r) ∧ Ext w0 w := by
 refine Ret_of Tryz.func32 rfl Tryz.ntmps32 (Nat.le_of_ble_eq_true rfl) ?_
 have E : Chg none1 w0 w0 := Chg.refl _ _
 refine Wp_seq_region ?_
 refine s_box (v := (I6 r)) (c := #[(I6 r)]) (by decide) rfl rfl ?_
 intro b1 w1 N1
 have F1 := N1.ge E
 replace E := E.ext N1.ext
 have B1 := N1.blk
 refine qA (.bool false) rfl ?_
 refine WpL_nil (Wp_seq_region ?_)
 refine qM v rfl ?_
 refine qV (r_makeFunc (vs := []) (us := [(P6 b1 0)]) rfl rfl) ?_
 refine WpL_enter rfl rfl (by decide) (r_callF (vs := [v,(.func (.func 66) #[] #[(P6 b1 0)])]) Tryz.func65 kQ kQ rfl) (spans_has_c _ v _ l (fun s => decide (s.1 ≤ r) && decide (r ≤ s.2)) (hs.ext E) (fun w x hE _ => CallV.mk (first := #[]) (cap := #[.pointer (some ⟨b1,0,none⟩)]) Tryz.func66 kQ kQ rfl (in1_c w x r b1 (hE.keep B1)))) ?_
 rintro _ w9 ⟨rfl,X9⟩
 replace B1 := X9.keep B1
 replace E := E.ext X9
 refine qA (.bool (inS l r)) rfl ?_
 refine WpL_nil (Wp_ret ?_)
 refine fin_tmp Tryz.results32 (v := (.bool (inS l r))) rfl ?_
 exact ⟨rfl,E⟩
def runeB (r : Int) : Bool := decide (0 ≤ r) && decide (r ≤ 1114111)
theorem rune_c (r : Int) (w0 : World) : Ret Tryz.prog 64 #[.int .i64 r] w0 fun u w => u = .bool (runeB r) ∧ Ext w0 w := by
 refine Ret_of Tryz.func64 rfl Tryz.ntmps64 (Nat.le_of_ble_eq_true rfl) ?_
 have E : Chg none1 w0 w0 := Chg.refl _ _
 refine Wp_seq_region ?_
 refine qA (.bool false) rfl ?_
 refine WpL_nil (Wp_seq_region ?_)
 refine qM (I6 r) rfl ?_
 obtain ⟨e1,he1⟩ : ∃ e,(decide ((0 : Int) ≤ r)) = e := ⟨_,rfl⟩
 refine qV ((r_geq (k := .i64) (a := r) (b := 0) rfl rfl).trans (by rw [he1]; try rfl)) ?_
 refine qM (.bool e1) rfl ?_
 refine qG (.bool e1) (yU e1 (I6 r)) (by cases e1 <;> first | exact gA | exact gB | exact .inl ⟨rfl,r_move (v := (I6 r)) rfl⟩) ?_
 obtain ⟨e2,he2⟩ : ∃ e,(decide ((r : Int) ≤ 1114111)) = e := ⟨_,rfl⟩
 refine qG (.bool e1) (yU e1 (.bool e2)) (by cases e1 <;> first | exact gA | exact gB | exact .inl ⟨rfl,(r_leq (k := .i64) (a := r) (b := 1114111) rfl rfl).trans (by rw [he2]; try rfl)⟩) ?_
 obtain ⟨e3,he3⟩ : ∃ e,(e1 && e2) = e := ⟨_,rfl⟩
 refine qV (r_pick (b := e1) (v := .bool e3) rfl (by rw [← he3]; cases e1 <;> rfl)) ?_
 refine qA (.bool e3) rfl ?_
 refine WpL_nil ?_
 subst he3
 subst he2
 subst he1
 refine Wp_ret ?_
 refine fin_tmp Tryz.results64 (v := (.bool ((decide ((0 : Int) ≤ r)) && (decide ((r : Int) ≤ 1114111))))) rfl ?_
 exact ⟨rfl,E⟩
theorem runes1_c (r : Int) (w0 : World) : Ret Tryz.prog 63 #[.int .i64 r] w0 fun u w => u = .bool (!runeB r) ∧ Ext w0 w := by
 refine Ret_of Tryz.func63 rfl Tryz.ntmps63 (Nat.le_of_ble_eq_true rfl) ?_
 have E : Chg none1 w0 w0 := Chg.refl _ _
 refine Wp_seq_region ?_
 refine qA (.bool false) rfl ?_
 refine WpL_nil (Wp_seq_region ?_)
 refine qM (I6 r) rfl ?_
 refine WpL_enter rfl rfl (by decide) (r_callF (vs := [(I6 r)]) Tryz.func64 kQ kQ rfl) (rune_c r _) ?_
 rintro _ w9 ⟨rfl,X9⟩
 replace E := E.ext X9
 refine qV (r_not (b := runeB r) rfl) ?_
 refine qA (.bool (!(runeB r))) rfl ?_
 refine WpL_nil (Wp_ret ?_)
 refine fin_tmp Tryz.results63 (v := (.bool (!(runeB r)))) rfl ?_
 exact ⟨rfl,E⟩
theorem runes_c (w0 : World) (v : Value) (l : List Int) (hs : IntsAt w0 v l) :
  Ret Tryz.prog 30 #[v] w0 fun u w => u = .bool (!(l.any fun r => !runeB r)) ∧ Ext w0 w := by
 refine Ret_of Tryz.func30 rfl Tryz.ntmps30 (Nat.le_of_ble_eq_true rfl) ?_
 have E : Chg none1 w0 w0 := Chg.refl _ _
 refine Wp_seq_region ?_
 refine qA (.bool false) rfl ?_
 refine WpL_nil (Wp_seq_region ?_)
 refine qM v rfl ?_
 refine WpL_enter rfl rfl (by decide) (r_callF (vs := [v,(.func (.func 63) #[] #[])]) Tryz.func34 kQ kQ rfl) (ints_has_c _ v _ l (fun r => !runeB r) hs (fun w x hE _ => CallV.mk (first := #[]) (cap := #[]) Tryz.func63 kQ kQ rfl (runes1_c x w))) ?_
 rintro _ w9 ⟨rfl,X9⟩
 replace E := E.ext X9
 refine qV (r_not (b := (l.any fun r => !runeB r)) rfl) ?_
 refine qA (.bool (!(l.any fun r => !runeB r))) rfl ?_
 refine WpL_nil (Wp_ret ?_)
 refine fin_tmp Tryz.results30 (v := (.bool (!(l.any fun r => !runeB r)))) rfl ?_
 exact ⟨rfl,E⟩
theorem good1_c (e : Int) (w0 : World) : Ret Tryz.prog 45 #[.int .i64 e] w0 fun u w => u = .bool (decide (e ≠ 0)) ∧ Ext w0 w := by
 refine Ret_of Tryz.func45 rfl Tryz.ntmps45 (Nat.le_of_ble_eq_true rfl) ?_
 have E : Chg none1 w0 w0 := Chg.refl _ _
 refine Wp_seq_region ?_
 refine qA (.bool false) rfl ?_
 refine WpL_nil (Wp_seq_region ?_)
 refine qM (I6 e) rfl ?_
 refine qV (r_neq (k := .i64) (a := e) (b := 0) rfl rfl) ?_
 refine qA (.bool (decide ((e : Int) ≠ 0))) rfl ?_
 refine WpL_nil (Wp_ret ?_)
 refine fin_tmp Tryz.results45 (v := (.bool (decide ((e : Int) ≠ 0)))) rfl ?_
 exact ⟨rfl,E⟩
theorem good_c (w0 : World) (v : Value) (l : List Int) (hs : IntsAt w0 v l) :
  Ret Tryz.prog 14 #[v] w0 fun u w => u = .bool (!(l.any fun e => decide (e ≠ 0))) ∧ Ext w0 w := by
 refine Ret_of Tryz.func14 rfl Tryz.ntmps14 (Nat.le_of_ble_eq_true rfl) ?_
 have E : Chg none1 w0 w0 := Chg.refl _ _
 refine Wp_seq_region ?_
 refine qA (.bool false) rfl ?_
 refine WpL_nil (Wp_seq_region ?_)
 refine qM v rfl ?_
 refine WpL_enter rfl rfl (by decide) (r_callF (vs := [v,(.func (.func 45) #[] #[])]) Tryz.func44 kQ kQ rfl) (errs_has_c _ v _ l (fun e => decide (e ≠ 0)) hs (fun w x hE _ => CallV.mk (first := #[]) (cap := #[]) Tryz.func45 kQ kQ rfl (good1_c x w))) ?_
 rintro _ w9 ⟨rfl,X9⟩
 replace E := E.ext X9
 refine qV (r_not (b := (l.any fun e => decide (e ≠ 0))) rfl) ?_
 refine qA (.bool (!(l.any fun e => decide (e ≠ 0)))) rfl ?_
 refine WpL_nil (Wp_ret ?_)
 refine fin_tmp Tryz.results14 (v := (.bool (!(l.any fun e => decide (e ≠ 0))))) rfl ?_
 exact ⟨rfl,E⟩
end Go.Proofs
