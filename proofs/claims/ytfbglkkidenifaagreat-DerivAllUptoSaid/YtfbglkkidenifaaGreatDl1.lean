/- Contracts and plain lemmas, part 1. -/
import Derived.Tactics
import Derived.Deep.Quiet
import Derived.Laws.AppendOwn
import Derived.KernelRfl
import Derived.Laws.Entries
import Derived.Laws.Build
import Derived.Below
import Derived.RowKit3
import Derived.StillTail
import Derived.Sort.Grow
import Derived.Deep.Draws
import Derived.Test.YtfbglkkidenifaaGreatChecked
import Derived.Laws.StructEq
import Derived.Shelf.SlSortCmp.WholeK
import Derived.Shelf.Sort.Plain
import Derived.Shelf.Slices.CompactI
import Derived.Test.YtfbglkkidenifaaGreatProg
import Derived.MapKept
import Derived.Laws.BytesArg
import Derived.OpenShut
import Derived.ChangeSlices
import Derived.Test.YtfbglkkidenifaaGreatRows
open Go.Proofs.Tryz
set_option maxHeartbeats 16000000
set_option linter.unusedVariables false
namespace Go
theorem qO {p : Prop} (h : p := by omega) : p := h
theorem qD {p : Prop} (h : p := by decide) : p := h
theorem qP {p : Prop} (h : p := by simp) : p := h
theorem qK {p : Prop} (h : p := by kernel_rfl) : p := h
end Go
namespace Go.Eng
open Go
abbrev Env:=Nat→Value
abbrev zGJ:=Exit→Env→World→Prop
def upd (σ:Env) (d:Nat) (v:Value):Env:=fun t=>bif Nat.beq t d then v else σ t
def ev (σ:Env):Operand→Value
  | .tmp t=>σ t
  | .const v=>v
  | .global g=>.pointer (some ⟨g,0,none⟩)
  | .func f=>.func (.func f) #[] #[]
def env (a:Act):Env:=fun t=>a.tmps.getD t undef
def lk (t:Nat):List (Nat×Value)→Value→Value
  | [],d=>d
  | (k,v)::r,d=>bif Nat.beq t k then v else lk t r d
def zCH (σ:Env) (l:List (Nat×Value)):Env:=fun t=>lk t l (σ t)
theorem zPZ (σ:Env) (l:List (Nat×Value)) (h:∀p∈l,σ p.1=p.2):zCH σ l=σ:=by
  funext t;unfold zCH
  induction l with
  | nil=>rfl
  | cons p r ih=>
    obtain ⟨k,v⟩:=p;simp only[lk];cases hb:Nat.beq t k
    · simp only[cond_false];exact ih fun p hp=>h p (List.mem_cons_of_mem _ hp)
    · have:t=k:=Nat.eq_of_beq_eq_true hb;subst this;simp only[cond_true];exact (h (t,v) List.mem_cons_self).symm
def zBA (σ:Env):List (Nat×Value)→Prop
  | []=>True
  | (k,v)::r=>σ k=v∧zBA σ r
theorem zBA.all {σ:Env}:∀{l:List (Nat×Value)},zBA σ l→∀p∈l,σ p.1=p.2
  | [],_,_,hp=>by cases hp
  | (k,v)::r,h,p,hp=>by
    cases hp with
    | head=>exact h.1
    | tail _ hp=>exact zBA.all h.2 p hp
theorem zBA.out {σ:Env} {l:List (Nat×Value)} (h:zBA σ l):∃j,σ=zCH j l:=⟨σ,(zPZ σ l h.all).symm⟩
theorem zDG (a:Act):a.eval=ev (env a):=by
  funext x;cases x<;>rfl
structure Ok (N:Nat) (a:Act):Prop where
  size:a.tmps.size=N
  defers:a.defers=[]
theorem zEs {N:Nat} {a:Act} (h:Ok N a) {d:Nat} (hd:d<N) (v:Value):env (a.put (some d) v)=upd (env a) d v:=by
  funext t;have hs:=h.size;simp only[env,upd,Act.put];cases hb:Nat.beq t d
  · have aa:d≠t:=fun e=>by subst e;rw[Nat.beq_refl] at hb;cases hb
    simp[Array.getElem?_setIfInBounds_ne aa]
  · have:t=d:=Nat.eq_of_beq_eq_true hb;subst this;simp[hs,hd]
theorem Ok.put {N:Nat} {a:Act} (h:Ok N a) (d:Option Nat) (v:Value):Ok N (a.put d v):=by
  cases d with
  | none=>exact h
  | some d=>exact ⟨by simp[Act.put,h.size],h.defers⟩
def zGU (N:Nat) (Q:zGJ):Exit→Act→World→Prop:=fun e a w=>Ok N a∧Q e (env a) w
def Wp (P:Program) (N:Nat) (c:Code) (Q:zGJ) (σ:Env) (w:World):Prop:=
  ∀a,Ok N a→env a=σ→c.wp P (zGU N Q) a w
def thn (K:Env→World→Prop) (Q:zGJ):zGJ
  | .normal=>K
  | e=>Q e
def inB (id:Nat) (Q:zGJ):zGJ
  | .exit j=>if j=id then Q .normal else Q (.exit j)
  | e=>Q e
section
variable {P : Program} {N : Nat} {Q : zGJ} {σ : Env} {w : World} {K : Env → World → Prop}
theorem zAC (h:K σ w):thn K Q .normal σ w:=h
theorem zAX {j:Nat} (h:Q (.exit j) σ w):thn K Q (.exit j) σ w:=h
theorem zAI (h:Q .ret σ w):thn K Q .ret σ w:=h
theorem zAS {id:Nat} (h:Q .normal σ w):inB id Q .normal σ w:=h
theorem zAZ {id:Nat} (h:Q .ret σ w):inB id Q .ret σ w:=h
theorem zAj {id:Nat} (h:Q .normal σ w):inB id Q (.exit id) σ w:=by unfold inB;simp only[if_true];exact h
theorem zQk {id j:Nat} (hne:j≠id) (h:Q (.exit j) σ w):inB id Q (.exit j) σ w:=by unfold inB;simp only[hne,if_false];exact h
theorem zVo {c:Code} {Q':zGJ} (h:Wp P N c Q σ w) (hq:∀e σ w,Q e σ w→Q' e σ w):Wp P N c Q' σ w:=
  fun a ha he=>Code.wp_mono (fun _ _ _ ⟨o,q⟩=>⟨o,hq _ _ _ q⟩) (h a ha he)
theorem zAK {x y:Code} (h:Wp P N x (thn (Wp P N y Q) Q) σ w):Wp P N (.seq x y) Q σ w:=by
  intro a ha he;refine wp_seq (Code.wp_mono ?_ (h a ha he));rintro e a w ⟨o,q⟩;cases e<;>first|exact q a o rfl|exact ⟨o,q⟩
theorem zAP (h:Q .normal σ w):Wp P N .skip Q σ w:=fun _ ha he=>wp_skip ⟨ha,he▸h⟩
theorem zAp {id:Nat} (h:Q (.exit id) σ w):Wp P N (.exit id) Q σ w:=fun _ ha he=>wp_exit ⟨ha,he▸h⟩
theorem zAR (h:Q .ret σ w):Wp P N .ret Q σ w:=fun _ ha he=>wp_ret ⟨ha,he▸h⟩
theorem zAT {id:Nat} {c:Code} (h:Wp P N c (inB id Q) σ w):Wp P N (.block id c) Q σ w:=by
  intro a ha he;refine wp_block (Code.wp_mono ?_ (h a ha he));rintro e a w ⟨o,q⟩;cases e with
  | exit j=>
    unfold Exit.inBlock;unfold inB at q;by_cases hj:j=id
    · simp only[hj,if_true] at q⊢;exact ⟨o,q⟩
    · simp only[hj,if_false] at q⊢;exact ⟨o,q⟩
  | normal=>exact ⟨o,q⟩
  | goto l=>exact ⟨o,q⟩
  | ret=>exact ⟨o,q⟩
  | panic c=>exact ⟨o,q⟩
  | outgrown=>exact ⟨o,q⟩
theorem zAt {c:Operand} {x y:Code} {b:Bool} (hc:ev σ c=.bool b) (ht:b=true→Wp P N x Q σ w) (hf:b=false→Wp P N y Q σ w) :
    Wp P N (.cond c x y) Q σ w:=by
  intro a ha he;refine wp_cond_split (t:=b) (by rw[zDG,he];exact hc) (fun h=>ht h a ha he) (fun h=>hf h a ha he)
theorem zAl {c:Operand} {x y:Code} (hc:ev σ c=.bool true) (h:Wp P N x Q σ w):Wp P N (.cond c x y) Q σ w:=
  zAt hc (fun _=>h) (fun h=>by cases h)
theorem zAb {c:Operand} {x y:Code} (hc:ev σ c=.bool false) (h:Wp P N y Q σ w):Wp P N (.cond c x y) Q σ w:=
  zAt hc (fun h=>by cases h) (fun _=>h)
/-- A loop, by a relation that is indexed by a number that falls in every round. -/
theorem zAq {c:Code} (I:Nat→Env→World→Prop) {n:Nat} (h0:I n σ w)
    (round:∀n σ w,I n σ w→Wp P N c (thn (fun σ' w'=>∃m,m<n∧I m σ' w') Q) σ w):Wp P N (.loop c) Q σ w:=by
  intro a ha he b k cs;have ad:∀n a w,Ok N a→I n (env a) w→
      ∃e a' w',zGU N Q e a' w'∧Arrives P (lone (b.at a (.code c::.inLoop c::k)) cs w) b k cs e a' w':=by
    intro n
    induction n using Nat.strongRecOn with
    | _ n ih=>
      intro a w ha hI;obtain ⟨e,a1,w1,⟨ho,hq⟩,aa⟩:=round n _ w hI a ha rfl b (.inLoop c::k) cs;cases e with
      | normal=>
        obtain ⟨m,af,ac⟩:=hq;obtain ⟨e2,a2,w2,ae,ab⟩:=ih m af a1 w1 ho ac;exact ⟨e2,a2,w2,ae,.of_steps (Steps.trans aa (.one step_inLoop)) ab⟩
      | exit id=>exact ⟨_,a1,w1,⟨ho,hq⟩,.pass (x:=.inLoop c) rfl (fun _ _=>.inl qP) aa⟩
      | goto l=>exact ⟨_,a1,w1,⟨ho,hq⟩,.pass (x:=.inLoop c) rfl (fun _ _=>.inl qP) aa⟩
      | ret=>exact ⟨_,a1,w1,⟨ho,hq⟩,.pass (x:=.inLoop c) rfl (fun _ _=>.inl qP) aa⟩
      | panic ch=>exact ⟨_,a1,w1,⟨ho,hq⟩,.pass (x:=.inLoop c) rfl (fun _ _=>.inl qP) aa⟩
      | outgrown=>exact ⟨_,a1,w1,⟨ho,hq⟩,.pass (x:=.inLoop c) rfl (fun _ _=>.inl qP) aa⟩
  obtain ⟨e,a',w',hq,aa⟩:=ad n a w ha (he▸h0);exact ⟨e,a',w',hq,.of_steps (.one step_loop) aa⟩
end
def WpL (P:Program) (N:Nat) (ops:Array Oper) (K:Env→World→Prop) (Q:zGJ) (l:List Oper) (σ:Env) (w:World):Prop:=
  ∀a,Ok N a→env a=σ→wpList P ops (zGU N (thn K Q)) l a w
section
variable {P : Program} {N : Nat} {Q : zGJ} {σ : Env} {w : World} {K : Env → World → Prop} {ops : Array Oper} {rest : List Oper}
theorem zAN {id:Nat} {l:List Oper} (h:WpL P N l.toArray (Q .normal) Q l σ w):Wp P N (.region id l.toArray false) Q σ w:=by
  intro a ha he;refine wp_region_lit ?_;have:=h a ha he;have e:zGU N (thn (Q .normal) Q)=zGU N Q:=by funext e a w;cases e<;>rfl
  rwa [e] at this
theorem zAA {id:Nat} {l:List Oper} {y:Code} (h:WpL P N l.toArray (Wp P N y Q) Q l σ w):Wp P N (.seq (.region id l.toArray false) y) Q σ w:=by
  refine zAK ?_;intro a ha he;exact wp_region_lit (h a ha he)
theorem zAB (h:K σ w):WpL P N ops K Q [] σ w:=fun a ha he=>⟨ha,by subst he;exact h⟩
theorem zCJ {o:Oper} (hg:o.guard=none) {d:Nat} (hd:o.dst=some d) (hN:d<N) {v:Value} {w':World}
    (hr:(execOp (ev σ) o).run P w=.ok (.value v) w') (k:WpL P N ops K Q rest (upd σ d v) w'):WpL P N ops K Q (o::rest) σ w:=by
  intro a ha he;refine wpList_plain hg fun K' hK=>?_;unfold Oper.wp;rw[zDG,he,hr];simp only[Oper.upon,hd];exact hK _ _ (k _ (ha.put _ _) (by rw[zEs ha hN,he]))
theorem zGp {o:Oper} (hg:o.guard=none) (hd:o.dst=none) {w':World}
    (hr:(execOp (ev σ) o).run P w=.ok .skip w') (k:WpL P N ops K Q rest σ w'):WpL P N ops K Q (o::rest) σ w:=by
  intro a ha he;refine wpList_plain hg fun K' hK=>?_;unfold Oper.wp;rw[zDG,he,hr];simp only[Oper.upon,hd];exact hK _ _ (k a ha he)
/-- The contract of a call: it returns a value, and what is said of it and of the world holds. -/
def Ret (P:Program) (f:FuncId) (args:Array Value) (w:World) (R:Value→World→Prop):Prop:=
  Calls P f args w fun e w'=>∃v,e=.returned v∧R v w'
theorem Ret.mono {f:FuncId} {args:Array Value} {R R':Value→World→Prop} (h:Ret P f args w R) (hr:∀v w',R v w'→R' v w'):Ret P f args w R':=
  Calls.mono h fun _ _ ⟨v,e,r⟩=>⟨v,e,hr _ _ r⟩
theorem zMA {o:Oper} (hg:o.guard=none) {d:Nat} (hd:o.dst=some d) (hN:d<N) {f:FuncId} {args:Array Value} {R:Value→World→Prop}
    (hr:(execOp (ev σ) o).run P w=.ok (.enter f args) w) (hc:Ret P f args w R) (k:∀v w',R v w'→WpL P N ops K Q rest (upd σ d v) w'):WpL P N ops K Q (o::rest) σ w:=by
  intro a ha he;refine wpList_plain hg fun K' hK=>?_;unfold Oper.wp;rw[zDG,he,hr];simp only[Oper.upon,hd];refine Calls.mono hc ?_;rintro e w' ⟨v,rfl,r⟩;exact hK _ _ (k v w' r _ (ha.put _ _) (by rw[zEs ha hN,he]))
/-- An operation that is guarded: carried out. -/
theorem zAF {dst:Option Tmp} {op:Op} {ty:TypeId} {pos:String} {af:Array Edge} {j:Nat} {b:Bool} {oj:Oper} {dj:Nat}
    (hj:ops[j]?=some oj) (hdj:oj.dst=some dj) (hN:dj<N) (hy:σ dj=.bool b)
    (k:WpL P N ops K Q (⟨dst,op,ty,pos,af,none⟩::rest) σ w):WpL P N ops K Q (⟨dst,op,ty,pos,af,some (j,b)⟩::rest) σ w:=by
  intro a ha he;have h1:=k a ha he;have hw:Region.wanted ⟨dst,op,ty,pos,af,some (j,b)⟩ (yielded ops a.tmps)=true:=by
    simp only[Region.wanted,yielded,hj,hdj,Option.bind_some];have:a.tmps[dj]?=some (Value.bool b):=by
      have h2:a.tmps.getD dj undef=.bool b:=by rw[←hy,←he];rfl
      have aa:dj<a.tmps.size:=by rw[ha.size];exact hN
      rw[Array.getElem?_eq_getElem aa];simpa[aa] using h2
    simp[this]
  unfold wpList at h1⊢;rw[if_pos hw];rw[if_pos (by rfl)] at h1;exact h1
/-- An operation that is guarded: passed over. -/
theorem zAE {d:Nat} {op:Op} {ty:TypeId} {pos:String} {af:Array Edge} {j:Nat} {b:Bool} {oj:Oper} {dj:Nat} {v:Value}
    (hj:ops[j]?=some oj) (hdj:oj.dst=some dj) (hd:d<N) (hy:σ dj=v) (hv:v=.bool (!b)∨v=undef)
    (k:WpL P N ops K Q rest (upd σ d undef) w):WpL P N ops K Q (⟨some d,op,ty,pos,af,some (j,b)⟩::rest) σ w:=by
  intro a ha he;have hw:Region.wanted ⟨some d,op,ty,pos,af,some (j,b)⟩ (yielded ops a.tmps)=false:=by
    simp only[Region.wanted,yielded,hj,hdj,Option.bind_some];have h2:a.tmps.getD dj undef=v:=by rw[←hy,←he];rfl
    cases hx:a.tmps[dj]? with
    | none=>simp
    | some u=>
      have:u=v:=by simpa[hx] using h2
      subst this;rcases hv with rfl|rfl
      · cases b<;>simp
      · simp[undef]
  unfold wpList;rw[hw,if_neg qP];exact k _ (ha.put _ _) (by rw[zEs ha hd,he])
/-- An operation that is guarded, whether it is carried out or not. -/
theorem zKg {d:Nat} {op:Op} {ty:TypeId} {pos:String} {af:Array Edge} {j:Nat} {b:Bool} {oj:Oper} {dj:Nat} {gv u:Value}
    (hj:ops[j]?=some oj) (hdj:oj.dst=some dj) (hN:dj<N) (hd:d<N) (hy:σ dj=gv)
    (h:(gv=.bool b∧(execOp (ev σ) ⟨some d,op,ty,pos,af,none⟩).run P w=.ok (.value u) w)∨((gv=.bool (!b)∨gv=undef)∧u=undef))
    (k:WpL P N ops K Q rest (upd σ d u) w):WpL P N ops K Q (⟨some d,op,ty,pos,af,some (j,b)⟩::rest) σ w:=by
  rcases h with ⟨h1,h2⟩|⟨h1,rfl⟩
  · exact zAF hj hdj hN (hy.trans h1) (zCJ rfl rfl hd h2 k)
  · exact zAE hj hdj hd hy h1 k
end
def fin (P:Program) (fn:Func) (R:Value→World→Prop):zGJ
  | .normal,σ,w | .ret,σ,w=>∃v,(∀a:Act,env a=σ→(results fn a.tmps).run P w=.ok v w)∧R v w
  | _,_,_=>False
theorem zGr {P:Program} {f:FuncId} {fn:Func} {c:Code} {N:Nat} {args:Array Value} {w:World} {R:Value→World→Prop}
    (hf:P.funcs[f]?=some fn) (hb:fn.body=some c) (hn:fn.ntmps=N) (hsz:args.size≤N)
    (h:Wp P N c (fin P fn R) (fun t=>args.getD t undef) w):Ret P f args w R:=by
  refine calls_of_wp hf hb (Code.wp_mono ?_ (h _ ⟨?_,rfl⟩ ?_))
  · rintro e a w ⟨o,q⟩;cases e<;>simp only[fin] at q
    · obtain ⟨v,hv,r⟩:=q;exact ⟨o.defers,v,hv a rfl,v,rfl,r⟩
    · obtain ⟨v,hv,r⟩:=q;exact ⟨o.defers,v,hv a rfl,v,rfl,r⟩
  · simp[hn];omega
  · funext t;simp only[env,Array.getD_eq_getD_getElem?,Array.getElem?_append];split
    · rfl
    · rename_i hlt
      rw[Array.getElem?_replicate,Array.getElem?_eq_none (xs:=args) qO];split<;>rfl
theorem zAW {P:Program} {fn:Func} {R:Value→World→Prop} {t:Nat} (hr:fn.results=#[.tmp t]) {σ:Env} {w:World} {v:Value} (hv:σ t=v) (h:R v w):fin P fn R .ret σ w:=
  ⟨v,fun a ha=>by rw[results_tmp hr];subst ha;rw[←hv];rfl,h⟩
theorem zCK {P:Program} {fn:Func} {R:Value→World→Prop} {t u:Nat} (hr:fn.results=#[.tmp t,.tmp u]) {σ:Env} {w:World} {v v':Value} (hv:σ t=v) (hv':σ u=v') (h:R (.tuple #[v,v']) w):fin P fn R .ret σ w:=
  ⟨.tuple #[v,v'],fun a ha=>by rw[results_tmp2 hr];subst ha;rw[←hv,←hv'];rfl,h⟩
theorem zGd {P:Program} {fn:Func} {R:Value→World→Prop} (hr:fn.results=#[]) {σ:Env} {w:World} (h:R (.tuple #[]) w):fin P fn R .normal σ w:=
  ⟨.tuple #[],fun a ha=>by rw[results_none hr],h⟩
theorem zLe {P:Program} {fn:Func} {R:Value→World→Prop} (hr:fn.results=#[]) {σ:Env} {w:World} (h:R (.tuple #[]) w):fin P fn R .ret σ w:=
  ⟨.tuple #[],fun a ha=>by rw[results_none hr],h⟩
end Go.Eng
namespace Go.Eng
open Go
/-- From w to w' only blocks in M may have changed, and blocks may have been made. -/
structure Chg (M:Nat→Prop) (w w':World):Prop where
  os:w'.os=w.os
  tape:w'.tape=w.tape
  output:w'.output=w.output
  drw:w.drawn≤w'.drawn
  size:w.heap.size≤w'.heap.size
  blk:∀b,b<w.heap.size→¬M b→w'.heap[b]?=w.heap[b]?
def zAo:Nat→Prop:=fun _=>False
def Ext (w w':World):Prop:=Chg zAo w w'
def Blk (w:World) (b:Nat) (c:Array Value) (t:TypeId):Prop:=w.heap[b]?=some (.cells c t (0,0))
theorem Chg.refl (M:Nat→Prop) (w:World):Chg M w w:=⟨rfl,rfl,rfl,Nat.le_refl _,Nat.le_refl _,fun _ _ _=>rfl⟩
theorem Ext.refl (w:World):Ext w w:=Chg.refl _ w
theorem Chg.step {M M':Nat→Prop} {a b c:World} (h:Chg M a b) (k:Chg M' b c) (hm:∀x,x<a.heap.size→M' x→M x):Chg M a c:=
  ⟨k.os.trans h.os,k.tape.trans h.tape,k.output.trans h.output,Nat.le_trans h.drw k.drw,Nat.le_trans h.size k.size,
    fun x hx hn=>(k.blk x (Nat.lt_of_lt_of_le hx h.size) (fun hm'=>hn (hm x hx hm'))).trans (h.blk x hx hn)⟩
theorem Chg.trans {M:Nat→Prop} {a b c:World} (h:Chg M a b) (k:Chg M b c):Chg M a c:=h.step k fun _ _ x=>x
theorem Chg.ext {M:Nat→Prop} {a b c:World} (h:Chg M a b) (k:Ext b c):Chg M a c:=h.step k fun _ _ x=>x.elim
theorem Ext.trans {a b c:World} (h:Ext a b) (k:Ext b c):Ext a c:=Chg.trans h k
theorem Ext.chg {M:Nat→Prop} {a b:World} (h:Ext a b):Chg M a b:=⟨h.os,h.tape,h.output,h.drw,h.size,fun x hx _=>h.blk x hx (fun f=>f)⟩
theorem Chg.mono {M M':Nat→Prop} {a b:World} (h:Chg M a b) (hm:∀x,x<a.heap.size→M x→M' x):Chg M' a b:=
  ⟨h.os,h.tape,h.output,h.drw,h.size,fun x hx hn=>h.blk x hx fun m=>hn (hm x hx m)⟩
theorem Blk.lt {w:World} {b:Nat} {c:Array Value} {t:TypeId} (h:Blk w b c t):b<w.heap.size:=(Array.getElem?_eq_some_iff.1 h).1
theorem Chg.keep {M:Nat→Prop} {w w':World} (h:Chg M w w') {b:Nat} {c:Array Value} {t:TypeId} (hm:¬M b) (hb:Blk w b c t):Blk w' b c t:=
  (h.blk b hb.lt hm).trans hb
theorem Ext.keep {w w':World} (h:Ext w w') {b:Nat} {c:Array Value} {t:TypeId} (hb:Blk w b c t):Blk w' b c t:=Chg.keep h (fun f=>f) hb
theorem Chg.cell {M:Nat→Prop} {w w':World} (h:Chg M w w') {a:Addr} {v:Value} (hm:¬M a.block) (hc:w.cell? a=some v):w'.cell? a=some v:=
  (World.cell?_of_block (w:=w) (h.blk a.block (World.block_lt_of_cell? w a hc) hm)).trans hc
theorem Ext.cell {w w':World} (h:Ext w w') {a:Addr} {v:Value} (hc:w.cell? a=some v):w'.cell? a=some v:=Chg.cell h (fun f=>f) hc
theorem Blk.cell {w:World} {b:Nat} {c:Array Value} {t:TypeId} (h:Blk w b c t) {o:Nat} {v:Value} (hv:c[o]?=some v):w.cell? ⟨b,o,none⟩=some v:=by
  unfold Blk at h;simp[World.cell?,h,hv]
theorem Ext.below {w w':World} (h:Ext w w'):RowKit.Below w.heap.size w w':=⟨h.os,h.tape,h.output,h.size,fun k hk=>h.blk k hk fun f=>f⟩
/-- What only made blocks, as a world that has grown. -/
theorem Ext.grown {w w':World} (h:Ext w w'):∃q os,w'=Sort.grow (w.drewN q) os:=by
  refine ⟨w'.drawn - w.drawn,w'.heap.extract w.heap.size w'.heap.size,?_⟩;have h1:=h.os;have h2:=h.tape;have h3:=h.output;have h4:=h.drw;have h5:=h.size;have h6:=h.blk;obtain ⟨hp,tp,dr,o,ou⟩:=w';obtain ⟨aa,tp',dr',o',ou'⟩:=w;simp only at h1 h2 h3 h4 h5 h6;subst h1;subst h2;subst h3;simp only[Sort.grow,World.drewN,World.mk.injEq,and_true,true_and];refine ⟨?_,qO⟩;apply Array.ext_getElem?;intro i;rw[Array.getElem?_append];by_cases hi:i<aa.size
  · rw[if_pos hi];exact h6 i hi fun f=>f
  · rw[if_neg hi,Array.getElem?_extract];by_cases h7:i<hp.size
    · rw[if_pos qO];congr 1;omega
    · rw[if_neg qO,Array.getElem?_eq_none qO]
/-- A new block. -/
structure New (w w':World) (b:Nat) (c:Array Value) (t:TypeId):Prop where
  blk:Blk w' b c t
  ext:Ext w w'
  eq:b=w.heap.size
  size:w'.heap.size=w.heap.size+1
theorem New.mk' (w:World) (c:Array Value) (t:TypeId):New w {w with heap:=w.heap.push (.cells c t (0,0))} w.heap.size c t:=
  ⟨by unfold Blk;simp,⟨rfl,rfl,rfl,Nat.le_refl _,qP,fun x hx _=>by simp[Array.getElem?_push,Nat.ne_of_lt hx]⟩,rfl,qP⟩
theorem New.keep {w w':World} {b:Nat} {c:Array Value} {t:TypeId} (h:New w w' b c t) {b':Nat} {c':Array Value} {t':TypeId} (hb:Blk w b' c' t'):Blk w' b' c' t':=h.ext.keep hb
theorem New.lt {w w':World} {b:Nat} {c:Array Value} {t:TypeId} (h:New w w' b c t) {b':Nat} {c':Array Value} {t':TypeId} (hb:Blk w b' c' t'):b'<b:=by rw[h.eq];exact hb.lt
theorem New.ge {w0 w w':World} {b:Nat} {c:Array Value} {t:TypeId} (h:New w w' b c t) {M:Nat→Prop} (e:Chg M w0 w):w0.heap.size≤b:=by rw[h.eq];exact e.size
/-- A block is written. -/
structure Put (w w':World) (b:Nat) (c:Array Value) (t:TypeId):Prop where
  blk:Blk w' b c t
  chg:Chg (fun x=>x=b) w w'
  size:w'.heap.size=w.heap.size
theorem Put.of_setRow {w:World} {b:Nat} {c:Array Value} {t:TypeId} (h:Blk w b c t) (c':Array Value):Put w (w.setRow b c') b c' t:=
  ⟨setRow_heap w b c c' t _ h,⟨rfl,rfl,rfl,Nat.le_refl _,by simp[World.setRow],fun x _ hn=>setRow_other w b x c' hn⟩,by simp[World.setRow]⟩
theorem Put.keep {w w':World} {b:Nat} {c:Array Value} {t:TypeId} (h:Put w w' b c t) {b':Nat} {c':Array Value} {t':TypeId} (hne:b'≠b) (hb:Blk w b' c' t'):Blk w' b' c' t':=h.chg.keep hne hb
theorem Put.ext {w0 w w':World} {b:Nat} {c:Array Value} {t:TypeId} (h:Put w w' b c t) {M:Nat→Prop} (e:Chg M w0 w) (hb:w0.heap.size≤b):Chg M w0 w':=
  e.step h.chg fun x hx hm=>by subst hm;omega
theorem Put.step {w0 w w':World} {b:Nat} {c:Array Value} {t:TypeId} (h:Put w w' b c t) {M:Nat→Prop} (e:Chg M w0 w) (hb:w0.heap.size≤b∨M b):Chg M w0 w':=
  e.step h.chg fun x hx hm=>by subst hm;rcases hb with hb|hb;omega;exact hb
/-- Cells in a row. -/
def zBD (w:World) (b o:Nat) (vs:List Value):Prop:=∀i v,vs[i]?=some v→w.cell? ⟨b,o+i,none⟩=some v
theorem zBD.chg {M:Nat→Prop} {w w':World} {b o:Nat} {vs:List Value} (h:zBD w b o vs) (e:Chg M w w') (hm:¬M b):zBD w' b o vs:=
  fun i v hv=>e.cell hm (h i v hv)
theorem zBD.ext {w w':World} {b o:Nat} {vs:List Value} (h:zBD w b o vs) (e:Ext w w'):zBD w' b o vs:=h.chg e fun f=>f
theorem Blk.cells {w:World} {b:Nat} {c:Array Value} {t:TypeId} (h:Blk w b c t) {o:Nat} {vs:List Value} (hv:(c.toList.drop o).take vs.length=vs):zBD w b o vs:=by
  intro i v hi;refine h.cell ?_;have aa:i<vs.length:=by
    rcases Nat.lt_or_ge i vs.length with h|h
    · exact h
    · simp[List.getElem?_eq_none h] at hi
  rw[←hv,List.getElem?_take_of_lt aa,List.getElem?_drop] at hi;simpa using hi
def Siz (P:Program) (t:TypeId) (n:Nat):Prop:=(P.info? t).map (fun i=>i.size)=some n
def Byt (P:Program) (t:TypeId) (n:Nat):Prop:=(P.info? t).map (fun i=>i.bytes)=some n
def Zer (P:Program) (t:TypeId) (z:Value):Prop:=(P.info? t).bind (fun i=>i.zero)=some z
def zEy (P:Program) (t:TypeId):Bool:=match P.underlying t with
  | some (.struct _)|some (.array _ _)|none=>false
  | some _=>true
def zMu (P:Program) (t:TypeId):Bool:=match P.underlying t with
  | some (.struct _)|some (.array _ _)=>true
  | _=>false
theorem Siz.run {P:Program} {t:TypeId} {n:Nat} (h:Siz P t n) (w:World):(sizeOf t).run P w=.ok n w:=by
  unfold Siz at h;cases hi:P.info? t with
  | none=>simp[hi] at h
  | some i=>simp[hi] at h;simp[sizeOf,typeInfo,hi,h]
theorem Zer.run {P:Program} {t:TypeId} {z:Value} (h:Zer P t z) (w:World):(zeroValue t).run P w=.ok z w:=by
  unfold Zer at h;cases hi:P.info? t with
  | none=>simp[hi] at h
  | some i=>simp[hi] at h;simp[zeroValue,typeInfo,hi,h]
theorem zEy.run {P:Program} {t:TypeId} (h:zEy P t=true) (w:World):(isAgg t).run P w=.ok false w:=by
  unfold zEy at h;cases hi:P.underlying t with
  | none=>simp[hi] at h
  | some d=>cases d<;>simp[hi] at h<;>simp[isAgg,run_underlying hi]
theorem zMu.run {P:Program} {t:TypeId} (h:zMu P t=true) (w:World):(isAgg t).run P w=.ok true w:=by
  unfold zMu at h;cases hi:P.underlying t with
  | none=>simp[hi] at h
  | some d=>cases d<;>simp[hi] at h<;>simp[isAgg,run_underlying hi]
section
variable {P : Program} {σ : Env} {w : World} {dst : Option Tmp} {ty : TypeId} {pos : String} {af : Array Edge} {g : Option (Nat × Bool)}
theorem zAi {x:Operand} {v:Value} (hx:ev σ x=v):(execOp (ev σ) ⟨dst,.move x,ty,pos,af,g⟩).run P w=.ok (.value v) w:=by subst hx;rfl
theorem zEI {x:Operand} {v:Value} (hx:ev σ x=v):(execOp (ev σ) ⟨dst,.assign x,ty,pos,af,g⟩).run P w=.ok (.value v) w:=by subst hx;rfl
theorem zAd {c x y:Operand} {b:Bool} {v:Value} (hc:ev σ c=.bool b) (hv:(if b then ev σ x else ev σ y)=v):(execOp (ev σ) ⟨dst,.pick c x y,ty,pos,af,g⟩).run P w=.ok (.value v) w:=by
  subst hv;simp only[execOp,hc,asBool];cases b<;>rfl
theorem zCf {t:TypeId} {x:Operand} {b:Bool} (hx:ev σ x=.bool b):(execOp (ev σ) ⟨dst,.unOp .not t x,ty,pos,af,g⟩).run P w=.ok (.value (.bool (!b))) w:=by
  simp only[execOp,hx];rfl
theorem zLL {s t:TypeId} {x:Operand} {k k':IntKind} {n c:Int} (hs:∃d,P.underlying s=some d) (ht:P.underlying t=some (.int k')) (hx:ev σ x=.int k n) (hw:k'.wrap n=c) :
    (execOp (ev σ) ⟨dst,.convert s t x,ty,pos,af,g⟩).run P w=.ok (.value (.int k' c)) w:=by
  obtain ⟨d,hd⟩:=hs;subst hw;simp only[execOp,hx,convert,Sem.run_bind,run_underlying hd,run_underlying ht,Result.andThen_ok];rfl
variable {t t' : TypeId} {x y : Operand} {k : IntKind} {a b c : Int}
theorem zAy (hx:ev σ x=.int k a) (hy:ev σ y=.int k b) (hw:k.wrap (a+b)=c):(execOp (ev σ) ⟨dst,.binOp .add t x y t',ty,pos,af,g⟩).run P w=.ok (.value (.int k c)) w:=by
  subst hw;simp only[execOp,hx,hy,eqGuard,binOp];simp[Op.intArith]
theorem zDS (hx:ev σ x=.int k a) (hy:ev σ y=.int k b) (hw:k.wrap (a - b)=c):(execOp (ev σ) ⟨dst,.binOp .sub t x y t',ty,pos,af,g⟩).run P w=.ok (.value (.int k c)) w:=by
  subst hw;simp only[execOp,hx,hy,eqGuard,binOp];simp[Op.intArith]
theorem zYD (hx:ev σ x=.int k a) (hy:ev σ y=.int k b) (hw:k.wrap (a*b)=c):(execOp (ev σ) ⟨dst,.binOp .mul t x y t',ty,pos,af,g⟩).run P w=.ok (.value (.int k c)) w:=by
  subst hw;simp only[execOp,hx,hy,eqGuard,binOp];simp[Op.intArith]
theorem zBH (hx:ev σ x=.int k a) (hy:ev σ y=.int k b):(execOp (ev σ) ⟨dst,.binOp .lss t x y t',ty,pos,af,g⟩).run P w=.ok (.value (.bool (decide (a<b)))) w:=by
  simp only[execOp,hx,hy,eqGuard,binOp];simp[Op.intCmp]
theorem zEd (hx:ev σ x=.int k a) (hy:ev σ y=.int k b):(execOp (ev σ) ⟨dst,.binOp .leq t x y t',ty,pos,af,g⟩).run P w=.ok (.value (.bool (decide (a≤b)))) w:=by
  simp only[execOp,hx,hy,eqGuard,binOp];simp[Op.intCmp]
theorem zCN (hx:ev σ x=.int k a) (hy:ev σ y=.int k b):(execOp (ev σ) ⟨dst,.binOp .gtr t x y t',ty,pos,af,g⟩).run P w=.ok (.value (.bool (decide (b<a)))) w:=by
  simp only[execOp,hx,hy,eqGuard,binOp];simp[Op.intCmp]
theorem zFG (hx:ev σ x=.int k a) (hy:ev σ y=.int k b):(execOp (ev σ) ⟨dst,.binOp .geq t x y t',ty,pos,af,g⟩).run P w=.ok (.value (.bool (decide (b≤a)))) w:=by
  simp only[execOp,hx,hy,eqGuard,binOp];simp[Op.intCmp]
theorem zAk (hx:ev σ x=.int k a) (hy:ev σ y=.int k b):(execOp (ev σ) ⟨dst,.binOp .eql t x y t',ty,pos,af,g⟩).run P w=.ok (.value (.bool (decide (a=b)))) w:=by
  have:(a == b)=decide (a=b):=by rw[Bool.eq_iff_iff];simp
  rw[←this];simp only[execOp,hx,hy,eqGuard,binOp];simp[Op.intCmp]
theorem zBo (hx:ev σ x=.int k a) (hy:ev σ y=.int k b):(execOp (ev σ) ⟨dst,.binOp .neq t x y t',ty,pos,af,g⟩).run P w=.ok (.value (.bool (decide (a≠b)))) w:=by
  have:(a != b)=decide (a≠b):=by rw[Bool.eq_iff_iff];simp
  rw[←this];simp only[execOp,hx,hy,eqGuard,binOp];simp[Op.intCmp]
theorem zHb {p q:Bool} (d:Nat) (hu:P.underlying t=some .bool):(Op.equalIn (d+1) t (.bool p) (.bool q)).run P w=.ok (p == q) w:=by
  simp only[Op.equalIn,Sem.run_bind,run_underlying hu,Result.andThen_ok];rfl
theorem zWT {p q:Bool} (hu:P.underlying t=some .bool) (hx:ev σ x=.bool p) (hy:ev σ y=.bool q):(execOp (ev σ) ⟨dst,.binOp .eql t x y t',ty,pos,af,g⟩).run P w=.ok (.value (.bool (p == q))) w:=by
  have h:=zHb (P:=P) (w:=w) (p:=p) (q:=q) 9999 hu;simp only[execOp,hx,hy,eqGuard,binOp,Op.equal,Op.maxDepth];simp[h]
theorem zLK {p q:Bool} (hu:P.underlying t=some .bool) (hx:ev σ x=.bool p) (hy:ev σ y=.bool q):(execOp (ev σ) ⟨dst,.binOp .neq t x y t',ty,pos,af,g⟩).run P w=.ok (.value (.bool (p != q))) w:=by
  have h:=zHb (P:=P) (w:=w) (p:=p) (q:=q) 9999 hu;simp only[execOp,hx,hy,eqGuard,binOp,Op.equal,Op.maxDepth];simp[h,bne]
theorem zAM {e:TypeId} {ad:Option Addr} {n cap:Nat} (hu:P.underlying t=some (.slice e)) (hx:ev σ x=.slice ad n cap) :
    (execOp (ev σ) ⟨dst,.call ⟨.builtin .len,#[x],#[t]⟩,ty,pos,af,g⟩).run P w=.ok (.value (.int .i64 n)) w:=by
  simp only[execOp,resolve,List.map_toArray,List.map_cons,List.map_nil,hx];simp[invoke,builtin,Builtin.len_,run_underlying hu,goInt]
theorem zAQ {fs:Array Field} {f:Field} {i n b o o':Nat} (hx:ev σ x=.pointer (some ⟨b,o,none⟩)) (hu:P.underlying t=some (.struct fs)) (hf:fs[i]?=some f) (hs:Siz P f.type (n+1)) (ho:o+f.offset=o') :
    (execOp (ev σ) ⟨dst,.fieldAddr t x i,ty,pos,af,g⟩).run P w=.ok (.value (.pointer (some ⟨b,o',none⟩))) w:=by
  subst ho;simp[execOp,hx,Instr.fieldAt,run_underlying hu,hf,Instr.sureAddr,fieldPlace,hs.run,Addr.add_lit]
theorem zAH {e:TypeId} {n b o o' len cap i:Nat} {k:IntKind} {a:Int} (hx:ev σ x=.slice (some ⟨b,o,none⟩) len cap) (hy:ev σ y=.int k a) (ha:a=(i:Int)) (hu:P.underlying t=some (.slice e)) (hs:Siz P e n) (hi:i<len) (ho:o+i*n=o') :
    (execOp (ev σ) ⟨dst,.indexAddr t x y,ty,pos,af,g⟩).run P w=.ok (.value (.pointer (some ⟨b,o',none⟩))) w:=by
  subst ho;subst ha;have h1:(0:Int)≤(i:Int)∧(i:Int)<(len:Int):=qO
  simp[execOp,hx,hy,Instr.indexAt,asIntOf,run_underlying hu,hs.run,Addr.add_lit,hi]
theorem zDq {e:TypeId} {a a':Option Addr} {n len cap lo n' c':Nat} {k:IntKind} {l:Int} (hu:P.underlying t=some (.slice e)) (hs:Siz P e n) (hx:ev σ x=.slice a len cap) (hy:ev σ y=.int k l) (hl:l=(lo:Int)) (h1:lo≤len) (ha:(if cap=lo then a else a.map (·.add (lo*n)))=a') (hn:len - lo=n') (hc:cap - lo=c') :
    (execOp (ev σ) ⟨dst,.slice t x (some y) none none,ty,pos,af,g⟩).run P w=.ok (.value (.slice a' n' c')) w:=by
  subst ha;subst hn;subst hc;subst hl;have h2:(0:Int)≤(lo:Int)∧(lo:Int)≤(len:Int):=qO
  simp[execOp,hx,hy,Instr.sliceAt,Instr.slice,run_underlying hu,Instr.sliceBounds,Instr.sliceBound,asIntOf,h1,hs.run]
theorem zIH {e:TypeId} {a a':Option Addr} {n len cap hi:Nat} {k:IntKind} {l:Int} (hu:P.underlying t=some (.slice e)) (hs:Siz P e n) (hx:ev σ x=.slice a len cap) (hy:ev σ y=.int k l) (hl:l=(hi:Int)) (h1:hi≤cap) (ha:(if cap=0 then a else a.map (·.add (0*n)))=a') :
    (execOp (ev σ) ⟨dst,.slice t x none (some y) none,ty,pos,af,g⟩).run P w=.ok (.value (.slice a' hi cap)) w:=by
  subst ha;subst hl;simp[execOp,hx,hy,Instr.sliceAt,Instr.slice,run_underlying hu,Instr.sliceBounds,Instr.sliceBound,asIntOf,h1,hs.run]
theorem zAL {ad:Addr} {v:Value} (hx:ev σ x=.pointer (some ad)) (hf:zEy P t=true) (hc:w.cell? ad=some v) :
    (execOp (ev σ) ⟨dst,.load t x,ty,pos,af,g⟩).run P w=.ok (.value v) w:=by
  simp[execOp,hx,Instr.loadAt,Instr.sureAddr,loadVar,zEy.run hf,hc]
theorem zAG {b o n:Nat} {vs:List Value} (hx:ev σ x=.pointer (some ⟨b,o,none⟩)) (hf:zMu P t=true) (hs:Siz P t n) (hn:vs.length=n) (hc:zBD w b o vs) :
    (execOp (ev σ) ⟨dst,.load t x,ty,pos,af,g⟩).run P w=.ok (.value (.agg vs.toArray)) w:=by
  subst hn;have h1:=run_loadCells_list (P:=P) w ⟨b,o,none⟩ vs (fun j v hj=>by rw[Addr.add_lit];exact hc j v hj);simp[execOp,hx,Instr.loadAt,Instr.sureAddr,loadVar,zMu.run hf,hs.run,h1]
theorem zCj {fn:Fn} {first captured:List Operand} {vs us:List Value} (h1:first.map (ev σ)=vs) (h2:captured.map (ev σ)=us) :
    (execOp (ev σ) ⟨dst,.makeFunc fn first.toArray captured.toArray,ty,pos,af,g⟩).run P w=.ok (.value (.func fn vs.toArray us.toArray)) w:=by
  subst h1;subst h2;simp[execOp,Instr.makeFunc]
theorem zBM {i:Nat} {vs:Array Value} {v:Value} (hx:ev σ x=.tuple vs) (hv:vs[i]?=some v) :
    (execOp (ev σ) ⟨dst,.extract x i,ty,pos,af,g⟩).run P w=.ok (.value v) w:=by
  simp[execOp,hx,Instr.extract,hv]
theorem zBd {parts:List (Nat×Operand)} {ps:List (Nat×Value)} {v:Value} (hp:(parts.map fun (i,x)=>(i,ev σ x))=ps) (hb:(Instr.build t ps.toArray).run P w=.ok v w) :
    (execOp (ev σ) ⟨dst,.build t parts.toArray,ty,pos,af,g⟩).run P w=.ok (.value v) w:=by
  subst hp;simp[execOp,hb]
theorem zGO {f : FuncId} {fn : Func} {vs : Array Value} (hf : P.funcs[f]? = some fn) (hn : (fn.name == "runtime.NumGoroutine") = false) (hb : fn.body.isNone = false) :
    (callFunc f vs).run P w=.ok (.enter f vs) w:=by
  simp only[callFunc,Sem.run_bind,run_program,Result.andThen_ok,hf,hn,hb,Bool.false_eq_true,if_false];rfl
/-- The call of a function of the program by its number. -/
theorem zAV {f : FuncId} {fn : Func} {args : List Operand} {tys : Array TypeId} {vs : List Value} (hf : P.funcs[f]? = some fn) (hn : (fn.name == "runtime.NumGoroutine") = false) (hb : fn.body.isNone = false) (ha : args.map (ev σ) = vs) :
    (execOp (ev σ) ⟨dst,.call ⟨.value (.func f),args.toArray,tys⟩,ty,pos,af,g⟩).run P w=.ok (.enter f vs.toArray) w:=by
  subst ha;simp[execOp,resolve,ev,Deferred.ofValue,invoke,zGO hf hn hb]
/-- The call of a function value. -/
theorem zQB {f : FuncId} {fn : Func} {z : Operand} {args : List Operand} {tys : Array TypeId} {first cap ws : Array Value} {vs : List Value} (hz : ev σ z = .func (.func f) first cap) (hf : P.funcs[f]? = some fn) (hn : (fn.name == "runtime.NumGoroutine") = false) (hb : fn.body.isNone = false) (ha : args.map (ev σ) = vs) (hws : first ++ vs.toArray ++ cap = ws) :
    (execOp (ev σ) ⟨dst,.call ⟨.value z,args.toArray,tys⟩,ty,pos,af,g⟩).run P w=.ok (.enter f ws) w:=by
  subst ha;subst hws;simp[execOp,resolve,hz,Deferred.ofValue,invoke,zGO hf hn hb]
end
section
variable {P : Program} {N : Nat} {Q : zGJ} {σ : Env} {w : World} {K : Env → World → Prop} {ops : Array Oper} {rest : List Oper} {d : Nat} {ty : TypeId} {pos : String} {af : Array Edge} {t : TypeId} {x y : Operand}
theorem zBL {v:Value} {c:Array Value} (hN:d<N) (hx:ev σ x=v) (hc:v.cells=c) (k:∀b w',New w w' b c t→WpL P N ops K Q rest (upd σ d (.pointer (some ⟨b,0,none⟩))) w') :
    WpL P N ops K Q (⟨some d,.box t x,ty,pos,af,none⟩::rest) σ w:=by
  subst hc;refine zCJ (v:=.pointer (some ⟨w.heap.size,0,none⟩)) (w':={w with heap:=w.heap.push (.cells v.cells t (0,0))}) rfl rfl hN ?_ (k _ _ (New.mk' w v.cells t));simp[execOp,hx,Instr.box,newVar,newRow]
theorem zBJ {z:Value} {c:Array Value} (hN:d<N) (hz:Zer P t z) (hc:z.cells=c) (k:∀b w',New w w' b c t→WpL P N ops K Q rest (upd σ d (.pointer (some ⟨b,0,none⟩))) w') :
    WpL P N ops K Q (⟨some d,.alloc t,ty,pos,af,none⟩::rest) σ w:=by
  subst hc;refine zCJ (v:=.pointer (some ⟨w.heap.size,0,none⟩)) (w':={w with heap:=w.heap.push (.cells z.cells t (0,0))}) rfl rfl hN ?_ (k _ _ (New.mk' w z.cells t));simp[execOp,Instr.alloc,hz.run,newVar,newRow]
theorem zBr {b o:Nat} {v:Value} {c c':Array Value} {e:TypeId} (hx:ev σ x=.pointer (some ⟨b,o,none⟩)) (hy:ev σ y=v) (h1:v.oneCell'=true) (hs:Siz P t 1) (hB:Blk w b c e) (ho:o<c.size) (hc:c.setIfInBounds o v=c')
    (k:∀w',Put w w' b c' e→WpL P N ops K Q rest σ w'):WpL P N ops K Q (⟨none,.store t x y,ty,pos,af,none⟩::rest) σ w:=by
  subst hc;refine zGp (w':=w.setRow b (c.setIfInBounds o v)) rfl rfl ?_ (k _ (Put.of_setRow hB _));have ab:v.cells=#[v]:=by cases v<;>first|rfl|(simp[Value.oneCell'] at h1;done)
  have aa:=run_storeCells_at P b o e [v] 0 c w hB (by simp;omega) (by simpa using h1);have he:(c.toList.take (o+0)++[v]++c.toList.drop (o+0+[v].length)).toArray=c.setIfInBounds o v:=by
    apply Array.ext';simp only[Nat.add_zero,List.length_singleton,Array.toList_setIfInBounds];rw[List.set_eq_take_append_cons_drop,if_pos (by simpa using ho)];simp
  rw[he] at aa;simp[execOp,hx,hy,Instr.storeAt,Instr.sureAddr,storeVar,hs.run,ab,aa]
theorem zAY {b o n:Nat} {vs c c':Array Value} {e:TypeId} (hx:ev σ x=.pointer (some ⟨b,o,none⟩)) (hy:ev σ y=.agg vs) (h1:∀v∈vs.toList,v.oneCell'=true) (hs:Siz P t n) (hn:vs.size=n) (hB:Blk w b c e) (ho:o+n≤c.size) (hc:(c.toList.take o++vs.toList++c.toList.drop (o+n)).toArray=c')
    (k:∀w',Put w w' b c' e→WpL P N ops K Q rest σ w'):WpL P N ops K Q (⟨none,.store t x y,ty,pos,af,none⟩::rest) σ w:=by
  subst hc;subst hn;refine zGp (w':=w.setRow b _) rfl rfl ?_ (k _ (Put.of_setRow hB _));have aa:=run_storeCells_at P b o e vs.toList 0 c w hB (by simpa using ho) h1;simp only[Nat.add_zero,Array.length_toList] at aa;simp[execOp,hx,hy,Instr.storeAt,Instr.sureAddr,storeVar,hs.run,Value.cells,aa]
/-- A variable is made and stored into at once. -/
theorem zAg {z v:Value} {n:Nat} {c:Array Value} {ty':TypeId} {pos':String} {af':Array Edge} (hN:d<N) (hz:Zer P t z) (hzs:z.cells.size=n) (hs:Siz P t n) (hy:ev (upd σ d (.pointer (some ⟨w.heap.size,0,none⟩))) y=v) (hc:v.cells=c) (hn:c.size=n) (h1:∀u∈c.toList,u.oneCell'=true)
    (k:∀b w',New w w' b c t→WpL P N ops K Q rest (upd σ d (.pointer (some ⟨b,0,none⟩))) w') :
    WpL P N ops K Q (⟨some d,.alloc t,ty,pos,af,none⟩::⟨none,.store t (.tmp d) y,ty',pos',af',none⟩::rest) σ w:=by
  subst hc;refine zCJ (v:=.pointer (some ⟨w.heap.size,0,none⟩)) (w':={w with heap:=w.heap.push (.cells z.cells t (0,0))}) rfl rfl hN ?_ ?_
  · simp[execOp,Instr.alloc,hz.run,newVar,newRow]
  · refine zGp (w':={w with heap:=w.heap.push (.cells v.cells t (0,0))}) rfl rfl ?_ (k _ _ (New.mk' w v.cells t));have hB:Blk {w with heap:=w.heap.push (.cells z.cells t (0,0))} w.heap.size z.cells t:=(New.mk' w z.cells t).blk;have ab:=run_storeCells_at P w.heap.size 0 t v.cells.toList 0 z.cells _ hB (by simp[hn,hzs]) h1;have hd:ev (upd σ d (.pointer (some ⟨w.heap.size,0,none⟩))) (.tmp d)=.pointer (some ⟨w.heap.size,0,none⟩):=by simp[ev,upd]
    have hw:World.setRow {w with heap:=w.heap.push (.cells z.cells t (0,0))} w.heap.size (z.cells.toList.take (0+0)++v.cells.toList++z.cells.toList.drop (0+0+v.cells.toList.length)).toArray={w with heap:=w.heap.push (.cells v.cells t (0,0))}:=by
      have e:(z.cells.toList.take (0+0)++v.cells.toList++z.cells.toList.drop (0+0+v.cells.toList.length)).toArray=v.cells:=by
        apply Array.ext';simp[hn,←hzs]
      rw[e];simp only[World.setRow];congr 1;apply Array.ext
      · simp
      · intro i h1 h2;simp only[Array.getElem_modify,Array.getElem_push];by_cases hi:i<w.heap.size
        · simp[hi,Nat.ne_of_gt hi]
        · have:i=w.heap.size:=by simp at h2;omega
          simp[this]
    rw[hw] at ab;have aa:(storeCells ⟨w.heap.size,0,none⟩ v.cells.toList).run P (w.alloc (.cells z.cells t))=.ok () (w.alloc (.cells v.cells t)):=ab;simp[execOp,hd,hy,Instr.storeAt,Instr.sureAddr,storeVar,hs.run,hn,aa]
theorem zAh {e:TypeId} {len n:Nat} {z:Value} {parts:List (Nat×Operand)} {ps:List (Nat×Value)} {c:Array Value} (hN:d<N) (hp:(parts.map fun (i,x)=>(i,ev σ x))=ps) (hu:P.underlying t=some (.slice e)) (hs:Siz P e n) (hz:Zer P e z) (hl:¬(len*n > 2 ^ 24)) (h0:len*n≠0)
    (hc:Instr.fill (fun i=>some (i*n,n)) ((Array.range (len*n)).map (z.cells[· % z.cells.size]!)) ps=some c)
    (k:∀b w',New w w' b c e→WpL P N ops K Q rest (upd σ d (.slice (some ⟨b,0,none⟩) len len)) w'):WpL P N ops K Q (⟨some d,.buildSlice t len parts.toArray,ty,pos,af,none⟩::rest) σ w:=by
  subst hp;refine zCJ (v:=.slice (some ⟨w.heap.size,0,none⟩) len len) (w':={w with heap:=w.heap.push (.cells c e (0,0))}) rfl rfl hN ?_ (k _ _ (New.mk' w c e));simp only[execOp,Instr.buildSlice,List.map_toArray,Sem.run_bind,run_underlying hu,Result.andThen_ok,hs.run,hl,h0,if_false,Sem.run_pure,hz.run,hc];simp[newRow]
end
theorem zEG {P:Program} {ops:Array Oper} {w:World} {R R':Act→Prop} (h:∀a,R a→R' a):∀(l:List Oper) (a:Act),wpStill P ops w R l a→wpStill P ops w R' l a
  | [],a,hr=>h a hr
  | o::rest,a,hr=>by
    unfold wpStill at hr⊢;split
    · rename_i hw
      rw[if_pos hw] at hr;exact Oper.still_mono (fun a'=>zEG h rest a') hr
    · rename_i hw
      rw[if_neg hw] at hr;exact zEG h rest _ hr
def WpS (P:Program) (N:Nat) (ops:Array Oper) (w:World) (K:Env→Prop) (l:List Oper) (σ:Env):Prop:=
  ∀a,Ok N a→env a=σ→wpStill P ops w (fun a'=>Ok N a'∧K (env a')) l a
def WpT (P:Program) (N:Nat) (ops:Array Oper) (w:World) (K:Env→World→Prop) (Q:zGJ):Nat→List Oper→Env→Prop
  | n,l,σ=>WpS P N ops w (fun σ'=>WpL P N ops K Q (l.drop n) σ' w) (l.take n) σ
section
variable {P : Program} {N : Nat} {Q : zGJ} {σ : Env} {w : World} {K : Env → World → Prop} {ops : Array Oper} {rest : List Oper} {n : Nat}
theorem zEO {l:List Oper} (h:WpL P N ops K Q l σ w):WpT P N ops w K Q 0 l σ:=fun a ha he=>by
  simp only[List.take_zero,List.drop_zero];exact ⟨ha,he▸h⟩
theorem zVp {o:Oper} (hg:o.guard=none) {d:Nat} (hd:o.dst=some d) (hN:d<N) {v:Value}
    (hr:(execOp (ev σ) o).run P w=.ok (.value v) w) (k:WpT P N ops w K Q n rest (upd σ d v)):WpT P N ops w K Q (n+1) (o::rest) σ:=by
  intro a ha he;simp only[List.take_succ_cons,List.drop_succ_cons];unfold wpStill;rw[if_pos (by simp[Region.wanted,hg])];unfold Oper.still;rw[zDG,he,hr];refine ⟨rfl,?_⟩;rw[hd];exact k _ (ha.put _ _) (by rw[zEs ha hN,he])
theorem zBj {d:Nat} {op:Op} {ty:TypeId} {pos:String} {af:Array Edge} {j:Nat} {b:Bool} {oj:Oper} {dj:Nat} {gv u:Value}
    (hj:ops[j]?=some oj) (hdj:oj.dst=some dj) (hN:dj<N) (hd:d<N) (hy:σ dj=gv)
    (h:(gv=.bool b∧(execOp (ev σ) ⟨some d,op,ty,pos,af,none⟩).run P w=.ok (.value u) w)∨((gv=.bool (!b)∨gv=undef)∧u=undef))
    (k:WpT P N ops w K Q n rest (upd σ d u)):WpT P N ops w K Q (n+1) (⟨some d,op,ty,pos,af,some (j,b)⟩::rest) σ:=by
  intro a ha he;simp only[List.take_succ_cons,List.drop_succ_cons];have hk:=k _ (ha.put (some d) u) (by rw[zEs ha hd,he]);have h2:a.tmps.getD dj undef=gv:=by rw[←hy,←he];rfl
  have aa:dj<a.tmps.size:=by rw[ha.size];exact hN
  have h3:a.tmps[dj]?=some gv:=by rw[Array.getElem?_eq_getElem aa];simpa[aa] using h2
  unfold wpStill;rcases h with ⟨h1,h4⟩|⟨h1,rfl⟩
  · subst h1;rw[if_pos (by simp[Region.wanted,yielded,hj,hdj,h3])];unfold Oper.still;have h5:(execOp a.eval ⟨some d,op,ty,pos,af,some (j,b)⟩).run P w=.ok (.value u) w:=by rw[zDG,he];exact h4
    rw[h5];exact ⟨rfl,hk⟩
  · rw[if_neg]
    · exact hk
    · rcases h1 with rfl|rfl
      · cases b<;>simp[Region.wanted,yielded,hj,hdj,h3]
      · simp[Region.wanted,yielded,hj,hdj,h3,undef]
theorem zBp {dst:Option Tmp} {op:Op} {ty:TypeId} {pos:String} {af:Array Edge} {j:Nat} {b:Bool} {oj:Oper} {dj:Nat}
    (hj:ops[j]?=some oj) (hdj:oj.dst=some dj) (hN:dj<N) (hy:σ dj=.bool b)
    (k:WpT P N ops w K Q (n+1) (⟨dst,op,ty,pos,af,none⟩::rest) σ):WpT P N ops w K Q (n+1) (⟨dst,op,ty,pos,af,some (j,b)⟩::rest) σ:=by
  intro a ha he;have h1:=k a ha he;simp only[List.take_succ_cons,List.drop_succ_cons] at h1⊢;have h2:a.tmps.getD dj undef=.bool b:=by rw[←hy,←he];rfl
  have aa:dj<a.tmps.size:=by rw[ha.size];exact hN
  have h3:a.tmps[dj]?=some (.bool b):=by rw[Array.getElem?_eq_getElem aa];simpa[aa] using h2
  unfold wpStill at h1⊢;rw[if_pos (by simp[Region.wanted,yielded,hj,hdj,h3])];rw[if_pos (by rfl)] at h1;exact h1
theorem zBx {d:Nat} {op:Op} {ty:TypeId} {pos:String} {af:Array Edge} {j:Nat} {b:Bool} {oj:Oper} {dj:Nat} {v:Value}
    (hj:ops[j]?=some oj) (hdj:oj.dst=some dj) (hd:d<N∧dj<N) (hy:σ dj=v) (hv:v=.bool (!b)∨v=undef)
    (k:WpT P N ops w K Q n rest (upd σ d undef)):WpT P N ops w K Q (n+1) (⟨some d,op,ty,pos,af,some (j,b)⟩::rest) σ:=
  zBj hj hdj hd.2 hd.1 hy (.inr ⟨hv,rfl⟩) k
theorem zGe (w:World):Ext w {w with drawn:=w.drawn+1}:=⟨rfl,rfl,rfl,Nat.le_succ _,Nat.le_refl _,fun _ _ _=>rfl⟩
theorem zRc {id:Nat} {l:List Oper} (n:Nat) (hm:P.follows .mixedOrders=true) (hB:Region.lexTailB .any l.toArray n=true)
    (h:∀w',Ext w w'→w'.heap=w.heap→WpT P N l.toArray w' (Q .normal) Q n l σ):Wp P N (.region id l.toArray true) Q σ w:=by
  intro a ha he;have e:zGU N (thn (Q .normal) Q)=zGU N Q:=by funext e a w;cases e<;>rfl
  refine wp_region_still_tail n hm hB ?_;have h1:=h _ (zGe w) rfl a ha he;have:(fun a'=>Ok N a'∧WpL P N l.toArray (Q .normal) Q (l.drop n) (env a') {w with drawn:=w.drawn+1})=(fun a'=>Ok N a'∧WpL P N l.toArray (Q .normal) Q (l.drop n) (env a') {w with drawn:=w.drawn+1}):=rfl;refine zEG ?_ _ _ h1;rintro a' ⟨aa,hk⟩;have:=hk a' aa rfl
  rwa [e] at this
theorem zCs {id:Nat} {l:List Oper} {y:Code} (n:Nat) (hm:P.follows .mixedOrders=true) (hB:Region.lexTailB .any l.toArray n=true)
    (h:∀w',Ext w w'→w'.heap=w.heap→WpT P N l.toArray w' (Wp P N y Q) Q n l σ):Wp P N (.seq (.region id l.toArray true) y) Q σ w:=by
  refine zAK (zRc n hm hB fun w' e he=>?_);have:thn (Wp P N y Q) Q .normal=Wp P N y Q:=rfl;intro a ha ab;have h1:=h w' e he a ha ab;refine zEG ?_ _ _ h1;rintro a' ⟨aa,hk⟩;refine ⟨aa,fun a2 h2 h3=>?_⟩;have h4:=hk a2 h2 h3;have e2:zGU N (thn (thn (Wp P N y Q) Q .normal) (thn (Wp P N y Q) Q))=zGU N (thn (Wp P N y Q) Q):=by funext e a w;cases e<;>rfl
  rw[e2];exact h4
end
theorem zBV {n:Int} (h : -9223372036854775808≤n∧n≤9223372036854775807):IntKind.i64.wrap n=n:=by
  simp only[IntKind.wrap,IntKind.bits,IntKind.signed,Bool.true_and,decide_eq_true_eq,ge_iff_le,Int.reducePow,Nat.reduceSub];split<;>omega
theorem zaP {n:Int} (h:0≤n∧n≤18446744073709551615):IntKind.u64.wrap n=n:=by
  simp only[IntKind.wrap,IntKind.bits,IntKind.signed,Bool.false_and,ge_iff_le,Int.reducePow,Nat.reduceSub,Bool.false_eq_true,if_false];omega
theorem zHi {P:Program} {N:Nat} {Q:zGJ} {σ:Env} {w:World} {x y:Code} (J:Env→World→Prop) (h:Wp P N x (thn J Q) σ w) (k:∀σ' w',J σ' w'→Wp P N y Q σ' w'):Wp P N (.seq x y) Q σ w:=
  zAK (zVo h fun e σ' w' q=>by cases e<;>first|exact k _ _ q|exact q)
theorem zKR {P:Program} {fn:Func} {R:Value→World→Prop} {t u s:Nat} (hr:fn.results=#[.tmp t,.tmp u,.tmp s]) {σ:Env} {w:World} {v v' v'':Value} (hv:σ t=v) (hv':σ u=v') (hv'':σ s=v'') (h:R (.tuple #[v,v',v'']) w):fin P fn R .ret σ w:=
  ⟨.tuple #[v,v',v''],fun a ha=>by subst ha;rw[←hv,←hv',←hv''];simp[results,hr,env],h⟩
theorem zFw {P:Program} {w:World} {b o n:Nat} {t:TypeId} {vs:List Value} (hf:zMu P t=true) (hs:Siz P t n) (hn:vs.length=n) (hc:zBD w b o vs):(loadVar t ⟨b,o,none⟩).run P w=.ok (.agg vs.toArray) w:=by
  subst hn;have h1:=run_loadCells_list (P:=P) w ⟨b,o,none⟩ vs (fun j v hj=>by rw[Addr.add_lit];exact hc j v hj);simp[loadVar,zMu.run hf,hs.run,h1]
theorem zAr {P:Program} {fn:Func} {R:Value→World→Prop} {a0 t b n:Nat} (hr:fn.results=#[.cell a0 t]) {σ:Env} {w:World} {vs:List Value} (hv:σ a0=.pointer (some ⟨b,0,none⟩)) (hf:zMu P t=true) (hs:Siz P t n) (hn:vs.length=n) (hc:zBD w b 0 vs) (h:R (.agg vs.toArray) w):fin P fn R .ret σ w:=
  ⟨.agg vs.toArray,fun a ha=>by
    subst ha;have hv':a.tmps.getD a0 undef=.pointer (some ⟨b,0,none⟩):=hv;simp only[Array.getD_eq_getD_getElem?] at hv';simp[results,hr,hv',asAddr,zFw hf hs hn hc],h⟩
theorem zEr {P:Program} {fn:Func} {R:Value→World→Prop} {a0 t b n u:Nat} (hr:fn.results=#[.cell a0 t,.tmp u]) {σ:Env} {w:World} {vs:List Value} {v':Value} (hv:σ a0=.pointer (some ⟨b,0,none⟩)) (hf:zMu P t=true) (hs:Siz P t n) (hn:vs.length=n) (hc:zBD w b 0 vs) (hv':σ u=v') (h:R (.tuple #[.agg vs.toArray,v']) w):fin P fn R .ret σ w:=
  ⟨.tuple #[.agg vs.toArray,v'],fun a ha=>by
    subst ha;have h0:a.tmps.getD a0 undef=.pointer (some ⟨b,0,none⟩):=hv;have h1:a.tmps.getD u undef=v':=hv';simp only[Array.getD_eq_getD_getElem?] at h0 h1;simp[results,hr,h0,h1,asAddr,zFw hf hs hn hc],h⟩
theorem zHa {P:Program} {fn:Func} {R:Value→World→Prop} {a0 t b n u s:Nat} (hr:fn.results=#[.cell a0 t,.tmp u,.tmp s]) {σ:Env} {w:World} {vs:List Value} {v' v'':Value} (hv:σ a0=.pointer (some ⟨b,0,none⟩)) (hf:zMu P t=true) (hs:Siz P t n) (hn:vs.length=n) (hc:zBD w b 0 vs) (hv':σ u=v') (hv'':σ s=v'') (h:R (.tuple #[.agg vs.toArray,v',v'']) w):fin P fn R .ret σ w:=
  ⟨.tuple #[.agg vs.toArray,v',v''],fun a ha=>by
    subst ha;have h0:a.tmps.getD a0 undef=.pointer (some ⟨b,0,none⟩):=hv;have h1:a.tmps.getD u undef=v':=hv';have h2:a.tmps.getD s undef=v'':=hv'';simp only[Array.getD_eq_getD_getElem?] at h0 h1 h2;simp[results,hr,h0,h1,h2,asAddr,zFw hf hs hn hc],h⟩
abbrev I6 (x:Int):Value:=.int .i64 x
abbrev P6 (b o:Nat):Value:=.pointer (some ⟨b,o,none⟩)
abbrev nU (b:Bool) (v:Value):Value:=bif b then undef else v
abbrev yU (b:Bool) (v:Value):Value:=bif b then v else undef
section
variable {P : Program} {N : Nat} {Q : zGJ} {σ : Env} {w : World} {K : Env → World → Prop} {ops : Array Oper} {rest : List Oper} {n d : Nat} {op : Op} {ty : TypeId} {pos : String} {af : Array Edge} {v : Value} {x : Operand}
theorem qV {w':World} (hr:(execOp (ev σ) ⟨some d,op,ty,pos,af,none⟩).run P w=.ok (.value v) w') (k:WpL P N ops K Q rest (upd σ d v) w') (hN:d<N:=by decide):WpL P N ops K Q (⟨some d,op,ty,pos,af,none⟩::rest) σ w:=zCJ rfl rfl hN hr k
theorem qT (hr:(execOp (ev σ) ⟨some d,op,ty,pos,af,none⟩).run P w=.ok (.value v) w) (k:WpT P N ops w K Q n rest (upd σ d v)) (hN:d<N:=by decide):WpT P N ops w K Q (n+1) (⟨some d,op,ty,pos,af,none⟩::rest) σ:=zVp rfl rfl hN hr k
theorem qM (v:Value) (hx:ev σ x=v) (k:WpL P N ops K Q rest (upd σ d v) w) (hN:d<N:=by decide):WpL P N ops K Q (⟨some d,.move x,ty,pos,af,none⟩::rest) σ w:=qV (zAi hx) k hN
theorem qA (v:Value) (hx:ev σ x=v) (k:WpL P N ops K Q rest (upd σ d v) w) (hN:d<N:=by decide):WpL P N ops K Q (⟨some d,.assign x,ty,pos,af,none⟩::rest) σ w:=qV (zEI hx) k hN
theorem gA {A:Prop} {v:Value}:A∨((v=v∨v=undef)∧undef=undef):=.inr ⟨.inl rfl,rfl⟩
theorem gB {A:Prop} {u:Value}:A∨((undef=u∨undef=undef)∧undef=undef):=.inr ⟨.inr rfl,rfl⟩
theorem qG {j:Nat} {b:Bool} {oj:Oper} {dj:Nat} (gv u:Value)
    (h:(gv=.bool b∧(execOp (ev σ) ⟨some d,op,ty,pos,af,none⟩).run P w=.ok (.value u) w)∨((gv=.bool (!b)∨gv=undef)∧u=undef))
    (k:WpL P N ops K Q rest (upd σ d u) w) (hj:ops[j]?=some oj:=by rfl) (hdj:oj.dst=some dj:=by rfl) (hN:dj<N:=by decide) (hd:d<N:=by decide) (hy:σ dj=gv:=by rfl):WpL P N ops K Q (⟨some d,op,ty,pos,af,some (j,b)⟩::rest) σ w:=zKg hj hdj hN hd hy h k
theorem qF {t:TypeId} {fs:Array Field} {f:Field} {i m:Nat} (b o o':Nat) (hx:ev σ x=.pointer (some ⟨b,o,none⟩)) (hu:P.underlying t=some (.struct fs)) (hf:fs[i]?=some f) (hs:Siz P f.type (m+1)) (ho:o+f.offset=o')
    (k:WpL P N ops K Q rest (upd σ d (.pointer (some ⟨b,o',none⟩))) w) (hN:d<N:=by decide):WpL P N ops K Q (⟨some d,.fieldAddr t x i,ty,pos,af,none⟩::rest) σ w:=qV (zAQ hx hu hf hs ho) k hN
end
end Go.Eng
namespace Go.Eng
open Go
theorem qC {P : Program} {N : Nat} {Q : zGJ} {σ : Env} {w : World} {c : Operand} {x y : Code} {p : Prop} [Decidable p] (hc : ev σ c = .bool (decide p)) (ht : p → Wp P N x Q σ w) (hf : ¬ p → Wp P N y Q σ w) : Wp P N (.cond c x y) Q σ w := zAt hc (fun h => ht (of_decide_eq_true h)) fun h => hf (of_decide_eq_false h)
theorem leT {a b : Nat} (h : Nat.ble a b = true) : a ≤ b := Nat.le_of_ble_eq_true h
theorem qR {P : Program} {f : FuncId} {fn : Func} {c : Code} {N : Nat} {args : Array Value} {w : World} {R : Value → World → Prop} (hf : P.funcs[f]? = some fn) (hb : fn.body = some c) (hn : fn.ntmps = N) (hsz : Nat.ble args.size N = true) (h : Chg zAo w w → Wp P N c (fin P fn R) (fun t => args.getD t undef) w) : Ret P f args w R := zGr hf hb hn (leT hsz) (h (Chg.refl _ _))
theorem qE {P : Program} {N : Nat} {Q : zGJ} {σ : Env} {w : World} {K : Env → World → Prop} {ops : Array Oper} {rest : List Oper} {d : Nat} {op : Op} {ty : TypeId} {pos : String} {af : Array Edge} {f : FuncId} {args : Array Value} {R : Value → World → Prop} (hN : Nat.ble (d + 1) N = true) (hr : (execOp (ev σ) ⟨some d, op, ty, pos, af, none⟩).run P w = .ok (.enter f args) w) (hc : Ret P f args w R) (k : ∀ v w', R v w' → WpL P N ops K Q rest (upd σ d v) w') : WpL P N ops K Q (⟨some d, op, ty, pos, af, none⟩ :: rest) σ w := zMA rfl rfl (leT hN) hr hc k
theorem cbk {a b : Bool} (h : a = b) : Value.bool a = Value.bool b := congrArg Value.bool h
theorem qQ {p : Prop} (h : p := by first | exact Or.inl (by omega) | exact Or.inr rfl | exact Or.inr (by assumption) | exact Or.inr (by simp) | exact Or.inr (by omega) | exact Or.inr (by dsimp only; omega)) : p := h
theorem qS {p : Prop} (h : p := by simp [Value.oneCell']) : p := h
theorem qL {p : Prop} (h : p := by first | (simp; done) | exact Nat.le_of_ble_eq_true rfl) : p := h
end Go.Eng
namespace Go.Proofs
open Go Go.Eng
set_option maxRecDepth 100000
theorem zAv:Siz prog 3 1:=by unfold Siz;kernel_rfl
theorem zPA:Byt prog 3 8:=by unfold Byt;kernel_rfl
theorem zFB:Zer prog 3 (.int .i64 0):=by unfold Zer;kernel_rfl
theorem zAf:zEy prog 3=true:=by kernel_rfl
theorem zNG:Siz prog 4 1:=by unfold Siz;kernel_rfl
theorem byt4:Byt prog 4 1:=by unfold Byt;kernel_rfl
theorem zaO:Zer prog 4 (.bool false):=by unfold Zer;kernel_rfl
theorem zHm:zEy prog 4=true:=by kernel_rfl
theorem zXy:Siz prog 5 1:=by unfold Siz;kernel_rfl
theorem byt5:Byt prog 5 1:=by unfold Byt;kernel_rfl
theorem zer5:Zer prog 5 (.int .u8 0):=by unfold Zer;kernel_rfl
theorem zBm:Siz prog 22 1:=by unfold Siz;kernel_rfl
theorem zTI:Byt prog 22 24:=by unfold Byt;kernel_rfl
theorem zKi:Zer prog 22 (.slice none 0 0):=by unfold Zer;kernel_rfl
theorem zBe:zEy prog 22=true:=by kernel_rfl
theorem zBS:Siz prog 23 1:=by unfold Siz;kernel_rfl
theorem zBE:zEy prog 23=true:=by kernel_rfl
theorem zAO:Siz prog 25 6:=by unfold Siz;kernel_rfl
theorem zEu:Byt prog 25 80:=by unfold Byt;kernel_rfl
theorem zAu:Zer prog 25 (.agg #[(.int .i64 0),(.slice none 0 0),(.slice none 0 0),(.int .i64 0),(.int .i64 0),(.bool false)]):=by unfold Zer;kernel_rfl
theorem zAc:zMu prog 25=true:=by kernel_rfl
theorem zEX:Siz prog 26 1:=by unfold Siz;kernel_rfl
theorem zXI:Byt prog 26 24:=by unfold Byt;kernel_rfl
theorem zRo:Zer prog 26 (.slice none 0 0):=by unfold Zer;kernel_rfl
theorem zGb:zEy prog 26=true:=by kernel_rfl
theorem zUa:Siz prog 27 1:=by unfold Siz;kernel_rfl
theorem zXr:Zer prog 27 (.int .i64 0):=by unfold Zer;kernel_rfl
theorem zQr:zEy prog 27=true:=by kernel_rfl
theorem zKw:Siz prog 47 1:=by unfold Siz;kernel_rfl
theorem zHZ:zEy prog 47=true:=by kernel_rfl
theorem zJA:Siz prog 49 3:=by unfold Siz;kernel_rfl
theorem zRn:Zer prog 49 (.agg #[(.int .i64 0),(.slice none 0 0),(.slice none 0 0)]):=by unfold Zer;kernel_rfl
theorem zRa:zMu prog 49=true:=by kernel_rfl
theorem zXx:Siz prog 50 1:=by unfold Siz;kernel_rfl
theorem zXq:Zer prog 50 (.slice none 0 0):=by unfold Zer;kernel_rfl
theorem zGa:zEy prog 50=true:=by kernel_rfl
theorem zBB:Siz prog 103 2:=by unfold Siz;kernel_rfl
theorem zIl:Byt prog 103 16:=by unfold Byt;kernel_rfl
theorem zCb:Zer prog 103 (.agg #[(.int .i64 0),(.int .i64 0)]):=by unfold Zer;kernel_rfl
theorem zCi:zMu prog 103=true:=by kernel_rfl
theorem zKx:Siz prog 109 1:=by unfold Siz;kernel_rfl
theorem zXJ:Byt prog 109 24:=by unfold Byt;kernel_rfl
theorem zPS:Zer prog 109 (.slice none 0 0):=by unfold Zer;kernel_rfl
theorem zMj:zEy prog 109=true:=by kernel_rfl
theorem nm9 : (Tryz.f9.name == "runtime.NumGoroutine") = false := by kernel_rfl
theorem bd9:Tryz.f9.body.isNone=false:=by kernel_rfl
theorem nm11 : (Tryz.f11.name == "runtime.NumGoroutine") = false := by kernel_rfl
theorem bd11:Tryz.f11.body.isNone=false:=by kernel_rfl
theorem nm12 : (Tryz.f12.name == "runtime.NumGoroutine") = false := by kernel_rfl
theorem bd12:Tryz.f12.body.isNone=false:=by kernel_rfl
theorem nm13 : (Tryz.f13.name == "runtime.NumGoroutine") = false := by kernel_rfl
theorem bd13:Tryz.f13.body.isNone=false:=by kernel_rfl
theorem zXj : (Tryz.f14.name == "runtime.NumGoroutine") = false := by kernel_rfl
theorem zXo:Tryz.f14.body.isNone=false:=by kernel_rfl
theorem zVx : (Tryz.f15.name == "runtime.NumGoroutine") = false := by kernel_rfl
theorem zVy:Tryz.f15.body.isNone=false:=by kernel_rfl
theorem nm16 : (Tryz.f16.name == "runtime.NumGoroutine") = false := by kernel_rfl
theorem bd16:Tryz.f16.body.isNone=false:=by kernel_rfl
theorem zYb : (Tryz.f17.name == "runtime.NumGoroutine") = false := by kernel_rfl
theorem zZh:Tryz.f17.body.isNone=false:=by kernel_rfl
theorem nm18 : (Tryz.f18.name == "runtime.NumGoroutine") = false := by kernel_rfl
theorem bd18:Tryz.f18.body.isNone=false:=by kernel_rfl
theorem zWc : (Tryz.f19.name == "runtime.NumGoroutine") = false := by kernel_rfl
theorem zXM:Tryz.f19.body.isNone=false:=by kernel_rfl
theorem zaa : (Tryz.f20.name == "runtime.NumGoroutine") = false := by kernel_rfl
theorem zan:Tryz.f20.body.isNone=false:=by kernel_rfl
theorem nm23 : (Tryz.f23.name == "runtime.NumGoroutine") = false := by kernel_rfl
theorem bd23:Tryz.f23.body.isNone=false:=by kernel_rfl
theorem zYO : (Tryz.f25.name == "runtime.NumGoroutine") = false := by kernel_rfl
theorem zZU:Tryz.f25.body.isNone=false:=by kernel_rfl
theorem nm26 : (Tryz.f26.name == "runtime.NumGoroutine") = false := by kernel_rfl
theorem bd26:Tryz.f26.body.isNone=false:=by kernel_rfl
theorem nm29 : (Tryz.f29.name == "runtime.NumGoroutine") = false := by kernel_rfl
theorem bd29:Tryz.f29.body.isNone=false:=by kernel_rfl
theorem nm30 : (Tryz.f30.name == "runtime.NumGoroutine") = false := by kernel_rfl
theorem bd30:Tryz.f30.body.isNone=false:=by kernel_rfl
theorem nm31 : (Tryz.f31.name == "runtime.NumGoroutine") = false := by kernel_rfl
theorem bd31:Tryz.f31.body.isNone=false:=by kernel_rfl
theorem nm32 : (Tryz.f32.name == "runtime.NumGoroutine") = false := by kernel_rfl
theorem bd32:Tryz.f32.body.isNone=false:=by kernel_rfl
theorem nm33 : (Tryz.f33.name == "runtime.NumGoroutine") = false := by kernel_rfl
theorem bd33:Tryz.f33.body.isNone=false:=by kernel_rfl
theorem nm34 : (Tryz.f34.name == "runtime.NumGoroutine") = false := by kernel_rfl
theorem bd34:Tryz.f34.body.isNone=false:=by kernel_rfl
theorem zaZ : (Tryz.f48.name == "runtime.NumGoroutine") = false := by kernel_rfl
theorem zam:Tryz.f48.body.isNone=false:=by kernel_rfl
theorem nm51 : (Tryz.f51.name == "runtime.NumGoroutine") = false := by kernel_rfl
theorem bd51:Tryz.f51.body.isNone=false:=by kernel_rfl
theorem nm52 : (Tryz.f52.name == "runtime.NumGoroutine") = false := by kernel_rfl
theorem bd52:Tryz.f52.body.isNone=false:=by kernel_rfl
theorem zYM : (Tryz.f57.name == "runtime.NumGoroutine") = false := by kernel_rfl
theorem zZS:Tryz.f57.body.isNone=false:=by kernel_rfl
theorem zXi : (Tryz.f58.name == "runtime.NumGoroutine") = false := by kernel_rfl
theorem zXn:Tryz.f58.body.isNone=false:=by kernel_rfl
theorem zaY : (Tryz.f59.name == "runtime.NumGoroutine") = false := by kernel_rfl
theorem zal:Tryz.f59.body.isNone=false:=by kernel_rfl
theorem zTh : (Tryz.f60.name == "runtime.NumGoroutine") = false := by kernel_rfl
theorem zTx:Tryz.f60.body.isNone=false:=by kernel_rfl
theorem zYL : (Tryz.f61.name == "runtime.NumGoroutine") = false := by kernel_rfl
theorem zZR:Tryz.f61.body.isNone=false:=by kernel_rfl
theorem nm62 : (Tryz.f62.name == "runtime.NumGoroutine") = false := by kernel_rfl
theorem bd62:Tryz.f62.body.isNone=false:=by kernel_rfl
theorem zXh : (Tryz.f63.name == "runtime.NumGoroutine") = false := by kernel_rfl
theorem zXm:Tryz.f63.body.isNone=false:=by kernel_rfl
theorem zYK : (Tryz.f64.name == "runtime.NumGoroutine") = false := by kernel_rfl
theorem zZQ:Tryz.f64.body.isNone=false:=by kernel_rfl
theorem nm65 : (Tryz.f65.name == "runtime.NumGoroutine") = false := by kernel_rfl
theorem bd65:Tryz.f65.body.isNone=false:=by kernel_rfl
theorem nm66 : (Tryz.f66.name == "runtime.NumGoroutine") = false := by kernel_rfl
theorem bd66:Tryz.f66.body.isNone=false:=by kernel_rfl
theorem zYJ : (Tryz.f67.name == "runtime.NumGoroutine") = false := by kernel_rfl
theorem zZP:Tryz.f67.body.isNone=false:=by kernel_rfl
theorem zaX : (Tryz.f68.name == "runtime.NumGoroutine") = false := by kernel_rfl
theorem zak:Tryz.f68.body.isNone=false:=by kernel_rfl
theorem zaW : (Tryz.f69.name == "runtime.NumGoroutine") = false := by kernel_rfl
theorem zaj:Tryz.f69.body.isNone=false:=by kernel_rfl
theorem nm70 : (Tryz.f70.name == "runtime.NumGoroutine") = false := by kernel_rfl
theorem bd70:Tryz.f70.body.isNone=false:=by kernel_rfl
theorem zaV : (Tryz.f71.name == "runtime.NumGoroutine") = false := by kernel_rfl
theorem zai:Tryz.f71.body.isNone=false:=by kernel_rfl
theorem zXg : (Tryz.f72.name == "runtime.NumGoroutine") = false := by kernel_rfl
theorem zXl:Tryz.f72.body.isNone=false:=by kernel_rfl
theorem nm73 : (Tryz.f73.name == "runtime.NumGoroutine") = false := by kernel_rfl
theorem bd73:Tryz.f73.body.isNone=false:=by kernel_rfl
theorem zUw : (Tryz.f74.name == "runtime.NumGoroutine") = false := by kernel_rfl
theorem zVi:Tryz.f74.body.isNone=false:=by kernel_rfl
theorem zQN : (Tryz.f75.name == "runtime.NumGoroutine") = false := by kernel_rfl
theorem zRW:Tryz.f75.body.isNone=false:=by kernel_rfl
theorem zaU : (Tryz.f79.name == "runtime.NumGoroutine") = false := by kernel_rfl
theorem zah:Tryz.f79.body.isNone=false:=by kernel_rfl
theorem zaT : (Tryz.f80.name == "runtime.NumGoroutine") = false := by kernel_rfl
theorem zag:Tryz.f80.body.isNone=false:=by kernel_rfl
theorem nm81 : (Tryz.f81.name == "runtime.NumGoroutine") = false := by kernel_rfl
theorem bd81:Tryz.f81.body.isNone=false:=by kernel_rfl
theorem zXf : (Tryz.f82.name == "runtime.NumGoroutine") = false := by kernel_rfl
theorem zXk:Tryz.f82.body.isNone=false:=by kernel_rfl
theorem zYI : (Tryz.f83.name == "runtime.NumGoroutine") = false := by kernel_rfl
theorem zZO:Tryz.f83.body.isNone=false:=by kernel_rfl
theorem zaS : (Tryz.f84.name == "runtime.NumGoroutine") = false := by kernel_rfl
theorem zaf:Tryz.f84.body.isNone=false:=by kernel_rfl
theorem zYH : (Tryz.f85.name == "runtime.NumGoroutine") = false := by kernel_rfl
theorem zZN:Tryz.f85.body.isNone=false:=by kernel_rfl
theorem nm86 : (Tryz.f86.name == "runtime.NumGoroutine") = false := by kernel_rfl
theorem bd86:Tryz.f86.body.isNone=false:=by kernel_rfl
theorem nm87 : (Tryz.f87.name == "runtime.NumGoroutine") = false := by kernel_rfl
theorem bd87:Tryz.f87.body.isNone=false:=by kernel_rfl
theorem nm88 : (Tryz.f88.name == "runtime.NumGoroutine") = false := by kernel_rfl
theorem bd88:Tryz.f88.body.isNone=false:=by kernel_rfl
theorem nm89 : (Tryz.f89.name == "runtime.NumGoroutine") = false := by kernel_rfl
theorem bd89:Tryz.f89.body.isNone=false:=by kernel_rfl
theorem nm90 : (Tryz.f90.name == "runtime.NumGoroutine") = false := by kernel_rfl
theorem bd90:Tryz.f90.body.isNone=false:=by kernel_rfl
theorem zZF : (Tryz.f103.name == "runtime.NumGoroutine") = false := by kernel_rfl
theorem zaL:Tryz.f103.body.isNone=false:=by kernel_rfl
theorem zZE : (Tryz.f104.name == "runtime.NumGoroutine") = false := by kernel_rfl
theorem zaK:Tryz.f104.body.isNone=false:=by kernel_rfl
theorem zZD : (Tryz.f106.name == "runtime.NumGoroutine") = false := by kernel_rfl
theorem zaJ:Tryz.f106.body.isNone=false:=by kernel_rfl
theorem zZC : (Tryz.f111.name == "runtime.NumGoroutine") = false := by kernel_rfl
theorem zaI:Tryz.f111.body.isNone=false:=by kernel_rfl
theorem zVA : (Tryz.f114.name == "runtime.NumGoroutine") = false := by kernel_rfl
theorem zVm:Tryz.f114.body.isNone=false:=by kernel_rfl
theorem zSS : (Tryz.f115.name == "runtime.NumGoroutine") = false := by kernel_rfl
theorem zTN:Tryz.f115.body.isNone=false:=by kernel_rfl
theorem zWo : (Tryz.f116.name == "runtime.NumGoroutine") = false := by kernel_rfl
theorem zXY:Tryz.f116.body.isNone=false:=by kernel_rfl
theorem zMY : (Tryz.f117.name == "runtime.NumGoroutine") = false := by kernel_rfl
theorem zMt:Tryz.f117.body.isNone=false:=by kernel_rfl
theorem zQQ : (Tryz.f118.name == "runtime.NumGoroutine") = false := by kernel_rfl
theorem zRZ:Tryz.f118.body.isNone=false:=by kernel_rfl
theorem zZB : (Tryz.f119.name == "runtime.NumGoroutine") = false := by kernel_rfl
theorem zaH:Tryz.f119.body.isNone=false:=by kernel_rfl
theorem zQP : (Tryz.f120.name == "runtime.NumGoroutine") = false := by kernel_rfl
theorem zRY:Tryz.f120.body.isNone=false:=by kernel_rfl
theorem zOg : (Tryz.f121.name == "runtime.NumGoroutine") = false := by kernel_rfl
theorem zPD:Tryz.f121.body.isNone=false:=by kernel_rfl
theorem zZA : (Tryz.f122.name == "runtime.NumGoroutine") = false := by kernel_rfl
theorem zaG:Tryz.f122.body.isNone=false:=by kernel_rfl
theorem zYz : (Tryz.f123.name == "runtime.NumGoroutine") = false := by kernel_rfl
theorem zaF:Tryz.f123.body.isNone=false:=by kernel_rfl
theorem zYy : (Tryz.f124.name == "runtime.NumGoroutine") = false := by kernel_rfl
theorem zaE:Tryz.f124.body.isNone=false:=by kernel_rfl
theorem zYx : (Tryz.f125.name == "runtime.NumGoroutine") = false := by kernel_rfl
theorem zaD:Tryz.f125.body.isNone=false:=by kernel_rfl
theorem zYw : (Tryz.f126.name == "runtime.NumGoroutine") = false := by kernel_rfl
theorem zaC:Tryz.f126.body.isNone=false:=by kernel_rfl
theorem zYv : (Tryz.f127.name == "runtime.NumGoroutine") = false := by kernel_rfl
theorem zaB:Tryz.f127.body.isNone=false:=by kernel_rfl
theorem zYu : (Tryz.f128.name == "runtime.NumGoroutine") = false := by kernel_rfl
theorem zaA:Tryz.f128.body.isNone=false:=by kernel_rfl
theorem zQO : (Tryz.f129.name == "runtime.NumGoroutine") = false := by kernel_rfl
theorem zRX:Tryz.f129.body.isNone=false:=by kernel_rfl
theorem zYt : (Tryz.f130.name == "runtime.NumGoroutine") = false := by kernel_rfl
theorem zZz:Tryz.f130.body.isNone=false:=by kernel_rfl
theorem zYs : (Tryz.f131.name == "runtime.NumGoroutine") = false := by kernel_rfl
theorem zZy:Tryz.f131.body.isNone=false:=by kernel_rfl
theorem zYr : (Tryz.f132.name == "runtime.NumGoroutine") = false := by kernel_rfl
theorem zZx:Tryz.f132.body.isNone=false:=by kernel_rfl
theorem zYq : (Tryz.f133.name == "runtime.NumGoroutine") = false := by kernel_rfl
theorem zZw:Tryz.f133.body.isNone=false:=by kernel_rfl
theorem zSR : (Tryz.f136.name == "runtime.NumGoroutine") = false := by kernel_rfl
theorem zTM:Tryz.f136.body.isNone=false:=by kernel_rfl
theorem zYp : (Tryz.f137.name == "runtime.NumGoroutine") = false := by kernel_rfl
theorem zZv:Tryz.f137.body.isNone=false:=by kernel_rfl
theorem zYo : (Tryz.f138.name == "runtime.NumGoroutine") = false := by kernel_rfl
theorem zZu:Tryz.f138.body.isNone=false:=by kernel_rfl
theorem zYn : (Tryz.f139.name == "runtime.NumGoroutine") = false := by kernel_rfl
theorem zZt:Tryz.f139.body.isNone=false:=by kernel_rfl
theorem zYm : (Tryz.f140.name == "runtime.NumGoroutine") = false := by kernel_rfl
theorem zZs:Tryz.f140.body.isNone=false:=by kernel_rfl
theorem zWn : (Tryz.f146.name == "runtime.NumGoroutine") = false := by kernel_rfl
theorem zXX:Tryz.f146.body.isNone=false:=by kernel_rfl
theorem zWm : (Tryz.f147.name == "runtime.NumGoroutine") = false := by kernel_rfl
theorem zXW:Tryz.f147.body.isNone=false:=by kernel_rfl
theorem zYl : (Tryz.f148.name == "runtime.NumGoroutine") = false := by kernel_rfl
theorem zZr:Tryz.f148.body.isNone=false:=by kernel_rfl
theorem zWl : (Tryz.f149.name == "runtime.NumGoroutine") = false := by kernel_rfl
theorem zXV:Tryz.f149.body.isNone=false:=by kernel_rfl
theorem zYk : (Tryz.f150.name == "runtime.NumGoroutine") = false := by kernel_rfl
theorem zZq:Tryz.f150.body.isNone=false:=by kernel_rfl
theorem zYj : (Tryz.f151.name == "runtime.NumGoroutine") = false := by kernel_rfl
theorem zZp:Tryz.f151.body.isNone=false:=by kernel_rfl
theorem zUz : (Tryz.f154.name == "runtime.NumGoroutine") = false := by kernel_rfl
theorem zVl:Tryz.f154.body.isNone=false:=by kernel_rfl
theorem zYi : (Tryz.f156.name == "runtime.NumGoroutine") = false := by kernel_rfl
theorem zZo:Tryz.f156.body.isNone=false:=by kernel_rfl
theorem zMX : (Tryz.f158.name == "runtime.NumGoroutine") = false := by kernel_rfl
theorem zMs:Tryz.f158.body.isNone=false:=by kernel_rfl
theorem zYh : (Tryz.f159.name == "runtime.NumGoroutine") = false := by kernel_rfl
theorem zZn:Tryz.f159.body.isNone=false:=by kernel_rfl
theorem zWk : (Tryz.f161.name == "runtime.NumGoroutine") = false := by kernel_rfl
theorem zXU:Tryz.f161.body.isNone=false:=by kernel_rfl
theorem zWj : (Tryz.f162.name == "runtime.NumGoroutine") = false := by kernel_rfl
theorem zXT:Tryz.f162.body.isNone=false:=by kernel_rfl
theorem zYg : (Tryz.f163.name == "runtime.NumGoroutine") = false := by kernel_rfl
theorem zZm:Tryz.f163.body.isNone=false:=by kernel_rfl
theorem zYf : (Tryz.f164.name == "runtime.NumGoroutine") = false := by kernel_rfl
theorem zZl:Tryz.f164.body.isNone=false:=by kernel_rfl
theorem zYe : (Tryz.f165.name == "runtime.NumGoroutine") = false := by kernel_rfl
theorem zZk:Tryz.f165.body.isNone=false:=by kernel_rfl
theorem zWi : (Tryz.f166.name == "runtime.NumGoroutine") = false := by kernel_rfl
theorem zXS:Tryz.f166.body.isNone=false:=by kernel_rfl
theorem zWh : (Tryz.f167.name == "runtime.NumGoroutine") = false := by kernel_rfl
theorem zXR:Tryz.f167.body.isNone=false:=by kernel_rfl
theorem zYd : (Tryz.f168.name == "runtime.NumGoroutine") = false := by kernel_rfl
theorem zZj:Tryz.f168.body.isNone=false:=by kernel_rfl
theorem zYc : (Tryz.f169.name == "runtime.NumGoroutine") = false := by kernel_rfl
theorem zZi:Tryz.f169.body.isNone=false:=by kernel_rfl
theorem zYa : (Tryz.f170.name == "runtime.NumGoroutine") = false := by kernel_rfl
theorem zZg:Tryz.f170.body.isNone=false:=by kernel_rfl
theorem zYZ : (Tryz.f171.name == "runtime.NumGoroutine") = false := by kernel_rfl
theorem zZf:Tryz.f171.body.isNone=false:=by kernel_rfl
theorem zYY : (Tryz.f174.name == "runtime.NumGoroutine") = false := by kernel_rfl
theorem zZe:Tryz.f174.body.isNone=false:=by kernel_rfl
theorem zWg : (Tryz.f176.name == "runtime.NumGoroutine") = false := by kernel_rfl
theorem zXQ:Tryz.f176.body.isNone=false:=by kernel_rfl
theorem zWf : (Tryz.f177.name == "runtime.NumGoroutine") = false := by kernel_rfl
theorem zXP:Tryz.f177.body.isNone=false:=by kernel_rfl
theorem zYX : (Tryz.f179.name == "runtime.NumGoroutine") = false := by kernel_rfl
theorem zZd:Tryz.f179.body.isNone=false:=by kernel_rfl
theorem zWe : (Tryz.f180.name == "runtime.NumGoroutine") = false := by kernel_rfl
theorem zXO:Tryz.f180.body.isNone=false:=by kernel_rfl
theorem zYW : (Tryz.f183.name == "runtime.NumGoroutine") = false := by kernel_rfl
theorem zZc:Tryz.f183.body.isNone=false:=by kernel_rfl
theorem zWd : (Tryz.f184.name == "runtime.NumGoroutine") = false := by kernel_rfl
theorem zXN:Tryz.f184.body.isNone=false:=by kernel_rfl
theorem zYV : (Tryz.f185.name == "runtime.NumGoroutine") = false := by kernel_rfl
theorem zZb:Tryz.f185.body.isNone=false:=by kernel_rfl
theorem zYU : (Tryz.f186.name == "runtime.NumGoroutine") = false := by kernel_rfl
theorem zZa:Tryz.f186.body.isNone=false:=by kernel_rfl
theorem zUy : (Tryz.f187.name == "runtime.NumGoroutine") = false := by kernel_rfl
theorem zVk:Tryz.f187.body.isNone=false:=by kernel_rfl
theorem zUx : (Tryz.f206.name == "runtime.NumGoroutine") = false := by kernel_rfl
theorem zVj:Tryz.f206.body.isNone=false:=by kernel_rfl
theorem zYT : (Tryz.f212.name == "runtime.NumGoroutine") = false := by kernel_rfl
theorem zZZ:Tryz.f212.body.isNone=false:=by kernel_rfl
theorem zYS : (Tryz.f221.name == "runtime.NumGoroutine") = false := by kernel_rfl
theorem zZY:Tryz.f221.body.isNone=false:=by kernel_rfl
theorem zYR : (Tryz.f222.name == "runtime.NumGoroutine") = false := by kernel_rfl
theorem zZX:Tryz.f222.body.isNone=false:=by kernel_rfl
theorem zYQ : (Tryz.f223.name == "runtime.NumGoroutine") = false := by kernel_rfl
theorem zZW:Tryz.f223.body.isNone=false:=by kernel_rfl
theorem zYP : (Tryz.f247.name == "runtime.NumGoroutine") = false := by kernel_rfl
theorem zZV:Tryz.f247.body.isNone=false:=by kernel_rfl
theorem zYN : (Tryz.f255.name == "runtime.NumGoroutine") = false := by kernel_rfl
theorem zZT:Tryz.f255.body.isNone=false:=by kernel_rfl
theorem mixed:prog.follows .mixedOrders=true:=by kernel_rfl
end Go.Proofs
namespace Go.Eng
open Go
inductive Re where
  | mk (kind:Int) (set:List (Int×Int)) (args:List Re) (mn mx:Int) (neg:Bool)
namespace Re
def kind:Re→Int | .mk k _ _ _ _ _=>k
def set:Re→List (Int×Int) | .mk _ s _ _ _ _=>s
def args:Re→List Re | .mk _ _ a _ _ _=>a
def mn:Re→Int | .mk _ _ _ m _ _=>m
def mx:Re→Int | .mk _ _ _ _ m _=>m
def neg:Re→Bool | .mk _ _ _ _ _ n=>n
mutual
def size:Re→Nat
  | .mk _ _ a _ _ _=>sizes a+1
def sizes:List Re→Nat
  | []=>0
  | t::ts=>size t+sizes ts
end
theorem size_pos (t:Re):0<t.size:=by cases t;simp[size]
theorem size_eq (t:Re):t.size=sizes t.args+1:=by cases t;rfl
theorem sizes_get {ts:List Re} {i:Nat} {t:Re} (h:ts[i]?=some t):t.size≤sizes ts:=by
  induction ts generalizing i with
  | nil=>simp at h
  | cons a r ih=>
    cases i with
    | zero=>simp at h;subst h;simp[sizes]
    | succ i=>simp at h;have:=ih h;simp[sizes];omega
theorem size_arg {t:Re} {i:Nat} {x:Re} (h:t.args[i]?=some x):x.size<t.size:=by
 have:=sizes_get h;rw[size_eq t];omega
theorem sizes_append (a b:List Re):sizes (a++b)=sizes a+sizes b:=by
  induction a with
  | nil=>simp[sizes]
  | cons x r ih=>simp[sizes,ih];omega
end Re
abbrev R6 (t:Re) (sa:Option Addr) (sc:Nat) (aa:Option Addr) (ac:Nat):Array Value:=#[.int .i64 t.kind,.slice sa t.set.length sc,.slice aa t.args.length ac,.int .i64 t.mn,.int .i64 t.mx,.bool t.neg]
theorem zAa {α:Type} {l:List α} {i:Nat} {y:α} (h:l[i]?=some y):i<l.length:=by
 rcases Nat.lt_or_ge i l.length with h'|h'
 ·exact h'
 ·simp[List.getElem?_eq_none h'] at h
/-- A slice value that reads as a list of rows of k cells. -/
def zBq (w:World) (k:Nat) (v:Value) (rows:List (List Value)):Prop:=
 ∃a cap,v=.slice a rows.length cap∧rows.length≤9223372036854775807∧rows.length≤cap∧(rows=[]∨∃b o,a=some ⟨b,o,none⟩∧∀i r,rows[i]?=some r→zBD w b (o+i*k) r)
theorem zBq.ext {w w':World} {k:Nat} {v:Value} {rows:List (List Value)} (h:zBq w k v rows) (e:Ext w w'):zBq w' k v rows:=by
 obtain ⟨a,aa,hv,hl,hc,h⟩:=h;refine ⟨a,aa,hv,hl,hc,?_⟩;rcases h with h|⟨b,o,ha,hc⟩
 ·exact .inl h
 ·exact .inr ⟨b,o,ha,fun i r hr=>(hc i r hr).ext e⟩
theorem zBq.nil (w:World) (k:Nat) (a:Option Addr) (cap:Nat):zBq w k (.slice a 0 cap) []:=⟨a,cap,rfl,qP,qP,.inl rfl⟩
/-- Where there is an element the slice has an address. -/
theorem zBq.at {w:World} {k:Nat} {a:Option Addr} {n cap:Nat} {rows:List (List Value)} (h:zBq w k (.slice a n cap) rows) (hn:0<n) :
  ∃b o,a=some ⟨b,o,none⟩∧∀i r,rows[i]?=some r→zBD w b (o+i*k) r:=by
 obtain ⟨a',aa,hv,_,_,h⟩:=h;simp only[Value.slice.injEq] at hv;obtain ⟨rfl,rfl,rfl⟩:=hv;rcases h with rfl|h
 ·simp at hn
 ·exact h
theorem zBq.le {w:World} {k:Nat} {v:Value} {rows:List (List Value)} (h:zBq w k v rows):rows.length≤9223372036854775807:=let ⟨_,_,_,h,_⟩:=h;h
theorem zBq.cap {w:World} {k:Nat} {a:Option Addr} {n c:Nat} {rows:List (List Value)} (h:zBq w k (.slice a n c) rows):n≤c∧rows.length=n:=by
 obtain ⟨a',aa,hv,_,hc,_⟩:=h;simp only[Value.slice.injEq] at hv;obtain ⟨rfl,rfl,rfl⟩:=hv;exact ⟨hc,rfl⟩
theorem zBq.form {w:World} {k:Nat} {v:Value} {rows:List (List Value)} (h:zBq w k v rows):∃a cap,v=.slice a rows.length cap:=let ⟨a,c,h,_⟩:=h;⟨a,c,h⟩
def zPN (x:Int):List Value:=[.int .i64 x]
def zBh (s:Int×Int):List Value:=[.int .i64 s.1,.int .i64 s.2]
def zBt (w:World) (v:Value) (l:List Int):Prop:=zBq w 1 v (l.map zPN)
def zBQ (w:World) (v:Value) (l:List (Int×Int)):Prop:=zBq w 2 v (l.map zBh)
theorem zBt.ext {w w':World} {v:Value} {l:List Int} (h:zBt w v l) (e:Ext w w'):zBt w' v l:=zBq.ext h e
theorem zBQ.ext {w w':World} {v:Value} {l:List (Int×Int)} (h:zBQ w v l) (e:Ext w w'):zBQ w' v l:=zBq.ext h e
theorem zBD.at1 {w:World} {b o:Nat} {x y:Value} (h:zBD w b o [x,y]):w.cell? ⟨b,o+1,none⟩=some y:=h 1 y rfl
theorem zBD.at0 {w:World} {b o:Nat} {x:Value} {r:List Value} (h:zBD w b o (x::r)):w.cell? ⟨b,o,none⟩=some x:=h 0 x rfl
theorem zBN {w:World} {a:Option Addr} {n c:Nat} {l:List (Int×Int)} (h:zBQ w (.slice a n c) l) (hn:0<n) :
  ∃b o,a=some ⟨b,o,none⟩∧∀i s,l[i]?=some s→zBD w b (o+i*2) [.int .i64 s.1,.int .i64 s.2]:=by
 obtain ⟨b,o,ha,h⟩:=zBq.at h hn;exact ⟨b,o,ha,fun i s hs=>h i (zBh s) (by simp[hs])⟩
mutual
/-- The cells of an expression. -/
def zBG (w:World):Re→List Value→Prop
  | .mk k set args mn mx ng,vs=>∃sa sc aa ac,vs=[.int .i64 k,.slice sa set.length sc,.slice aa args.length ac,.int .i64 mn,.int .i64 mx,.bool ng]∧zBQ w (.slice sa set.length sc) set∧(args.length≤ac∧ac≤9223372036854775807)∧
      (args=[]∨∃b o,aa=some ⟨b,o,none⟩∧zCO w b o args)
/-- Expressions one behind the other. -/
def zCO (w:World) (b:Nat):Nat→List Re→Prop
  | _,[]=>True
  | o,t::ts=>(∃vs,zBD w b o vs∧zBG w t vs)∧zCO w b (o+6) ts
end
mutual
theorem zBG.ext {w w':World} (e:Ext w w'):∀(t:Re) {vs:List Value},zBG w t vs→zBG w' t vs
  | .mk k set args mn mx ng,vs,h=>by
    simp only[zBG] at h⊢;obtain ⟨sa,sc,aa,ac,hv,hs,hl,ha⟩:=h;refine ⟨sa,sc,aa,ac,hv,hs.ext e,hl,?_⟩;rcases ha with h|⟨b,o,h1,h2⟩
    · exact .inl h
    · exact .inr ⟨b,o,h1,zCO.ext e args h2⟩
theorem zCO.ext {w w':World} (e:Ext w w') {b:Nat}:∀(ts:List Re) {o:Nat},zCO w b o ts→zCO w' b o ts
  | [],_,_=>by simp only[zCO]
  | t::ts,o,h=>by
    simp only[zCO] at h⊢;obtain ⟨⟨vs,h1,h2⟩,h3⟩:=h;exact ⟨⟨vs,h1.ext e,zBG.ext e t h2⟩,zCO.ext e ts h3⟩
end
theorem zCO.get {w:World} {b:Nat}:∀{ts:List Re} {o i:Nat} {t:Re},zCO w b o ts→ts[i]?=some t→∃vs,zBD w b (o+i*6) vs∧zBG w t vs
  | [],_,_,_,_,h=>by simp at h
  | x::ts,o,0,t,h,hi=>by
    simp only[zCO] at h;simp at hi;subst hi;simpa using h.1
  | x::ts,o,i+1,t,h,hi=>by
    simp only[zCO] at h;have:=zCO.get h.2 (i:=i) (by simpa using hi)
    rwa [show o+(i+1)*6=o+6+i*6 from qO]
theorem zCO.mk {w:World} {b:Nat}:∀{ts:List Re} {o:Nat},(∀i t,ts[i]?=some t→∃vs,zBD w b (o+i*6) vs∧zBG w t vs)→zCO w b o ts
  | [],_,_=>by simp only[zCO]
  | x::ts,o,h=>by
    simp only[zCO];refine ⟨by simpa using h 0 x rfl,zCO.mk fun i t hi=>?_⟩;have:=h (i+1) t (by simpa using hi)
    rwa [show o+(i+1)*6=o+6+i*6 from qO] at this
/-- The form of an expression's value. -/
theorem zBG.form {w:World} {t:Re} {vs:List Value} (h:zBG w t vs):∃sa sc aa ac,vs=[.int .i64 t.kind,.slice sa t.set.length sc,.slice aa t.args.length ac,.int .i64 t.mn,.int .i64 t.mx,.bool t.neg]∧zBQ w (.slice sa t.set.length sc) t.set∧(t.args.length≤ac∧ac≤9223372036854775807)∧
  (t.args=[]∨∃b o,aa=some ⟨b,o,none⟩∧zCO w b o t.args):=by
 cases t;simp only[zBG] at h;exact h
theorem zBG.of {w:World} {k:Int} {set:List (Int×Int)} {args:List Re} {mn mx:Int} {ng:Bool} {sa aa:Option Addr} {sc ac:Nat} (hs:zBQ w (.slice sa set.length sc) set) (hl:(args.length≤ac∧ac≤9223372036854775807)) (ha:args=[]∨∃b o,aa=some ⟨b,o,none⟩∧zCO w b o args) :
  zBG w (.mk k set args mn mx ng) [.int .i64 k,.slice sa set.length sc,.slice aa args.length ac,.int .i64 mn,.int .i64 mx,.bool ng]:=by
 simp only[zBG];exact ⟨sa,sc,aa,ac,rfl,hs,hl,ha⟩
theorem zBG.len {w:World} {t:Re} {vs:List Value} (h:zBG w t vs):vs.length=6:=by
 obtain ⟨_,_,_,_,rfl,_⟩:=h.form;rfl
/-- A call of a function value. -/
def zCD (P:Program) (fv:Value) (args:Array Value) (w:World) (R:Value→World→Prop):Prop:=
 ∃ f fn first cap, fv = .func (.func f) first cap ∧ P.funcs[f]? = some fn ∧ (fn.name == "runtime.NumGoroutine") = false ∧ fn.body.isNone = false ∧ Ret P f (first ++ args ++ cap) w R
theorem zCD.mk {P : Program} {f : FuncId} {fn : Func} {first cap args ws : Array Value} {w : World} {R : Value → World → Prop} (hf : P.funcs[f]? = some fn) (hn : (fn.name == "runtime.NumGoroutine") = false) (hb : fn.body.isNone = false) (hw : first ++ args ++ cap = ws) (h : Ret P f ws w R) :
  zCD P (.func (.func f) first cap) args w R:=⟨f,fn,first,cap,rfl,hf,hn,hb,hw▸h⟩
theorem zCZ {P:Program} {N:Nat} {Q:zGJ} {σ:Env} {w:World} {K:Env→World→Prop} {ops:Array Oper} {rest:List Oper} {d:Nat} {z:Operand} {args:List Operand} {tys:Array TypeId} {ty:TypeId} {pos:String} {af:Array Edge} {fv:Value} {vs:List Value} {R:Value→World→Prop}
  (hN:d<N) (hz:ev σ z=fv) (ha:args.map (ev σ)=vs) (hc:zCD P fv vs.toArray w R) (k:∀v w',R v w'→WpL P N ops K Q rest (upd σ d v) w') :
  WpL P N ops K Q (⟨some d,.call ⟨.value z,args.toArray,tys⟩,ty,pos,af,none⟩::rest) σ w:=by
 obtain ⟨f,fn,aa,cap,rfl,hf,hn,hb,hr⟩:=hc;exact zMA rfl rfl hN (zQB hz hf hn hb ha rfl) hr k
section
variable {S : Type} (F : S → Re → Bool × S)
mutual
def zDA:Re→S→Bool×S
  | .mk k set args mn mx ng,s=>match F s (.mk k set args mn mx ng) with
    | (false,s')=>(false,s')
    | (true,s')=>zCW args s'
def zCW:List Re→S→Bool×S
  | [],s=>(true,s)
  | t::ts,s=>match zDA t s with
    | (false,s')=>(false,s')
    | (true,s')=>zCW ts s'
end
theorem zEH (t:Re) (s:S):zDA F t s=if (F s t).1 then zCW F t.args (F s t).2 else (false,(F s t).2):=by
 cases t;simp only[zDA,Re.args];split<;>rename_i h<;>simp[h]
theorem zCg (t:Re) (ts:List Re) (s:S):zCW F (t::ts) s=if (zDA F t s).1 then zCW F ts (zDA F t s).2 else (false,(zDA F t s).2):=by
 simp only[zCW];split<;>rename_i h<;>simp[h]
end
/-- The first place at which a test holds, or -1. -/
def idx {α:Type} (p:α→Bool) (l:List α):Int:=match l.findIdx? p with
  | some i=>i
  | none=>-1
theorem zGB {α:Type} (p:α→Bool) (l:List α):decide (0≤idx p l)=l.any p:=by
  unfold idx;cases h:l.findIdx? p with
  | none=>
    have h':l.any p=false:=by
      rw[List.findIdx?_eq_none_iff] at h;rw[List.any_eq_false];intro x hx;simp[h x hx]
    rw[h'];decide
  | some i=>
    have h':l.any p=true:=by
      rw[List.findIdx?_eq_some_iff_getElem] at h;obtain ⟨hi,hp,_⟩:=h;rw[List.any_eq_true];exact ⟨_,List.getElem_mem hi,hp⟩
    rw[h'];simp
theorem zHL {α:Type} {p:α→Bool} {l:List α} {k:Nat} {x:α} (hk:l[k]?=some x) (hp:p x=true) (hb:∀i y,i<k→l[i]?=some y→p y=false):idx p l=k:=by
 unfold idx;have aa:k<l.length:=by
  rcases Nat.lt_or_ge k l.length with h|h
  ·exact h
  ·simp[List.getElem?_eq_none h] at hk
 have:l.findIdx? p=some k:=by
  rw[List.findIdx?_eq_some_iff_getElem];refine ⟨aa,?_,fun j hj=>?_⟩
  ·rw[List.getElem?_eq_getElem aa] at hk;cases hk;exact hp
  ·have:=hb j l[j] hj (List.getElem?_eq_getElem qO);simp[this]
 rw[this]
theorem zGY {α:Type} {p:α→Bool} {l:List α} (hb:∀(i:Nat) (y:α),l[i]?=some y→p y=false):idx p l = -1:=by
 unfold idx;have:l.findIdx? p=none:=by
  rw[List.findIdx?_eq_none_iff];intro x hx;obtain ⟨i,hi⟩:=List.mem_iff_getElem?.1 hx;simp[hb i x hi]
 rw[this]
theorem zBO {a b:Int} (h:a=b):Value.int .i64 a=.int .i64 b:=by rw[h]
theorem zAx {a b:Bool} (h:a=b):Value.bool a=.bool b:=by rw[h]
theorem zBu {w:World} {a:Option Addr} {n c:Nat} {l:List Int} (h:zBt w (.slice a n c) l) (hn:0<n) :
  ∃b o,a=some ⟨b,o,none⟩∧∀i x,l[i]?=some x→w.cell? ⟨b,o+i,none⟩=some (.int .i64 x):=by
 obtain ⟨b,o,ha,h⟩:=zBq.at h hn;refine ⟨b,o,ha,fun i x hx=>?_⟩;have:=h i (zPN x) (by simp[hx]) 0 _ rfl;simpa using this
theorem zAU {α:Type} {l:List α} {i:Nat} (h:i<l.length):∃x,l[i]?=some x:=⟨_,List.getElem?_eq_getElem h⟩
theorem zBU {α:Type} {l:List α} {k:Nat} {x:α} (h:l[k]?=some x):l.drop k=x::l.drop (k+1):=by
 have aa:=zAa h;rw[List.drop_eq_getElem_cons aa];rw[List.getElem?_eq_getElem aa] at h;cases h;rfl
theorem zEi {α:Type} {p:α→Bool} {l:List α} {k:Nat} {x:α} (hx:l[k]?=some x) (hp:p x=false) (hno:∀(i:Nat) (y:α),i<k→l[i]?=some y→p y=false):∀(i:Nat) (y:α),i<k+1→l[i]?=some y→p y=false:=by
 intro i y hi hy;rcases Nat.lt_or_ge i k with h|h
 ·exact hno i y h hy
 ·obtain rfl:i=k:=qO
  rw[hx] at hy;cases hy;exact hp
theorem zIC {w:World} {b t k cap:Nat} {rows:List (List Value)} (h:Blk w b rows.flatten.toArray t) (hk:∀r∈rows,r.length=k) (hl:rows.length≤9223372036854775807) (hcap:rows.length≤cap):zBq w k (.slice (some ⟨b,0,none⟩) rows.length cap) rows:=by
  refine ⟨_,cap,rfl,hl,hcap,.inr ⟨b,0,rfl,fun i r hr j u hu=>?_⟩⟩;have hc:(rows.flatten)[i*k+j]?=some u:=by
    clear h hl hcap
    induction rows generalizing i with
    | nil=>simp at hr
    | cons x rs ih=>
      have hx:x.length=k:=hk x qP;cases i with
      | zero=>
        simp at hr;subst hr;have hj:=zAa hu;simp only[List.flatten_cons,Nat.zero_mul,Nat.zero_add];rw[List.getElem?_append_left hj];exact hu
      | succ i=>
        simp at hr;simp only[List.flatten_cons];rw[List.getElem?_append_right (by rw[hx,Nat.succ_mul];omega)];rw[show (i+1)*k+j - x.length=i*k+j from by rw[hx,Nat.succ_mul];omega];exact ih (fun r hr=>hk r (by simp[hr])) _ hr
  rw[Nat.zero_add];exact h.cell (by simpa using hc)
theorem zDv {w:World} {b t cap:Nat} (l:List Int) (h:Blk w b (l.map zPN).flatten.toArray t) (hl:l.length≤9223372036854775807) (hcap:l.length≤cap):zBt w (.slice (some ⟨b,0,none⟩) l.length cap) l:=by
 have:=zIC (k:=1) (cap:=cap) h (by intro r hr;simp only[List.mem_map] at hr;obtain ⟨x,_,rfl⟩:=hr;rfl) (by simpa using hl) (by simpa using hcap);simpa[zBt] using this
theorem zKu {w:World} {b t cap:Nat} (l:List (Int×Int)) (h:Blk w b (l.map zBh).flatten.toArray t) (hl:l.length≤9223372036854775807) (hcap:l.length≤cap):zBQ w (.slice (some ⟨b,0,none⟩) l.length cap) l:=by
 have:=zIC (k:=2) (cap:=cap) h (by intro r hr;simp only[List.mem_map] at hr;obtain ⟨x,_,rfl⟩:=hr;rfl) (by simpa using hl) (by simpa using hcap);simpa[zBQ] using this
theorem zBG.one {w:World} {t:Re} {vs:List Value} (h:zBG w t vs):∀u∈vs,u.oneCell'=true:=by
 obtain ⟨_,_,_,_,rfl,_⟩:=h.form;simp[Value.oneCell']
end Go.Eng
namespace Go.Proofs
open Go Go.Eng
set_option maxRecDepth 100000
theorem zPX {S:Type} (F:S→Re→Bool×S) (Inv:S→World→Prop) (M:Nat→Prop) (bd:Nat) (fv:Value) (wb:World)
    (hM:∀b,M b→wb.heap.size≤b∧b<bd) (hst:∀s w w',Inv s w→Ext w w'→Inv s w')
    (hf:∀s w t vs,bd≤w.heap.size→Ext wb w→Inv s w→zBG wb t vs→zCD prog fv #[.agg vs.toArray] w fun v w'=>v=.bool (F s t).1∧Chg M w w'∧Inv (F s t).2 w') :
    ∀n t,t.size≤n→∀s w0 vs,bd≤w0.heap.size→Ext wb w0→Inv s w0→zBG wb t vs→
      Ret prog 121 #[.agg vs.toArray,fv] w0 fun v w'=>v=.bool (zDA F t s).1∧Chg M w0 w'∧Inv (zDA F t s).2 w':=by
  have ad:∀{w w':World},Ext wb w→Chg M w w'→Ext wb w':=fun e c=>Chg.step e c fun x hx hm=>by have:=(hM x hm).1;omega
  intro n
  induction n with
  | zero=>intro t ht;have:=t.size_pos;omega
  | succ n ih=>
  intro t hn s w0 vs hbd hE hI ht;obtain ⟨sa,sc,aa,ac,rfl,an,ak,ag⟩:=ht.form;rw[zEH];refine zGr func121 rfl ntmps121 (leT rfl) ?_;have E:Chg M w0 w0:=Chg.refl _ _;refine zAA (zBL (v:=(.agg (R6 t sa sc aa ac))) (c:=(R6 t sa sc aa ac)) qD rfl rfl ?_);intro b1 w1 N1;have F1:=N1.ge E;replace hI:=hst _ _ _ hI N1.ext;replace E:=E.ext N1.ext;have B1:=N1.blk;refine qA _ rfl (zAB (zAK (zAA (qM _ rfl (qV (zAG (vs:=[(I6 t.kind),(.slice sa t.set.length sc),(.slice aa t.args.length ac),(I6 t.mn),(I6 t.mx),(.bool t.neg)]) rfl zAc zAO rfl (B1.cells rfl)) (zCZ qD rfl rfl (hf s _ t _ (by have:=N1.size;omega) (hE.trans N1.ext) hI ht) ?_))))));rintro _ w2 ⟨rfl,C2,hI⟩;replace B1:=C2.keep (fun h=>by have:=(hM _ h).2;omega) B1;replace E:=E.trans C2;have hE2:Ext wb w2:=ad hE E;have z2:bd≤w2.heap.size:=by have:=C2.size;have:=N1.size;omega
  refine qV (zCf rfl) (zAB (zAt rfl (fun h=>?_) (fun h=>?_)))
  · have kh:=h;replace h:=by simpa using h
    refine zAA (qA _ rfl (zAB (zAR (zAI (zAW results121 (v:=(.bool false)) rfl ?_)))));exact ⟨by rw[if_neg (by simp[h])],E,by rw[if_neg (by simp[h])];exact hI⟩
  · have kh:=h;replace h:=by simpa using h
    rw[if_pos (by simpa using h)];generalize (F s t).2=s1 at hI⊢;refine zAP (zAC (zAK (zAA (qF b1 0 2 rfl underlying25 rfl zBS rfl (qV (zAL rfl zBE (B1.cell rfl)) (qV (zAM underlying23 rfl) (qM _ rfl (zAB (zAT (zAq (fun nn_ σ W3=>∃(k:Nat) (s':S),(∃jj_,σ=zCH jj_ [(1,fv),(12,(.slice aa t.args.length ac)),(13,(I6 (t.args.length:Int))),(14,(I6 (k:Int)))])∧Chg M w0 W3∧Blk W3 b1 (R6 t sa sc aa ac) 25∧(k≤t.args.length)∧(bd≤W3.heap.size)∧(Inv s' W3)∧(zCW F t.args s1=zCW F (t.args.drop k) s')∧nn_=t.args.length - k) (n:=t.args.length - 0) ?_ ?_))))))))))
    · exact ⟨0,s1,zBA.out ⟨rfl,rfl,rfl,rfl,trivial⟩,E,B1,Nat.zero_le _,z2,hI,rfl,rfl⟩
    · clear E B1;rintro _ _ W3 ⟨k,s',⟨j3,rfl⟩,E,B1,hk,hz,hI,ab,rfl⟩;refine zAA (qV (zBH rfl rfl) (zAB (zAK (qC rfl (fun ap=>?_) (fun ap=>?_)))))
      · have ae:k<t.args.length:=qO
        obtain ⟨x,hx⟩:∃x,t.args[k]?=some x:=⟨_,List.getElem?_eq_getElem ae⟩;obtain ⟨b,o,rfl,ah⟩:∃b o,aa=some ⟨b,o,none⟩∧zCO wb b o t.args:=by
          rcases ag with h|h
          · rw[h] at ae;simp at ae
          · exact h
        obtain ⟨us,aj,af⟩:=ah.get hx;have ai:Ext wb _:=ad hE E;refine zAP (zAC (zAK (zAT (zAA (qV (zAH (b:=b) (o:=o) (len:=t.args.length) (cap:=ac) (i:=k) (o':=o+k*6) rfl rfl rfl underlying23 zAO qO qO) (qV (zAG rfl zAc zAO af.len (aj.ext ai)) ?_))))));have hsz:=Re.size_arg hx;refine zAg (v:=(.agg us.toArray)) (c:=us.toArray) (n:=6) qD zAu rfl zAO rfl rfl (by simpa using af.len) (by simpa using zBG.one af) ?_;intro b5 w5 N5;have F5:=N5.ge E;have O5_b1:=N5.lt B1;replace B1:=N5.keep B1;replace hI:=hst _ _ _ hI N5.ext;replace E:=E.ext N5.ext;have B5:=N5.blk;refine zAB (zAA (qV (zAG rfl zAc zAO af.len (B5.cells qP)) (qM _ rfl (qE rfl (zAV func121 zOg zPD rfl) (ih x qO s' _ us (by have:=N5.size;omega) (ad hE E) hI af) ?_))));rintro _ w9 ⟨rfl,C9,hI⟩;replace B1:=C9.keep (fun h=>by have:=(hM _ h).2;omega) B1;replace B5:=C9.keep (fun h=>by have:=(hM _ h).2;omega) B5;replace E:=E.trans C9;have ao:t.args.drop k=x::t.args.drop (k+1):=by rw[List.drop_eq_getElem_cons ae];rw[List.getElem?_eq_getElem ae] at hx;cases hx;rfl
        rw[ao,zCg] at ab;refine qV (zCf rfl) (zAB (zAt rfl (fun h2=>?_) (fun h2=>?_)))
        · have al:=h2;replace h2:=by simpa using h2
          refine zAA (qA _ rfl (zAB (zAR (zAZ (zAI (zAI (zAZ (zAI (zAW results121 (v:=(.bool false)) rfl ?_)))))))));exact ⟨by rw[ab,if_neg (by simp[h2])],E,by rw[ab,if_neg (by simp[h2])];exact hI⟩
        · have al:=h2;replace h2:=by simpa using h2
          rw[if_pos (by simpa using h2)] at ab;refine zAP (zAS (zAC (zAN (qV (zAy rfl rfl (zBV qO)) (qM _ rfl (zAB (zAC ?_)))))));exact ⟨t.args.length - (k+1),qO,k+1,(zDA F x s').2,zBA.out ⟨rfl,rfl,rfl,rfl,trivial⟩,E,B1,qO,(by have:=C9.size;have:=N5.size;omega),hI,ab,rfl⟩
      · have am:k=t.args.length:=qO
        rw[am,List.drop_length] at ab;refine zAp (zAX (zAX (zAj (zAC (zAA (qA _ rfl (zAB (zAR (zAW results121 (v:=(.bool true)) rfl ?_)))))))));exact ⟨by rw[ab];rfl,E,by rw[ab];exact hI⟩
end Go.Proofs
namespace Go.Proofs
open Go Go.Eng
set_option maxRecDepth 100000
def zDd (s:Int×Int):Bool:=(decide (0≤s.1) && decide (s.1≤s.2)) && decide (s.2≤1114111)
theorem zUG (s:Int×Int) (w0:World) :
  Ret prog 174 #[.agg #[.int .i64 s.1,.int .i64 s.2]] w0 fun v w=>v=.bool (zDd s)∧Ext w0 w:=by
 refine qR func174 rfl ntmps174 rfl (fun E=>(zAA (zBL (v:=(.agg #[(I6 s.1),(I6 s.2)])) (c:=#[(I6 s.1),(I6 s.2)]) qD rfl rfl ?_)));intro b1 w1 N1;have F1:=N1.ge E;replace E:=E.ext N1.ext;have B1:=N1.blk;refine qA _ rfl (zAB (zAA (qF b1 0 0 rfl underlying103 rfl zAv rfl (qV (zAL rfl zAf (B1.cell rfl)) ?_))));obtain ⟨e2,ad⟩:∃e,(decide ((0:Int)≤s.1))=e:=⟨_,rfl⟩;refine qV ((zFG rfl rfl).trans (by rw[ad];try rfl)) (qM _ rfl (qG (.bool e2) (yU e2 (P6 b1 0)) (by cases e2<;>first|exact gA|exact gB|exact .inl ⟨rfl,zAQ rfl underlying103 rfl zAv rfl⟩) (qG (.bool e2) (yU e2 (I6 s.1)) (by cases e2<;>first|exact gA|exact gB|exact .inl ⟨rfl,zAL rfl zAf (B1.cell rfl)⟩) (qG (.bool e2) (yU e2 (P6 b1 1)) (by cases e2<;>first|exact gA|exact gB|exact .inl ⟨rfl,zAQ rfl underlying103 rfl zAv rfl⟩) (qG (.bool e2) (yU e2 (I6 s.2)) (by cases e2<;>first|exact gA|exact gB|exact .inl ⟨rfl,zAL rfl zAf (B1.cell rfl)⟩) ?_)))));obtain ⟨e3,aa⟩:∃e,(decide ((s.1:Int)≤s.2))=e:=⟨_,rfl⟩;refine qG (.bool e2) (yU e2 (.bool e3)) (by cases e2<;>first|exact gA|exact gB|exact .inl ⟨rfl,(zEd rfl rfl).trans (by rw[aa];try rfl)⟩) ?_;obtain ⟨e4,ae⟩:∃e,(e2 && e3)=e:=⟨_,rfl⟩;refine qV (zAd (v:=.bool e4) rfl (by rw[←ae];cases e2<;>rfl)) (qM _ rfl (qG (.bool e4) (yU e4 (P6 b1 1)) (by cases e4<;>first|exact gA|exact gB|exact .inl ⟨rfl,zAQ rfl underlying103 rfl zAv rfl⟩) (qG (.bool e4) (yU e4 (I6 s.2)) (by cases e4<;>first|exact gA|exact gB|exact .inl ⟨rfl,zAL rfl zAf (B1.cell rfl)⟩) ?_)));obtain ⟨e5,ac⟩:∃e,(decide ((s.2:Int)≤1114111))=e:=⟨_,rfl⟩;refine qG (.bool e4) (yU e4 (.bool e5)) (by cases e4<;>first|exact gA|exact gB|exact .inl ⟨rfl,(zEd rfl rfl).trans (by rw[ac];try rfl)⟩) ?_;obtain ⟨e6,ab⟩:∃e,(e4 && e5)=e:=⟨_,rfl⟩;refine qV (zAd (v:=.bool e6) rfl (by rw[←ab];cases e4<;>rfl)) (qA _ rfl (zAB ?_));subst ab;subst ac;subst ae;subst aa;subst ad;refine zAR (zAW results174 (v:=(.bool (((decide ((0:Int)≤s.1)) && (decide ((s.1:Int)≤s.2))) && (decide ((s.2:Int)≤1114111))))) rfl ?_);exact ⟨rfl,E⟩
def okB (k n:Int):Bool:=if k=3∨k=4∨k=7 then decide (2≤n) else if k=5∨k=6∨k=8∨k=9∨k=10 then decide (n=1) else decide (n=0)
def zDb (t:Re):Bool:=
 (((okB t.kind t.args.length && (decide (t.kind=2) || decide ((t.set.length:Int)=0))) && ((decide (t.kind=6) || decide (t.kind=9)) || decide (t.mn=0))) && (decide (t.kind=6) || decide (t.mx=0))) && (decide (t.kind=10) || !t.neg)
theorem zWy (wb w0:World) (t:Re) (vs:List Value) (ht:zBG wb t vs) :
  Ret prog 169 #[.agg vs.toArray] w0 fun v w=>v=.bool (zDb t)∧Ext w0 w:=by
 obtain ⟨sa,sc,aa,ac,rfl,bv,bt,bq⟩:=ht.form;refine qR func169 rfl ntmps169 rfl (fun E=>(zAA (zBL (v:=(.agg (R6 t sa sc aa ac))) (c:=(R6 t sa sc aa ac)) qD rfl rfl ?_)));intro b1 w1 N1;have F1:=N1.ge E;replace E:=E.ext N1.ext;have B1:=N1.blk;refine qA _ rfl (zAB (zAA (qF b1 0 2 rfl underlying25 rfl zBS rfl (qV (zAL rfl zBE (B1.cell rfl)) (qV (zAM underlying23 rfl) (qA _ rfl (zAB (zAA (qM _ rfl (qV (zAk rfl rfl) (qA _ rfl (zAB (zHi (fun σ W2=>∃(ok:Bool),(∃jj_,σ=zCH jj_ [(1,(P6 b1 0)),(4,(.bool ok))])∧Chg zAo w0 W2∧Blk W2 b1 (R6 t sa sc aa ac) 25∧(ok=okB t.kind t.args.length)) ?_ ?_)))))))))))))
 ·skip
  refine zAA (qF b1 0 0 rfl underlying25 rfl zAv rfl (qV (zAL rfl zAf (B1.cell rfl)) (zAB (zAT (zAK (zAA (qV (zAk rfl rfl) (qA _ rfl (zAB (qC rfl (fun ba=>?_) (fun ba=>?_)))))))))))
  ·have am:=decide_eq_true ba;refine zAP (zAC (zAl (cbk am) (zAN (qM _ rfl (qV (zFG rfl rfl) (qA _ rfl (zAB (zAS (zAC ?_)))))))));exact ⟨(decide ((2:Int)≤((t.args.length:Nat):Int))),zBA.out ⟨rfl,rfl,trivial⟩,E,B1,(by unfold okB;(repeat' split)<;>first|rfl|omega)⟩
  ·have am:=decide_eq_false ba;refine zAA (qV (zAk rfl rfl) (qA _ rfl (zAB (qC rfl (fun bk=>?_) (fun bk=>?_)))))
   ·have a2:=decide_eq_true bk;refine zAP (zAC (zAl (cbk a2) (zAN (qM _ rfl (qV (zFG rfl rfl) (qA _ rfl (zAB (zAS (zAC ?_)))))))));exact ⟨(decide ((2:Int)≤((t.args.length:Nat):Int))),zBA.out ⟨rfl,rfl,trivial⟩,E,B1,(by unfold okB;(repeat' split)<;>first|rfl|omega)⟩
   ·have a2:=decide_eq_false bk;refine zAN (qV (zAk rfl rfl) (qA _ rfl (zAB (zAC (qC rfl (fun bs=>?_) (fun bs=>?_))))))
    ·refine zAN (qM _ rfl (qV (zFG rfl rfl) (qA _ rfl (zAB (zAS (zAC ?_))))));exact ⟨(decide ((2:Int)≤((t.args.length:Nat):Int))),zBA.out ⟨rfl,rfl,trivial⟩,E,B1,(by unfold okB;(repeat' split)<;>first|rfl|omega)⟩
    ·refine zAK (zAA (qV (zAk rfl rfl) (qA _ rfl (zAB (qC rfl (fun bi=>?_) (fun bi=>?_))))))
     ·have a6:=decide_eq_true bi;refine zAP (zAC (zAl (cbk a6) (zAN (qM _ rfl (qV (zAk rfl rfl) (qA _ rfl (zAB (zAS (zAC ?_)))))))));exact ⟨(decide ((((t.args.length:Nat):Int):Int)=1)),zBA.out ⟨rfl,rfl,trivial⟩,E,B1,(by unfold okB;(repeat' split)<;>first|rfl|omega)⟩
     ·have a6:=decide_eq_false bi;refine zAA (qV (zAk rfl rfl) (qA _ rfl (zAB (qC rfl (fun bb=>?_) (fun bb=>?_)))))
      ·have az:=decide_eq_true bb;refine zAP (zAC (zAl (cbk az) (zAN (qM _ rfl (qV (zAk rfl rfl) (qA _ rfl (zAB (zAS (zAC ?_)))))))));exact ⟨(decide ((((t.args.length:Nat):Int):Int)=1)),zBA.out ⟨rfl,rfl,trivial⟩,E,B1,(by unfold okB;(repeat' split)<;>first|rfl|omega)⟩
      ·have az:=decide_eq_false bb;refine zAA (qV (zAk rfl rfl) (qA _ rfl (zAB (qC rfl (fun bg=>?_) (fun bg=>?_)))))
       ·have ap:=decide_eq_true bg;refine zAP (zAC (zAl (cbk ap) (zAN (qM _ rfl (qV (zAk rfl rfl) (qA _ rfl (zAB (zAS (zAC ?_)))))))));exact ⟨(decide ((((t.args.length:Nat):Int):Int)=1)),zBA.out ⟨rfl,rfl,trivial⟩,E,B1,(by unfold okB;(repeat' split)<;>first|rfl|omega)⟩
       ·have ap:=decide_eq_false bg;refine zAA (qV (zAk rfl rfl) (qA _ rfl (zAB (qC rfl (fun bc=>?_) (fun bc=>?_)))))
        ·have ay:=decide_eq_true bc;refine zAP (zAC (zAl (cbk ay) (zAN (qM _ rfl (qV (zAk rfl rfl) (qA _ rfl (zAB (zAS (zAC ?_)))))))));exact ⟨(decide ((((t.args.length:Nat):Int):Int)=1)),zBA.out ⟨rfl,rfl,trivial⟩,E,B1,(by unfold okB;(repeat' split)<;>first|rfl|omega)⟩
        ·have ay:=decide_eq_false bc;refine zAN (qV (zAk rfl rfl) (qA _ rfl (zAB (zAC (qC rfl (fun bj=>?_) (fun bj=>?_))))))
         ·refine zAN (qM _ rfl (qV (zAk rfl rfl) (qA _ rfl (zAB (zAS (zAC ?_))))));exact ⟨(decide ((((t.args.length:Nat):Int):Int)=1)),zBA.out ⟨rfl,rfl,trivial⟩,E,B1,(by unfold okB;(repeat' split)<;>first|rfl|omega)⟩
         ·refine zAP (zAS (zAC ?_));exact ⟨(decide ((((t.args.length:Nat):Int):Int)=0)),zBA.out ⟨rfl,rfl,trivial⟩,E,B1,(by unfold okB;(repeat' split)<;>first|rfl|omega)⟩
 ·clear E B1;rintro _ W2 ⟨ok,⟨j2,rfl⟩,E,B1,br⟩;refine zAA (qM _ rfl (qM _ rfl (qG (.bool ok) (yU ok (P6 b1 0)) (by cases ok<;>first|exact gA|exact gB|exact .inl ⟨rfl,zAQ rfl underlying25 rfl zAv rfl⟩) (qG (.bool ok) (yU ok (I6 t.kind)) (by cases ok<;>first|exact gA|exact gB|exact .inl ⟨rfl,zAL rfl zAf (B1.cell rfl)⟩) ?_))));obtain ⟨af,ax⟩:∃e,(decide ((t.kind:Int)=2))=e:=⟨_,rfl⟩;refine qG (.bool ok) (yU ok (.bool af)) (by cases ok<;>first|exact gA|exact gB|exact .inl ⟨rfl,(zAk rfl rfl).trans (by rw[ax];try rfl)⟩) (qG (.bool ok) (yU ok (.bool af)) (by cases ok<;>first|exact gA|exact gB|exact .inl ⟨rfl,zAi rfl⟩) (qG (yU ok (.bool af)) (yU ok (nU af (P6 b1 1))) (by cases ok<;>cases af<;>first|exact gA|exact gB|exact .inl ⟨rfl,zAQ rfl underlying25 rfl zBm rfl⟩) (qG (yU ok (.bool af)) (yU ok (nU af (.slice sa t.set.length sc))) (by cases ok<;>cases af<;>first|exact gA|exact gB|exact .inl ⟨rfl,zAL rfl zBe (B1.cell rfl)⟩) (qG (yU ok (.bool af)) (yU ok (nU af (I6 (t.set.length:Int)))) (by cases ok<;>cases af<;>first|exact gA|exact gB|exact .inl ⟨rfl,zAM underlying22 rfl⟩) ?_))));obtain ⟨bo,ao⟩:∃e,(decide ((((t.set.length:Nat):Int):Int)=0))=e:=⟨_,rfl⟩;refine qG (yU ok (.bool af)) (yU ok (nU af (.bool bo))) (by cases ok<;>cases af<;>first|exact gA|exact gB|exact .inl ⟨rfl,(zAk rfl rfl).trans (by rw[ao];try rfl)⟩) ?_;obtain ⟨be,a4⟩:∃e,(af || bo)=e:=⟨_,rfl⟩;refine qG (.bool ok) (yU ok (.bool be)) (by cases ok<;>first|exact gA|exact gB|exact .inl ⟨rfl,zAd (v:=.bool be) rfl (by rw[←a4];cases af<;>rfl)⟩) ?_;obtain ⟨ab,au⟩:∃e,(ok && be)=e:=⟨_,rfl⟩;refine qV (zAd (v:=.bool ab) rfl (by rw[←au];cases ok<;>rfl)) (qM _ rfl (qG (.bool ab) (yU ab (P6 b1 0)) (by cases ab<;>first|exact gA|exact gB|exact .inl ⟨rfl,zAQ rfl underlying25 rfl zAv rfl⟩) (qG (.bool ab) (yU ab (I6 t.kind)) (by cases ab<;>first|exact gA|exact gB|exact .inl ⟨rfl,zAL rfl zAf (B1.cell rfl)⟩) ?_)));obtain ⟨ai,a3⟩:∃e,(decide ((t.kind:Int)=6))=e:=⟨_,rfl⟩;refine qG (.bool ab) (yU ab (.bool ai)) (by cases ab<;>first|exact gA|exact gB|exact .inl ⟨rfl,(zAk rfl rfl).trans (by rw[a3];try rfl)⟩) (qG (.bool ab) (yU ab (.bool ai)) (by cases ab<;>first|exact gA|exact gB|exact .inl ⟨rfl,zAi rfl⟩) (qG (yU ab (.bool ai)) (yU ab (nU ai (P6 b1 0))) (by cases ab<;>cases ai<;>first|exact gA|exact gB|exact .inl ⟨rfl,zAQ rfl underlying25 rfl zAv rfl⟩) (qG (yU ab (.bool ai)) (yU ab (nU ai (I6 t.kind))) (by cases ab<;>cases ai<;>first|exact gA|exact gB|exact .inl ⟨rfl,zAL rfl zAf (B1.cell rfl)⟩) ?_)));obtain ⟨bl,a5⟩:∃e,(decide ((t.kind:Int)=9))=e:=⟨_,rfl⟩;refine qG (yU ab (.bool ai)) (yU ab (nU ai (.bool bl))) (by cases ab<;>cases ai<;>first|exact gA|exact gB|exact .inl ⟨rfl,(zAk rfl rfl).trans (by rw[a5];try rfl)⟩) ?_;obtain ⟨ag,aw⟩:∃e,(ai || bl)=e:=⟨_,rfl⟩;refine qG (.bool ab) (yU ab (.bool ag)) (by cases ab<;>first|exact gA|exact gB|exact .inl ⟨rfl,zAd (v:=.bool ag) rfl (by rw[←aw];cases ai<;>rfl)⟩) (qG (.bool ab) (yU ab (.bool ag)) (by cases ab<;>first|exact gA|exact gB|exact .inl ⟨rfl,zAi rfl⟩) (qG (yU ab (.bool ag)) (yU ab (nU ag (P6 b1 3))) (by cases ab<;>cases ag<;>first|exact gA|exact gB|exact .inl ⟨rfl,zAQ rfl underlying25 rfl zAv rfl⟩) (qG (yU ab (.bool ag)) (yU ab (nU ag (I6 t.mn))) (by cases ab<;>cases ag<;>first|exact gA|exact gB|exact .inl ⟨rfl,zAL rfl zAf (B1.cell rfl)⟩) ?_)));obtain ⟨bm,a9⟩:∃e,(decide ((t.mn:Int)=0))=e:=⟨_,rfl⟩;refine qG (yU ab (.bool ag)) (yU ab (nU ag (.bool bm))) (by cases ab<;>cases ag<;>first|exact gA|exact gB|exact .inl ⟨rfl,(zAk rfl rfl).trans (by rw[a9];try rfl)⟩) ?_;obtain ⟨bf,al⟩:∃e,(ag || bm)=e:=⟨_,rfl⟩;refine qG (.bool ab) (yU ab (.bool bf)) (by cases ab<;>first|exact gA|exact gB|exact .inl ⟨rfl,zAd (v:=.bool bf) rfl (by rw[←al];cases ag<;>rfl)⟩) ?_;obtain ⟨ae,a8⟩:∃e,(ab && bf)=e:=⟨_,rfl⟩;refine qV (zAd (v:=.bool ae) rfl (by rw[←a8];cases ab<;>rfl)) (qM _ rfl (qG (.bool ae) (yU ae (P6 b1 0)) (by cases ae<;>first|exact gA|exact gB|exact .inl ⟨rfl,zAQ rfl underlying25 rfl zAv rfl⟩) (qG (.bool ae) (yU ae (I6 t.kind)) (by cases ae<;>first|exact gA|exact gB|exact .inl ⟨rfl,zAL rfl zAf (B1.cell rfl)⟩) ?_)));obtain ⟨ah,ar⟩:∃e,(decide ((t.kind:Int)=6))=e:=⟨_,rfl⟩;refine qG (.bool ae) (yU ae (.bool ah)) (by cases ae<;>first|exact gA|exact gB|exact .inl ⟨rfl,(zAk rfl rfl).trans (by rw[ar];try rfl)⟩) (qG (.bool ae) (yU ae (.bool ah)) (by cases ae<;>first|exact gA|exact gB|exact .inl ⟨rfl,zAi rfl⟩) (qG (yU ae (.bool ah)) (yU ae (nU ah (P6 b1 4))) (by cases ae<;>cases ah<;>first|exact gA|exact gB|exact .inl ⟨rfl,zAQ rfl underlying25 rfl zAv rfl⟩) (qG (yU ae (.bool ah)) (yU ae (nU ah (I6 t.mx))) (by cases ae<;>cases ah<;>first|exact gA|exact gB|exact .inl ⟨rfl,zAL rfl zAf (B1.cell rfl)⟩) ?_)));obtain ⟨bp,an⟩:∃e,(decide ((t.mx:Int)=0))=e:=⟨_,rfl⟩;refine qG (yU ae (.bool ah)) (yU ae (nU ah (.bool bp))) (by cases ae<;>cases ah<;>first|exact gA|exact gB|exact .inl ⟨rfl,(zAk rfl rfl).trans (by rw[an];try rfl)⟩) ?_;obtain ⟨bd,av⟩:∃e,(ah || bp)=e:=⟨_,rfl⟩;refine qG (.bool ae) (yU ae (.bool bd)) (by cases ae<;>first|exact gA|exact gB|exact .inl ⟨rfl,zAd (v:=.bool bd) rfl (by rw[←av];cases ah<;>rfl)⟩) ?_;obtain ⟨ad,aq⟩:∃e,(ae && bd)=e:=⟨_,rfl⟩;refine qV (zAd (v:=.bool ad) rfl (by rw[←aq];cases ae<;>rfl)) (qM _ rfl (qG (.bool ad) (yU ad (P6 b1 0)) (by cases ad<;>first|exact gA|exact gB|exact .inl ⟨rfl,zAQ rfl underlying25 rfl zAv rfl⟩) (qG (.bool ad) (yU ad (I6 t.kind)) (by cases ad<;>first|exact gA|exact gB|exact .inl ⟨rfl,zAL rfl zAf (B1.cell rfl)⟩) ?_)));obtain ⟨aj,a0⟩:∃e,(decide ((t.kind:Int)=10))=e:=⟨_,rfl⟩;refine qG (.bool ad) (yU ad (.bool aj)) (by cases ad<;>first|exact gA|exact gB|exact .inl ⟨rfl,(zAk rfl rfl).trans (by rw[a0];try rfl)⟩) (qG (.bool ad) (yU ad (.bool aj)) (by cases ad<;>first|exact gA|exact gB|exact .inl ⟨rfl,zAi rfl⟩) (qG (yU ad (.bool aj)) (yU ad (nU aj (P6 b1 5))) (by cases ad<;>cases aj<;>first|exact gA|exact gB|exact .inl ⟨rfl,zAQ rfl underlying25 rfl zNG rfl⟩) (qG (yU ad (.bool aj)) (yU ad (nU aj (.bool t.neg))) (by cases ad<;>cases aj<;>first|exact gA|exact gB|exact .inl ⟨rfl,zAL rfl zHm (B1.cell rfl)⟩) ?_)));obtain ⟨bn,a1⟩:∃e,(!t.neg)=e:=⟨_,rfl⟩;refine qG (yU ad (.bool aj)) (yU ad (nU aj (.bool bn))) (by cases ad<;>cases aj<;>first|exact gA|exact gB|exact .inl ⟨rfl,(zCf rfl).trans (by rw[a1];try rfl)⟩) ?_;obtain ⟨bh,a7⟩:∃e,(aj || bn)=e:=⟨_,rfl⟩;refine qG (.bool ad) (yU ad (.bool bh)) (by cases ad<;>first|exact gA|exact gB|exact .inl ⟨rfl,zAd (v:=.bool bh) rfl (by rw[←a7];cases aj<;>rfl)⟩) ?_;obtain ⟨bu,ak⟩:∃e,(ad && bh)=e:=⟨_,rfl⟩;refine qV (zAd (v:=.bool bu) rfl (by rw[←ak];cases ad<;>rfl)) (qA _ rfl (zAB ?_));subst ak;subst a7;subst a1;subst a0;subst aq;subst av;subst an;subst ar;subst a8;subst al;subst a9;subst aw;subst a5;subst a3;subst au;subst a4;subst ao;subst ax;refine zAR (zAW results169 (v:=(.bool ((((ok && ((decide ((t.kind:Int)=2)) || (decide ((((t.set.length:Nat):Int):Int)=0)))) && (((decide ((t.kind:Int)=6)) || (decide ((t.kind:Int)=9))) || (decide ((t.mn:Int)=0)))) && ((decide ((t.kind:Int)=6)) || (decide ((t.mx:Int)=0)))) && ((decide ((t.kind:Int)=10)) || (!t.neg))))) rfl ?_);subst br;exact ⟨rfl,E⟩
def zDH:Option Int→List (Int×Int)→Int
  | _,[]=>0
  | p,s::r=>if zDd s=false then 1 else if (match p with|some h=>decide (s.1<h+2)|none=>false)=true then 3 else zDH (some s.2) r
theorem zCC (p:Option Int) (s:Int×Int) (r:List (Int×Int)):zDH p (s::r)=if zDd s=false then 1 else if (match p with|some h=>decide (s.1<h+2)|none=>false)=true then 3 else zDH (some s.2) r:=rfl
def zBR (l:List (Int×Int)):Int:=if 16<l.length then 2 else zDH none l
def zDr (l:List (Int×Int)) (k:Nat):Option Int:=if k=0 then none else (l[k - 1]?).map (·.2)
theorem zTi {l:List (Int×Int)} {k:Nat} {s:Int×Int} (h:l[k]?=some s):zDr l (k+1)=some s.2:=by
 unfold zDr;simp[h]
theorem zYG {l:List (Int×Int)} {k:Nat} {s:Int×Int} {p:Int} (hpq:0<k→∃q,l[k - 1]?=some q∧q.2=p∧zDr l k=some p)
  (hf:(decide ((0:Int)<((k:Nat):Int)) && decide (s.1<p+2))=false):¬(match zDr l k with|some h=>decide (s.1<h+2)|none=>false)=true:=by
 by_cases h0:0<k
 ·obtain ⟨q,_,_,h3⟩:=hpq h0;rw[h3];simp at hf⊢;exact hf h0
 ·have:zDr l k=none:=by unfold zDr;rw[if_pos qO]
  rw[this];simp
theorem zNO (w0:World) (v:Value) (l:List (Int×Int)) (hs:zBQ w0 v l) :
  Ret prog 146 #[v] w0 fun v w=>v=.int .i64 (zBR l)∧Ext w0 w:=by
 obtain ⟨a,c,rfl⟩:=zBq.form hs;have am:l.length≤9223372036854775807:=by simpa using zBq.le hs
 simp only[List.length_map] at hs⊢;refine qR func146 rfl ntmps146 rfl (fun E=>(zAA (qA _ rfl (zAB (zAK (zAA (qM _ rfl (qV (zAM underlying22 rfl) (qV (zCN rfl rfl) (zAB (qC rfl (fun av=>?_) (fun av=>?_))))))))))))
 ·refine zAA (qA _ rfl (zAB (zAR (zAI (zAW results146 (v:=(.int .i64 2)) rfl ?_)))));exact ⟨by unfold zBR;rw[if_pos qO],E⟩
 ·have ap:zBR l=zDH none l:=by unfold zBR;rw[if_neg qO]
  rw[ap];refine zAP (zAC (zAK (zAA (qM _ rfl (qV (zAM underlying22 rfl) (qM _ rfl (zAB (zAT (zAq (fun nn_ σ W2=>∃(k:Nat),(∃jj_,σ=zCH jj_ [(0,(.slice a l.length c)),(8,(.slice a l.length c)),(9,(I6 (l.length:Int))),(10,(I6 (k:Int)))])∧Chg zAo w0 W2∧(k≤l.length)∧(zDH none l=zDH (zDr l k) (l.drop k))∧(∀h,zDr l k=some h→0≤h∧h≤1114111)∧nn_=l.length - k) (n:=l.length - 0) ?_ ?_)))))))))
  ·exact ⟨0,zBA.out ⟨rfl,rfl,rfl,rfl,trivial⟩,E,Nat.zero_le _,rfl,(by intro h hh;simp[zDr] at hh),rfl⟩
  ·clear E;rintro _ _ W2 ⟨k,⟨j2,rfl⟩,E,hk,aa,ao,rfl⟩;refine zAA (qV (zBH rfl rfl) (zAB (zAK (qC rfl (fun ax=>?_) (fun ax=>?_)))))
   ·have ac:k<l.length:=qO
    obtain ⟨s,af⟩:∃s,l[k]?=some s:=⟨_,List.getElem?_eq_getElem ac⟩;obtain ⟨b,o,rfl,ab⟩:=zBN hs qO;have ar:l.drop k=s::l.drop (k+1):=by rw[List.drop_eq_getElem_cons ac];rw[List.getElem?_eq_getElem ac] at af;cases af;rfl
    rw[ar] at aa;refine zAP (zAC (zAK (zAT (zAA (qM _ rfl (qV (zAH (b:=b) (o:=o) (len:=l.length) (cap:=c) (i:=k) (o':=o+k*2) rfl rfl rfl underlying22 zBB qO qO) (qV (zAG rfl zCi zBB rfl ((ab k s af).ext E)) (zBJ (c:=#[(I6 0),(I6 0)]) qD zCb rfl ?_))))))));intro b4 w4 N4;have F4:=N4.ge E;replace E:=E.ext N4.ext;have B4:=N4.blk;refine qA _ rfl (zAY (b:=b4) (o:=0) (c':=#[(I6 s.1),(I6 s.2)]) rfl rfl qS zBB rfl B4 qL rfl ?_);intro w5 S5;replace E:=S5.step E qQ;replace B4:=S5.blk;refine zAB (zAK (zAA (qV (zAG (vs:=[(I6 s.1),(I6 s.2)]) rfl zCi zBB rfl (B4.cells rfl)) (qE rfl (zAV func174 zYY zZe rfl) (zUG s _) ?_))));rintro _ w9 ⟨rfl,X9⟩;replace B4:=X9.keep B4;replace E:=E.ext X9;refine qV (zCf rfl) (zAB (zAt rfl (fun hv=>?_) (fun hv=>?_)))
    ·have au:=hv;replace hv:=by simpa using hv
     refine zAA (qA _ rfl (zAB (zAR (zAI (zAZ (zAI (zAI (zAZ (zAI (zAW results146 (v:=(.int .i64 1)) rfl ?_))))))))));exact ⟨by rw[aa];rw[zCC,if_pos hv],E⟩
    ·have au:=hv;replace hv:=by simpa using hv
     have ah:zDd s=true:=by simpa using hv
     have aw:0≤s.2∧s.2≤1114111:=by unfold zDd at ah;simp at ah;omega
     obtain ⟨p,ae⟩:∃p,(zDr l k).getD 0=p:=⟨_,rfl⟩;have ai:0<k→∃q,l[k - 1]?=some q∧q.2=p∧zDr l k=some p:=by
      intro h0;have h1:k - 1<l.length:=qO
      have h2:zDr l k=some (l[k - 1]).2:=by unfold zDr;rw[if_neg qO,List.getElem?_eq_getElem h1];rfl
      rw[h2] at ae;simp at ae;exact ⟨_,List.getElem?_eq_getElem h1,ae,by rw[h2,ae]⟩
     have hpb:0≤p∧p≤1114111:=by
      by_cases h0:0<k
      ·obtain ⟨q,_,_,h3⟩:=ai h0;exact ao p h3
      ·have:zDr l k=none:=by unfold zDr;rw[if_pos qO]
       rw[this] at ae;simp at ae;omega
     refine zAP (zAC (zCs 13 mixed qK ?_));intro w7 X7 _;replace B4:=X7.keep B4;replace E:=E.ext X7;refine qT (zAi rfl) ?_;obtain ⟨e8,ad⟩:∃e,(decide ((0:Int)<((k:Nat):Int)))=e:=⟨_,rfl⟩;refine qT ((zCN rfl rfl).trans (by rw[ad];try rfl)) (qT (zAi rfl) (zBj (oj:=_) (gv:=(.bool e8)) (u:=(yU e8 (P6 b4 0))) rfl rfl qD qD rfl (by cases e8<;>first|exact gA|exact gB|exact .inl ⟨rfl,zAQ rfl underlying103 rfl zAv rfl⟩) (zBj (oj:=_) (gv:=(.bool e8)) (u:=(yU e8 (I6 s.1))) rfl rfl qD qD rfl (by cases e8<;>first|exact gA|exact gB|exact .inl ⟨rfl,zAL rfl zAf (B4.cell rfl)⟩) (zBj (oj:=_) (gv:=(.bool e8)) (u:=(yU e8 (.slice (some ⟨b,o,none⟩) l.length c))) rfl rfl qD qD rfl (by cases e8<;>first|exact gA|exact gB|exact .inl ⟨rfl,zAi rfl⟩) (zBj (oj:=_) (gv:=(.bool e8)) (u:=(yU e8 (I6 (k:Int)))) rfl rfl qD qD rfl (by cases e8<;>first|exact gA|exact gB|exact .inl ⟨rfl,zAi rfl⟩) (zBj (oj:=_) (gv:=(.bool e8)) (u:=(yU e8 (I6 ((k:Int) - 1)))) rfl rfl qD qD rfl (by cases e8<;>first|exact gA|exact gB|exact .inl ⟨rfl,zDS (c:=(k:Int) - 1) rfl rfl (zBV (by have:=of_decide_eq_true ad;omega))⟩) (zBj (oj:=_) (gv:=(.bool e8)) (u:=(yU e8 (.pointer (some ⟨b,o+(k - 1)*2,none⟩)))) rfl rfl qD qD rfl (by cases e8<;>first|exact gA|exact gB|exact .inl ⟨rfl,zAH (i:=k - 1) rfl rfl (by have:=of_decide_eq_true ad;omega) underlying22 zBB (by have:=of_decide_eq_true ad;omega) qO⟩) (zBj (oj:=_) (gv:=(.bool e8)) (u:=(yU e8 (.pointer (some ⟨b,o+(k - 1)*2+1,none⟩)))) rfl rfl qD qD rfl (by cases e8<;>first|exact gA|exact gB|exact .inl ⟨rfl,zAQ rfl underlying103 rfl zAv rfl⟩) (zBj (oj:=_) (gv:=(.bool e8)) (u:=(yU e8 (I6 p))) rfl rfl qD qD rfl (by cases e8<;>first|exact gA|exact gB|exact .inl ⟨rfl,zAL rfl zAf ((by have:=of_decide_eq_true ad;obtain ⟨q,hq,rfl,_⟩:=ai qO;exact ((ab (k - 1) q hq).ext E).at1))⟩) (zBj (oj:=_) (gv:=(.bool e8)) (u:=(yU e8 (I6 (p+2)))) rfl rfl qD qD rfl (by cases e8<;>first|exact gA|exact gB|exact .inl ⟨rfl,zAy (c:=p+2) rfl rfl (zBV (by have:=of_decide_eq_true ad;omega))⟩) ?_))))))))));obtain ⟨e9,ak⟩:∃e,(decide ((s.1:Int)<p+2))=e:=⟨_,rfl⟩;refine zBj (oj:=_) (gv:=(.bool e8)) (u:=(yU e8 (.bool e9))) rfl rfl qD qD rfl (by cases e8<;>first|exact gA|exact gB|exact .inl ⟨rfl,(zBH rfl rfl).trans (by rw[ak];try rfl)⟩) (zEO ?_);obtain ⟨an,ag⟩:∃e,(e8 && e9)=e:=⟨_,rfl⟩;refine qV (zAd (v:=.bool an) rfl (by rw[←ag];cases e8<;>rfl)) (zAB ?_);subst ag;subst ak;subst ad;refine zAt rfl (fun hf=>?_) (fun hf=>?_)
     ·have al:=hf;have aj:0<k∧s.1<p+2:=by simpa using hf
      obtain ⟨q,_,_,h3⟩:=ai aj.1;refine zAA (qA _ rfl (zAB (zAR (zAZ (zAI (zAI (zAZ (zAI (zAW results146 (v:=(.int .i64 3)) rfl ?_)))))))));exact ⟨by rw[aa];rw[zCC,if_neg (by simp[ah]),h3,if_pos (by simp[aj.2])],E⟩
     ·have al:=hf;refine zAP (zAS (zAC (zAN (qV (zAy rfl rfl (zBV qO)) (qM _ rfl (zAB (zAC ?_)))))));exact ⟨l.length - (k+1),qO,k+1,zBA.out ⟨rfl,rfl,rfl,rfl,trivial⟩,E,qO,(by rw[aa];rw[zCC,if_neg (by simp[ah]),if_neg ?_,zTi af];exact zYG ai hf),(by intro h hh;rw[zTi af] at hh;cases hh;exact aw),rfl⟩
   ·have aq:k=l.length:=qO
    rw[aq,List.drop_length] at aa;refine zAp (zAX (zAX (zAj (zAC (zAA (qA _ rfl (zAB (zAR (zAW results146 (v:=(.int .i64 0)) rfl ?_)))))))));exact ⟨by rw[aa];rfl,E⟩
end Go.Proofs
namespace Go.Proofs
open Go Go.Eng
set_option maxRecDepth 100000
def zCS (t:Re):Int:=if t.kind<0∨10<t.kind then 1 else if zDb t=false then 3 else if t.kind=2 then (if zBR t.set≠0 then zBR t.set else if (t.set.length:Int)=0 then 3 else 0)
 else if t.kind=6 then (if t.mn<0∨t.mx<t.mn∨8<t.mx then 1 else 0) else if t.kind=9 then (if t.mn<0∨9<t.mn then 1 else 0) else 0
theorem zWb (wb w0:World) (t:Re) (vs:List Value) (ht:zBG wb t vs) (hE:Ext wb w0) :
  Ret prog 126 #[.agg vs.toArray] w0 fun v w=>v=.int .i64 (zCS t)∧Ext w0 w:=by
 have a4:=ht;obtain ⟨sa,sc,aa,ac,rfl,an,a1,aw⟩:=ht.form;refine qR func126 rfl ntmps126 rfl (fun E=>(zAA (zBL (v:=(.agg (R6 t sa sc aa ac))) (c:=(R6 t sa sc aa ac)) qD rfl rfl ?_)));intro b1 w1 N1;have F1:=N1.ge E;replace E:=E.ext N1.ext;have B1:=N1.blk;refine qA _ rfl (zAB (zAK (zAA (qF b1 0 0 rfl underlying25 rfl zAv rfl (qV (zAL rfl zAf (B1.cell rfl)) ?_)))));obtain ⟨e2,ax⟩:∃e,(decide ((t.kind:Int)<0))=e:=⟨_,rfl⟩;refine qV ((zBH rfl rfl).trans (by rw[ax];try rfl)) (qM _ rfl (qG (.bool e2) (nU e2 (P6 b1 0)) (by cases e2<;>first|exact gA|exact gB|exact .inl ⟨rfl,zAQ rfl underlying25 rfl zAv rfl⟩) (qG (.bool e2) (nU e2 (I6 t.kind)) (by cases e2<;>first|exact gA|exact gB|exact .inl ⟨rfl,zAL rfl zAf (B1.cell rfl)⟩) ?_)));obtain ⟨e3,ao⟩:∃e,(decide ((10:Int)<t.kind))=e:=⟨_,rfl⟩;refine qG (.bool e2) (nU e2 (.bool e3)) (by cases e2<;>first|exact gA|exact gB|exact .inl ⟨rfl,(zCN rfl rfl).trans (by rw[ao];try rfl)⟩) ?_;obtain ⟨e4,ar⟩:∃e,(e2 || e3)=e:=⟨_,rfl⟩;refine qV (zAd (v:=.bool e4) rfl (by rw[←ar];cases e2<;>rfl)) (zAB ?_);subst ar;subst ao;subst ax;refine zAt rfl (fun hk=>?_) (fun hk=>?_)
 ·have a2:=hk;simp at hk;refine zAA (qA _ rfl (zAB (zAR (zAI (zAW results126 (v:=(.int .i64 1)) rfl ?_)))));exact ⟨zBO (by unfold zCS;rw[if_pos qO]),E⟩
 ·have a2:=hk;simp at hk;refine zAP (zAC (zAK (zAA (qV (zAG (vs:=[(I6 t.kind),(.slice sa t.set.length sc),(.slice aa t.args.length ac),(I6 t.mn),(I6 t.mx),(.bool t.neg)]) rfl zAc zAO rfl (B1.cells rfl)) (qE rfl (zAV func169 zYc zZi rfl) (zWy wb _ t _ a4) ?_)))));rintro _ w9 ⟨rfl,X9⟩;replace B1:=X9.keep B1;replace E:=E.ext X9;refine qV (zCf rfl) (zAB (zAt rfl (fun hf=>?_) (fun hf=>?_)))
  ·have az:=hf;replace hf:=by simpa using hf
   refine zAA (qA _ rfl (zAB (zAR (zAI (zAW results126 (v:=(.int .i64 3)) rfl ?_)))));exact ⟨zBO (by unfold zCS;rw[if_neg qO,if_pos hf]),E⟩
  ·have az:=hf;replace hf:=by simpa using hf
   have hN:zCS t=if t.kind=2 then (if zBR t.set≠0 then zBR t.set else if (t.set.length:Int)=0 then 3 else 0) else if t.kind=6 then (if t.mn<0∨t.mx<t.mn∨8<t.mx then 1 else 0) else if t.kind=9 then (if t.mn<0∨9<t.mn then 1 else 0) else 0:=by unfold zCS;rw[if_neg qO,if_neg (by simp[hf])]
   rw[hN];refine zAP (zAC (zAK (zAA (qF b1 0 0 rfl underlying25 rfl zAv rfl (qV (zAL rfl zAf (B1.cell rfl)) (zAB (zAT (zAA (qV (zAk rfl rfl) (qA _ rfl (zAB (qC rfl (fun h2=>?_) (fun h2=>?_)))))))))))))
   ·rw[if_pos h2];refine zAK (zAA (qF b1 0 1 rfl underlying25 rfl zBm rfl (qV (zAL rfl zBe (B1.cell rfl)) (qE rfl (zAV func146 zWn zXX rfl) (zNO _ _ t.set ((an.ext hE).ext E)) ?_))));rintro _ w10 ⟨rfl,ap⟩;replace B1:=ap.keep B1;replace E:=E.ext ap;refine qA _ rfl (zAB (zAA (qM _ rfl (qV (zBo rfl rfl) (zAB (qC rfl (fun h3=>?_) (fun h3=>?_)))))))
    ·refine zAA (qM _ rfl (qA _ rfl (zAB (zAR (zAI (zAZ (zAI (zAW results126 (v:=(.int .i64 (zBR t.set))) rfl ?_))))))));exact ⟨zBO (by rw[if_pos h3]),E⟩
    ·rw[if_neg h3];refine zAP (zAC (zAA (qF b1 0 1 rfl underlying25 rfl zBm rfl (qV (zAL rfl zBe (B1.cell rfl)) (qV (zAM underlying22 rfl) (qV (zAk rfl rfl) (zAB (qC rfl (fun h4=>?_) (fun h4=>?_)))))))))
     ·refine zAA (qA _ rfl (zAB (zAR (zAZ (zAI (zAW results126 (v:=(.int .i64 3)) rfl ?_))))));exact ⟨zBO (by rw[if_pos h4]),E⟩
     ·refine zAP (zAS (zAC (zAA (qA _ rfl (zAB (zAR (zAW results126 (v:=(.int .i64 0)) rfl ?_)))))));exact ⟨zBO (by rw[if_neg h4]),E⟩
   ·rw[if_neg h2];refine zAA (qV (zAk rfl rfl) (qA _ rfl (zAB (qC rfl (fun h6=>?_) (fun h6=>?_)))))
    ·rw[if_pos h6];refine zAA (qF b1 0 3 rfl underlying25 rfl zAv rfl (qV (zAL rfl zAf (B1.cell rfl)) ?_));obtain ⟨ab,ai⟩:∃e,(decide ((t.mn:Int)<0))=e:=⟨_,rfl⟩;refine qV ((zBH rfl rfl).trans (by rw[ai];try rfl)) (qM _ rfl (qG (.bool ab) (nU ab (P6 b1 3)) (by cases ab<;>first|exact gA|exact gB|exact .inl ⟨rfl,zAQ rfl underlying25 rfl zAv rfl⟩) (qG (.bool ab) (nU ab (I6 t.mn)) (by cases ab<;>first|exact gA|exact gB|exact .inl ⟨rfl,zAL rfl zAf (B1.cell rfl)⟩) (qG (.bool ab) (nU ab (P6 b1 4)) (by cases ab<;>first|exact gA|exact gB|exact .inl ⟨rfl,zAQ rfl underlying25 rfl zAv rfl⟩) (qG (.bool ab) (nU ab (I6 t.mx)) (by cases ab<;>first|exact gA|exact gB|exact .inl ⟨rfl,zAL rfl zAf (B1.cell rfl)⟩) ?_)))));obtain ⟨av,ag⟩:∃e,(decide ((t.mx:Int)<t.mn))=e:=⟨_,rfl⟩;refine qG (.bool ab) (nU ab (.bool av)) (by cases ab<;>first|exact gA|exact gB|exact .inl ⟨rfl,(zCN rfl rfl).trans (by rw[ag];try rfl)⟩) ?_;obtain ⟨ad,ak⟩:∃e,(ab || av)=e:=⟨_,rfl⟩;refine qV (zAd (v:=.bool ad) rfl (by rw[←ak];cases ab<;>rfl)) (qM _ rfl (qG (.bool ad) (nU ad (P6 b1 4)) (by cases ad<;>first|exact gA|exact gB|exact .inl ⟨rfl,zAQ rfl underlying25 rfl zAv rfl⟩) (qG (.bool ad) (nU ad (I6 t.mx)) (by cases ad<;>first|exact gA|exact gB|exact .inl ⟨rfl,zAL rfl zAf (B1.cell rfl)⟩) ?_)));obtain ⟨aq,ah⟩:∃e,(decide ((8:Int)<t.mx))=e:=⟨_,rfl⟩;refine qG (.bool ad) (nU ad (.bool aq)) (by cases ad<;>first|exact gA|exact gB|exact .inl ⟨rfl,(zCN rfl rfl).trans (by rw[ah];try rfl)⟩) ?_;obtain ⟨a0,aj⟩:∃e,(ad || aq)=e:=⟨_,rfl⟩;refine qV (zAd (v:=.bool a0) rfl (by rw[←aj];cases ad<;>rfl)) (zAB ?_);subst aj;subst ah;subst ak;subst ag;subst ai;refine zAt rfl (fun h7=>?_) (fun h7=>?_)
     ·have ay:=h7;simp at h7;refine zAA (qA _ rfl (zAB (zAR (zAZ (zAI (zAW results126 (v:=(.int .i64 1)) rfl ?_))))));exact ⟨zBO (by rw[if_pos qO]),E⟩
     ·have ay:=h7;simp at h7;refine zAP (zAS (zAC (zAA (qA _ rfl (zAB (zAR (zAW results126 (v:=(.int .i64 0)) rfl ?_)))))));exact ⟨zBO (by rw[if_neg qO]),E⟩
    ·rw[if_neg h6];refine zAA (qV (zAk rfl rfl) (qA _ rfl (zAB (qC rfl (fun h9=>?_) (fun h9=>?_)))))
     ·rw[if_pos h9];refine zAA (qF b1 0 3 rfl underlying25 rfl zAv rfl (qV (zAL rfl zAf (B1.cell rfl)) ?_));obtain ⟨ae,am⟩:∃e,(decide ((t.mn:Int)<0))=e:=⟨_,rfl⟩;refine qV ((zBH rfl rfl).trans (by rw[am];try rfl)) (qM _ rfl (qG (.bool ae) (nU ae (P6 b1 3)) (by cases ae<;>first|exact gA|exact gB|exact .inl ⟨rfl,zAQ rfl underlying25 rfl zAv rfl⟩) (qG (.bool ae) (nU ae (I6 t.mn)) (by cases ae<;>first|exact gA|exact gB|exact .inl ⟨rfl,zAL rfl zAf (B1.cell rfl)⟩) ?_)));obtain ⟨au,af⟩:∃e,(decide ((9:Int)<t.mn))=e:=⟨_,rfl⟩;refine qG (.bool ae) (nU ae (.bool au)) (by cases ae<;>first|exact gA|exact gB|exact .inl ⟨rfl,(zCN rfl rfl).trans (by rw[af];try rfl)⟩) ?_;obtain ⟨a3,al⟩:∃e,(ae || au)=e:=⟨_,rfl⟩;refine qV (zAd (v:=.bool a3) rfl (by rw[←al];cases ae<;>rfl)) (zAB ?_);subst al;subst af;subst am;refine zAt rfl (fun h8=>?_) (fun h8=>?_)
      ·have a5:=h8;simp at h8;refine zAA (qA _ rfl (zAB (zAR (zAZ (zAI (zAW results126 (v:=(.int .i64 1)) rfl ?_))))));exact ⟨zBO (by rw[if_pos qO]),E⟩
      ·have a5:=h8;simp at h8;refine zAP (zAS (zAC (zAA (qA _ rfl (zAB (zAR (zAW results126 (v:=(.int .i64 0)) rfl ?_)))))));exact ⟨zBO (by rw[if_neg qO]),E⟩
     ·rw[if_neg h9];refine zAP (zAS (zAC (zAA (qA _ rfl (zAB (zAR (zAW results126 (v:=(.int .i64 0)) rfl ?_)))))));exact ⟨rfl,E⟩
def zVT:Int→Re→Bool×Int:=fun s _=>(true,IntKind.i64.wrap (s+1))
mutual
theorem zNA:∀(t:Re) (s:Int),0≤s→s+t.size≤9223372036854775807→zDA zVT t s=(true,s+t.size)
  | .mk k set args mn mx ng,s,h0,h1=>by
    simp only[Re.size] at h1⊢;rw[zEH];simp only[zVT,if_true,Re.args];rw[zBV qO];rw[zKm args (s+1) qO qO];simp;omega
theorem zKm:∀(ts:List Re) (s:Int),0≤s→s+Re.sizes ts≤9223372036854775807→zCW zVT ts s=(true,s+Re.sizes ts)
  | [],s,_,_=>by simp[zCW,Re.sizes]
  | t::ts,s,h0,h1=>by
    simp only[Re.sizes] at h1⊢;rw[zCg,zNA t s h0 qO];simp only[if_true];rw[zKm ts _ qO qO];simp;omega
end
theorem zUZ (wb w0:World) (t:Re) (vs:List Value) (ht:zBG wb t vs) (b:Nat) (s:Int) (hB:Blk w0 b #[.int .i64 s] 3) :
  Ret prog 122 #[.agg vs.toArray,.pointer (some ⟨b,0,none⟩)] w0 fun v w=>v=.bool true∧Chg (fun x=>x=b) w0 w∧Blk w b #[.int .i64 (IntKind.i64.wrap (s+1))] 3:=by
 have ht0:=ht;obtain ⟨sa,sc,aa,ac,rfl,ae,ad,ab⟩:=ht.form;refine zGr func122 rfl ntmps122 (leT rfl) ?_;have E:Chg (fun x=>x=b) w0 w0:=Chg.refl _ _;refine zAA (zBL (v:=(.agg (R6 t sa sc aa ac))) (c:=(R6 t sa sc aa ac)) qD rfl rfl ?_);intro b1 w1 N1;have F1:=N1.ge E;have O1_b:=N1.lt hB;replace hB:=N1.keep hB;replace E:=E.ext N1.ext;have B1:=N1.blk;refine qA _ rfl (zAB (zAA (qV (zAL rfl zAf (hB.cell rfl)) (qV (zAy (c:=IntKind.i64.wrap (s+1)) rfl rfl (rfl)) (zBr (b:=b) (o:=0) (c':=#[(I6 (IntKind.i64.wrap (s+1)))]) (v:=(I6 (IntKind.i64.wrap (s+1)))) rfl rfl rfl zAv hB qP rfl ?_)))));intro w2 S2;replace B1:=S2.keep qO B1;replace E:=S2.step E qQ;replace hB:=S2.blk;refine zAB (zAA (qA _ rfl (zAB (zAR (zAW results122 (v:=(.bool true)) rfl ?_)))));exact ⟨rfl,E,hB⟩
theorem zPg (w0:World) (t:Re) (vs:List Value) (ht:zBG w0 t vs) (hs:t.size≤9223372036854775807) :
  Ret prog 61 #[.agg vs.toArray] w0 fun v w=>v=.int .i64 t.size∧Ext w0 w:=by
 have ae:=ht;have hw:=zNA t 0 qO qO;obtain ⟨sa,sc,aa,ac,rfl,af,ad,ab⟩:=ht.form;refine qR func61 rfl ntmps61 rfl (fun E=>(zAA (zBL (v:=(.agg (R6 t sa sc aa ac))) (c:=(R6 t sa sc aa ac)) qD rfl rfl ?_)));intro b1 w1 N1;have F1:=N1.ge E;replace E:=E.ext N1.ext;have B1:=N1.blk;refine qA _ rfl (zAB (zAA (zAg (v:=(I6 0)) (c:=#[(I6 0)]) (n:=1) qD zFB rfl zAv rfl rfl rfl qS ?_)));intro b2 w2 N2;have F2:=N2.ge E;have O2_b1:=N2.lt B1;replace B1:=N2.keep B1;replace E:=E.ext N2.ext;have B2:=N2.blk;refine zAB (zAA (qV (zAG (vs:=[(I6 t.kind),(.slice sa t.set.length sc),(.slice aa t.args.length ac),(I6 t.mn),(I6 t.mx),(.bool t.neg)]) rfl zAc zAO rfl (B1.cells rfl)) (qV (zCj rfl rfl) ?_)));have hf:∀(s:Int) (w:World) (t:Re) (vs:List Value),b2+1≤w.heap.size→Ext w0 w→Blk w b2 #[.int .i64 s] 3→zBG w0 t vs→zCD prog (.func (.func 122) #[] #[.pointer (some ⟨b2,0,none⟩)]) #[.agg vs.toArray] w fun v w'=>v=.bool (zVT s t).1∧Chg (fun x=>x=b2) w w'∧Blk w' b2 #[.int .i64 (zVT s t).2] 3:=fun s w t vs _ _ hI ht=>zCD.mk (first:=#[]) (cap:=#[.pointer (some ⟨b2,0,none⟩)]) (args:=#[.agg vs.toArray]) func122 zZA zaG rfl (zUZ w0 w t vs ht b2 s hI);refine qE rfl (zAV func121 zOg zPD rfl) (zPX zVT (fun s w=>Blk w b2 #[.int .i64 s] 3) (fun x=>x=b2) (b2+1) _ w0 (fun b hb=>qO) (fun s w w' hI e=>e.keep hI) hf t.size t (Nat.le_refl _) 0 _ _ (by have:=B2.lt;omega) E B2 ae) ?_;rintro _ w3 ⟨rfl,C3,B3⟩;replace B1:=C3.keep qO B1;replace E:=E.step C3 (by intro x hx hm;omega);refine zAB (zAA (qV (zAL rfl zAf (B3.cell rfl)) (qA _ rfl (zAB (zAR (zAW results61 (v:=(.int .i64 ((zDA zVT t 0).2))) rfl ?_))))));exact ⟨by rw[hw];simp,E⟩
end Go.Proofs
namespace Go.Proofs
open Go Go.Eng
set_option maxRecDepth 100000
def zFN (most:Int):Int×Int→Re→Bool×(Int×Int):=fun s t=>
 let n:=IntKind.i64.wrap (s.1+1)
 let e:=if most<n then 2 else zCS t
 (decide (e=0),(n,e))
def zDi (t:Re) (most:Int):Int:=(zDA (zFN most) t (0,0)).2.2
theorem zVK (wb w0:World) (t:Re) (vs:List Value) (ht:zBG wb t vs) (hE:Ext wb w0) (b1' b2' b3':Nat) (s:Int×Int) (most:Int) (h0:wb.heap.size≤b2') (h12:b2'<b1') (h13:b1'<b3')
  (hB1:Blk w0 b1' #[.int .i64 s.1] 3) (hB2:Blk w0 b2' #[.int .i64 most] 3) (hB3:Blk w0 b3' #[.int .i64 s.2] 27) :
  Ret prog 125 #[.agg vs.toArray,.pointer (some ⟨b1',0,none⟩),.pointer (some ⟨b2',0,none⟩),.pointer (some ⟨b3',0,none⟩)] w0
   fun v w=>v=.bool (zFN most s t).1∧Chg (fun x=>x=b1'∨x=b3') w0 w∧Blk w b1' #[.int .i64 (zFN most s t).2.1] 3∧Blk w b2' #[.int .i64 most] 3∧Blk w b3' #[.int .i64 (zFN most s t).2.2] 27:=by
 have af:=ht;obtain ⟨sa,sc,aa,ac,rfl,ad,ae,ab⟩:=ht.form;refine zGr func125 rfl ntmps125 (leT rfl) ?_;have E:Chg (fun x=>x=b1'∨x=b3') w0 w0:=Chg.refl _ _;refine zAA (zBL (v:=(.agg (R6 t sa sc aa ac))) (c:=(R6 t sa sc aa ac)) qD rfl rfl ?_);intro b1 w1 N1;have F1:=N1.ge E;have O1_b1':=N1.lt hB1;have O1_b2':=N1.lt hB2;have O1_b3':=N1.lt hB3;replace hB1:=N1.keep hB1;replace hB2:=N1.keep hB2;replace hB3:=N1.keep hB3;replace E:=E.ext N1.ext;have B1:=N1.blk;refine qA _ rfl (zAB (zAK (zAA (qV (zAL rfl zAf (hB1.cell rfl)) (qV (zAy (c:=IntKind.i64.wrap (s.1+1)) rfl rfl (rfl)) (zBr (b:=b1') (o:=0) (c':=#[(I6 (IntKind.i64.wrap (s.1+1)))]) (v:=(I6 (IntKind.i64.wrap (s.1+1)))) rfl rfl rfl zAv hB1 qP rfl ?_))))));intro w2 S2;replace hB2:=S2.keep qO hB2;replace hB3:=S2.keep qO hB3;replace B1:=S2.keep qO B1;replace E:=S2.step E qQ;replace hB1:=S2.blk;refine zAB (zAA (qV (zAL rfl zAf (hB1.cell rfl)) (qV (zAL rfl zAf (hB2.cell rfl)) (qV (zCN rfl rfl) (zAB (qC rfl (fun h=>?_) (fun h=>?_)))))))
 ·refine zAN (zBr (b:=b3') (o:=0) (c':=#[(I6 2)]) (v:=(I6 2)) rfl rfl rfl zUa hB3 qP rfl ?_);intro w4 S4;replace hB1:=S4.keep qO hB1;replace hB2:=S4.keep qO hB2;replace B1:=S4.keep qO B1;replace E:=S4.step E qQ;replace hB3:=S4.blk;refine zAB (zAC (zAA (qV (zAL rfl zQr (hB3.cell rfl)) (qV (zAk rfl rfl) (qA _ rfl (zAB (zAR (zAW results125 (v:=(.bool false)) rfl ?_))))))));exact ⟨by simp[zFN,h],E,by simpa[zFN] using hB1,hB2,by simpa[zFN,h] using hB3⟩
 ·refine zAN (qV (zAG (vs:=[(I6 t.kind),(.slice sa t.set.length sc),(.slice aa t.args.length ac),(I6 t.mn),(I6 t.mx),(.bool t.neg)]) rfl zAc zAO rfl (B1.cells rfl)) (qE rfl (zAV func126 zYw zaC rfl) (zWb wb _ t _ af (Chg.step hE E fun x hx hm=>by rcases hm with hm|hm<;>omega)) ?_));rintro _ w9 ⟨rfl,X9⟩;replace hB1:=X9.keep hB1;replace hB2:=X9.keep hB2;replace hB3:=X9.keep hB3;replace B1:=X9.keep B1;replace E:=E.ext X9;refine zBr (b:=b3') (o:=0) (c':=#[(I6 (zCS t))]) (v:=(I6 (zCS t))) rfl rfl rfl zUa hB3 qP rfl ?_;intro w5 S5;replace hB1:=S5.keep qO hB1;replace hB2:=S5.keep qO hB2;replace B1:=S5.keep qO B1;replace E:=S5.step E qQ;replace hB3:=S5.blk;refine zAB (zAC (zAA (qV (zAL rfl zQr (hB3.cell rfl)) (qV (zAk rfl rfl) (qA _ rfl (zAB (zAR (zAW results125 (v:=(.bool (decide ((zCS t:Int)=0)))) rfl ?_))))))));exact ⟨by simp[zFN,h],E,by simpa[zFN] using hB1,hB2,by simpa[zFN,h] using hB3⟩
theorem zWz (w0:World) (t:Re) (vs:List Value) (ht:zBG w0 t vs) (most:Int) :
  Ret prog 65 #[.agg vs.toArray,.int .i64 most] w0 fun v w=>v=.int .i64 (zDi t most)∧Ext w0 w:=by
 have ae:=ht;obtain ⟨sa,sc,aa,ac,rfl,af,ad,ab⟩:=ht.form;refine qR func65 rfl ntmps65 rfl (fun E=>(zAA (zBL (v:=(.agg (R6 t sa sc aa ac))) (c:=(R6 t sa sc aa ac)) qD rfl rfl ?_)));intro b1 w1 N1;have F1:=N1.ge E;replace E:=E.ext N1.ext;have B1:=N1.blk;refine zBL (v:=(I6 most)) (c:=#[(I6 most)]) qD rfl rfl ?_;intro b2 w2 N2;have F2:=N2.ge E;have O2_b1:=N2.lt B1;replace B1:=N2.keep B1;replace E:=E.ext N2.ext;have B2:=N2.blk;refine qA _ rfl (zAB (zAA (zBJ (c:=#[(I6 0)]) qD zFB rfl ?_)));intro b3 w3 N3;have F3:=N3.ge E;have O3_b1:=N3.lt B1;have O3_b2:=N3.lt B2;replace B1:=N3.keep B1;replace B2:=N3.keep B2;replace E:=E.ext N3.ext;have B3:=N3.blk;refine zBJ (c:=#[(I6 0)]) qD zXr rfl ?_;intro b4 w4 N4;have F4:=N4.ge E;have O4_b1:=N4.lt B1;have O4_b2:=N4.lt B2;have O4_b3:=N4.lt B3;replace B1:=N4.keep B1;replace B2:=N4.keep B2;replace B3:=N4.keep B3;replace E:=E.ext N4.ext;have B4:=N4.blk;refine zBr (b:=b3) (o:=0) (c':=#[(I6 0)]) (v:=(I6 0)) rfl rfl rfl zAv B3 qP rfl ?_;intro w5 S5;replace B1:=S5.keep qO B1;replace B2:=S5.keep qO B2;replace B4:=S5.keep qO B4;replace E:=S5.step E qQ;replace B3:=S5.blk;refine zBr (b:=b4) (o:=0) (c':=#[(I6 0)]) (v:=(I6 0)) rfl rfl rfl zUa B4 qP rfl ?_;intro w6 S6;replace B1:=S6.keep qO B1;replace B2:=S6.keep qO B2;replace B3:=S6.keep qO B3;replace E:=S6.step E qQ;replace B4:=S6.blk;refine zAB (zAA (qV (zAG (vs:=[(I6 t.kind),(.slice sa t.set.length sc),(.slice aa t.args.length ac),(I6 t.mn),(I6 t.mx),(.bool t.neg)]) rfl zAc zAO rfl (B1.cells rfl)) (qV (zCj rfl rfl) ?_)));have hf:∀(s:Int×Int) (w:World) (t:Re) (vs:List Value),b4+1≤w.heap.size→Ext w0 w→(Blk w b3 #[.int .i64 s.1] 3∧Blk w b2 #[.int .i64 most] 3∧Blk w b4 #[.int .i64 s.2] 27)→zBG w0 t vs→zCD prog (.func (.func 125) #[] #[.pointer (some ⟨b3,0,none⟩),.pointer (some ⟨b2,0,none⟩),.pointer (some ⟨b4,0,none⟩)]) #[.agg vs.toArray] w fun v w'=>v=.bool (zFN most s t).1∧Chg (fun x=>x=b3∨x=b4) w w'∧(Blk w' b3 #[.int .i64 (zFN most s t).2.1] 3∧Blk w' b2 #[.int .i64 most] 3∧Blk w' b4 #[.int .i64 (zFN most s t).2.2] 27):=fun s w t vs _ hE hI ht=>zCD.mk (first:=#[]) (cap:=#[.pointer (some ⟨b3,0,none⟩),.pointer (some ⟨b2,0,none⟩),.pointer (some ⟨b4,0,none⟩)]) (args:=#[.agg vs.toArray]) func125 zYx zaD rfl (zVK w0 w t vs ht hE b3 b2 b4 s most qO qO qO hI.1 hI.2.1 hI.2.2);refine qE rfl (zAV func121 zOg zPD rfl) (zPX (zFN most) (fun s w=>Blk w b3 #[.int .i64 s.1] 3∧Blk w b2 #[.int .i64 most] 3∧Blk w b4 #[.int .i64 s.2] 27) (fun x=>x=b3∨x=b4) (b4+1) _ w0 (fun b hb=>qO) (fun s w w' hI e=>⟨e.keep hI.1,e.keep hI.2.1,e.keep hI.2.2⟩) hf t.size t (Nat.le_refl _) (0,0) _ _ (by have:=B4.lt;omega) E ⟨B3,B2,B4⟩ ae) ?_;rintro _ w9 ⟨rfl,C9,B3',B2',B4'⟩;replace B1:=C9.keep qO B1;replace E:=E.step C9 (by intro x hx hm;omega);refine zAB (zAA (qV (zAL rfl zQr (B4'.cell rfl)) (qA _ rfl (zAB (zAR (zAW results65 (v:=(.int .i64 ((zDA (zFN most) t (0,0)).2.2))) rfl ?_))))));exact ⟨rfl,E⟩
end Go.Proofs
namespace Go.Eng
open Go
/-- The word whose bits below n are f's. -/
def zWq:Nat→(Nat→Bool)→Nat
  | 0,_=>0
  | n+1,f=>zWq n f+(if f n then 2 ^ n else 0)
end Go.Eng
namespace Go.Eng
open Go
abbrev Rl:=Nat→Nat→Bool
def zDR (A B:Rl) (n:Nat):Rl:=fun i k=>decide (i≤n) && (List.range 25).any fun j=>A i j && B j k
def orR (A B:Rl):Rl:=fun i j=>A i j || B i j
def zXp (A B:Rl):Rl:=fun i j=>A i j && B i j
def idR (n:Nat):Rl:=fun i j=>decide (i≤n) && decide (j=i)
def noR:Rl:=fun _ _=>false
def inS (l:List (Int×Int)) (r:Int):Bool:=l.any fun s=>decide (s.1≤r) && decide (r≤s.2)
def zYA (text:List Int) (set:List (Int×Int)):Rl:=fun i j=>(match text[i]? with|some c=>inS set c|none=>false) && decide (j=i+1)
def zYF (n:Nat) (A:Rl):Rl:=fun i j=>(decide (i≤n) && (decide (i≤j) && decide (j≤n))) && !A i j
def zRs (n:Nat) (A:Rl):Nat→Rl
  | 0=>idR n
  | m+1=>orR (zRs n A m) (zDR (zRs n A m) A n)
def zYE (n:Nat) (A:Rl):Nat→Rl
  | 0=>idR n
  | m+1=>zDR (zYE n A m) A n
def zWP (n:Nat) (A:Rl) (mn:Int):Nat→Rl
  | 0=>noR
  | m+1=>if mn≤(m:Int) then orR (zWP n A mn m) (zYE n A m) else zWP n A mn m
def zVC (n:Nat) (A:Rl) (neg:Bool):Rl:=fun i j=>(decide (i≤n) && decide (j=i)) && (decide (zWq 25 (A i)≠0) != neg)
def zVw (text:List Int) (k:Int) (set:List (Int×Int)) (L:List Rl) (mn mx:Int) (ng:Bool):Rl:=
 if k=1 then idR text.length else if k=2 then zYA text set
 else if k=3 then L.foldl (fun a x=>zDR a x text.length) (idR text.length)
 else if k=4 then L.foldl orR noR
 else if k=7 then L.foldl zXp (L.headD noR)
 else if k=8 then zYF text.length (L.headD noR)
 else if k=5 then zRs text.length (L.headD noR) (text.length+1)
 else if k=6 then zWP text.length (L.headD noR) mn (mx+1).toNat
 else if k=9 then L.headD noR
 else if k=10 then zVC text.length (L.headD noR) ng
 else noR
mutual
def zEb (text:List Int):Re→Rl
  | .mk k set args mn mx ng=>zVw text k set (zHW text args) mn mx ng
def zHW (text:List Int):List Re→List Rl
  | []=>[]
  | t::ts=>zEb text t::zHW text ts
end
theorem zPv (text:List Int) (ts:List Re):zHW text ts=ts.map (zEb text):=by
  induction ts with
  | nil=>rfl
  | cons t ts ih=>simp[zHW,ih]
theorem zSF (text:List Int) (t:Re):zEb text t=zVw text t.kind t.set (t.args.map (zEb text)) t.mn t.mx t.neg:=by
 cases t;simp[zEb,zPv,Re.kind,Re.set,Re.args,Re.mn,Re.mx,Re.neg]
theorem zAw {w:World} {base e size n:Nat} {v:Value} {xs:List Value} (h:w.ownsRow base e size v n xs):∃a c,v=.slice a n c:=by
 rcases h.2 with ⟨rfl,rfl⟩|⟨g,cap,cur,rfl,_⟩
 ·exact ⟨_,_,rfl⟩
 ·exact ⟨_,_,rfl⟩
theorem zBi {M:Nat→Prop} {w w':World} {base e size n:Nat} {v:Value} {xs:List Value} (h:w.ownsRow base e size v n xs) (c:Chg M w w') (hm:∀k,v.ownBlock=some k→¬M k):w'.ownsRow base e size v n xs:=by
 refine ⟨h.1,?_⟩;rcases h.2 with hn|⟨g,ad,ac,rfl,hb,ab,aa⟩
 ·exact .inl hn
 ·refine .inr ⟨g,ad,ac,rfl,hb,?_,aa⟩;rw[c.blk g (Array.getElem?_eq_some_iff.1 ab).1 (hm g rfl)];exact ab
/-- A slice of one's own, cut at its end. -/
theorem zUr {w:World} {base e size n m cap:Nat} {a:Option Addr} {xs:List Value} (h:w.ownsRow base e size (.slice a n cap) n xs) (hm:m≤n) (h0:0<n):w.ownsRow base e size (.slice a m cap) m (xs.take (m*size)):=by
 rcases h.2 with ⟨h1,rfl⟩|⟨g,ac,ad,hv,hb,ab,hnc,ae,af,aa⟩
 ·omega
 ·simp only[Value.slice.injEq] at hv;obtain ⟨rfl,_,rfl⟩:=hv;have ag:m*size≤n*size:=Nat.mul_le_mul_right _ hm;refine ⟨by rw[List.length_take,h.1];omega,.inr ⟨g,cap,ad,rfl,hb,ab,qO,ae,af,?_⟩⟩;rw[←aa,List.take_take,Nat.min_eq_left ag]
theorem zAn {w w':World} {base e size n:Nat} {v:Value} {xs:List Value} (h:w.ownsRow base e size v n xs) (c:Ext w w'):w'.ownsRow base e size v n xs:=zBi h c fun _ _ f=>f
theorem zCn {w:World} {base e size n:Nat} {a:Option Addr} {c:Nat} {xs:List Value} (h:w.ownsRow base e size (.slice a n c) n xs) (hn:0<n) :
  ∃g,a=some ⟨g,0,none⟩∧base≤g∧zBD w g 0 xs:=by
 rcases h.2 with ⟨h1,rfl⟩|⟨g,cap,cur,hv,hb,hgg,_,_,_,aa⟩
 ·omega
 ·simp only[Value.slice.injEq] at hv;obtain ⟨rfl,_,rfl⟩:=hv;refine ⟨g,rfl,hb,fun i v hv=>?_⟩;have:=h.cells (g:=g) rfl i v hv
  rwa [Addr.add_lit] at this
theorem zDC {w:World} {base e k n:Nat} {v:Value} {rows:List (List Value)} (h:w.ownsRow base e k v n rows.flatten) (hk:∀r∈rows,r.length=k) (hn:rows.length=n) (hpos:0<k):zBq w k v rows:=by
  obtain ⟨h1,h2⟩:=h;rcases h2 with ⟨rfl,rfl⟩|⟨g,ad,cur,rfl,hb,ab,hnc,ac,hcs,aa⟩
  · have:rows=[]:=List.eq_nil_of_length_eq_zero hn;subst this;exact zBq.nil w k _ _
  · refine ⟨_,ad,by rw[hn],by simp only[maxLen] at ac;omega,qO,.inr ⟨g,0,rfl,fun i r hr j u hu=>?_⟩⟩;have hc:(rows.flatten)[i*k+j]?=some u:=by
      clear aa ab h1 hn
      induction rows generalizing i with
      | nil=>simp at hr
      | cons x rs ih=>
        have hx:x.length=k:=hk x qP;cases i with
        | zero=>
          simp at hr;subst hr;have hj:=zAa hu;simp only[List.flatten_cons,Nat.zero_mul,Nat.zero_add];rw[List.getElem?_append_left hj];exact hu
        | succ i=>
          simp at hr;simp only[List.flatten_cons];rw[List.getElem?_append_right (by rw[hx,Nat.succ_mul];omega)];rw[show (i+1)*k+j - x.length=i*k+j from by rw[hx,Nat.succ_mul];omega];exact ih (fun r hr=>hk r (by simp[hr])) _ hr
    rw[←aa] at hc;have ae:i*k+j<n*k:=by
      have:=zAa hc;simp at this;omega
    rw[List.getElem?_take_of_lt ae] at hc;show w.cell? ⟨g,0+i*k+j,none⟩=some u;rw[Nat.zero_add];simp only[World.cell?,ab];simpa using hc
/-- Where the slice lies behind an append. -/
theorem zHf {P:Program} {w w':World} {base t ty e size bytes n m c:Nat} {i:TypeInfo} {z v v':Value} {xs news:List Value} {a:Addr} (ht:P.underlying t=some (.slice e)) (hi:P.info? e=some i) (hz:i.zero=some z) (hsize:i.size=size) (hby:i.bytes=bytes) (hzs:z.cells.size=size) (hsz:0<size)
  (hown:w.ownsRow base e size v n xs) (hl:news.length=m*size) (hnews:∀j u,news[j]?=some u→w.cell? (a.add j)=some u) (h1:∀u∈news,u.oneCell'=true) (h63:n+m≤maxLen) (hbytes:(n+m)*bytes≤140737488355328)
  (hr:(Builtin.append_ #[t,t] ty #[v,.slice (some a) m c]).run P w=.ok v' w'):∀k,v'.ownBlock=some k→v.ownBlock=some k∨w.heap.size≤k:=by
 rcases hown.2 with ⟨rfl,rfl⟩|⟨g,ae,af,rfl,hbg,hg,hnc,hcm,ai,ag⟩
 ·have hx:xs=[]:=List.eq_nil_of_length_eq_zero (by simpa using hown.1);subst hx;obtain ⟨v2,w2,ab,ah,_⟩:=run_append_own (P:=P) w w.heap.size t ty e i z size bytes ht hi hz hsize hby hzs hsz (.slice none 0 0) 0 [] (World.ownsRow_nil w w.heap.size e size) a m c news hl hnews h1 h63 hbytes (Nat.le_refl _);rw[ab] at hr;cases hr;intro k hk;exact .inr (ah.lt k hk).1
 ·have ad:n+m≤9223372036854775807:=by simp only[maxLen] at h63;omega
  subst hsize;subst hby
  by_cases hroom:n+m≤ae
  ·have ac:n*i.size+news.length≤af.size:=by rw[hl,ai,←Nat.add_mul];exact Nat.mul_le_mul_right _ hroom
   have ab:=run_append_room (P:=P) w t ty e i ht hi g n ae af hg a m c news hl hnews h1 hroom ac;rw[ab] at hr;cases hr;intro k hk;exact .inl hk
  ·have aa:∀j u,xs[j]?=some u→w.cell? ((⟨g,0,none⟩:Addr).add j)=some u:=hown.cells (g:=g) rfl;have ab:=run_append_grow (P:=P) w t ty e i z ht hi hz ⟨g,0,none⟩ n ae xs hown.1 aa a m c news hl hnews qO qO (growslice_fits qO hbytes);rw[ab] at hr;cases hr;intro k hk;simp only[Value.ownBlock,Option.some.injEq] at hk;exact .inr qO
/-- An append never draws less than nothing. -/
theorem zHg {P:Program} {w w':World} {base t ty e size bytes n m c:Nat} {i:TypeInfo} {z v v':Value} {xs news:List Value} {a:Addr} (ht:P.underlying t=some (.slice e)) (hi:P.info? e=some i) (hz:i.zero=some z) (hsize:i.size=size) (hby:i.bytes=bytes)
  (hown:w.ownsRow base e size v n xs) (hl:news.length=m*size) (hnews:∀j u,news[j]?=some u→w.cell? (a.add j)=some u) (h1:∀u∈news,u.oneCell'=true) (h63:n+m≤maxLen) (hbytes:(n+m)*bytes≤140737488355328)
  (hr:(Builtin.append_ #[t,t] ty #[v,.slice (some a) m c]).run P w=.ok v' w'):w.drawn≤w'.drawn:=by
 have ac:n+m≤9223372036854775807:=by simp only[maxLen] at h63;omega
 subst hsize;subst hby
 rcases hown.2 with ⟨rfl,rfl⟩|⟨g,ae,af,rfl,hbg,hg,hnc,hcm,ah,ag⟩
 ·by_cases hm:m=0
  ·subst hm;have h2:(Builtin.append_ #[t,t] ty #[.slice none 0 0,.slice (some a) 0 c]).run P w=.ok (.slice none 0 0) w:=by
    simp[Builtin.append_,run_underlying ht,sizeOf,typeInfo,hi,Builtin.lenOf,Builtin.firstCells,loadCells,loadCellsFrom]
   rw[h2] at hr;cases hr;exact Nat.le_refl _
  ·have ab:=run_append_nil (P:=P) w t ty e i z ht hi hz a m c news hl hnews qO qO (by have hb:=hbytes;simp only[Nat.zero_add] at hb;omega);rw[ab] at hr;cases hr;exact Nat.le_succ _
 ·by_cases hroom:n+m≤ae
  ·have ad:n*i.size+news.length≤af.size:=by rw[hl,ah,←Nat.add_mul];exact Nat.mul_le_mul_right _ hroom
   have ab:=run_append_room (P:=P) w t ty e i ht hi g n ae af hg a m c news hl hnews h1 hroom ad;rw[ab] at hr;cases hr;exact Nat.le_refl _
  ·have aa:∀j u,xs[j]?=some u→w.cell? ((⟨g,0,none⟩:Addr).add j)=some u:=hown.cells (g:=g) rfl;have ab:=run_append_grow (P:=P) w t ty e i z ht hi hz ⟨g,0,none⟩ n ae xs hown.1 aa a m c news hl hnews qO qO (growslice_fits qO hbytes);rw[ab] at hr;cases hr;exact Nat.le_succ _
/-- One append to a slice of the call's own. -/
theorem zBC {P:Program} {N:Nat} {Q:zGJ} {σ:Env} {w:World} {K:Env→World→Prop} {ops:Array Oper} {rest:List Oper} {d:Nat} {ty:TypeId} {pos:String} {af:Array Edge} {t:TypeId} {s x:Operand}
    {base e size bytes n m c bx ox:Nat} {z v:Value} {xs news:List Value} (hN:d<N) (hu:P.underlying t=some (.slice e)) (hsz:Siz P e size) (hby:Byt P e bytes) (hz:Zer P e z) (hzs:z.cells.size=size) (h0:0<size)
    (hs:ev σ s=v) (hown:w.ownsRow base e size v n xs) (hx:ev σ x=.slice (some ⟨bx,ox,none⟩) m c) (hl:news.length=m*size) (hnews:zBD w bx ox news) (h1:∀u∈news,u.oneCell'=true)
    (h63:n+m≤maxLen) (hbytes:(n+m)*bytes≤140737488355328) (hbase:base≤w.heap.size)
    (k:∀v' w',w'.ownsRow base e size v' (n+m) (xs++news)→Chg (fun x=>v.ownBlock=some x) w w'→(∀k,v'.ownBlock=some k→v.ownBlock=some k∨w.heap.size≤k)→WpL P N ops K Q rest (upd σ d v') w') :
    WpL P N ops K Q (⟨some d,.call ⟨.builtin .append,#[s,x],#[t,t]⟩,ty,pos,af,none⟩::rest) σ w:=by
  unfold Siz at hsz;unfold Byt at hby;unfold Zer at hz;cases hi:P.info? e with
  | none=>rw[hi] at hsz;simp at hsz
  | some i=>
  rw[hi] at hsz hby hz;simp at hsz hby hz;obtain ⟨v',w',hr,h2,h3,_⟩:=run_append_own (P:=P) w base t ty e i z size bytes hu hi hz hsz hby hzs h0 v n xs hown ⟨bx,ox,none⟩ m c news hl (fun j u hj=>by rw[Addr.add_lit];exact hnews j u hj) h1 h63 hbytes hbase;refine zCJ (v:=v') (w':=w') rfl rfl hN ?_ (k v' w' h2 ⟨h3.os,h3.tape,h3.output,zHg (P:=P) hu hi hz hsz hby hown hl (fun j u hj=>by rw[Addr.add_lit];exact hnews j u hj) h1 h63 hbytes hr,h3.size,fun b hb hn=>h3.block b hb (fun h=>hn h.symm)⟩ (zHf (P:=P) hu hi hz hsz hby hzs h0 hown hl (fun j u hj=>by rw[Addr.add_lit];exact hnews j u hj) h1 h63 hbytes hr));simp[execOp,resolve,invoke,builtin,hs,hx,hr]
end Go.Eng
namespace Go.Proofs
open Go Go.Eng
set_option maxRecDepth 100000
theorem zOm (w0:World) (v fv:Value) (l:List (Int)) (p:Int→Bool) (hs:zBt w0 v l) (hf:∀(w:World) (x:Int),Ext w0 w→x∈l→zCD prog fv #[.int .i64 x] w fun r w'=>r=.bool (p x)∧Ext w w') :
  Ret prog 140 #[v,fv] w0 fun r w=>r=.int .i64 (idx p l)∧Ext w0 w:=by
 obtain ⟨a,c,rfl⟩:=zBq.form hs;have ad:l.length≤9223372036854775807:=by simpa using zBq.le hs
 simp only[List.length_map] at hs⊢;refine qR func140 rfl ntmps140 rfl (fun E=>(zAA (qA _ rfl (zAB (zAK (zAA (qM _ rfl (qV (zAM underlying26 rfl) (qM _ rfl (zAB (zAT (zAq (fun nn_ σ W1=>∃(k:Nat),(∃jj_,σ=zCH jj_ [(0,(.slice a l.length c)),(1,fv),(7,(I6 (l.length:Int))),(8,(I6 (k:Int)))])∧Chg zAo w0 W1∧(k≤l.length)∧(∀(i:Nat) (y:Int),i<k→l[i]?=some y→p y=false)∧nn_=l.length - k) (n:=l.length - 0) ?_ ?_))))))))))))
 ·exact ⟨0,zBA.out ⟨rfl,rfl,rfl,rfl,trivial⟩,E,Nat.zero_le _,(fun i y h=>absurd h (Nat.not_lt_zero _)),rfl⟩
 ·clear E;rintro _ _ W1 ⟨k,⟨j1,rfl⟩,E,hk,ab,rfl⟩;refine zAA (qV (zBH rfl rfl) (zAB (zAK (qC rfl (fun ac=>?_) (fun ac=>?_)))))
  ·obtain ⟨x,hx⟩:=zAU (l:=l) (i:=k) qO;obtain ⟨b,o,rfl,aa⟩:=zBu hs qO;refine zAP (zAC (zAK (zAT (zAA (qM _ rfl (qA _ rfl (zAB (zAA (qM _ rfl (qM _ rfl (qM _ rfl (qV (zAH (b:=b) (o:=o) (len:=l.length) (cap:=c) (i:=k) (o':=o+k) rfl rfl rfl underlying26 zAv qO qO) (qV (zAL rfl zAf (E.cell (fun f=>f) (aa k x hx))) (zCZ qD rfl rfl (hf _ x E (List.mem_of_getElem? hx)) ?_))))))))))))));rintro _ w9 ⟨rfl,X9⟩;replace E:=E.ext X9;refine zAB (zAt rfl (fun hp=>?_) (fun hp=>?_))
   ·have ae:=hp;refine zAA (qM _ rfl (qA _ rfl (zAB (zAR (zAZ (zAI (zAI (zAZ (zAI (zAW results140 (v:=(.int .i64 ((k:Nat):Int))) rfl ?_))))))))));exact ⟨zBO (zHL hx hp ab).symm,E⟩
   ·have ae:=hp;refine zAP (zAS (zAC (zAN (qV (zAy rfl rfl (zBV qO)) (qM _ rfl (zAB (zAC ?_)))))));exact ⟨l.length - (k+1),qO,k+1,zBA.out ⟨rfl,rfl,rfl,rfl,trivial⟩,E,qO,zEi hx hp ab,rfl⟩
  ·have hkk:k=l.length:=qO
   refine zAp (zAX (zAX (zAj (zAC (zAA (qA _ rfl (zAB (zAR (zAW results140 (v:=(.int .i64 (-1))) rfl ?_)))))))));exact ⟨zBO (zGY fun i y hy=>ab i y (by have:=zAa hy;omega) hy).symm,E⟩
theorem zOn (w0:World) (v fv:Value) (l:List (Int)) (p:Int→Bool) (hs:zBt w0 v l) (hf:∀(w:World) (x:Int),Ext w0 w→x∈l→zCD prog fv #[.int .i64 x] w fun r w'=>r=.bool (p x)∧Ext w w') :
  Ret prog 90 #[v,fv] w0 fun r w=>r=.bool (l.any p)∧Ext w0 w:=by
 refine qR func90 rfl ntmps90 rfl (fun E=>(zAA (qA _ rfl (zAB (zAA (qM v rfl (qM _ rfl (qE rfl (zAV func140 zYm zZs rfl) (zOm _ v fv l p hs hf) ?_))))))));rintro _ w9 ⟨rfl,X9⟩;replace E:=E.ext X9;refine qV (zFG rfl rfl) (qA _ rfl (zAB (zAR (zAW results90 (v:=(.bool (decide ((0:Int)≤idx p l)))) rfl ?_))));exact ⟨zAx (zGB p l),E⟩
theorem zMM (w0:World) (v fv:Value) (l:List (Int×Int)) (p:Int×Int→Bool) (hs:zBQ w0 v l) (hf:∀(w:World) (x:Int×Int),Ext w0 w→x∈l→zCD prog fv #[.agg #[.int .i64 x.1,.int .i64 x.2]] w fun r w'=>r=.bool (p x)∧Ext w w') :
  Ret prog 186 #[v,fv] w0 fun r w=>r=.int .i64 (idx p l)∧Ext w0 w:=by
 obtain ⟨a,c,rfl⟩:=zBq.form hs;have ad:l.length≤9223372036854775807:=by simpa using zBq.le hs
 simp only[List.length_map] at hs⊢;refine qR func186 rfl ntmps186 rfl (fun E=>(zAA (qA _ rfl (zAB (zAK (zAA (qM _ rfl (qV (zAM underlying22 rfl) (qM _ rfl (zAB (zAT (zAq (fun nn_ σ W1=>∃(k:Nat),(∃jj_,σ=zCH jj_ [(0,(.slice a l.length c)),(1,fv),(7,(I6 (l.length:Int))),(8,(I6 (k:Int)))])∧Chg zAo w0 W1∧(k≤l.length)∧(∀(i:Nat) (y:Int×Int),i<k→l[i]?=some y→p y=false)∧nn_=l.length - k) (n:=l.length - 0) ?_ ?_))))))))))))
 ·exact ⟨0,zBA.out ⟨rfl,rfl,rfl,rfl,trivial⟩,E,Nat.zero_le _,(fun i y h=>absurd h (Nat.not_lt_zero _)),rfl⟩
 ·clear E;rintro _ _ W1 ⟨k,⟨j1,rfl⟩,E,hk,ab,rfl⟩;refine zAA (qV (zBH rfl rfl) (zAB (zAK (qC rfl (fun ac=>?_) (fun ac=>?_)))))
  ·obtain ⟨x,hx⟩:=zAU (l:=l) (i:=k) qO;obtain ⟨b,o,rfl,aa⟩:=zBN hs qO;refine zAP (zAC (zAK (zAT (zAA (qM _ rfl (qA _ rfl (zAB (zAA (qM _ rfl (qM _ rfl (qM _ rfl (qV (zAH (b:=b) (o:=o) (len:=l.length) (cap:=c) (i:=k) (o':=o+k*2) rfl rfl rfl underlying22 zBB qO qO) (qV (zAG rfl zCi zBB rfl ((aa k x hx).ext E)) (zCZ qD rfl rfl (hf _ x E (List.mem_of_getElem? hx)) ?_))))))))))))));rintro _ w9 ⟨rfl,X9⟩;replace E:=E.ext X9;refine zAB (zAt rfl (fun hp=>?_) (fun hp=>?_))
   ·have ae:=hp;refine zAA (qM _ rfl (qA _ rfl (zAB (zAR (zAZ (zAI (zAI (zAZ (zAI (zAW results186 (v:=(.int .i64 ((k:Nat):Int))) rfl ?_))))))))));exact ⟨zBO (zHL hx hp ab).symm,E⟩
   ·have ae:=hp;refine zAP (zAS (zAC (zAN (qV (zAy rfl rfl (zBV qO)) (qM _ rfl (zAB (zAC ?_)))))));exact ⟨l.length - (k+1),qO,k+1,zBA.out ⟨rfl,rfl,rfl,rfl,trivial⟩,E,qO,zEi hx hp ab,rfl⟩
  ·have hkk:k=l.length:=qO
   refine zAp (zAX (zAX (zAj (zAC (zAA (qA _ rfl (zAB (zAR (zAW results186 (v:=(.int .i64 (-1))) rfl ?_)))))))));exact ⟨zBO (zGY fun i y hy=>ab i y (by have:=zAa hy;omega) hy).symm,E⟩
theorem zMN (w0:World) (v fv:Value) (l:List (Int×Int)) (p:Int×Int→Bool) (hs:zBQ w0 v l) (hf:∀(w:World) (x:Int×Int),Ext w0 w→x∈l→zCD prog fv #[.agg #[.int .i64 x.1,.int .i64 x.2]] w fun r w'=>r=.bool (p x)∧Ext w w') :
  Ret prog 164 #[v,fv] w0 fun r w=>r=.bool (l.any p)∧Ext w0 w:=by
 refine qR func164 rfl ntmps164 rfl (fun E=>(zAA (qA _ rfl (zAB (zAA (qM v rfl (qM _ rfl (qE rfl (zAV func186 zYU zZa rfl) (zMM _ v fv l p hs hf) ?_))))))));rintro _ w9 ⟨rfl,X9⟩;replace E:=E.ext X9;refine qV (zFG rfl rfl) (qA _ rfl (zAB (zAR (zAW results164 (v:=(.bool (decide ((0:Int)≤idx p l)))) rfl ?_))));exact ⟨zAx (zGB p l),E⟩
theorem zZI (w0:World) (s:Int×Int) (r:Int) (b:Nat) (hB:Blk w0 b #[.int .i64 r] 3) :
  Ret prog 165 #[.agg #[.int .i64 s.1,.int .i64 s.2],.pointer (some ⟨b,0,none⟩)] w0 fun v w=>v=.bool (decide (s.1≤r) && decide (r≤s.2))∧Ext w0 w:=by
 refine qR func165 rfl ntmps165 rfl (fun E=>(zAA (zBL (v:=(.agg #[(I6 s.1),(I6 s.2)])) (c:=#[(I6 s.1),(I6 s.2)]) qD rfl rfl ?_)));intro b1 w1 N1;have F1:=N1.ge E;have O1_b:=N1.lt hB;replace hB:=N1.keep hB;replace E:=E.ext N1.ext;have B1:=N1.blk;refine qA _ rfl (zAB (zAA (qF b1 0 0 rfl underlying103 rfl zAv rfl (qV (zAL rfl zAf (B1.cell rfl)) (qV (zAL rfl zAf (hB.cell rfl)) ?_)))));obtain ⟨e2,ab⟩:∃e,(decide ((s.1:Int)≤r))=e:=⟨_,rfl⟩;refine qV ((zEd rfl rfl).trans (by rw[ab];try rfl)) (qM _ rfl (qG (.bool e2) (yU e2 (I6 r)) (by cases e2<;>first|exact gA|exact gB|exact .inl ⟨rfl,zAL rfl zAf (hB.cell rfl)⟩) (qG (.bool e2) (yU e2 (P6 b1 1)) (by cases e2<;>first|exact gA|exact gB|exact .inl ⟨rfl,zAQ rfl underlying103 rfl zAv rfl⟩) (qG (.bool e2) (yU e2 (I6 s.2)) (by cases e2<;>first|exact gA|exact gB|exact .inl ⟨rfl,zAL rfl zAf (B1.cell rfl)⟩) ?_))));obtain ⟨e3,aa⟩:∃e,(decide ((r:Int)≤s.2))=e:=⟨_,rfl⟩;refine qG (.bool e2) (yU e2 (.bool e3)) (by cases e2<;>first|exact gA|exact gB|exact .inl ⟨rfl,(zEd rfl rfl).trans (by rw[aa];try rfl)⟩) ?_;obtain ⟨e4,ac⟩:∃e,(e2 && e3)=e:=⟨_,rfl⟩;refine qV (zAd (v:=.bool e4) rfl (by rw[←ac];cases e2<;>rfl)) (qA _ rfl (zAB ?_));subst ac;subst aa;subst ab;refine zAR (zAW results165 (v:=(.bool ((decide ((s.1:Int)≤r)) && (decide ((r:Int)≤s.2))))) rfl ?_);exact ⟨rfl,E⟩
theorem zad (w0:World) (v:Value) (l:List (Int×Int)) (r:Int) (hs:zBQ w0 v l) :
  Ret prog 116 #[v,.int .i64 r] w0 fun u w=>u=.bool (inS l r)∧Ext w0 w:=by
 refine qR func116 rfl ntmps116 rfl (fun E=>(zAA (zBL (v:=(I6 r)) (c:=#[(I6 r)]) qD rfl rfl ?_)));intro b1 w1 N1;have F1:=N1.ge E;replace E:=E.ext N1.ext;have B1:=N1.blk;refine qA _ rfl (zAB (zAA (qM v rfl (qV (zCj rfl rfl) (qE rfl (zAV func164 zYf zZl rfl) (zMN _ v _ l (fun s=>decide (s.1≤r) && decide (r≤s.2)) (hs.ext E) (fun w x hE _=>zCD.mk (first:=#[]) (cap:=#[.pointer (some ⟨b1,0,none⟩)]) func165 zYe zZk rfl (zZI w x r b1 (hE.keep B1)))) ?_)))));rintro _ w9 ⟨rfl,X9⟩;replace B1:=X9.keep B1;replace E:=E.ext X9;refine qA _ rfl (zAB (zAR (zAW results116 (v:=(.bool (inS l r))) rfl ?_)));exact ⟨rfl,E⟩
def zFl (r:Int):Bool:=decide (0≤r) && decide (r≤1114111)
theorem zTZ (r:Int) (w0:World):Ret prog 59 #[.int .i64 r] w0 fun u w=>u=.bool (zFl r)∧Ext w0 w:=by
 refine qR func59 rfl ntmps59 rfl (fun E=>(zAA (qA _ rfl (zAB (zAA (qM _ rfl ?_))))));obtain ⟨e1,ac⟩:∃e,(decide ((0:Int)≤r))=e:=⟨_,rfl⟩;refine qV ((zFG rfl rfl).trans (by rw[ac];try rfl)) (qM _ rfl (qG (.bool e1) (yU e1 (I6 r)) (by cases e1<;>first|exact gA|exact gB|exact .inl ⟨rfl,zAi rfl⟩) ?_));obtain ⟨e2,ab⟩:∃e,(decide ((r:Int)≤1114111))=e:=⟨_,rfl⟩;refine qG (.bool e1) (yU e1 (.bool e2)) (by cases e1<;>first|exact gA|exact gB|exact .inl ⟨rfl,(zEd rfl rfl).trans (by rw[ab];try rfl)⟩) ?_;obtain ⟨e3,aa⟩:∃e,(e1 && e2)=e:=⟨_,rfl⟩;refine qV (zAd (v:=.bool e3) rfl (by rw[←aa];cases e1<;>rfl)) (qA _ rfl (zAB ?_));subst aa;subst ab;subst ac;refine zAR (zAW results59 (v:=(.bool ((decide ((0:Int)≤r)) && (decide ((r:Int)≤1114111))))) rfl ?_);exact ⟨rfl,E⟩
theorem zSA (r:Int) (w0:World):Ret prog 123 #[.int .i64 r] w0 fun u w=>u=.bool (!zFl r)∧Ext w0 w:=by
 refine qR func123 rfl ntmps123 rfl (fun E=>(zAA (qA _ rfl (zAB (zAA (qM _ rfl (qE rfl (zAV func59 zaY zal rfl) (zTZ r _) ?_)))))));rintro _ w9 ⟨rfl,X9⟩;replace E:=E.ext X9;refine qV (zCf rfl) (qA _ rfl (zAB (zAR (zAW results123 (v:=(.bool (!(zFl r)))) rfl ?_))));exact ⟨rfl,E⟩
theorem zUd (w0:World) (v:Value) (l:List Int) (hs:zBt w0 v l) :
  Ret prog 62 #[v] w0 fun u w=>u=.bool (!(l.any fun r=>!zFl r))∧Ext w0 w:=by
 refine qR func62 rfl ntmps62 rfl (fun E=>(zAA (qA _ rfl (zAB (zAA (qM v rfl (qE rfl (zAV func90 nm90 bd90 rfl) (zOn _ v _ l (fun r=>!zFl r) hs (fun w x hE _=>zCD.mk (first:=#[]) (cap:=#[]) func123 zYz zaF rfl (zSA x w))) ?_)))))));rintro _ w9 ⟨rfl,X9⟩;replace E:=E.ext X9;refine qV (zCf rfl) (qA _ rfl (zAB (zAR (zAW results62 (v:=(.bool (!(l.any fun r=>!zFl r)))) rfl ?_))));exact ⟨rfl,E⟩
end Go.Proofs
namespace Go.Proofs
open Go Go.Eng
set_option maxRecDepth 100000
mutual
def zEB:Re→Prop
  | .mk k set args mn mx ng=>zCS (.mk k set args mn mx ng)=0∧zDJ args
def zDJ:List Re→Prop
  | []=>True
  | t::ts=>zEB t∧zDJ ts
end
theorem zCo {ts:List Re} (h:zDJ ts) {i:Nat} {x:Re} (hx:ts[i]?=some x):zEB x:=by
  induction ts generalizing i with
  | nil=>simp at hx
  | cons t ts ih=>
    simp only[zDJ] at h;cases i with
    | zero=>simp at hx;subst hx;exact h.1
    | succ i=>exact ih h.2 (by simpa using hx)
theorem zFJ {t:Re} (h:zEB t):zCS t=0:=by cases t;simp only[zEB] at h;exact h.1
theorem zCR {t:Re} (h:zEB t):zDJ t.args:=by cases t;simp only[zEB] at h;exact h.2
theorem zDt {t:Re} (h:zEB t):0≤t.kind∧t.kind≤10∧zDb t=true:=by
 have:=zFJ h;unfold zCS at this;split at this
 ·omega
 ·rename_i hk
  split at this
  ·omega
  ·rename_i hf;exact ⟨qO,qO,by simpa using hf⟩
theorem zFb {t:Re} (h:zEB t) (hk:t.kind=5∨t.kind=6∨t.kind=8∨t.kind=9∨t.kind=10):t.args.length=1:=by
 obtain ⟨_,_,hf⟩:=zDt h;simp only[zDb,Bool.and_eq_true] at hf;have:=hf.1.1.1.1;unfold okB at this;rw[if_neg qO,if_pos hk] at this;simp at this;omega
theorem zNf {t:Re} (h:zEB t) (hk:t.kind=3∨t.kind=4∨t.kind=7):2≤t.args.length:=by
 obtain ⟨_,_,hf⟩:=zDt h;simp only[zDb,Bool.and_eq_true] at hf;have:=hf.1.1.1.1;unfold okB at this;rw[if_pos hk] at this;simp at this;omega
theorem zKM {t:Re} (h:zEB t) (hk:t.kind=6):0≤t.mn∧t.mn≤t.mx∧t.mx≤8:=by
 have:=zFJ h;obtain ⟨h1,h2,hf⟩:=zDt h;unfold zCS at this;rw[if_neg qO,if_neg (by simp[hf]),if_neg qO,if_pos hk] at this;split at this<;>omega
theorem zCB (t:Re):t.args.length<t.size:=by
  rw[Re.size_eq];have:∀ts:List Re,ts.length≤Re.sizes ts:=by
    intro ts
    induction ts with
    | nil=>simp
    | cons x r ih=>have:=x.size_pos;simp[Re.sizes];omega
  have:=this t.args;omega
theorem zDy {w0:World} {aa:Option Addr} {ts:List Re} (h:ts=[]∨∃b o,aa=some ⟨b,o,none⟩∧zCO w0 b o ts) (h0:0<ts.length):∃b o,aa=some ⟨b,o,none⟩∧zCO w0 b o ts:=by
 rcases h with h|h
 ·rw[h] at h0;simp at h0
 ·exact h
end Go.Proofs
namespace Go.Proofs
open Go Go.Eng
set_option maxRecDepth 100000
theorem zMk {most:Int} {n e:Int} (t:Re) (h0:0≤n) (h1:n≤1000000):zFN most (n,e) t=(decide ((if most<n+1 then 2 else zCS t)=0),(n+1,if most<n+1 then 2 else zCS t)):=by
 simp only[zFN];rw[zBV qO]
mutual
theorem zNs {most:Int} (hm:most≤1000000):∀(t:Re) (n e:Int),0≤n→n+t.size≤most→zEB t→zDA (zFN most) t (n,e)=(true,(n+t.size,0))
  | .mk k set args mn mx ng,n,e,h0,h1,hok=>by
    simp only[Re.size] at h1⊢;rw[zEH,zMk _ h0 qO];have hn:=zFJ hok;have hlt:¬most<n+1:=qO
    simp only[if_neg hlt,hn,decide_true,if_true,Re.args];have ha:=zCR hok;simp only[Re.args] at ha;rw[zLc hm args (n+1) 0 qO qO ha rfl];simp;omega
theorem zLc {most:Int} (hm:most≤1000000):∀(ts:List Re) (n e:Int),0≤n→n+Re.sizes ts≤most→zDJ ts→e=0→zCW (zFN most) ts (n,e)=(true,(n+Re.sizes ts,0))
  | [],n,e,_,_,_,he=>by simp[zCW,Re.sizes,he]
  | t::ts,n,e,h0,h1,hok,he=>by
    simp only[Re.sizes] at h1⊢;simp only[zDJ] at hok;rw[zCg,zNs hm t n e h0 qO hok.1];simp only[if_true];rw[zLc hm ts _ _ qO qO hok.2 rfl];simp;omega
end
mutual
theorem zQs {most:Int} (hm:most≤1000000):∀(t:Re) (n e:Int),0≤n→n≤most→(zDA (zFN most) t (n,e)).1=true→zEB t∧n+t.size≤most∧(zDA (zFN most) t (n,e)).2=(n+t.size,0)
  | .mk k set args mn mx ng,n,e,h0,h1,h=>by
    rw[zEH,zMk _ h0 qO] at h⊢;by_cases hc:(if most<n+1 then 2 else zCS (.mk k set args mn mx ng))=0
    · have hlt:¬most<n+1:=by intro h';rw[if_pos h'] at hc;omega
      rw[if_neg hlt] at hc;simp only[if_neg hlt,hc,decide_true,if_true,Re.args] at h⊢;obtain ⟨a,b,c⟩:=zNt hm args (n+1) 0 qO qO h rfl;refine ⟨by simp only[zEB];exact ⟨hc,a⟩,by simp only[Re.size];omega,by rw[c];simp only[Re.size];simp;omega⟩
    · simp[hc] at h
theorem zNt {most:Int} (hm:most≤1000000):∀(ts:List Re) (n e:Int),0≤n→n≤most→(zCW (zFN most) ts (n,e)).1=true→e=0→zDJ ts∧n+Re.sizes ts≤most∧(zCW (zFN most) ts (n,e)).2=(n+Re.sizes ts,0)
  | [],n,e,_,h1,_,he=>by simp[zCW,Re.sizes,zDJ,he];omega
  | t::ts,n,e,h0,h1,h,he=>by
    rw[zCg] at h⊢;by_cases hc:(zDA (zFN most) t (n,e)).1=true
    · rw[if_pos hc] at h⊢;obtain ⟨a,b,c⟩:=zQs hm t n e h0 h1 hc;rw[c] at h⊢;obtain ⟨a',b',c'⟩:=zNt hm ts _ _ qO b h rfl;exact ⟨by simp only[zDJ];exact ⟨a,a'⟩,by simp only[Re.sizes];omega,by rw[c'];simp only[Re.sizes];simp;omega⟩
    · rw[if_neg hc] at h;simp at h
end
mutual
theorem zLd {most:Int}:∀(t:Re) (s:Int×Int),(zDA (zFN most) t s).1=decide ((zDA (zFN most) t s).2.2=0)
  | .mk k set args mn mx ng,s=>by
    rw[zEH];by_cases hc:(zFN most s (.mk k set args mn mx ng)).1=true
    · rw[if_pos hc];exact zJh args _ (by simpa[zFN] using hc)
    · rw[if_neg hc];have h2:(zFN most s (.mk k set args mn mx ng)).1=false:=by simpa using hc
      simp only[zFN] at h2⊢;exact h2.symm
theorem zJh {most:Int}:∀(ts:List Re) (s:Int×Int),s.2=0→(zCW (zFN most) ts s).1=decide ((zCW (zFN most) ts s).2.2=0)
  | [],s,h=>by simp[zCW,h]
  | t::ts,s,h=>by
    rw[zCg];have:=zLd (most:=most) t s;by_cases hc:(zDA (zFN most) t s).1=true
    · rw[if_pos hc];rw[hc] at this;exact zJh ts _ (by simpa using this.symm)
    · rw[if_neg hc];have h2:(zDA (zFN most) t s).1=false:=by simpa using hc
      rw[h2] at this;exact this
end
theorem zHM {t:Re} {most:Int} (h0:0≤most) (hm:most≤1000000):zDi t most=0↔zEB t∧(t.size:Int)≤most:=by
 unfold zDi;constructor
 ·intro h;have h1:=zLd (most:=most) t (0,0);rw[h] at h1;obtain ⟨a,b,_⟩:=zQs hm t 0 0 (Int.le_refl 0) h0 (by simpa using h1);exact ⟨a,qO⟩
 ·rintro ⟨a,b⟩;rw[zNs hm t 0 0 (Int.le_refl 0) qO a]
def zOG (t:Re) (text:List Int):Int:=if zDi t 40≠0 then zDi t 40 else if 24<text.length then 2 else if (text.any fun r=>!zFl r)=true then 1 else 0
def rowL (R:Rl) (i p:Nat):List (Nat×Nat):=((List.range p).filter (R i)).map fun j=>(i,j)
def zTe (R:Rl) (n:Nat):List (Nat×Nat):=(List.range n).flatMap fun i=>rowL R i 25
end Go.Proofs
namespace Go.Eng
open Go
abbrev Fct:=Value→World→Prop
def zGq (F:Fct):Prop:=∀v w w',Ext w w'→F v w→F v w'
inductive Fact where
  | eq (v:Value)
  | re (t:Re)
  | res (ts:List Re)
  | gen (F:Fct) (h:zGq F)
def Fact.In:Fact→Fct
  | .eq u,v,_=>v=u
  | .re t,v,w=>∃vs,v=.agg vs.toArray∧zBG w t vs
  | .res ts,v,w=>∃b,v=.slice (some ⟨b,0,none⟩) ts.length ts.length∧zCO w b 0 ts
  | .gen F _,v,w=>F v w
theorem Fact.ext {F:Fact} {v:Value} {w w':World} (h:F.In v w) (e:Ext w w'):F.In v w':=by
  cases F with
  | eq u=>exact h
  | re t=>obtain ⟨vs,h1,h2⟩:=h;exact ⟨vs,h1,zBG.ext e t h2⟩
  | res ts=>obtain ⟨b,h1,h2⟩:=h;exact ⟨b,h1,zCO.ext e ts h2⟩
  | gen F hF=>exact hF _ _ _ e h
def zPK (P:Program) (N:Nat) (o:Oper) (R:Fct) (σ:Env) (w:World):Prop:=
 ∀a,Ok N a→env a=σ→∀(Q:Exit→Act→World→Prop) (K:Act→World→Prop),(∀v w',Ext w w'→R v w'→K (a.put o.dst v) w')→o.wp P a w K Q
def Holds (ds:List Nat) (Fs:List Fact) (j:Nat) (σ:Env) (w:World):Prop:=∀d F,ds[j]?=some d→Fs[j]?=some F→F.In (σ d) w
def zMv (ds:List Nat) (o:Oper) (σ:Env):Prop:=∀j b,o.guard=some (j,b)→∃d,ds[j]?=some d∧σ d=.bool b
def zXd (ds:List Nat) (o:Oper) (σ:Env):Prop:=∃j b d,o.guard=some (j,b)∧ds[j]?=some d∧(σ d=.bool (!b)∨σ d=undef)
theorem zEv {ds:List Nat} {o:Oper} {σ:Env} {j:Nat} {b:Bool} {d:Nat} (h:o.guard=some (j,b)) (hd:ds[j]?=some d) (hv:σ d=.bool (!b)∨σ d=undef):zXd ds o σ:=⟨j,b,d,h,hd,hv⟩
section
variable {P : Program} {N : Nat} {o : Oper} {R : Fct} {σ : Env} {w : World}
theorem zAJ {v:Value} {w':World} (hr:(execOp (ev σ) o).run P w=.ok (.value v) w') (hx:Ext w w') (h:R v w'):zPK P N o R σ w:=by
 intro a ha he Q K hK;unfold Oper.wp;rw[zDG,he,hr];simp only[Oper.upon];exact hK _ _ hx h
theorem zAs {f:FuncId} {args:Array Value} (hr:(execOp (ev σ) o).run P w=.ok (.enter f args) w) (hc:Ret P f args w fun v w'=>R v w'∧Ext w w'):zPK P N o R σ w:=by
 intro a ha he Q K hK;unfold Oper.wp;rw[zDG,he,hr];simp only[Oper.upon];refine Calls.mono hc ?_;rintro e w' ⟨v,rfl,r,x⟩;exact hK _ _ x r
theorem zAD {ds:List Nat} (h:o.guard=none):zMv ds o σ:=fun j b hj=>by rw[h] at hj;cases hj
theorem zBf {ds:List Nat} {j:Nat} {b:Bool} {d:Nat} (h:o.guard=some (j,b)) (hd:ds[j]?=some d) (hv:σ d=.bool b):zMv ds o σ:=fun j' b' hj=>by
 rw[h] at hj;cases hj;exact ⟨d,hd,hv⟩
end
def zEN (N i:Nat) (o:Oper) (d:Nat) (ws:List Nat):Bool:=
 (match o.dst with|some d'=>Nat.beq d' d|none=>false) && Nat.blt d N && (o.after.all fun e=>!Region.binds .any e || Nat.blt e.on i) && ws.all fun j=>o.after.any fun e=>Region.binds .any e && Nat.beq e.on j
def zPP (N:Nat):Nat→List Oper→List Nat→List (List Nat)→Bool
  | _,[],[],[]=>true
  | i,o::l,d::ds,ws::wss=>zEN N i o d ws && zPP N (i+1) l ds wss
  | _,_,_,_=>false
def zIR:List Nat→Bool
  | []=>true
  | d::ds=>!ds.contains d && zIR ds
theorem zDm:∀{ds:List Nat},zIR ds=true→∀{i j d:Nat},ds[i]?=some d→ds[j]?=some d→i=j
  | [],_,i,_,_,h,_=>by simp at h
  | x::ds,hn,i,j,d,hi,hj=>by
    simp only[zIR,Bool.and_eq_true,Bool.not_eq_true',List.contains_eq_mem,decide_eq_false_iff_not] at hn;cases i with
    | zero=>
      cases j with
      | zero=>rfl
      | succ j=>simp at hi hj;subst hi;exact absurd (List.mem_of_getElem? hj) hn.1
    | succ i=>
      cases j with
      | zero=>simp at hi hj;subst hj;exact absurd (List.mem_of_getElem? hi) hn.1
      | succ j=>simp at hi hj;rw[zDm hn.2 hi hj]
theorem zGg {N:Nat}:∀{i:Nat} {l:List Oper} {ds:List Nat} {wss:List (List Nat)},zPP N i l ds wss=true→∀{j:Nat} {o:Oper},l[j]?=some o→∃d ws,ds[j]?=some d∧wss[j]?=some ws∧zEN N (i+j) o d ws=true
  | _,[],_,_,_,j,o,h=>by simp at h
  | i,x::l,[],_,hB,_,_,_=>by simp[zPP] at hB
  | i,x::l,d::ds,[],hB,_,_,_=>by simp[zPP] at hB
  | i,x::l,d::ds,ws::wss,hB,j,o,h=>by
    simp only[zPP,Bool.and_eq_true] at hB;cases j with
    | zero=>simp at h;subst h;exact ⟨d,ws,rfl,rfl,hB.1⟩
    | succ j=>
      simp at h;obtain ⟨d',ws',h1,h2,h3⟩:=zGg hB.2 h;exact ⟨d',ws',by simpa using h1,by simpa using h2,by rw[show i+(j+1)=i+1+j from qO];exact h3⟩
theorem zNy {N:Nat}:∀{i:Nat} {l:List Oper} {ds:List Nat} {wss:List (List Nat)},zPP N i l ds wss=true→ds.length=l.length
  | _,[],[],[],_=>rfl
  | _,[],[],_::_,hB=>by simp[zPP] at hB
  | _,[],_::_,_,hB=>by simp[zPP] at hB
  | i,x::l,[],_,hB=>by simp[zPP] at hB
  | i,x::l,d::ds,[],hB=>by simp[zPP] at hB
  | i,x::l,d::ds,ws::wss,hB=>by
    simp only[zPP,Bool.and_eq_true] at hB;simp[zNy hB.2]
def zKh (P:Program) (N:Nat) (ds:List Nat) (Fs:List Fact) (σ:Env) (w:World) (o:Oper) (ws:List Nat) (F:Fact):Prop:=
 ∀σ' w',Ext w w'→(∀t,ds.contains t=false→σ' t=σ t)→(∀j,ws.contains j=true→Holds ds Fs j σ' w')→(zMv ds o σ'∧zPK P N o F.In σ' w')∨(zXd ds o σ'∧F.In undef w')
inductive DagSteps (P:Program) (N:Nat) (ds:List Nat) (Fs:List Fact) (σ:Env) (w:World):List Oper→List (List Nat)→List Fact→Prop where
  | nil:DagSteps P N ds Fs σ w [] [] []
  | cons {o:Oper} {ws:List Nat} {F:Fact} {l:List Oper} {wss:List (List Nat)} {Gs:List Fact}:zKh P N ds Fs σ w o ws F→DagSteps P N ds Fs σ w l wss Gs→DagSteps P N ds Fs σ w (o::l) (ws::wss) (F::Gs)
theorem DagSteps.get {P:Program} {N:Nat} {ds:List Nat} {Fs:List Fact} {σ:Env} {w:World}:∀{l:List Oper} {wss:List (List Nat)} {Gs:List Fact},DagSteps P N ds Fs σ w l wss Gs→∀{j:Nat} {o:Oper},l[j]?=some o→∃ws F,wss[j]?=some ws∧Gs[j]?=some F∧zKh P N ds Fs σ w o ws F
  | _,_,_,.nil,j,o,h=>by simp at h
  | _,_,_,.cons h1 h2,0,o,h=>by simp at h;subst h;exact ⟨_,_,rfl,rfl,h1⟩
  | _,_,_,.cons h1 h2,j+1,o,h=>by
    obtain ⟨ws,F,a,b,c⟩:=h2.get (j:=j) (by simpa using h);exact ⟨ws,F,by simpa using a,by simpa using b,c⟩
theorem zEA {P:Program} {N:Nat} {Q:zGJ} {σ:Env} {w:World} {id:Nat} {l:List Oper} (ds:List Nat) (wss:List (List Nat)) (Fs:List Fact) {Gs:List Fact} (hG:Fs=Gs) (hm:P.follows .mixedOrders=true) (hB:zPP N 0 l ds wss=true) (hn:zIR ds=true)
    (steps:∀w1,Ext w w1→DagSteps P N ds Fs σ w1 l wss Gs)
    (k:∀σ' w',Ext w w'→(∀t,ds.contains t=false→σ' t=σ t)→(∀j,Holds ds Fs j σ' w')→Q .normal σ' w'):Wp P N (.region id l.toArray true) Q σ w:=by
  intro a ha he;refine wp_region_any hm ?_;obtain ⟨w1,a1⟩:∃w1:World,w1={w with drawn:=w.drawn+1}:=⟨_,rfl⟩;have a3:Ext w w1:=by rw[a1];exact zGe w
  rw[←a1];have a2:=steps w1 a3;rw[←hG] at a2;have a6:=zNy hB;have bc:∀(ad:Nat) (aa:Array Bool) (a:Act) (w':World),aa.size=l.length→aa.toList.count false≤ad→Ok N a→Ext w1 w'→(∀t,ds.contains t=false→env a t=σ t)→(∀j,aa.getD j false=true→Holds ds Fs j (env a) w')→
      wpAny P .any l.toArray (zGU N Q) ad aa a w':=by
    intro ad;have au:∀(aa:Array Bool) (a:Act) (w':World),aa.size=l.length→Ok N a→Ext w1 w'→(∀t,ds.contains t=false→env a t=σ t)→(∀j,aa.getD j false=true→Holds ds Fs j (env a) w')→aa.toList.count false=0→zGU N Q .normal a w':=by
      intro aa a w' hs ha hx hu hh hc;refine ⟨ha,k _ _ (a3.trans hx) hu fun j=>?_⟩;intro d F hd hF;have hj:j<aa.size:=by have:=zAa hd;omega
      refine hh j ?_ d F hd hF;rw[List.count_eq_zero] at hc;have:aa[j]≠false:=fun h=>hc (by rw[←h];exact Array.getElem_mem_toList hj);simp only[Array.getD_eq_getD_getElem?,Array.getElem?_eq_getElem hj,Option.getD_some];simpa using this
    induction ad with
    | zero=>
      intro aa a w' hs hc ha hx hu hh;have aw:aa.toList.count false=0:=qO
      refine ⟨?_,au aa a w' hs ha hx hu hh aw⟩;rw[List.eq_nil_iff_forall_not_mem];intro i hi;obtain ⟨h1,o,h2,_⟩:=mem_ready.1 hi;have hj:i<aa.size:=by have:=(Array.getElem?_eq_some_iff.1 h2).1;simp at this;omega
      simp only[Array.getD_eq_getD_getElem?,Array.getElem?_eq_getElem hj,Option.getD_some] at h1;rw[List.count_eq_zero] at aw;exact aw (by rw[←h1];exact Array.getElem_mem_toList hj)
    | succ ad ih=>
      intro aa a w' hs hc ha hx hu hh;refine ⟨fun hr=>au aa a w' hs ha hx hu hh ?_,fun i hi=>?_⟩
      · -- none is ready: au are aa
        have ar:∀i,i<aa.size→aa.getD i true=true:=by
          intro i
          induction i using Nat.strongRecOn with
          | _ i ihi=>
            intro hi;cases hv:aa.getD i true with
            | true=>rfl
            | false=>
              exfalso;obtain ⟨o,ho⟩:=zAU (l:=l) (i:=i) qO;obtain ⟨d,ws,_,_,h3⟩:=zGg hB ho;have:i∈Region.ready .any l.toArray aa:=by
                refine mem_ready.2 ⟨hv,o,by simpa using ho,fun e he hb=>?_⟩;simp only[zEN,Bool.and_eq_true,Array.all_eq_true_iff_forall_mem,Bool.or_eq_true,Bool.not_eq_true',Nat.zero_add] at h3;have:=(h3.1.2 e he).resolve_left (by simp[hb]);have ah:e.on<i:=by simpa[Nat.blt_eq] using this
                have h4:=ihi e.on ah qO;have hj:e.on<aa.size:=qO
                simpa only[Array.getD_eq_getD_getElem?,Array.getElem?_eq_getElem hj,Option.getD_some] using h4
              rw[hr] at this;cases this
        rw[List.count_eq_zero];intro az;obtain ⟨i,hi,he⟩:=List.getElem_of_mem az;have hj:i<aa.size:=by simpa using hi
        have:=ar i hj;simp only[Array.getD_eq_getD_getElem?,Array.getElem?_eq_getElem hj,Option.getD_some] at this;simp at he;rw[this] at he;cases he
      · obtain ⟨h1,o,h2,h3⟩:=mem_ready.1 hi;have ho:l[i]?=some o:=by simpa using h2
        have hil:i<l.length:=zAa ho;obtain ⟨d,ws,hd,a8,h4⟩:=zGg hB ho;obtain ⟨ws',F,al,hF,am⟩:=a2.get ho;rw[a8] at al;cases al;simp only[zEN,Bool.and_eq_true,List.all_eq_true,Array.any_eq_true',Array.all_eq_true_iff_forall_mem,Bool.or_eq_true,Bool.not_eq_true',Nat.zero_add] at h4;obtain ⟨⟨⟨af,ax⟩,_⟩,ak⟩:=h4;have af:o.dst=some d:=by
          split at af
          · rename_i d' h;rw[h,Nat.eq_of_beq_eq_true af]
          · cases af
        have ax:d<N:=by simpa[Nat.blt_eq] using ax
        have hH:∀j,ws.contains j=true→Holds ds Fs j (env a) w':=by
          intro j hj;have bd:j∈ws:=by simpa using hj
          obtain ⟨e,he,hb⟩:=ak j bd;obtain ⟨a4,ba⟩:=hb;have:e.on=j:=Nat.eq_of_beq_eq_true ba;exact hh j (this▸h3 e he a4)
        have ap:∀v w2,Ext w' w2→F.In v w2→wpAny P .any l.toArray (zGU N Q) ad (aa.setIfInBounds i true) (a.put o.dst v) w2:=by
          intro v w2 a0 hv;have ao:env (a.put o.dst v)=upd (env a) d v:=by rw[af];exact zEs ha ax v
          refine ih _ _ _ (by simpa using hs) ?_ (ha.put _ _) (hx.trans a0) ?_ ?_
          · have a9:i<aa.toList.length:=by simp;omega
            have hl:aa.toList[i]=false:=by
              have hj:i<aa.size:=qO
              simp only[Array.getD_eq_getD_getElem?,Array.getElem?_eq_getElem hj,Option.getD_some] at h1;simpa using h1
            rw[Array.toList_setIfInBounds,List.count_set a9,hl,if_pos (by rfl),if_neg qD];omega
          · intro t ht;rw[ao,←hu t ht];simp only[upd];cases hb:Nat.beq t d
            · rfl
            · exfalso;have:t=d:=Nat.eq_of_beq_eq_true hb;subst this;have:=List.mem_of_getElem? hd;simp[this] at ht
          · intro j hj d' F' aq av;rw[ao];by_cases hij:j=i
            · subst hij;rw[hd] at aq;cases aq;rw[hF] at av;cases av;simp only[upd,Nat.beq_refl,cond_true];exact hv
            · have a7:Nat.beq d' d=false:=by
                cases hb:Nat.beq d' d
                · rfl
                · exfalso;have:d'=d:=Nat.eq_of_beq_eq_true hb;subst this;exact hij (zDm hn aq hd)
              simp only[upd,a7,cond_false];rw[getD_set_ne _ (Ne.symm hij)] at hj;exact Fact.ext (hh j hj d' F' aq av) a0
        rcases am (env a) w' hx hu hH with ⟨hg,bb⟩|⟨⟨j,b,dj,ai,an,ag⟩,ay⟩
        · have hw:Region.wanted o (yielded l.toArray a.tmps)=true:=by
            cases ai:o.guard with
            | none=>simp[Region.wanted,ai]
            | some p=>
              obtain ⟨j,b⟩:=p;obtain ⟨dj,an,ag⟩:=hg j b ai;obtain ⟨oj,aj⟩:=zAU (l:=l) (i:=j) (by have:=zAa an;omega);obtain ⟨a5,_,ae,_,h5⟩:=zGg hB aj;rw[an] at ae;cases ae;simp only[zEN,Bool.and_eq_true] at h5;obtain ⟨⟨⟨ab,ac⟩,_⟩,_⟩:=h5;have ab:oj.dst=some dj:=by
                split at ab
                · rename_i d' h;rw[h,Nat.eq_of_beq_eq_true ab]
                · cases ab
              have ac:dj<N:=by simpa[Nat.blt_eq] using ac
              have h6:a.tmps[dj]?=some (Value.bool b):=by
                have h2:a.tmps.getD dj undef=.bool b:=ag;have ah:dj<a.tmps.size:=by rw[ha.size];exact ac
                rw[Array.getElem?_eq_getElem ah];simpa[ah] using h2
              simp[Region.wanted,ai,yielded,aj,ab,h6]
          unfold wpOp;simp only[h2,hw,if_true];exact Or.inl (bb a ha rfl _ _ ap)
        · have hw:Region.wanted o (yielded l.toArray a.tmps)=false:=by
            obtain ⟨oj,aj⟩:=zAU (l:=l) (i:=j) (by have:=zAa an;omega);obtain ⟨a5,_,ae,_,h5⟩:=zGg hB aj;rw[an] at ae;cases ae;simp only[zEN,Bool.and_eq_true] at h5;obtain ⟨⟨⟨ab,ac⟩,_⟩,_⟩:=h5;have ab:oj.dst=some dj:=by
              split at ab
              · rename_i d' h;rw[h,Nat.eq_of_beq_eq_true ab]
              · cases ab
            have ac:dj<N:=by simpa[Nat.blt_eq] using ac
            have ah:dj<a.tmps.size:=by rw[ha.size];exact ac
            have h6:a.tmps[dj]?=some (env a dj):=by
              rw[Array.getElem?_eq_getElem ah];simp[env,ah]
            rcases ag with ag|ag
            · rw[ag] at h6;cases b<;>simp[Region.wanted,ai,yielded,aj,ab,h6]
            · rw[ag] at h6;simp[Region.wanted,ai,yielded,aj,ab,h6,undef]
          unfold wpOp;simp only[h2,hw,Bool.false_eq_true,if_false];exact ap undef w' (Ext.refl _) ay
  refine bc _ _ _ _ qP qP ha (Ext.refl _) (fun t _=>by rw[he]) ?_;intro j hj;exfalso;simp only[Array.getD_eq_getD_getElem?,Array.getElem?_replicate] at hj;split at hj<;>simp at hj
theorem zOj {x a:Value} (h:x=a):[x]=[a]:=by rw[h]
theorem zHG {x y a b:Value} (h:x=a) (h':y=b):[x,y]=[a,b]:=by rw[h,h']
theorem zac {x y z a b c:Value} (h:x=a) (h':y=b) (h'':z=c):[x,y,z]=[a,b,c]:=by rw[h,h',h'']
section
variable {P : Program} {N : Nat} {σ : Env} {w : World} {dst : Option Tmp} {ty : TypeId} {pos : String} {af : Array Edge} {g : Option (Nat × Bool)} {t : TypeId} {x y : Operand}
theorem zCM {e:TypeId} {len n:Nat} {z:Value} {parts:List (Nat×Operand)} {ps:List (Nat×Value)} {c:Array Value} (hp:(parts.map fun (i,x)=>(i,ev σ x))=ps) (hu:P.underlying t=some (.slice e)) (hs:Siz P e n) (hz:Zer P e z) (hl:¬(len*n > 2 ^ 24)) (h0:len*n≠0)
  (hc:Instr.fill (fun i=>some (i*n,n)) ((Array.range (len*n)).map (z.cells[· % z.cells.size]!)) ps=some c) :
  (execOp (ev σ) ⟨dst,.buildSlice t len parts.toArray,ty,pos,af,g⟩).run P w=.ok (.value (.slice (some ⟨w.heap.size,0,none⟩) len len)) {w with heap:=w.heap.push (.cells c e (0,0))}:=by
 subst hp;simp only[execOp,Instr.buildSlice,List.map_toArray,Sem.run_bind,run_underlying hu,Result.andThen_ok,hs.run,hl,h0,if_false,Sem.run_pure,hz.run,hc];simp[newRow]
end
theorem zJu {P:Program} {N:Nat} {R:Fct} {σ:Env} {w:World} {dst:Option Tmp} {z:Operand} {args:List Operand} {tys:Array TypeId} {ty:TypeId} {pos:String} {af:Array Edge} {g:Option (Nat×Bool)} {fv:Value} {vs:List Value}
  (hz:ev σ z=fv) (ha:args.map (ev σ)=vs) (hc:zCD P fv vs.toArray w fun v w'=>R v w'∧Ext w w'):zPK P N ⟨dst,.call ⟨.value z,args.toArray,tys⟩,ty,pos,af,g⟩ R σ w:=by
 obtain ⟨f,fn,aa,cap,rfl,hf,hn,hb,hr⟩:=hc;exact zAs (zQB hz hf hn hb ha rfl) hr
end Go.Eng
namespace Go.Eng
open Go
inductive FactT (M:Nat→Prop) where
  | eq (v:Value)
  | gen (F:Fct) (h:∀v w w',Chg M w w'→F v w→F v w')
  | own (F:Fct) (h:∀v w w',Ext w w'→F v w→F v w')
  | till (F:Fct) (h:∀v w w',Ext w w'→F v w→F v w')
def FactT.In {M:Nat→Prop}:FactT M→Fct
  | .eq u,v,_=>v=u
  | .gen F _,v,w=>F v w
  | .own F _,v,w=>F v w
  | .till F _,v,w=>F v w
/-- What a fact says, ahead of the operation that changes memory and behind it. -/
def FactT.At {M:Nat→Prop} (done:Bool):FactT M→Fct
  | .till F _,v,w=>done=false→F v w
  | F,v,w=>F.In v w
theorem FactT.at_in {M:Nat→Prop} {F:FactT M} {v:Value} {w:World} (h:F.In v w) (done:Bool):F.At done v w:=by
 cases F<;>first|exact h|exact fun _=>h
theorem FactT.at_false {M:Nat→Prop} {F:FactT M} {v:Value} {w:World} (h:F.At false v w):F.In v w:=by
 cases F<;>first|exact h|exact h rfl
def FactT.isOwn {M:Nat→Prop}:FactT M→Bool
  | .own _ _=>true
  | _=>false
theorem FactT.chg {M:Nat→Prop} {F:FactT M} {v:Value} {w w':World} {done:Bool} (h:F.At done v w) (e:Chg M w w') (ho:F.isOwn=false):F.At true v w':=by
  cases F with
  | eq u=>exact h
  | gen F hF=>exact hF _ _ _ e h
  | own F hF=>cases ho
  | till F hF=>intro hd;cases hd
theorem FactT.ext {M:Nat→Prop} {F:FactT M} {v:Value} {w w':World} {done:Bool} (h:F.At done v w) (e:Ext w w'):F.At done v w':=by
  cases F with
  | eq u=>exact h
  | gen F hF=>exact hF _ _ _ (Ext.chg e) h
  | own F hF=>exact hF _ _ _ e h
  | till F hF=>exact fun hd=>hF _ _ _ e (h hd)
/-- Only the fact at one place is of the kind that holds behind that operation alone. -/
def zWX {M:Nat→Prop} (c:Nat):Nat→List (FactT M)→Bool
  | _,[]=>true
  | i,F::l=>(!F.isOwn || Nat.beq i c) && zWX c (i+1) l
theorem zNa {M:Nat→Prop} {c:Nat}:∀{i:Nat} {l:List (FactT M)},zWX c i l=true→∀{j:Nat} {F:FactT M},l[j]?=some F→i+j≠c→F.isOwn=false
  | _,[],_,_,_,h,_=>by simp at h
  | i,G::l,hB,0,F,h,hne=>by
    simp at h;subst h;simp only[zWX,Bool.and_eq_true,Bool.or_eq_true,Bool.not_eq_true'] at hB;rcases hB.1 with h|h
    · exact h
    · exact absurd (Nat.eq_of_beq_eq_true h) hne
  | i,G::l,hB,j+1,F,h,hne=>by
    simp only[zWX,Bool.and_eq_true] at hB;simp at h;exact zNa hB.2 h qO
def zMw (M:Nat→Prop) (P:Program) (N:Nat) (o:Oper) (R:Fct) (σ:Env) (w:World):Prop:=
 ∀a,Ok N a→env a=σ→∀(Q:Exit→Act→World→Prop) (K:Act→World→Prop),(∀v w',Chg M w w'→R v w'→K (a.put o.dst v) w')→o.wp P a w K Q
def zOM {M:Nat→Prop} (ds:List Nat) (Fs:List (FactT M)) (done:Bool) (j:Nat) (σ:Env) (w:World):Prop:=∀d F,ds[j]?=some d→Fs[j]?=some F→F.At done (σ d) w
section
variable {M : Nat → Prop} {P : Program} {N : Nat} {o : Oper} {R : Fct} {σ : Env} {w : World}
theorem zBb {v:Value} {w':World} (hr:(execOp (ev σ) o).run P w=.ok (.value v) w') (hx:Chg M w w') (h:R v w'):zMw M P N o R σ w:=by
 intro a ha he Q K hK;unfold Oper.wp;rw[zDG,he,hr];simp only[Oper.upon];exact hK _ _ hx h
theorem zIv {f:FuncId} {args:Array Value} (hr:(execOp (ev σ) o).run P w=.ok (.enter f args) w) (hc:Ret P f args w fun v w'=>R v w'∧Chg M w w'):zMw M P N o R σ w:=by
 intro a ha he Q K hK;unfold Oper.wp;rw[zDG,he,hr];simp only[Oper.upon];refine Calls.mono hc ?_;rintro e w' ⟨v,rfl,r,x⟩;exact hK _ _ x r
end
def zIf (N i:Nat) (o:Oper) (d:Nat) (ws:List Nat):Bool:=
 (match o.dst with|some d'=>Nat.beq d' d && Nat.blt d N|none=>Nat.ble N d) && (o.after.all fun e=>!Region.binds .any e || Nat.blt e.on i) && (ws.all fun j=>o.after.any fun e=>Region.binds .any e && Nat.beq e.on j) && o.guard.isNone
def zHn (N:Nat):Nat→List Oper→List Nat→List (List Nat)→Bool
  | _,[],[],[]=>true
  | i,o::l,d::ds,ws::wss=>zIf N i o d ws && zHn N (i+1) l ds wss
  | _,_,_,_=>false
theorem zGh {N:Nat}:∀{i:Nat} {l:List Oper} {ds:List Nat} {wss:List (List Nat)},zHn N i l ds wss=true→∀{j:Nat} {o:Oper},l[j]?=some o→∃d ws,ds[j]?=some d∧wss[j]?=some ws∧zIf N (i+j) o d ws=true
  | _,[],_,_,_,j,o,h=>by simp at h
  | i,x::l,[],_,hB,_,_,_=>by simp[zHn] at hB
  | i,x::l,d::ds,[],hB,_,_,_=>by simp[zHn] at hB
  | i,x::l,d::ds,ws::wss,hB,j,o,h=>by
    simp only[zHn,Bool.and_eq_true] at hB;cases j with
    | zero=>simp at h;subst h;exact ⟨d,ws,rfl,rfl,hB.1⟩
    | succ j=>
      simp at h;obtain ⟨d',ws',h1,h2,h3⟩:=zGh hB.2 h;exact ⟨d',ws',by simpa using h1,by simpa using h2,by rw[show i+(j+1)=i+1+j from qO];exact h3⟩
theorem zLk {N:Nat}:∀{i:Nat} {l:List Oper} {ds:List Nat} {wss:List (List Nat)},zHn N i l ds wss=true→ds.length=l.length
  | _,[],[],[],_=>rfl
  | _,[],[],_::_,hB=>by simp[zHn] at hB
  | _,[],_::_,_,hB=>by simp[zHn] at hB
  | i,x::l,[],_,hB=>by simp[zHn] at hB
  | i,x::l,d::ds,[],hB=>by simp[zHn] at hB
  | i,x::l,d::ds,ws::wss,hB=>by
    simp only[zHn,Bool.and_eq_true] at hB;simp[zLk hB.2]
/-- The operations that are sure to come ahead of the one that changes memory, and that one. -/
def zLv (c:Nat) (wss:List (List Nat)) (i:Nat):Bool:=Nat.beq i c || (wss.getD c []).contains i
def valOf (o:Oper) (v:Value):Value:=match o.dst with
  | some _=>v
  | none=>undef
def zOO {M:Nat→Prop} (P:Program) (N:Nat) (ds:List Nat) (Fs:List (FactT M)) (σ:Env) (w:World) (own calm:Bool) (o:Oper) (ws:List Nat) (F:FactT M):Prop:=
 ∀σ' w',Chg (bif calm then zAo else M) w w'→(∀t,ds.contains t=false→σ' t=σ t)→(∀j,ws.contains j=true→zOM ds Fs (!calm) j σ' w')→zMw (bif own then M else zAo) P N o (fun v w=>F.In (Go.Eng.valOf o v) w) σ' w'
inductive DagStepsT {M:Nat→Prop} (P:Program) (N:Nat) (ds:List Nat) (Fs:List (FactT M)) (σ:Env) (w:World) (c:Nat) (all:List (List Nat)):Nat→List Oper→List (List Nat)→List (FactT M)→Prop where
  | nil {i:Nat}:DagStepsT P N ds Fs σ w c all i [] [] []
  | cons {i:Nat} {o:Oper} {ws:List Nat} {F:FactT M} {l:List Oper} {wss:List (List Nat)} {Gs:List (FactT M)}:zOO P N ds Fs σ w (Nat.beq i c) (zLv c all i) o ws F→DagStepsT P N ds Fs σ w c all (i+1) l wss Gs→DagStepsT P N ds Fs σ w c all i (o::l) (ws::wss) (F::Gs)
theorem DagStepsT.get {M:Nat→Prop} {P:Program} {N:Nat} {ds:List Nat} {Fs:List (FactT M)} {σ:Env} {w:World} {c:Nat} {all:List (List Nat)}:∀{i:Nat} {l:List Oper} {wss:List (List Nat)} {Gs:List (FactT M)},DagStepsT P N ds Fs σ w c all i l wss Gs→∀{j:Nat} {o:Oper},l[j]?=some o→∃ws F,wss[j]?=some ws∧Gs[j]?=some F∧zOO P N ds Fs σ w (Nat.beq (i+j) c) (zLv c all (i+j)) o ws F
  | _,_,_,_,.nil,j,o,h=>by simp at h
  | _,_,_,_,.cons h1 h2,0,o,h=>by simp at h;subst h;exact ⟨_,_,rfl,rfl,h1⟩
  | i,_,_,_,.cons h1 h2,j+1,o,h=>by
    obtain ⟨ws,F,a,b,c⟩:=h2.get (j:=j) (by simpa using h);exact ⟨ws,F,by simpa using a,by simpa using b,by rw[show i+(j+1)=i+1+j from qO];exact c⟩
def zHs (n m:Nat):Array Bool:=(List.replicate n true++List.replicate (m - n) false).toArray
theorem zJD {l:List Bool} {n i:Nat} (hi:i<n) (hl:n≤l.length) (hf:l[i]?=some false):((l.set i true).take n).count false+1=(l.take n).count false:=by
 have aa:i<(l.take n).length:=by simp;omega
 rw[List.take_set,List.count_set aa];have:(l.take n)[i]=false:=by
  have h2:(l.take n)[i]?=some false:=by rw[List.getElem?_take_of_lt hi];exact hf
  rw[List.getElem?_eq_getElem aa] at h2;simpa using h2
 rw[this,if_pos (by rfl),if_neg qD];have:0<(l.take n).count false:=by
  rw[List.count_pos_iff];rw[←this];exact List.getElem_mem aa
 omega
theorem zSg {l:List Bool} {n:Nat} (hl:n≤l.length) (h0:(l.take n).count false=0) (ht:∀t,n≤t→t<l.length→l[t]?=some false):l=List.replicate n true++List.replicate (l.length - n) false:=by
  apply List.ext_getElem?;intro i;rcases Nat.lt_or_ge i n with h|h
  · rw[List.getElem?_append_left (by simpa using h),List.getElem?_replicate,if_pos h];have hi:i<l.length:=qO
    rw[List.getElem?_eq_getElem hi];cases hv:l[i] with
    | true=>rfl
    | false=>
      exfalso;rw[List.count_eq_zero] at h0;apply h0;have:(l.take n)[i]?=some false:=by rw[List.getElem?_take_of_lt h,List.getElem?_eq_getElem hi,hv]
      exact List.mem_of_getElem? this
  · rw[List.getElem?_append_right (by simpa using h),List.getElem?_replicate,List.length_replicate];rcases Nat.lt_or_ge i l.length with h2|h2
    · rw[if_pos qO,ht i h h2]
    · rw[if_neg qO,List.getElem?_eq_none h2]
theorem zKf {P:Program} {N:Nat} {Q:zGJ} {σ:Env} {w:World} {id:Nat} {l:List Oper} (M:Nat→Prop) (n c:Nat) (ds:List Nat) (wss:List (List Nat)) (Fs:List (FactT M)) {Gs:List (FactT M)} (hG:Fs=Gs) (hO:zWX c 0 Gs=true) (hm:P.follows .mixedOrders=true) (hB:zHn N 0 (l.take n) ds wss=true) (hn:zIR ds=true)
    (hT:(decide (n<l.length) && Region.sinkB .any l.toArray n && Region.chainB .any l.toArray n && Region.seqB .any l.toArray (l.length - n) n (zHs n l.length))=true)
    (steps:∀w1,Ext w w1→DagStepsT P N ds Fs σ w1 c wss 0 (l.take n) wss Gs)
    (k:∀σ' w1 w',Ext w w1→Chg M w1 w'→(∀t,ds.contains t=false→σ' t=σ t)→(∀j,zOM ds Fs true j σ' w')→WpL P N l.toArray (Q .normal) Q (l.drop n) σ' w'):Wp P N (.region id l.toArray true) Q σ w:=by
  intro a ha he;have eQ:zGU N (thn (Q .normal) Q)=zGU N Q:=by funext e a w;cases e<;>rfl
  refine wp_region_any hm ?_;obtain ⟨w1,a6⟩:∃w1:World,w1={w with drawn:=w.drawn+1}:=⟨_,rfl⟩;have a9:Ext w w1:=by rw[a6];exact zGe w
  rw[←a6];have a7:=steps w1 a9;rw[←hG] at a7;simp only[Bool.and_eq_true,decide_eq_true_eq] at hT;obtain ⟨⟨⟨bp,hs⟩,hc⟩,a5⟩:=hT;have aq:∀{q:Bool} {u u':World},Chg (bif q then M else zAo) u u'→Chg M u u':=fun {q u u'} h=>by cases q with|true=>exact h|false=>exact Ext.chg h
  have bb:ds.length=n:=by rw[zLk hB];simp;omega
  have bo:∀(m:Nat) (aa:Array Bool) (a:Act) (w':World),(aa.toList.take n).count false=m→HeadInv .any l.toArray n aa→Ok N a→Chg (bif aa.getD c false then M else zAo) w1 w'→(∀t,ds.contains t=false→env a t=σ t)→(∀j,aa.getD j false=true→zOM ds Fs (aa.getD c false) j (env a) w')→
      wpAny P .any l.toArray (zGU N Q) (m+(l.length - n)) aa a w':=by
    intro m
    induction m with
    | zero=>
      intro aa a w' bh ag ha hx hu hh;have a1:aa.size=l.length:=by simpa using ag.size
      have hl:aa=zHs n l.length:=by
        apply Array.ext';rw[zHs];have:=zSg (l:=aa.toList) (n:=n) (by simp;omega) bh (by
          intro t h1 h2;have au:t<aa.size:=by simpa using h2
          have:=ag.tail t h1 (by simpa[a1] using au);simp only[Array.getD_eq_getD_getElem?,Array.getElem?_eq_getElem au,Option.getD_some] at this;simp[au,this])
        rw[this];simp[a1]
      rw[Nat.zero_add];have h1:=k (env a) w1 w' a9 (aq hx) hu (fun j d F hd hF=>by
        have hj:j<n:=by have:=zAa hd;omega
        have h2:=hh j (by
          rw[hl,zHs];simp[Array.getD_eq_getD_getElem?,List.getElem?_append_left,hj]) d F hd hF
        cases F with
        | till F hF=>intro hd;cases hd
        | eq u=>exact h2
        | gen F hF=>exact h2
        | own F hF=>exact h2) a ha rfl
      rw[eQ] at h1;have:=wpAny_of_seq (P:=P) (md:=.any) (ops:=l.toArray) (Q':=zGU N Q) (l.drop n) n aa a w' (fun j=>by simp[List.getElem?_drop]) (by rw[List.length_drop,hl];exact a5) h1
      rwa [List.length_drop] at this
    | succ m ih=>
      intro aa a w' hcm ag ha hx hu hh;have a1:aa.size=l.length:=by simpa using ag.size
      obtain ⟨i0,am,az⟩:∃i,i<n∧aa.getD i true=false:=by
        have:0<(aa.toList.take n).count false:=by omega
        rw[List.count_pos_iff] at this;obtain ⟨i,hi,he⟩:=List.getElem_of_mem this;have an:i<n:=by simp at hi;omega
        refine ⟨i,an,?_⟩;have aj:i<aa.size:=by simp at hi;omega
        simp only[Array.getD_eq_getD_getElem?,Array.getElem?_eq_getElem aj,Option.getD_some];simpa using he
      rw[show m+1+(l.length - n)=(m+(l.length - n))+1 by omega];refine ⟨fun hr=>?_,fun i hi=>?_⟩
      · exfalso;have aw:∀i,i<n→aa.getD i true=true:=by
          intro i
          induction i using Nat.strongRecOn with
          | _ i ihi=>
            intro hi;cases hv:aa.getD i true with
            | true=>rfl
            | false=>
              exfalso;obtain ⟨o,ho⟩:=zAU (l:=l) (i:=i) (by omega);have ar:(l.take n)[i]?=some o:=by rw[List.getElem?_take_of_lt hi];exact ho
              obtain ⟨d,ws,_,_,h3⟩:=zGh hB ar;have:i∈Region.ready .any l.toArray aa:=by
                refine mem_ready.2 ⟨hv,o,by simpa using ho,fun e he hb=>?_⟩;simp only[zIf,Bool.and_eq_true,Array.all_eq_true_iff_forall_mem,Bool.or_eq_true,Bool.not_eq_true',Nat.zero_add] at h3;have:=(h3.1.1.2 e he).resolve_left (by simp[hb]);have bq:e.on<i:=by simpa[Nat.blt_eq] using this
                have h4:=ihi e.on bq (by omega);have hj:e.on<aa.size:=by omega
                simpa only[Array.getD_eq_getD_getElem?,Array.getElem?_eq_getElem hj,Option.getD_some] using h4
              rw[hr] at this;cases this
        rw[aw i0 am] at az;cases az
      · have an:i<n:=by
          rcases Nat.lt_or_ge i n with h|h
          · exact h
          · exact absurd hi (tail_waits hs hc (by simpa using bp) ag _ i0 rfl am az i h)
        obtain ⟨h1,o,h2,h3⟩:=mem_ready.1 hi;have aj:i<aa.size:=by omega
        have ho:l[i]?=some o:=by simpa using h2
        have ar:(l.take n)[i]?=some o:=by rw[List.getElem?_take_of_lt an];exact ho
        obtain ⟨d,ws,hd,bk,h4⟩:=zGh hB ar;obtain ⟨ws',F,ap,hF,af⟩:=a7.get ar;rw[bk] at ap;cases ap;simp only[Nat.zero_add] at af;simp only[zIf,Bool.and_eq_true,List.all_eq_true,Array.any_eq_true',Array.all_eq_true_iff_forall_mem,Bool.or_eq_true,Bool.not_eq_true',Nat.zero_add] at h4;obtain ⟨⟨⟨ab,_⟩,ao⟩,a2⟩:=h4;have a2:o.guard=none:=by simpa using a2
        -- what is sure to come ahead of the change
        have ae:zLv c wss i=true→aa.getD c false=false:=by
          intro ac;simp only[zLv,Bool.or_eq_true] at ac;rcases ac with ac|ac
          · have:i=c:=Nat.eq_of_beq_eq_true ac;subst this;exact getD_both h1
          · cases hlc:aa.getD c false with
            | false=>rfl
            | true=>
              exfalso;have bj:c<n:=by
                rcases Nat.lt_or_ge c n with h|h
                · exact h
                · rcases Nat.lt_or_ge c l.length with h'|h'
                  · have:=getD_both (ag.tail c h (by simpa using h'));rw[this] at hlc;cases hlc
                  · simp[Array.getElem?_eq_none (show aa.size≤c by omega)] at hlc
              obtain ⟨oc,a8⟩:=zAU (l:=l) (i:=c) (by omega);have a0:(l.take n)[c]?=some oc:=by rw[List.getElem?_take_of_lt bj];exact a8
              obtain ⟨dc,ba,_,ax,h5⟩:=zGh hB a0;have be:wss.getD c []=ba:=by simp[ax]
              rw[be] at ac;simp only[zIf,Bool.and_eq_true,List.all_eq_true,Array.any_eq_true',Nat.zero_add] at h5;obtain ⟨e,he,av,a3⟩:=h5.1.2 i (by simpa using ac);have bd:e.on=i:=Nat.eq_of_beq_eq_true a3;have:=ag.closed c oc (by simpa using a8) hlc e he av;rw[bd,getD_both h1] at this;cases this
        have hH:∀j,ws.contains j=true→zOM ds Fs (!zLv c wss i) j (env a) w':=by
          intro j hj d' F' al ak;have bm:j∈ws:=by simpa using hj
          obtain ⟨e,he,hb⟩:=ao j bm;obtain ⟨av,a3⟩:=hb;have:e.on=j:=Nat.eq_of_beq_eq_true a3;have h5:=hh j (this▸h3 e he av) d' F' al ak;cases ac:zLv c wss i with
          | true=>rw[ae ac] at h5;exact h5
          | false=>
            cases F' with
            | till F hF=>intro hd;cases hd
            | eq u=>exact h5
            | gen F hF=>exact h5
            | own F hF=>exact h5
        have ah:(∀w2,Chg (bif Nat.beq i c then M else zAo) w' w2→Chg (bif (aa.setIfInBounds i true).getD c false then M else zAo) w1 w2):=by
          intro w2 ad;by_cases hic:i=c
          · subst hic;rw[Nat.beq_refl] at ad;have hg:(aa.setIfInBounds i true).getD i false=true:=by simp[Array.getD_eq_getD_getElem?,aj]
            rw[hg];exact (aq hx).trans ad
          · have hb:Nat.beq i c=false:=by cases hb:Nat.beq i c;rfl;exact absurd (Nat.eq_of_beq_eq_true hb) hic
            rw[hb] at ad;rw[getD_set_ne _ hic];exact hx.ext ad
        have a4:∀v w2,Chg (bif Nat.beq i c then M else zAo) w' w2→F.In (Go.Eng.valOf o v) w2→wpAny P .any l.toArray (zGU N Q) (m+(l.length - n)) (aa.setIfInBounds i true) (a.put o.dst v) w2:=by
          intro v w2 ad hv;have ai:(∀t,t≠d→env (a.put o.dst v) t=env a t)∧env (a.put o.dst v) d=Go.Eng.valOf o v:=by
            cases hod:o.dst with
            | none=>
              rw[hod] at ab;have bg:N≤d:=Nat.le_of_ble_eq_true ab;refine ⟨fun t _=>rfl,?_⟩;simp only[Go.Eng.valOf,hod];show a.tmps.getD d undef=undef;have:a.tmps.size≤d:=by rw[ha.size];exact bg
              simp[Array.getElem?_eq_none this]
            | some d'=>
              rw[hod] at ab;simp only[Bool.and_eq_true] at ab;have bi:d'=d:=Nat.eq_of_beq_eq_true ab.1;have bf:d<N:=by simpa[Nat.blt_eq] using ab.2
              subst bi;rw[zEs ha bf v];refine ⟨fun t ht=>?_,?_⟩
              · have:Nat.beq t d'=false:=by cases hb:Nat.beq t d';rfl;exact absurd (Nat.eq_of_beq_eq_true hb) ht
                simp[upd,this]
              · simp[upd,Go.Eng.valOf,hod]
          refine ih _ _ _ ?_ (ag.set hi an) (ha.put _ _) (ah w2 ad) ?_ ?_
          · have hl:aa.toList[i]?=some false:=by
              simp only[Array.getD_eq_getD_getElem?,Array.getElem?_eq_getElem aj,Option.getD_some] at h1;simp[aj,h1]
            have:=zJD (l:=aa.toList) an (by simp;omega) hl;rw[Array.toList_setIfInBounds];omega
          · intro t ht;rw[ai.1 t (fun h=>by
              subst h;have:=List.mem_of_getElem? hd;simp[this] at ht),hu t ht]
          · intro j hj d' F' al ak;by_cases hij:j=i
            · subst hij;rw[hd] at al;cases al;rw[hF] at ak;cases ak;rw[ai.2];exact FactT.at_in hv _
            · have bc:d'≠d:=by
                intro h;subst h;exact hij (zDm hn al hd)
              rw[ai.1 d' bc];rw[getD_set_ne _ (Ne.symm hij)] at hj;have h6:=hh j hj d' F' al ak;by_cases hic:i=c
              · have hg:(aa.setIfInBounds i true).getD c false=true:=by rw[←hic];simp[Array.getD_eq_getD_getElem?,aj]
                rw[hg];exact FactT.chg h6 (aq ad) (zNa hO (by rw[←hG];exact ak) (by omega))
              · have hb:Nat.beq i c=false:=by
                  cases hb:Nat.beq i c
                  · rfl
                  · exact absurd (Nat.eq_of_beq_eq_true hb) hic
                rw[hb] at ad;rw[getD_set_ne _ hic];exact FactT.ext h6 ad
        have bl:Chg (bif zLv c wss i then zAo else M) w1 w':=by
          cases ac:zLv c wss i with
          | true=>rw[ae ac] at hx;exact hx
          | false=>exact aq hx
        have bn:=af (env a) w' bl hu hH;have hw:Region.wanted o (yielded l.toArray a.tmps)=true:=by simp[Region.wanted,a2]
        unfold wpOp;simp only[h2,hw,if_true];exact Or.inl (bn a ha rfl _ _ a4)
  have ay:HeadInv .any l.toArray n (Array.replicate l.toArray.size false):=
    ⟨by simp,fun j oj _ hl=>(by rw[getD_replicate_false] at hl;cases hl),fun t _ ht=>getD_in (by simpa using ht) (getD_replicate_false _ _)⟩
  have h1:=bo n (Array.replicate l.toArray.size false) a w1 (by simp;omega) ay ha (by rw[getD_replicate_false];exact Chg.refl _ _) (fun t _=>by rw[he]) (fun j hj=>by rw[getD_replicate_false] at hj;cases hj);have e3:n+(l.length - n)=l.toArray.size:=by simp;omega
  rw[e3] at h1;exact h1
end Go.Eng
namespace Go.Proofs
open Go Go.Eng
set_option maxRecDepth 100000
section
variable {P : Program} {σ : Env} {w : World} {dst : Option Tmp} {ty : TypeId} {pos : String} {af : Array Edge} {g : Option (Nat × Bool)} {t t' e : TypeId} {x y : Operand}
theorem zKH {a:Option Addr} {n c n' c':Nat} (hu:P.underlying t=some (.slice e)) (hx:ev σ x=.slice a n c) (hy:ev σ y=.slice none n' c') :
  (execOp (ev σ) ⟨dst,.binOp .eql t x y t',ty,pos,af,g⟩).run P w=.ok (.value (.bool a.isNone)) w:=by
 have h:(Op.equalIn 10000 t (.slice a n c) (.slice none n' c')).run P w=.ok a.isNone w:=by
  rw[Op.equalIn];cases a<;>simp[run_underlying hu]
 cases a<;>simp_all[execOp,eqGuard,binOp,Op.equal,Op.maxDepth]
theorem zII {s:Operand} {a a':Option Addr} {n c c' size:Nat} (hu:P.underlying t=some (.slice e)) (hs:Siz P e size) (hx:ev σ s=.slice a n c) (hn:n≤c) (hy:ev σ x=.slice a' 0 c') :
  (execOp (ev σ) ⟨dst,.call ⟨.builtin .append,#[s,x],#[t,t]⟩,ty,pos,af,g⟩).run P w=.ok (.value (.slice a n c)) w:=by
 have hz:size*0=0:=Nat.mul_zero _;cases a<;>cases a'<;>simp[execOp,resolve,invoke,builtin,Builtin.append_,hx,hy,run_underlying hu,hs.run,Builtin.lenOf,Builtin.firstCells,loadCells,loadCellsFrom,storeCells,hn]
theorem zGM {N:Nat} {Q:zGJ} {K:Env→World→Prop} {ops:Array Oper} {rest:List Oper} {d size:Nat} (hN:d<N) (hu:P.underlying t=some (.slice e)) (hs:Siz P e size)
  (k:∀b w',New w w' b #[] e→WpL P N ops K Q rest (upd σ d (.slice (some ⟨b,0,none⟩) 0 0)) w'):WpL P N ops K Q (⟨some d,.buildSlice t 0 #[],ty,pos,af,none⟩::rest) σ w:=by
 refine zCJ (v:=.slice (some ⟨w.heap.size,0,none⟩) 0 0) (w':={w with heap:=w.heap.push (.cells #[] e (0,0))}) rfl rfl hN ?_ (k _ _ (New.mk' w #[] e));have h0:Array.range 0=#[]:=rfl;simp[execOp,Instr.buildSlice,run_underlying hu,hs.run,Instr.fill,newRow,h0]
end
theorem zGS {w:World} {b e base size:Nat} (h:Blk w b #[] e) (hb:base≤b):w.ownsRow base e size (.slice (some ⟨b,0,none⟩) 0 0) 0 []:=
 ⟨qP,.inr ⟨b,0,#[],rfl,hb,h,Nat.le_refl _,by simp[maxLen],qP,qP⟩⟩
theorem zQq (l:List Int):(l.map zPN).flatten=l.map (Value.int .i64):=by
  induction l with
  | nil=>rfl
  | cons x l ih=>simp only[List.map_cons,List.flatten_cons,ih];rfl
theorem zWv (w0:World) (v:Value) (x:Int) (l:List Int) (hs:zBt w0 v l) :
  Ret prog 170 #[v,.int .i64 x] w0 fun r w=>r=.int .i64 (idx (fun y=>decide (x=y)) l)∧Ext w0 w:=by
 obtain ⟨a,c,rfl⟩:=zBq.form hs;have ad:l.length≤9223372036854775807:=by simpa using zBq.le hs
 simp only[List.length_map] at hs⊢;refine qR func170 rfl ntmps170 rfl (fun E=>(zAA (qA _ rfl (zAB (zAK (zAA (qM _ rfl (qV (zAM underlying26 rfl) (qM _ rfl (zAB (zAT (zAq (fun nn_ σ W1=>∃(k:Nat),(∃jj_,σ=zCH jj_ [(0,(.slice a l.length c)),(1,(I6 x)),(7,(I6 (l.length:Int))),(8,(I6 (k:Int)))])∧Chg zAo w0 W1∧(k≤l.length)∧(∀(i:Nat) (y:Int),i<k→l[i]?=some y→decide (x=y)=false)∧nn_=l.length - k) (n:=l.length - 0) ?_ ?_))))))))))))
 ·exact ⟨0,zBA.out ⟨rfl,rfl,rfl,rfl,trivial⟩,E,Nat.zero_le _,(fun i y h=>absurd h (Nat.not_lt_zero _)),rfl⟩
 ·clear E;rintro _ _ W1 ⟨k,⟨j1,rfl⟩,E,hk,ab,rfl⟩;refine zAA (qV (zBH rfl rfl) (zAB (zAK (qC rfl (fun ac=>?_) (fun ac=>?_)))))
  ·obtain ⟨y,hy⟩:=zAU (l:=l) (i:=k) qO;obtain ⟨b,o,rfl,aa⟩:=zBu hs qO;refine zAP (zAC (zAK (zAT (zAA (qM _ rfl (qA _ rfl (zAB (zAA (qM _ rfl (qM _ rfl (qM _ rfl (qV (zAH (b:=b) (o:=o) (len:=l.length) (cap:=c) (i:=k) (o':=o+k) rfl rfl rfl underlying26 zAv qO qO) (qV (zAL rfl zAf (E.cell (fun f=>f) (aa k y hy))) (qV (zAk rfl rfl) (zAB (qC rfl (fun hp=>?_) (fun hp=>?_)))))))))))))))))
   ·refine zAA (qM _ rfl (qA _ rfl (zAB (zAR (zAZ (zAI (zAI (zAZ (zAI (zAW results170 (v:=(.int .i64 ((k:Nat):Int))) rfl ?_))))))))));exact ⟨zBO (zHL hy (by simpa using hp) ab).symm,E⟩
   ·refine zAP (zAS (zAC (zAN (qV (zAy rfl rfl (zBV qO)) (qM _ rfl (zAB (zAC ?_)))))));exact ⟨l.length - (k+1),qO,k+1,zBA.out ⟨rfl,rfl,rfl,rfl,trivial⟩,E,qO,zEi hy (by simpa using hp) ab,rfl⟩
  ·have hkk:k=l.length:=qO
   refine zAp (zAX (zAX (zAj (zAC (zAA (qA _ rfl (zAB (zAR (zAW results170 (v:=(.int .i64 (-1))) rfl ?_)))))))));exact ⟨zBO (zGY fun i y hy=>ab i y (by have:=zAa hy;omega) hy).symm,E⟩
theorem zWw (w0:World) (v:Value) (x:Int) (l:List Int) (hs:zBt w0 v l) :
  Ret prog 128 #[v,.int .i64 x] w0 fun r w=>r=.bool (l.contains x)∧Ext w0 w:=by
 refine qR func128 rfl ntmps128 rfl (fun E=>(zAA (qA _ rfl (zAB (zAA (qM v rfl (qM _ rfl (qE rfl (zAV func170 zYa zZg rfl) (zWv _ v x l hs) ?_))))))));rintro _ w9 ⟨rfl,X9⟩;replace E:=E.ext X9;refine qV (zFG rfl rfl) (qA _ rfl (zAB (zAR (zAW results128 (v:=(.bool (decide ((0:Int)≤idx (fun y=>decide (x=y)) l)))) rfl ?_))));exact ⟨zAx ((zGB _ l).trans (by rw[List.contains_eq_any_beq];congr 1)),E⟩
end Go.Proofs
namespace Go.Proofs
open Go Go.Eng
set_option maxRecDepth 100000
theorem zNY {P:Program} {w:World} {e:TypeId} {cs:Array Value} {o:Nat} {v:Value} (hf:zEy P e=true) (hv:cs[o]?=some v):(part e cs o).run P w=.ok v w:=by
 simp[part,zEy.run hf,hv]
theorem zIa {α:Type} {l m:List α} (hl:l.length=m.length) (h:∀i,i<l.length→l[i]?=m[i]?):l=m:=by
 apply List.ext_getElem?;intro i;rcases Nat.lt_or_ge i l.length with h'|h'
 ·exact h i h'
 ·rw[List.getElem?_eq_none h',List.getElem?_eq_none qO]
section
variable {P : Program} {σ : Env} {w : World} {dst : Option Tmp} {ty : TypeId} {pos : String} {af : Array Edge} {g : Option (Nat × Bool)} {t t' e : TypeId} {x y : Operand}
theorem zLh {f0 f1 : Field} (d : Nat) (a b c f : Int) (hp : P.stoodInHeld t = false) (ht : P.underlying t = some (.struct #[f0, f1])) (hn0 : f0.name ≠ "_") (hn1 : f1.name ≠ "_") (ho0 : f0.offset = 0) (ho1 : f1.offset = 1) (h0 : f0.type = e) (h1 : f1.type = e) (he : P.underlying e = some (.int .i64)) (hf : zEy P e = true) :
  (Op.equalIn (d+2) t (.agg #[.int .i64 a,.int .i64 b]) (.agg #[.int .i64 c,.int .i64 f])).run P w=.ok (decide (a=c) && decide (b=f)) w:=by
 have q1:∀x y:Int,(Op.equalIn (d+1) e (.int .i64 x) (.int .i64 y)).run P w=.ok (x == y) w:=fun x y=>run_equalIn_int w d e .i64 .i64 x y he;have p0:∀x y:Int,(part e #[.int .i64 x,.int .i64 y] 0).run P w=.ok (.int .i64 x) w:=fun x y=>zNY hf rfl;have p1:∀x y:Int,(part e #[.int .i64 x,.int .i64 y] 1).run P w=.ok (.int .i64 y) w:=fun x y=>zNY hf rfl;have aa:(program).run P w=.ok P w:=rfl;rw[Op.equalIn];simp only[Sem.run_bind,run_underlying ht,Result.andThen_ok,aa,hp];by_cases hac:a=c
 ·by_cases hbf:b=f
  ·simp[hn0,hn1,ho0,ho1,h0,h1,p0,p1,q1,hac,hbf]
  ·simp[hn0,hn1,ho0,ho1,h0,h1,p0,p1,q1,hac,hbf]
 ·simp[hn0,hn1,ho0,ho1,h0,h1,p0,q1,hac]
theorem zLJ {f0 f1 : Field} {a b c f : Int} (hp : P.stoodInHeld t = false) (ht : P.underlying t = some (.struct #[f0, f1])) (hn0 : f0.name ≠ "_") (hn1 : f1.name ≠ "_") (ho0 : f0.offset = 0) (ho1 : f1.offset = 1) (h0 : f0.type = e) (h1 : f1.type = e) (he : P.underlying e = some (.int .i64)) (hf : zEy P e = true) (hm : P.eqGuardType P.depth t = false)
  (hx:ev σ x=.agg #[.int .i64 a,.int .i64 b]) (hy:ev σ y=.agg #[.int .i64 c,.int .i64 f]) :
  (execOp (ev σ) ⟨dst,.binOp .neq t x y t',ty,pos,af,g⟩).run P w=.ok (.value (.bool (!(decide (a=c) && decide (b=f))))) w:=by
 have h:=zLh (P:=P) (w:=w) 9998 a b c f hp ht hn0 hn1 ho0 ho1 h0 h1 he hf;simp only[execOp,hx,hy,Sem.run_bind,run_eqGuard_agg w .neq t x y _ _ hm,Result.andThen_ok,run_neq_struct,h];rfl
end
theorem zQu:prog.eqGuardType prog.depth 103=false:=by kernel_rfl
theorem zKq:prog.stoodInHeld 103=false:=by kernel_rfl
theorem zTX (w0:World) (v1 v2:Value) (l1 l2:List (Int×Int)) (h1:zBQ w0 v1 l1) (h2:zBQ w0 v2 l2) :
  Ret prog 80 #[v1,v2] w0 fun v w=>v=.bool (decide (l1=l2))∧Ext w0 w:=by
 obtain ⟨a1,c1,rfl⟩:=zBq.form h1;obtain ⟨a2,c2,rfl⟩:=zBq.form h2;have hb1:l1.length≤9223372036854775807:=by simpa using zBq.le h1
 simp only[List.length_map] at h1 h2⊢;refine qR func80 rfl ntmps80 rfl (fun E=>(zAA (qA _ rfl (zAB (zAK (zAA (qM _ rfl (qV (zAM underlying22 rfl) (qM _ rfl (qV (zAM underlying22 rfl) (qV (zBo rfl rfl) (zAB (qC rfl (fun hl=>?_) (fun hl=>?_))))))))))))))
 ·refine zAA (qA _ rfl (zAB (zAR (zAI (zAW results80 (v:=(.bool false)) rfl ?_)))));exact ⟨zAx (by symm;rw[decide_eq_false_iff_not];intro h;rw[h] at hl;exact hl rfl),E⟩
 ·refine zAP (zAC (zAK (zAA (qM _ rfl (qV (zAM underlying22 rfl) (qM _ rfl (zAB (zAT (zAq (fun nn_ σ W2=>∃(k:Nat),(∃jj_,σ=zCH jj_ [(0,(.slice a1 l1.length c1)),(1,(.slice a2 l2.length c2)),(12,(I6 (l1.length:Int))),(13,(I6 (k:Int)))])∧Chg zAo w0 W2∧(k≤l1.length)∧(∀(i:Nat),i<k→l1[i]?=l2[i]?)∧nn_=l1.length - k) (n:=l1.length - 0) ?_ ?_)))))))))
  ·exact ⟨0,zBA.out ⟨rfl,rfl,rfl,rfl,trivial⟩,E,Nat.zero_le _,(fun i h=>absurd h (Nat.not_lt_zero _)),rfl⟩
  ·clear E;rintro _ _ W2 ⟨k,⟨j2,rfl⟩,E,hk,ad,rfl⟩;refine zAA (qV (zBH rfl rfl) (zAB (zAK (qC rfl (fun ae=>?_) (fun ae=>?_)))))
   ·obtain ⟨p,hp⟩:=zAU (l:=l1) (i:=k) qO;obtain ⟨q,hq⟩:=zAU (l:=l2) (i:=k) qO;obtain ⟨b1,o1,rfl,ag⟩:=zBN h1 qO;obtain ⟨b2,o2,rfl,af⟩:=zBN h2 qO;refine zAP (zAC (zAK (zAT (zAA (qM _ rfl (qA _ rfl (zAB (zCs 8 mixed qK ?_))))))));intro w4 X4 _;replace E:=E.ext X4;refine qT (zAi rfl) (qT (zAi rfl) (qT (zAH (b:=b1) (o:=o1) (len:=l1.length) (cap:=c1) (i:=k) (o':=o1+k*2) rfl rfl rfl underlying22 zBB qO qO) (qT (zAG rfl zCi zBB rfl ((ag k p hp).ext E)) (qT (zAi rfl) (qT (zAi rfl) (qT (zAH (b:=b2) (o:=o2) (len:=l2.length) (cap:=c2) (i:=k) (o':=o2+k*2) rfl rfl rfl underlying22 zBB qO qO) (qT (zAG rfl zCi zBB rfl ((af k q hq).ext E)) (zEO (zCJ (v:=(.bool (!(decide (p.1=q.1) && decide (p.2=q.2))))) rfl rfl qD (zLJ zKq underlying103 qD qD rfl rfl rfl rfl underlying3 zAf zQu rfl rfl) (zAB (zAt rfl (fun aa=>?_) (fun aa=>?_))))))))))))
    ·have ab:=aa;replace aa:=by simpa using aa
     refine zAA (qA _ rfl (zAB (zAR (zAZ (zAI (zAI (zAZ (zAI (zAW results80 (v:=(.bool false)) rfl ?_)))))))));exact ⟨zAx (by symm;rw[decide_eq_false_iff_not];intro h;subst h;rw[hp] at hq;cases hq;simp at aa),E⟩
    ·have ab:=aa;replace aa:=by simpa using aa
     have ac:p=q:=by obtain ⟨p1,p2⟩:=p;obtain ⟨q1,q2⟩:=q;simp at aa;simp;exact aa
     refine zAP (zAS (zAC (zAN (qV (zAy rfl rfl (zBV qO)) (qM _ rfl (zAB (zAC ?_)))))));exact ⟨l1.length - (k+1),qO,k+1,zBA.out ⟨rfl,rfl,rfl,rfl,trivial⟩,E,qO,(fun i hi=>by rcases Nat.lt_or_ge i k with h|h;exact ad i h;obtain rfl:i=k:=qO;rw[hp,hq,ac]),rfl⟩
   ·have hkk:k=l1.length:=qO
    refine zAp (zAX (zAX (zAj (zAC (zAA (qA _ rfl (zAB (zAR (zAW results80 (v:=(.bool true)) rfl ?_)))))))));exact ⟨zAx (by symm;rw[decide_eq_true_eq];exact zIa qO (fun i hi=>ad i qO)),E⟩
theorem zJP {w:World} {b o:Nat} {l:List (Int×Int)} (h:∀i s,l[i]?=some s→zBD w b (o+i*2) [.int .i64 s.1,.int .i64 s.2]):zBD w b o (l.map zBh).flatten:=by
  induction l generalizing o with
  | nil=>intro i v hv;simp at hv
  | cons s l ih=>
    have h0:=h 0 s rfl;have h1:=ih (o:=o+2) (fun i u hu=>by have:=h (i+1) u (by simpa using hu);rwa [show o+(i+1)*2=o+2+i*2 from qO] at this);intro i v hv;simp only[List.map_cons,List.flatten_cons] at hv;have hl:(zBh s).length=2:=rfl;rcases Nat.lt_or_ge i 2 with hi|hi
    · rw[List.getElem?_append_left qO] at hv;have:=h0 i v hv;simpa using this
    · rw[List.getElem?_append_right qO] at hv;have:=h1 (i - 2) v (by rw[hl] at hv;exact hv)
      rwa [show o+2+(i - 2)=o+i from qO] at this
theorem zEV (l:List (Int×Int)):(l.map zBh).flatten.length=l.length*2:=by
  induction l with
  | nil=>rfl
  | cons s l ih=>simp only[List.map_cons,List.flatten_cons,List.length_append,ih,List.length_cons];have:(zBh s).length=2:=rfl;omega
theorem zKt (l:List (Int×Int)):∀u∈(l.map zBh).flatten,u.oneCell'=true:=by
 intro u hu;simp only[List.mem_flatten,List.mem_map] at hu;obtain ⟨r,⟨s,_,rfl⟩,hu⟩:=hu;simp[zBh] at hu;rcases hu with rfl|rfl<;>rfl
def zCI (x y:Int):Int:=if x<y then -1 else if y<x then 1 else 0
theorem zWp (w0:World) (x:Int):Ret prog 180 #[.int .i64 x] w0 fun v w=>v=.bool false∧Ext w0 w:=by
 refine qR func180 rfl ntmps180 rfl (fun E=>(zAA (qA _ rfl (zAB (zAA (qM _ rfl (qM _ rfl (qV (zBo rfl rfl) (qA _ rfl (zAB (zAR (zAW results180 (v:=(.bool (decide ((x:Int)≠x)))) rfl ?_))))))))))));exact ⟨zAx qP,E⟩
theorem zDx (w0:World) (x y:Int):Ret prog 158 #[.int .i64 x,.int .i64 y] w0 fun v w=>v=.int .i64 (zCI x y)∧Ext w0 w:=by
 refine qR func158 rfl ntmps158 rfl (fun E=>(zAA (qA _ rfl (zAB (zAA (qM _ rfl (qE rfl (zAV func180 zWe zXO rfl) (zWp _ x) ?_)))))));rintro _ w9 ⟨rfl,X9⟩;replace E:=E.ext X9;refine qA _ rfl (zAB (zAA (qM _ rfl (qE rfl (zAV func180 zWe zXO rfl) (zWp _ y) ?_))));rintro _ w19 ⟨rfl,aa⟩;replace E:=E.ext aa;refine qA _ rfl (zAB (zAK (zAA (qM _ rfl (zAB (zAb rfl (zAP (zAC (zAK (zAA (qM _ rfl (zAB (zAb rfl (zAP (zAC (zAK (zAA (qM _ rfl (qM _ rfl (qV (zBH rfl rfl) (zAB (qC rfl (fun h1=>?_) (fun h1=>?_)))))))))))))))))))))))
 ·refine zAA (qA _ rfl (zAB (zAR (zAI (zAW results158 (v:=(.int .i64 (-1))) rfl ?_)))));exact ⟨zBO (by unfold zCI;rw[if_pos h1]),E⟩
 ·refine zAP (zAC (zAK (zAA (qM _ rfl (qM _ rfl (qV (zCN rfl rfl) (zAB (qC rfl (fun h2=>?_) (fun h2=>?_)))))))))
  ·refine zAA (qA _ rfl (zAB (zAR (zAI (zAW results158 (v:=(.int .i64 1)) rfl ?_)))));exact ⟨zBO (by unfold zCI;rw[if_neg h1,if_pos h2]),E⟩
  ·refine zAP (zAC (zAA (qA _ rfl (zAB (zAR (zAW results158 (v:=(.int .i64 0)) rfl ?_))))));exact ⟨zBO (by unfold zCI;rw[if_neg h1,if_neg h2]),E⟩
section
variable {P : Program} {σ : Env} {w : World} {dst : Option Tmp} {ty : TypeId} {pos : String} {af : Array Edge} {g : Option (Nat × Bool)} {tys : Array TypeId} {x y : Operand} {k : IntKind} {a b c : Int}
theorem zPz (hx:ev σ x=.int k a) (hy:ev σ y=.int k b) (hc:max a b=c) :
  (execOp (ev σ) ⟨dst,.call ⟨.builtin .max,#[x,y],tys⟩,ty,pos,af,g⟩).run P w=.ok (.value (.int k c)) w:=by
 subst hc;have:(if a<b then b else a)=max a b:=by split<;>omega
 simp[execOp,resolve,invoke,builtin,Builtin.max_,Builtin.max2,hx,hy,this]
end
end Go.Proofs
namespace Go.Eng
open Go
def zDK (S:Nat→Prop) (w:World) (k:Nat) (v:Value) (rows:List (List Value)):Prop:=
 ∃a cap,v=.slice a rows.length cap∧rows.length≤9223372036854775807∧rows.length≤cap∧(rows=[]∨∃b o,S b∧a=some ⟨b,o,none⟩∧∀i r,rows[i]?=some r→zBD w b (o+i*k) r)
theorem zDK.at {S:Nat→Prop} {w:World} {k:Nat} {v:Value} {rows:List (List Value)} (h:zDK S w k v rows):zBq w k v rows:=by
 obtain ⟨a,aa,h1,h2,h3,h4⟩:=h;refine ⟨a,aa,h1,h2,h3,?_⟩;rcases h4 with h|⟨b,o,_,h5,h6⟩
 ·exact .inl h
 ·exact .inr ⟨b,o,h5,h6⟩
theorem zDK.chg {S M:Nat→Prop} {w w':World} {k:Nat} {v:Value} {rows:List (List Value)} (h:zDK S w k v rows) (c:Chg M w w') (hm:∀b,S b→¬M b):zDK S w' k v rows:=by
 obtain ⟨a,aa,h1,h2,h3,h4⟩:=h;refine ⟨a,aa,h1,h2,h3,?_⟩;rcases h4 with h|⟨b,o,hb,h5,h6⟩
 ·exact .inl h
 ·exact .inr ⟨b,o,hb,h5,fun i r hr=>(h6 i r hr).chg c (hm b hb)⟩
theorem zDK.mono {S S':Nat→Prop} {w:World} {k:Nat} {v:Value} {rows:List (List Value)} (h:zDK S w k v rows) (hs:∀b,S b→S' b):zDK S' w k v rows:=by
 obtain ⟨a,aa,h1,h2,h3,h4⟩:=h;refine ⟨a,aa,h1,h2,h3,?_⟩;rcases h4 with h|⟨b,o,hb,h5⟩
 ·exact .inl h
 ·exact .inr ⟨b,o,hs b hb,h5⟩
theorem zDK.nil (S:Nat→Prop) (w:World) (k:Nat) (a:Option Addr) (cap:Nat):zDK S w k (.slice a 0 cap) []:=⟨a,cap,rfl,qP,qP,.inl rfl⟩
theorem zDK.mk {S:Nat→Prop} {w:World} {k:Nat} {b o n c:Nat} {rows:List (List Value)} (h:zBq w k (.slice (some ⟨b,o,none⟩) n c) rows) (hs:S b):zDK S w k (.slice (some ⟨b,o,none⟩) n c) rows:=by
 obtain ⟨a,aa,h1,h2,h3,h4⟩:=h;refine ⟨a,aa,h1,h2,h3,?_⟩;rcases h4 with h|⟨b',o',h5,h6⟩
 ·exact .inl h
 ·simp only[Value.slice.injEq] at h1;have:b'=b:=by rw[←h1.1] at h5;simp at h5;exact h5.1.symm
  exact .inr ⟨b',o',this▸hs,h5,h6⟩
mutual
def zAe (S:Nat→Prop) (w:World):Re→List Value→Prop
  | .mk k set args mn mx ng,vs=>∃sa sc aa ac,vs=[.int .i64 k,.slice sa set.length sc,.slice aa args.length ac,.int .i64 mn,.int .i64 mx,.bool ng]∧zDK S w 2 (.slice sa set.length sc) (set.map zBh)∧(args.length≤ac∧ac≤9223372036854775807)∧
      (args=[]∨∃b o,S b∧aa=some ⟨b,o,none⟩∧zBX S w b o args)
def zBX (S:Nat→Prop) (w:World) (b:Nat):Nat→List Re→Prop
  | _,[]=>True
  | o,t::ts=>(∃vs,zBD w b o vs∧zAe S w t vs)∧zBX S w b (o+6) ts
end
mutual
theorem zAe.at {S:Nat→Prop} {w:World}:∀(t:Re) {vs:List Value},zAe S w t vs→zBG w t vs
  | .mk k set args mn mx ng,vs,h=>by
    simp only[zAe] at h;simp only[zBG];obtain ⟨sa,sc,aa,ac,hv,hs,hl,ha⟩:=h;refine ⟨sa,sc,aa,ac,hv,hs.at,hl,?_⟩;rcases ha with h|⟨b,o,_,h1,h2⟩
    · exact .inl h
    · exact .inr ⟨b,o,h1,zBX.at args h2⟩
theorem zBX.at {S:Nat→Prop} {w:World} {b:Nat}:∀(ts:List Re) {o:Nat},zBX S w b o ts→zCO w b o ts
  | [],_,_=>by simp only[zCO]
  | t::ts,o,h=>by
    simp only[zBX] at h;simp only[zCO];obtain ⟨⟨vs,h1,h2⟩,h3⟩:=h;exact ⟨⟨vs,h1,zAe.at t h2⟩,zBX.at ts h3⟩
end
mutual
theorem zAe.chg {S M:Nat→Prop} {w w':World} (c:Chg M w w') (hm:∀b,S b→¬M b):∀(t:Re) {vs:List Value},zAe S w t vs→zAe S w' t vs
  | .mk k set args mn mx ng,vs,h=>by
    simp only[zAe] at h⊢;obtain ⟨sa,sc,aa,ac,hv,hs,hl,ha⟩:=h;refine ⟨sa,sc,aa,ac,hv,hs.chg c hm,hl,?_⟩;rcases ha with h|⟨b,o,hb,h1,h2⟩
    · exact .inl h
    · exact .inr ⟨b,o,hb,h1,zBX.chg c hm args hb h2⟩
theorem zBX.chg {S M:Nat→Prop} {w w':World} (c:Chg M w w') (hm:∀b,S b→¬M b) {b:Nat}:∀(ts:List Re) {o:Nat},S b→zBX S w b o ts→zBX S w' b o ts
  | [],_,_,_=>by simp only[zBX]
  | t::ts,o,hb,h=>by
    simp only[zBX] at h⊢;obtain ⟨⟨vs,h1,h2⟩,h3⟩:=h;exact ⟨⟨vs,h1.chg c (hm b hb),zAe.chg c hm t h2⟩,zBX.chg c hm ts hb h3⟩
end
mutual
theorem zAe.mono {S S':Nat→Prop} {w:World} (hs:∀b,S b→S' b):∀(t:Re) {vs:List Value},zAe S w t vs→zAe S' w t vs
  | .mk k set args mn mx ng,vs,h=>by
    simp only[zAe] at h⊢;obtain ⟨sa,sc,aa,ac,hv,h0,hl,ha⟩:=h;refine ⟨sa,sc,aa,ac,hv,h0.mono hs,hl,?_⟩;rcases ha with h|⟨b,o,hb,h1,h2⟩
    · exact .inl h
    · exact .inr ⟨b,o,hs b hb,h1,zBX.mono hs args h2⟩
theorem zBX.mono {S S':Nat→Prop} {w:World} (hs:∀b,S b→S' b) {b:Nat}:∀(ts:List Re) {o:Nat},zBX S w b o ts→zBX S' w b o ts
  | [],_,_=>by simp only[zBX]
  | t::ts,o,h=>by
    simp only[zBX] at h⊢;obtain ⟨⟨vs,h1,h2⟩,h3⟩:=h;exact ⟨⟨vs,h1,zAe.mono hs t h2⟩,zBX.mono hs ts h3⟩
end
theorem zAe.ext {S:Nat→Prop} {w w':World} (e:Ext w w') (t:Re) {vs:List Value} (h:zAe S w t vs):zAe S w' t vs:=zAe.chg e (fun _ _ f=>f) t h
theorem zAe.form {S:Nat→Prop} {w:World} {t:Re} {vs:List Value} (h:zAe S w t vs):∃sa sc aa ac,vs=[.int .i64 t.kind,.slice sa t.set.length sc,.slice aa t.args.length ac,.int .i64 t.mn,.int .i64 t.mx,.bool t.neg]∧zDK S w 2 (.slice sa t.set.length sc) (t.set.map zBh)∧(t.args.length≤ac∧ac≤9223372036854775807)∧
  (t.args=[]∨∃b o,S b∧aa=some ⟨b,o,none⟩∧zBX S w b o t.args):=by
 cases t;simp only[zAe] at h;exact h
theorem zAe.of {S:Nat→Prop} {w:World} {k:Int} {set:List (Int×Int)} {args:List Re} {mn mx:Int} {ng:Bool} {sa aa:Option Addr} {sc ac:Nat} (hs:zDK S w 2 (.slice sa set.length sc) (set.map zBh)) (hl:(args.length≤ac∧ac≤9223372036854775807)) (ha:args=[]∨∃b o,S b∧aa=some ⟨b,o,none⟩∧zBX S w b o args) :
  zAe S w (.mk k set args mn mx ng) [.int .i64 k,.slice sa set.length sc,.slice aa args.length ac,.int .i64 mn,.int .i64 mx,.bool ng]:=by
 simp only[zAe];exact ⟨sa,sc,aa,ac,rfl,hs,hl,ha⟩
theorem zBX.one {S:Nat→Prop} {w:World} {b o:Nat} {t:Re} {vs:List Value} (hc:zBD w b o vs) (h:zAe S w t vs):zBX S w b o [t]:=by
 simp only[zBX];exact ⟨⟨vs,hc,h⟩,trivial⟩
theorem zBX.two {S:Nat→Prop} {w:World} {b o:Nat} {t u:Re} {vs us:List Value} (hc:zBD w b o vs) (h:zAe S w t vs) (hc':zBD w b (o+6) us) (h':zAe S w u us):zBX S w b o [t,u]:=by
 simp only[zBX];exact ⟨⟨vs,hc,h⟩,⟨us,hc',h'⟩,trivial⟩
theorem zBX.get {S:Nat→Prop} {w:World} {b:Nat}:∀{ts:List Re} {o i:Nat} {t:Re},zBX S w b o ts→ts[i]?=some t→∃vs,zBD w b (o+i*6) vs∧zAe S w t vs
  | [],_,_,_,_,h=>by simp at h
  | x::ts,o,0,t,h,hi=>by
    simp only[zBX] at h;simp at hi;subst hi;simpa using h.1
  | x::ts,o,i+1,t,h,hi=>by
    simp only[zBX] at h;have:=zBX.get h.2 (i:=i) (by simpa using hi)
    rwa [show o+(i+1)*6=o+6+i*6 from qO]
theorem zAe.len {S:Nat→Prop} {w:World} {t:Re} {vs:List Value} (h:zAe S w t vs):vs.length=6:=(zAe.at t h).len
theorem zAe.of_at {w:World}:∀(t:Re) {vs:List Value},zBG w t vs→zAe (fun b=>b<w.heap.size) w t vs:=by
  intro t;have ad:∀n,(∀t:Re,t.size≤n→∀vs,zBG w t vs→zAe (fun b=>b<w.heap.size) w t vs):=by
    intro n
    induction n with
    | zero=>intro t ht;have:=t.size_pos;omega
    | succ n ih=>
      intro t hn vs h;obtain ⟨sa,sc,aa,ac,rfl,hs,hl,ha⟩:=h.form;have hsz:=t.size_eq;cases t with
      | mk k set args mn mx ng=>
      simp only[Re.kind,Re.set,Re.args,Re.mn,Re.mx,Re.neg] at *;refine zAe.of ?_ hl ?_
      · obtain ⟨a,ae,h1,h2,h3,h4⟩:=hs;refine ⟨a,ae,h1,h2,h3,?_⟩;rcases h4 with h|⟨b,o,h5,h6⟩
        · exact .inl h
        · cases set with
          | nil=>exact .inl rfl
          | cons s r=>
            have:=h6 0 (zBh s) rfl 0 _ rfl;exact .inr ⟨b,o,World.block_lt_of_cell? w _ this,h5,h6⟩
      · rcases ha with h|⟨b,o,h1,h2⟩
        · exact .inl h
        · have ab:∀(ts:List Re) (o:Nat),Re.sizes ts≤n→zCO w b o ts→zBX (fun b=>b<w.heap.size) w b o ts:=by
            intro ts
            induction ts with
            | nil=>intro _ _ _;simp only[zBX]
            | cons t ts ih2=>
              intro o hz h;simp only[Re.sizes] at hz;simp only[zCO] at h;simp only[zBX];obtain ⟨⟨vs,h3,h4⟩,h5⟩:=h;exact ⟨⟨vs,h3,ih t qO vs h4⟩,ih2 _ qO h5⟩
          cases args with
          | nil=>exact .inl rfl
          | cons t ts=>
            have h3:=h2;simp only[zCO] at h3;obtain ⟨⟨vs,h4,h5⟩,_⟩:=h3;obtain ⟨_,_,_,_,rfl,_⟩:=h5.form;have:=h4 0 _ rfl;exact .inr ⟨b,o,World.block_lt_of_cell? w _ this,h1,ab _ o qO h2⟩
  exact fun {vs} h=>ad t.size t (Nat.le_refl _) vs h
end Go.Eng
namespace Go.Proofs
open Go Go.Eng
set_option maxRecDepth 100000
def zNd (r:Int):Re:=.mk 2 [(r,r)] [] 0 0 false
theorem zWZ {w:World} {b:Nat} {r:Int} (h:zBQ w (.slice (some ⟨b,0,none⟩) 1 1) [(r,r)]):zBG w (zNd r) [.int .i64 2,.slice (some ⟨b,0,none⟩) 1 1,.slice none 0 0,.int .i64 0,.int .i64 0,.bool false]:=
 zBG.of (set:=[(r,r)]) (args:=[]) h qP (.inl rfl)
end Go.Proofs
namespace Go.Proofs
open Go Go.Eng
set_option maxRecDepth 100000
theorem zSO {k:Int} (h:k=3∨k=4∨k=7) (t u:Re):zCS (.mk k [] [t,u] 0 0 false)=0:=by
 rcases h with rfl|rfl|rfl<;>simp[zCS,zDb,okB,Re.kind,Re.set,Re.args,Re.mn,Re.mx,Re.neg]
theorem zSP {mn mx:Int} (h0:0≤mn) (h1:mn≤mx) (h2:mx≤8) (t:Re):zCS (.mk 6 [] [t] mn mx false)=0:=by
 simp[zCS,zDb,okB,Re.kind,Re.set,Re.args,Re.mn,Re.mx,Re.neg];omega
end Go.Proofs
namespace Go.Proofs
open Go Go.Eng
def Wf (n:Nat) (R:Rl):Prop:=∀i j,R i j=true→i≤j∧j≤n
theorem zRp (n:Nat):Wf n noR:=fun i j h=>by simp[noR] at h
theorem zMI (n:Nat):Wf n (idR n):=fun i j h=>by simp[idR] at h;omega
theorem zUE {n:Nat} {A B:Rl} (a:Wf n A) (b:Wf n B):Wf n (orR A B):=fun i j h=>by
 simp only[orR,Bool.or_eq_true] at h;rcases h with h|h;exact a i j h;exact b i j h
theorem zWC {n:Nat} {A B:Rl} (a:Wf n A):Wf n (zXp A B):=fun i j h=>by
 simp only[zXp,Bool.and_eq_true] at h;exact a i j h.1
theorem zHv {n:Nat} {A B:Rl} (a:Wf n A) (b:Wf n B):Wf n (zDR A B n):=fun i k h=>by
 simp only[zDR,Bool.and_eq_true,List.any_eq_true] at h;obtain ⟨_,j,_,h1,h2⟩:=h;have:=a i j h1;have:=b j k h2;omega
theorem zMH {n:Nat} {A:Rl} (a:Wf n A):∀m,Wf n (zRs n A m)
  | 0=>zMI n
  | m+1=>zUE (zMH a m) (zHv (zMH a m) a)
theorem zTU {n:Nat} {A:Rl} (a:Wf n A):∀m,Wf n (zYE n A m)
  | 0=>zMI n
  | m+1=>zHv (zTU a m) a
theorem zPU {n:Nat} {A:Rl} (a:Wf n A) (mn:Int):∀m,Wf n (zWP n A mn m)
  | 0=>zRp n
  | m+1=>by
    simp only[zWP];split
    · exact zUE (zPU a mn m) (zTU a m)
    · exact zPU a mn m
theorem zWB (n:Nat) (A:Rl):Wf n (zYF n A):=fun i j h=>by simp[zYF] at h;omega
theorem zUF (n:Nat) (A:Rl) (ng:Bool):Wf n (zVC n A ng):=fun i j h=>by simp[zVC] at h;omega
theorem zWA (text:List Int) (set:List (Int×Int)):Wf text.length (zYA text set):=fun i j h=>by
  simp only[zYA,Bool.and_eq_true,decide_eq_true_eq] at h;obtain ⟨h1,rfl⟩:=h;cases hx:text[i]? with
  | none=>simp[hx] at h1
  | some c=>have:=zAa hx;omega
theorem zJv {n:Nat} {L:List Rl} (h:∀x∈L,Wf n x):Wf n (L.headD noR):=by
  cases L with
  | nil=>exact zRp n
  | cons x r=>exact h x qP
theorem zFs {n:Nat}:∀(L:List Rl) (A:Rl),Wf n A→(∀x∈L,Wf n x)→Wf n (L.foldl (fun a x=>zDR a x n) A)
  | [],_,h,_=>h
  | x::L,A,h,hl=>zFs L _ (zHv h (hl x qP)) fun y hy=>hl y (by simp[hy])
theorem zKk {n:Nat}:∀(L:List Rl) (A:Rl),Wf n A→(∀x∈L,Wf n x)→Wf n (L.foldl orR A)
  | [],_,h,_=>h
  | x::L,A,h,hl=>zKk L _ (zUE h (hl x qP)) fun y hy=>hl y (by simp[hy])
theorem zJI {n:Nat}:∀(L:List Rl) (A:Rl),Wf n A→Wf n (L.foldl zXp A)
  | [],_,h=>h
  | x::L,A,h=>zJI L _ (zWC h)
theorem zUD (text:List Int) (k:Int) (set:List (Int×Int)) (L:List Rl) (mn mx:Int) (ng:Bool) (h:∀x∈L,Wf text.length x):Wf text.length (zVw text k set L mn mx ng):=by
 unfold zVw
 repeat' split
 ·exact zMI _
 ·exact zWA _ _
 ·exact zFs _ _ (zMI _) h
 ·exact zKk _ _ (zRp _) h
 ·exact zJI _ _ (zJv h)
 ·exact zWB _ _
 ·exact zMH (zJv h) _
 ·exact zPU (zJv h) _ _
 ·exact zJv h
 ·exact zUF _ _ _
 ·exact zRp _
mutual
theorem zFn (text:List Int):∀(t:Re),Wf text.length (zEb text t)
  | .mk k set args mn mx ng=>by simp only[zEb];exact zUD _ _ _ _ _ _ _ (zPV text args)
theorem zPV (text:List Int):∀(ts:List Re),∀x∈zHW text ts,Wf text.length x
  | [],_,h=>by simp[zHW] at h
  | t::ts,x,h=>by
    simp only[zHW,List.mem_cons] at h;rcases h with rfl|h
    · exact zFn text t
    · exact zPV text ts x h
end
theorem zNL {A B:Rl} (h:∀i j,A i j=true↔B i j=true):A=B:=by
 funext i j;exact Bool.eq_iff_iff.2 (h i j)
theorem zDg {n:Nat} (hn:n≤24) {A B:Rl} (a:Wf n A) (i k:Nat):zDR A B n i k=true↔∃j,A i j=true∧B j k=true:=by
 simp only[zDR,Bool.and_eq_true,List.any_eq_true,List.mem_range,decide_eq_true_eq];constructor
 ·rintro ⟨_,j,_,h⟩;exact ⟨j,h⟩
 ·rintro ⟨j,h1,h2⟩;have:=a i j h1;exact ⟨qO,j,qO,h1,h2⟩
theorem zJc (n i j:Nat):idR n i j=true↔i≤n∧j=i:=by simp[idR]
theorem zMg {n:Nat} (hn:n≤24) {A:Rl} (a:Wf n A):zDR (idR n) A n=A:=zNL fun i k=>by
 rw[zDg hn (zMI n)];constructor
 ·rintro ⟨j,h1,h2⟩;rw[zJc] at h1;obtain ⟨_,rfl⟩:=h1;exact h2
 ·intro h;have:=a i k h;exact ⟨i,(zJc n i i).2 ⟨qO,rfl⟩,h⟩
theorem zGw {n:Nat} (hn:n≤24) {A B C:Rl} (a:Wf n A) (b:Wf n B):zDR A (zDR B C n) n=zDR (zDR A B n) C n:=zNL fun i k=>by
 rw[zDg hn a,zDg hn (zHv a b)];constructor
 ·rintro ⟨j,h1,h2⟩;rw[zDg hn b] at h2;obtain ⟨m,h3,h4⟩:=h2;exact ⟨m,(zDg hn a i m).2 ⟨j,h1,h3⟩,h4⟩
 ·rintro ⟨j,h1,h2⟩;rw[zDg hn a] at h1;obtain ⟨m,h3,h4⟩:=h1;exact ⟨m,h3,(zDg hn b m k).2 ⟨j,h4,h2⟩⟩
abbrev zXH (s t:Re):Re:=.mk 3 [] [s,t] 0 0 false
abbrev zBT:Re:=.mk 1 [] [] 0 0 false
abbrev zBa:Re:=.mk 0 [] [] 0 0 false
section
variable (text : List Int)
theorem zUi (hn:text.length≤24) (s t:Re):zEb text (zXH s t)=zDR (zEb text s) (zEb text t) text.length:=by
 simp only[zEb,zHW,zVw,List.foldl];simp[zMg hn (zFn text s)]
end
theorem zNe {k:Int} (h:k=3∨k=4∨k=7) {s t:Re} (a:zEB s) (b:zEB t):zEB (.mk k [] [s,t] 0 0 false):=by simp only[zEB,zDJ];exact ⟨zSO h s t,a,b,trivial⟩
def Txt (text:List Int):Prop:=text.length≤24∧∀x∈text,zFl x=true
theorem zJq {t:Re} {text:List Int} (ht:zEB t) (hs:t.size≤40) (h:Txt text):zOG t text=0:=by
 have h1:zDi t 40=0:=(zHM qD qD).2 ⟨ht,qO⟩;unfold zOG;rw[if_neg (by simp[h1]),if_neg (by have:=h.1;omega),if_neg];simp only[List.any_eq_true,Bool.not_eq_true',not_exists,not_and];intro x hx;simp[h.2 x hx]
/-- Two expressions of which the program says that they match the same parts of a text. -/
def Sm (s t:Re) (text:List Int):Prop:=zOG s text=0∧zOG t text=0∧zTe (zEb text s) (text.length+1)=zTe (zEb text t) (text.length+1)
theorem zXw {s t:Re} {text:List Int} (h:Txt text) (a:zEB s) (b:zEB t) (ha:s.size≤40) (hb:t.size≤40) (he:zEb text s=zEb text t):Sm s t text:=
 ⟨zJq a ha h,zJq b hb h,by rw[he]⟩
section
variable {text : List Int} (h : Txt text) {a b c : Re} (oa : zEB a) (ob : zEB b) (oc : zEB c)
include h oa
theorem kl1 (ob:zEB b) (oc:zEB c) (hs:a.size+b.size+c.size≤18):Sm (zXH a (zXH b c)) (zXH (zXH a b) c) text:=
 zXw h (zNe qP oa (zNe qP ob oc)) (zNe qP (zNe qP oa ob) oc) (by simp[Re.size,Re.sizes];omega) (by simp[Re.size,Re.sizes];omega)
  (by simp only[zUi text h.1];exact zGw h.1 (zFn text a) (zFn text b))
end
end Go.Proofs
namespace Go.Proofs
open Go Go.Eng
section
variable {n : Nat} (hn : n ≤ 24)
include hn
theorem zQm {A B:Rl} (a:Wf n A) (b:Wf n B):∀(L:List Rl),(∀x∈L,Wf n x)→L.foldl (fun a x=>zDR a x n) (zDR A B n)=zDR A (L.foldl (fun a x=>zDR a x n) B) n
  :=by
  intro L
  induction L generalizing B with
  | nil=>intro _;rfl
  | cons x L ih=>
    intro h;simp only[List.foldl_cons];rw[←zGw hn a b];exact ih (zHv b (h x qP)) fun y hy=>h y (by simp[hy])
theorem zTH {A:Rl} (a:Wf n A) (L:List Rl) (h:∀x∈L,Wf n x):(A::L).foldl (fun a x=>zDR a x n) (idR n)=zDR A (L.foldl (fun a x=>zDR a x n) (idR n)) n:=by
 rw[List.foldl_cons,zMg hn a];have h1:=zQm hn a (zMI n) L h;have h2:zDR A (idR n) n=A:=zNL fun i k=>by
  rw[zDg hn a];constructor
  ·rintro ⟨j,h1,h2⟩;rw[zJc] at h2;rw[h2.2];exact h1
  ·intro h;exact ⟨k,h,by rw[zJc];have:=a i k h;omega⟩
 rw[h2] at h1;exact h1
end
end Go.Proofs
namespace Go.Proofs
open Go Go.Eng
mutual
def zBZ:Re→Re→Bool
  | .mk k s a m x g,.mk k' s' a' m' x' g'=>decide (k=k') && decide (s=s') && decide (m=m') && decide (x=x') && decide (g=g') && zEa a a'
def zEa:List Re→List Re→Bool
  | [],[]=>true
  | t::ts,u::us=>zBZ t u && zEa ts us
  | _,_=>false
end
mutual
theorem zBP:∀(t u:Re),zBZ t u=true↔t=u
  | .mk k s a m x g,.mk k' s' a' m' x' g'=>by
    simp only[zBZ,Bool.and_eq_true,decide_eq_true_eq,zDl a a',Re.mk.injEq];constructor
    · rintro ⟨⟨⟨⟨⟨h1,h2⟩,h3⟩,h4⟩,h5⟩,h6⟩;exact ⟨h1,h2,h6,h3,h4,h5⟩
    · rintro ⟨h1,h2,h6,h3,h4,h5⟩;exact ⟨⟨⟨⟨⟨h1,h2⟩,h3⟩,h4⟩,h5⟩,h6⟩
theorem zDl:∀(ts us:List Re),zEa ts us=true↔ts=us
  | [],[]=>by simp[zEa]
  | t::ts,u::us=>by simp only[zEa,Bool.and_eq_true,zBP t u,zDl ts us,List.cons.injEq]
  | [],_::_=>by simp[zEa]
  | _::_,[]=>by simp[zEa]
end
/-- Arguments of a kind replaced by their arguments. -/
def zBY (k:Int) (l:List Re):List Re:=l.flatMap fun x=>if x.kind=k then x.args else [x]
def zMr (text:List Int) (l:List Re):Rl:=(l.map (zEb text)).foldl (fun a x=>zDR a x text.length) (idR text.length)
theorem zGj {text:List Int} (hn:text.length≤24) (x:Re) (l:List Re):zMr text (x::l)=zDR (zEb text x) (zMr text l) text.length:=by
 unfold zMr;rw[List.map_cons];refine zTH hn (zFn text x) _ ?_;intro R hR;rw[List.mem_map] at hR;obtain ⟨y,_,rfl⟩:=hR;exact zFn text y
theorem zPW {text:List Int} (l:List Re):Wf text.length (zMr text l):=by
 unfold zMr;refine zFs _ _ (zMI _) ?_;intro R hR;rw[List.mem_map] at hR;obtain ⟨y,_,rfl⟩:=hR;exact zFn text y
theorem zIj {text:List Int} (hn:text.length≤24):∀(a b:List Re),zMr text (a++b)=zDR (zMr text a) (zMr text b) text.length
  | [],b=>by
    have:zMr text []=idR text.length:=rfl;rw[this,List.nil_append,zMg hn (zPW b)]
  | x::a,b=>by
    rw[List.cons_append,zGj hn,zIj hn a b,zGj hn,zGw hn (zFn text x) (zPW a)]
theorem zSE {text:List Int} {t:Re} (h:t.kind=3):zEb text t=zMr text t.args:=by
 rw[zSF];simp[zVw,h,zMr]
section
variable {text : List Int} (hn : text.length ≤ 24)
include hn
theorem zTG:∀(l:List Re),zMr text (zBY 3 l)=zMr text l
  | []=>rfl
  | x::l=>by
    have ih:=zTG l;show zMr text ((if x.kind=3 then x.args else [x])++zBY 3 l)=_;rw[zIj hn,ih,zGj hn];by_cases h:x.kind=3
    · rw[if_pos h,zSE h]
    · rw[if_neg h,zGj hn];have h1:zMr text []=idR text.length:=rfl;have h2:zDR (zEb text x) (idR text.length) text.length=zEb text x:=zNL fun i k=>by
        rw[zDg hn (zFn text x)];constructor
        · rintro ⟨j,h1,h2⟩;rw[zJc] at h2;rw[h2.2];exact h1
        · intro h;exact ⟨k,h,by rw[zJc];have:=zFn text x i k h;omega⟩
      rw[h1,h2]
end
theorem zFY (k:Int):∀(l:List Re),Re.sizes (zBY k l)≤Re.sizes l
  | []=>by simp[zBY,Re.sizes]
  | x::l=>by
    have ih:=zFY k l;show Re.sizes ((if x.kind=k then x.args else [x])++zBY k l)≤_;rw[Re.sizes_append];have:=x.size_eq;simp only[Re.sizes];split
    · omega
    · simp only[Re.sizes];omega
def isL (k:Int):Prop:=k=3∨k=4∨k=7
end Go.Proofs
namespace Go.Proofs
open Go Go.Eng
set_option maxRecDepth 100000
abbrev Sp:=Int×Int
def vSp (s:Sp):Prop:=0≤s.1∧s.1≤s.2∧s.2≤1114111
structure Canon (l:List Sp):Prop where
 ok:∀s∈l,vSp s
 gap:l.Pairwise fun s t=>s.2+2≤t.1
theorem leLt (a b:Int):a≤b∨b<a:=qO
theorem zQT (a b:Int):a<b∨b≤a:=qO
theorem zFM {l:List Sp} {r:Int}:inS l r=true↔∃s∈l,s.1≤r∧r≤s.2:=by
 unfold inS;simp[List.any_eq_true]
theorem zCc (s:Sp) (l:List Sp) (r:Int):inS (s::l) r=((decide (s.1≤r) && decide (r≤s.2)) || inS l r):=rfl
theorem zCk (a b:List Sp) (r:Int):inS (a++b) r=(inS a r || inS b r):=by
 unfold inS;rw[List.any_append]
theorem zFL (r:Int):inS [] r=false:=rfl
theorem zSd {a b:List Sp} (h:a.Perm b) (r:Int):inS a r=inS b r:=by
 rw[Bool.eq_iff_iff,zFM,zFM];exact ⟨fun ⟨s,hs,q⟩=>⟨s,h.mem_iff.1 hs,q⟩,fun ⟨s,hs,q⟩=>⟨s,h.mem_iff.2 hs,q⟩⟩
theorem Canon.nil:Canon []:=⟨fun _ h=>(by cases h),List.Pairwise.nil⟩
theorem Canon.one {s:Sp} (h:vSp s):Canon [s]:=⟨fun t ht=>by rw[List.mem_singleton] at ht;subst ht;exact h,List.pairwise_singleton _ _⟩
theorem Canon.tail {s:Sp} {l:List Sp} (h:Canon (s::l)):Canon l:=⟨fun t ht=>h.ok t (List.mem_cons_of_mem _ ht),(List.pairwise_cons.1 h.gap).2⟩
theorem Canon.head {s:Sp} {l:List Sp} (h:Canon (s::l)):vSp s:=h.ok s List.mem_cons_self
theorem Canon.far {s:Sp} {l:List Sp} (h:Canon (s::l)):∀t∈l,s.2+2≤t.1:=(List.pairwise_cons.1 h.gap).1
theorem Canon.cons {s:Sp} {l:List Sp} (h1:vSp s) (h2:∀t∈l,s.2+2≤t.1) (h3:Canon l):Canon (s::l):=
 ⟨fun t ht=>by rcases List.mem_cons.1 ht with rfl|ht;exact h1;exact h3.ok t ht,List.pairwise_cons.2 ⟨h2,h3.gap⟩⟩
theorem zFR {s:Sp} {l:List Sp} (h:Canon (s::l)) {r:Int} (hr:r≤s.2+1):inS l r=false:=by
  cases e:inS l r with
  | false=>rfl
  | true=>
    obtain ⟨t,ht,h1,_⟩:=zFM.1 e;have:=h.far t ht;omega
theorem zGG {s:Sp} {l:List Sp} (h:Canon (s::l)) {r:Int} (hr:r<s.1):inS (s::l) r=false:=by
 have hv:=h.head;rw[zCc,zFR h (by unfold vSp at hv;omega),Bool.or_false,decide_eq_false qO];rfl
theorem zHe:∀{a b:List Sp},Canon a→Canon b→(∀r,inS a r=inS b r)→a=b
  | [],[],_,_,_=>rfl
  | [],t::b,_,hb,h=>by
    have hv:=hb.head;unfold vSp at hv;have:=h t.1;rw[zFL,zCc,decide_eq_true (Int.le_refl _),decide_eq_true qO] at this;simp at this
  | s::a,[],ha,_,h=>by
    have hv:=ha.head;unfold vSp at hv;have:=h s.1;rw[zFL,zCc,decide_eq_true (Int.le_refl _),decide_eq_true qO] at this;simp at this
  | s::a,t::b,ha,hb,h=>by
    have hv:=ha.head;have hu:=hb.head;unfold vSp at hv hu;have self:∀{s:Sp} {l:List Sp} {r:Int},s.1≤r→r≤s.2→inS (s::l) r=true:=fun h1 h2=>by
      rw[zCc,decide_eq_true h1,decide_eq_true h2];rfl
    have e1:s.1=t.1:=by
      rcases Int.lt_trichotomy s.1 t.1 with h1|h1|h1
      · have h2:=h s.1;rw[self (Int.le_refl _) qO,zGG hb h1] at h2;cases h2
      · exact h1
      · have h2:=h t.1;rw[self (s:=t) (Int.le_refl _) qO,zGG ha h1] at h2;cases h2
    have e2:s.2=t.2:=by
      rcases Int.lt_trichotomy s.2 t.2 with h1|h1|h1
      · have h2:=h (s.2+1);rw[self (s:=t) qO qO,zCc,zFR ha (Int.le_refl _),decide_eq_false (p:=s.2+1≤s.2) qO] at h2;simp at h2
      · exact h1
      · have h2:=h (t.2+1);rw[self (s:=s) qO qO,zCc,zFR hb (Int.le_refl _),decide_eq_false (p:=t.2+1≤t.2) qO] at h2;simp at h2
    have e3:s=t:=Prod.ext e1 e2;subst e3;have e4:a=b:=zHe ha.tail hb.tail fun r=>by
      rcases leLt r (s.2+1) with h1|h1
      · rw[zFR ha h1,zFR hb h1]
      · have h2:=h r;rw[zCc,zCc,decide_eq_false (p:=r≤s.2) qO] at h2;simpa using h2
    rw[e4]
def zMe (out:List Sp) (s:Sp):List Sp:=match out.getLast? with
  | some c=>if s.1≤c.2+1 then out.dropLast++[(c.1,max c.2 s.2)] else out++[s]
  | none=>[s]
def zOl (l:List Sp):List Sp:=l.foldl zMe []
theorem zHK (o:List Sp) (c s:Sp):zMe (o++[c]) s=if s.1≤c.2+1 then o++[(c.1,max c.2 s.2)] else o++[c]++[s]:=by
 unfold zMe;simp
theorem zLX (s:Sp):zMe [] s=[s]:=rfl
structure JInv (out l:List Sp) (m:Int):Prop where
 can:Canon out
 low:∀s∈out,s.1≤m
 mem:∀r,inS out r=inS l r
 len:out.length≤l.length
theorem zFX {α:Type} (l:List α):l=[]∨∃o c,l=o++[c]:=by
 rcases List.eq_nil_or_concat l with h|⟨o,c,h⟩
 ·exact .inl h
 ·exact .inr ⟨o,c,by simpa using h⟩
theorem zDn {o:List Sp} {c:Sp}:Canon (o++[c])↔Canon o∧vSp c∧∀t∈o,t.2+2≤c.1:=by
 constructor
 ·intro h;have h1:=List.pairwise_append.1 h.gap;exact ⟨⟨fun t ht=>h.ok t (by simp[ht]),h1.1⟩,h.ok c qP,fun t ht=>h1.2.2 t ht c qP⟩
 ·rintro ⟨h1,h2,h3⟩;refine ⟨fun t ht=>?_,List.pairwise_append.2 ⟨h1.gap,List.pairwise_singleton _ _,fun t ht u hu=>?_⟩⟩
  ·rcases List.mem_append.1 ht with ht|ht
   ·exact h1.ok t ht
   ·rw[List.mem_singleton] at ht;subst ht;exact h2
  ·rw[List.mem_singleton] at hu;subst hu;exact h3 t ht
theorem zQc {out l:List Sp} {m:Int} {s:Sp} (h:JInv out l m) (hs:vSp s) (hm:m≤s.1):JInv (zMe out s) (l++[s]) s.1:=by
 rcases zFX out with rfl|⟨o,c,rfl⟩
 ·rw[zLX];refine ⟨Canon.one hs,fun t ht=>by rw[List.mem_singleton] at ht;subst ht;exact Int.le_refl _,fun r=>?_,qP⟩;rw[zCk,←h.mem r];rfl
 ·obtain ⟨h1,h2,h3⟩:=zDn.1 h.can;have hc:=h.low c qP;unfold vSp at h2 hs;rw[zHK];split
  ·rename_i h4
   have hmx:max c.2 s.2=c.2∨max c.2 s.2=s.2:=qO
   have hge:c.2≤max c.2 s.2∧s.2≤max c.2 s.2:=qO
   refine ⟨zDn.2 ⟨h1,⟨h2.1,by simp only;omega,by simp only;omega⟩,h3⟩,fun t ht=>?_,fun r=>?_,?_⟩
   ·rcases List.mem_append.1 ht with ht|ht
    ·have:=h.low t (by simp[ht]);omega
    ·rw[List.mem_singleton] at ht;subst ht;simp only;omega
   ·have hr:=h.mem r;rw[zCk] at hr;rw[zCk,zCk,←hr];have e:inS [(c.1,max c.2 s.2)] r=(inS [c] r || inS [s] r):=by
     rw[Bool.eq_iff_iff];simp only[zCc,zFL,Bool.or_false,Bool.or_eq_true,Bool.and_eq_true,decide_eq_true_eq];constructor
     ·intro ⟨q1,q2⟩;omega
     ·rintro (⟨q1,q2⟩|⟨q1,q2⟩)<;>omega
    rw[e,Bool.or_assoc]
   ·have:=h.len;simp at this⊢;omega
  ·rename_i h4
   refine ⟨zDn.2 ⟨h.can,hs,fun t ht=>?_⟩,fun t ht=>?_,fun r=>?_,?_⟩
   ·rcases List.mem_append.1 ht with ht|ht
    ·have:=h3 t ht;omega
    ·rw[List.mem_singleton] at ht;subst ht;omega
   ·rcases List.mem_append.1 ht with ht|ht
    ·have:=h.low t ht;omega
    ·rw[List.mem_singleton] at ht;subst ht;exact Int.le_refl _
   ·rw[zCk _ [s],zCk l,h.mem r]
   ·have:=h.len;simp at this⊢;omega
theorem zLZ:∀(r:List Sp) {out l:List Sp} {m:Int},JInv out l m→(∀s∈r,vSp s∧m≤s.1)→r.Pairwise (fun s t=>s.1≤t.1)→∃m',JInv (r.foldl zMe out) (l++r) m'
  | [],out,l,m,h,_,_=>⟨m,by simpa using h⟩
  | s::r,out,l,m,h,hv,hp=>by
    have h1:=hv s List.mem_cons_self;have h2:=List.pairwise_cons.1 hp;obtain ⟨m',h3⟩:=zLZ r (zQc h h1.1 h1.2) (fun t ht=>⟨(hv t (List.mem_cons_of_mem _ ht)).1,h2.1 t ht⟩) h2.2;exact ⟨m',by simpa using h3⟩
theorem zQd {l:List Sp} (hv:∀s∈l,vSp s) (hp:l.Pairwise (fun s t=>s.1≤t.1)):Canon (zOl l)∧(∀r,inS (zOl l) r=inS l r)∧(zOl l).length≤l.length:=by
 obtain ⟨m,h⟩:=zLZ l (out:=[]) (l:=[]) (m:=0) ⟨Canon.nil,fun _ h=>by (cases h),fun _=>rfl,Nat.le_refl _⟩ (fun s hs=>⟨hv s hs,(hv s hs).1⟩) hp;exact ⟨h.can,h.mem,h.len⟩
/-- What joining makes of a list, in whatever order the spans come: by sorting. -/
def zFr (l out:List Sp):Prop:=∃l',l'.Perm l∧l'.Pairwise (fun s t=>s.1≤t.1)∧out=zOl l'
theorem zFr.all {l out:List Sp} (h:zFr l out) (hv:∀s∈l,vSp s):Canon out∧(∀r,inS out r=inS l r)∧out.length≤l.length:=by
 obtain ⟨l',h1,h2,rfl⟩:=h;have h3:=zQd (fun s hs=>hv s (h1.mem_iff.1 hs)) h2;exact ⟨h3.1,fun r=>(h3.2.1 r).trans (zSd h1 r),by rw[←h1.length_eq];exact h3.2.2⟩
theorem zGk {l:List Sp} (h:Canon l) {r:Int} (hr:r<0∨1114111<r):inS l r=false:=by
  cases e:inS l r with
  | false=>rfl
  | true=>obtain ⟨t,ht,q1,q2⟩:=zFM.1 e;have:=h.ok t ht;unfold vSp at this;omega
theorem zRT {a b:List Sp} (ha:Canon a) (hb:Canon b) (h:∀r,0≤r→r≤1114111→inS a r=inS b r):a=b:=
 zHe ha hb fun r=>by
  rcases zQT r 0 with h1|h1
  ·rw[zGk ha (.inl h1),zGk hb (.inl h1)]
  ·rcases zQT 1114111 r with h2|h2
   ·rw[zGk ha (.inr h2),zGk hb (.inr h2)]
   ·exact h r h1 h2
end Go.Proofs
namespace Go.Proofs
open Go Go.Eng
set_option maxRecDepth 100000
abbrev TSp:Nat:=103
theorem zKK {w:World} {base base' e size n:Nat} {v:Value} {xs:List Value} (h:w.ownsRow base e size v n xs) (hb:base'≤base):w.ownsRow base' e size v n xs:=by
 obtain ⟨h1,h2⟩:=h;refine ⟨h1,h2.imp id ?_⟩;rintro ⟨g,ab,aa,a,b,r⟩;exact ⟨g,ab,aa,a,Nat.le_trans hb b,r⟩
theorem zWW {w:World} {base e size n c:Nat} {a:Option Addr} {xs:List Value} (h:w.ownsRow base e size (.slice a n c) n xs):n≤c:=by
 rcases h.2 with ⟨h1,h2⟩|⟨g,cap,cur,hv,_,_,aa,_⟩
 ·omega
 ·simp only[Value.slice.injEq] at hv;obtain ⟨_,_,rfl⟩:=hv;exact aa
/-- A list of spans that lies in memory of one's own. -/
def zPR (w:World) (base:Nat) (r:Value) (l:List Sp):Prop:=(∃a c,r=.slice a l.length c)∧w.ownsRow base TSp 2 r l.length (l.map zBh).flatten
theorem zPR.at {w:World} {base:Nat} {r:Value} {l:List Sp} (h:zPR w base r l):zBQ w r l:=
 zDC h.2 (by intro x hx;simp only[List.mem_map] at hx;obtain ⟨p,_,rfl⟩:=hx;rfl) qP qD
theorem zEW (l:List Sp) (s:Sp):((l++[s]).map zBh).flatten=(l.map zBh).flatten++[.int .i64 s.1,.int .i64 s.2]:=by simp[zBh]
theorem zOD (w0:World) (v:Value) (l:List Sp) (h:zBQ w0 v l) (hl:l.length≤8796093022208) :
  Ret prog 114 #[v] w0 fun r w=>zPR w w0.heap.size r l∧Ext w0 w:=by
 obtain ⟨a,c,rfl⟩:=zBq.form h;simp only[List.length_map] at h⊢;obtain ⟨base,ac⟩:∃base,base=w0.heap.size:=⟨_,rfl⟩;rw[←ac];refine qR func114 rfl ntmps114 rfl (fun E=>(zAA (qA _ rfl (zAB (zAK (zAA (qM _ rfl (zCJ (v:=(.bool a.isNone)) rfl rfl qD (zKH underlying22 rfl rfl) (zAB (zAt rfl (fun hn=>?_) (fun hn=>?_)))))))))))
 ·have af:=hn;have aj:l.length=0:=by rcases Nat.eq_zero_or_pos l.length with h0|h0;exact h0;obtain ⟨b,o,rfl,_⟩:=zBN h h0;simp at hn
  have ae:l=[]:=List.eq_nil_of_length_eq_zero aj;refine zAA (qA _ rfl (zAB (zAR (zAI (zAW results114 (v:=(.slice none 0 0)) rfl ?_)))));subst ae;exact ⟨⟨⟨none,0,rfl⟩,World.ownsRow_nil _ _ _ _⟩,E⟩
 ·have af:=hn;rcases Bool.eq_false_or_eq_true (decide (l.length=0)) with hz|hz
  ·have aa:=hz;replace aa:=of_decide_eq_true aa;refine zAP (zAC (zAA (zGM qD underlying22 zBB ?_)));intro bq wq Nq;have Fq:=Nq.ge E;replace E:=E.ext Nq.ext;have Bq:=Nq.blk;refine qM _ rfl (qV (zII underlying22 zBB (a':=a) (c':=c) rfl (Nat.le_refl _) (by show Value.slice a l.length c=_;rw[aa])) (qA _ rfl (zAB (zAR (zAW results114 (v:=(.slice (some ⟨bq,0,none⟩) 0 0)) rfl ?_)))));have ae:l=[]:=List.eq_nil_of_length_eq_zero aa;subst ae;exact ⟨⟨⟨_,0,rfl⟩,zGS (base:=base) (size:=2) Bq qO⟩,E⟩
  ·have aa:=hz;replace aa:=of_decide_eq_false aa;obtain ⟨b,o,rfl,ag⟩:=zBN h qO;refine zAP (zAC (zAA (zGM qD underlying22 zBB ?_)));intro bq wq Nq;have Fq:=Nq.ge E;replace E:=E.ext Nq.ext;have Bq:=Nq.blk;refine qM _ rfl ?_;have ab:=zGS (base:=base) (size:=2) Bq qO;have ah:base≤wq.heap.size:=by have:=Nq.ext.size;omega
   refine zBC (base:=base) (n:=0) (m:=l.length) (xs:=[]) (news:=(l.map zBh).flatten) (size:=2) (bytes:=16) (v:=(.slice (some ⟨bq,0,none⟩) 0 0)) qD underlying22 zBB zIl zCb rfl qD rfl ab rfl (zEV l) ((zJP ag).ext Nq.ext) (zKt l) (by unfold maxLen;omega) qO (ah) ?_;intro v9 w29 ad ai Dv9;replace E:=E.step ai (fun x hx h=>absurd (ab.lt x h).1 qO);obtain ⟨la,lc,rfl⟩:=zAw ad;refine qA _ rfl (zAB (zAR (zAW results114 (v:=(.slice la (0+l.length) lc)) rfl ?_)));simp only[Nat.zero_add,List.nil_append] at ad⊢;exact ⟨⟨⟨la,lc,rfl⟩,ad⟩,E⟩
/-- One append of whatever slice, an empty one too. -/
theorem zMP {P:Program} {N:Nat} {Q:zGJ} {σ:Env} {w:World} {K:Env→World→Prop} {ops:Array Oper} {rest:List Oper} {d:Nat} {ty:TypeId} {pos:String} {af:Array Edge} {t:TypeId} {s x:Operand}
  {base e size bytes n m c:Nat} {ax:Option Addr} {z v:Value} {xs news:List Value} (hN:d<N) (hu:P.underlying t=some (.slice e)) (hsz:Siz P e size) (hby:Byt P e bytes) (hz:Zer P e z) (hzs:z.cells.size=size) (h0:0<size)
  (hs:ev σ s=v) (hown:w.ownsRow base e size v n xs) (hx:ev σ x=.slice ax m c) (hl:news.length=m*size) (hany:(m=0∧news=[])∨∃bx ox,ax=some ⟨bx,ox,none⟩∧zBD w bx ox news) (h1:∀u∈news,u.oneCell'=true)
  (h63:n+m≤maxLen) (hbytes:(n+m)*bytes≤140737488355328) (hbase:base≤w.heap.size)
  (k:∀v' w',w'.ownsRow base e size v' (n+m) (xs++news)→Chg (fun x=>v.ownBlock=some x) w w'→(∀k,v'.ownBlock=some k→v.ownBlock=some k∨w.heap.size≤k)→WpL P N ops K Q rest (upd σ d v') w') :
  WpL P N ops K Q (⟨some d,.call ⟨.builtin .append,#[s,x],#[t,t]⟩,ty,pos,af,none⟩::rest) σ w:=by
 rcases hany with ⟨rfl,rfl⟩|⟨bx,ox,rfl,hc⟩
 ·obtain ⟨a,c',rfl⟩:=zAw hown;refine zCJ rfl rfl hN (zII hu hsz hs (zWW hown) hx) (k _ w (by simpa using hown) (Chg.refl _ _) fun _ h=>.inl h)
 ·exact zBC hN hu hsz hby hz hzs h0 hs hown hx hl hc h1 h63 hbytes hbase k
theorem zSY {w:World} {a:Option Addr} {n c:Nat} {l:List Int} (h:zBt w (.slice a n c) l):(n=0∧l.map (Value.int .i64)=[])∨∃b o,a=some ⟨b,o,none⟩∧zBD w b o (l.map (Value.int .i64)):=by
 have hn:n=l.length:=by have:=(zBq.cap h).2;simpa using this.symm
 rcases Nat.eq_zero_or_pos n with h0|h0
 ·left;exact ⟨h0,by rw[List.eq_nil_of_length_eq_zero (show l.length=0 by omega)];rfl⟩
 ·right;obtain ⟨b,o,ha,hc⟩:=zBu h h0;exact ⟨b,o,ha,fun i u hu=>by rw[List.getElem?_map,Option.map_eq_some_iff] at hu;obtain ⟨x,hx,rfl⟩:=hu;exact hc i x hx⟩
def zBy (w:World) (v:Value) (ll:List (List Sp)):Prop:=∃vs:List Value,zBq w 1 v (vs.map fun x=>[x])∧vs.length=ll.length∧∀(i:Nat) (u:Value) (l:List Sp),vs[i]?=some u→ll[i]?=some l→zBQ w u l
theorem zBy.ext {w w':World} {v:Value} {ll:List (List Sp)} (h:zBy w v ll) (e:Ext w w'):zBy w' v ll:=by
 obtain ⟨vs,h1,h2,h3⟩:=h;exact ⟨vs,h1.ext e,h2,fun i u l hu hl=>(h3 i u l hu hl).ext e⟩
theorem zBy.form {w:World} {v:Value} {ll:List (List Sp)} (h:zBy w v ll):∃a c,v=.slice a ll.length c∧ll.length≤c∧ll.length≤9223372036854775807:=by
 obtain ⟨vs,h1,h2,_⟩:=h;obtain ⟨a,c,rfl⟩:=h1.form;have:=h1.cap;have:=h1.le;simp only[List.length_map] at *;rw[h2] at *;exact ⟨a,c,rfl,qO,qO⟩
theorem zBz {w:World} {a:Option Addr} {n c:Nat} {ll:List (List Sp)} (h:zBy w (.slice a n c) ll) (hn:0<n) :
  ∃b o,a=some ⟨b,o,none⟩∧∀i l,ll[i]?=some l→∃ra rc,w.cell? ⟨b,o+i,none⟩=some (.slice ra l.length rc)∧zBQ w (.slice ra l.length rc) l:=by
 obtain ⟨vs,h1,h2,h3⟩:=h;obtain ⟨b,o,ha,hc⟩:=zBq.at h1 hn;refine ⟨b,o,ha,fun i l hl=>?_⟩;have hi:i<vs.length:=by have:=zAa hl;omega
 have hu:vs[i]?=some vs[i]:=List.getElem?_eq_getElem hi;have h4:=h3 i vs[i] l hu hl;obtain ⟨ra,rc,hf⟩:=zBq.form h4;simp only[List.length_map] at hf;have h5:=hc i [vs[i]] (by simp[hu]) 0 _ rfl;rw[Nat.mul_one,Nat.add_zero,hf] at h5;rw[hf] at h4;exact ⟨ra,rc,h5,h4⟩
theorem zGW {ll:List (List Sp)} {k:Nat} {l:List Sp} (h:ll[k]?=some l):(ll.take (k+1)).flatten=(ll.take k).flatten++l:=by
 rw[List.take_add_one,h];simp
theorem zVD (ll:List (List Sp)) (k:Nat):(ll.take k).flatten.length≤ll.flatten.length:=by
 have h:ll.flatten=(ll.take k).flatten++(ll.drop k).flatten:=by rw[←List.flatten_append,List.take_append_drop]
 rw[h,List.length_append];omega
end Go.Proofs
namespace Go.Proofs
open Go Go.Eng Go.Sort
set_option maxRecDepth 100000
def orL:List Int→Int
  | []=>0
  | x::r=>if x≠0 then x else orL r
theorem zUW (w0:World) (v:Value) (l:List Int) (h:zBt w0 v l):Ret prog 206 #[v] w0 fun r w=>r=.int .i64 (orL l)∧Ext w0 w:=by
 obtain ⟨a,c,rfl⟩:=zBq.form h;have ad:l.length≤9223372036854775807:=by simpa using zBq.le h
 simp only[List.length_map] at h⊢;refine qR func206 rfl ntmps206 rfl (fun E=>(zAA (qA _ rfl (zAB (zAA (qA _ rfl (zAB (zAK (zAA (qM _ rfl (qV (zAM underlying26 rfl) (qM _ rfl (zAB (zAT (zAq (fun nn_ σ W1=>∃(k:Nat),(∃jj_,σ=zCH jj_ [(3,(I6 0)),(6,(.slice a l.length c)),(7,(I6 (l.length:Int))),(8,(I6 (k:Int)))])∧Chg zAo w0 W1∧(k≤l.length)∧(orL (l.drop k)=orL l)∧nn_=l.length - k) (n:=l.length - 0) ?_ ?_)))))))))))))))
 ·exact ⟨0,zBA.out ⟨rfl,rfl,rfl,rfl,trivial⟩,E,Nat.zero_le _,rfl,rfl⟩
 ·clear E;rintro _ _ W1 ⟨k,⟨j1,rfl⟩,E,hk,ho,rfl⟩;refine zAA (qV (zBH rfl rfl) (zAB (zAK (qC rfl (fun ac=>?_) (fun ac=>?_)))))
  ·obtain ⟨x,hx⟩:=zAU (l:=l) (i:=k) qO;obtain ⟨b,o,rfl,ab⟩:=zBu h qO;rw[zBU hx] at ho;refine zAP (zAC (zAK (zAT (zAA (qV (zAH (b:=b) (o:=o) (len:=l.length) (cap:=c) (i:=k) (o':=o+k) rfl rfl rfl underlying26 zAv qO qO) (qV (zAL rfl zAf (E.cell (fun f=>f) (ab k x hx))) (qA _ rfl (zAB (zAA (qM _ rfl (qM _ rfl (qV (zBo rfl rfl) (zAB (qC rfl (fun aa=>?_) (fun aa=>?_)))))))))))))))
   ·refine zAA (qM _ rfl (qA _ rfl (zAB (zAR (zAZ (zAI (zAI (zAZ (zAI (zAW results206 (v:=(.int .i64 x)) rfl ?_))))))))));exact ⟨zBO (by rw[←ho,orL,if_pos aa]),E⟩
   ·refine zAP (zAS (zAC (zAN (qV (zAy rfl rfl (zBV qO)) (qM _ rfl (zAB (zAC ?_)))))));exact ⟨l.length - (k+1),qO,k+1,zBA.out ⟨rfl,rfl,rfl,rfl,trivial⟩,E,qO,(by rw[←ho,orL,if_neg aa]),rfl⟩
  ·have ae:k=l.length:=qO
   refine zAp (zAX (zAX (zAj (zAC (zAA (qM _ rfl (qA _ rfl (zAB (zAR (zAW results206 (v:=(.int .i64 0)) rfl ?_))))))))));exact ⟨zBO (by rw[←ho,ae,List.drop_length];rfl),E⟩
def zJa (a b:Int):Fct:=fun v w=>∃bb,v=.slice (some ⟨bb,0,none⟩) 2 2∧zBt w v [a,b]
theorem zFd (a b:Int):zGq (zJa a b):=by
 rintro v w w' e ⟨bb,h1,h2⟩;exact ⟨bb,h1,h2.ext e⟩
theorem zJt {N:Nat} {σ:Env} {w:World} {dst:Option Tmp} {ty:TypeId} {pos:String} {af:Array Edge} {g:Option (Nat×Bool)} {x y:Operand} {a b:Int} (hx:ev σ x=.int .i64 a) (hy:ev σ y=.int .i64 b) :
  zPK prog N ⟨dst,.buildSlice 26 2 #[(0,x),(1,y)],ty,pos,af,g⟩ (zJa a b) σ w:=by
 have hn:=New.mk' w #[.int .i64 a,.int .i64 b] 3;refine zAJ (zCM (parts:=[(0,x),(1,y)]) (ps:=[(0,.int .i64 a),(1,.int .i64 b)]) (by simp only[List.map,hx,hy]) underlying26 zAv zFB qD qD qK) hn.ext ?_;exact ⟨_,rfl,zDv [a,b] hn.blk qP qP⟩
end Go.Proofs
namespace Go.Proofs
open Go Go.Eng Go.Sort
set_option maxRecDepth 100000
def zFo (p q:Int):Int:=if p≠0 then p else q
/-- Two comparisons, there and back. -/
def Sy (p p':Int):Prop:=(p<0↔0<p')∧(0<p↔p'<0)
/-- Comparisons of one with another, of this with a third, and of the first with the third. -/
def Tr3 (p q r:Int):Prop:=(p≤0→q≤0→r≤0)∧(p<0→q≤0→r<0)∧(p≤0→q<0→r<0)
theorem zIU (p q:Int):(zFo p q<0↔p<0∨(p=0∧q<0))∧(0<zFo p q↔0<p∨(p=0∧0<q)):=by unfold zFo;split<;>omega
theorem Sy.lex {p p' P P':Int} (h:Sy p p') (k:Sy P P'):Sy (zFo p P) (zFo p' P'):=by
 unfold Sy at *;have h1:=zIU p P;have h2:=zIU p' P';omega
theorem Tr3.lex {p q r P Q R:Int} (h:Tr3 p q r) (k:Tr3 P Q R):Tr3 (zFo p P) (zFo q Q) (zFo r R):=by
 unfold Tr3 at *;have h1:=zIU p P;have h2:=zIU q Q;have h3:=zIU r R;refine ⟨fun a b=>?_,fun a b=>?_,fun a b=>?_⟩<;>omega
theorem zIi (a b:Int):(zCI a b<0↔a<b)∧(0<zCI a b↔b<a):=by unfold zCI;(repeat' split)<;>omega
theorem zKp (a b:Int):Sy (zCI a b) (zCI b a):=by
 have h1:=zIi a b;have h2:=zIi b a;unfold Sy;omega
theorem zKo (a b c:Int):Tr3 (zCI a b) (zCI b c) (zCI a c):=by
 have h1:=zIi a b;have h2:=zIi b c;have h3:=zIi a c;unfold Tr3;omega
theorem zJx:Sy 0 0:=by unfold Sy;omega
theorem zJw:Tr3 0 0 0:=by unfold Tr3;omega
def zCT (s t:Int×Int):Int:=orL [zCI s.1 t.1,zCI s.2 t.2]
theorem zEJ (x:Int) (r:List Int):orL (x::r)=zFo x (orL r):=rfl
theorem zFI:orL []=0:=rfl
theorem zXt (a b:Int×Int):Sy (zCT a b) (zCT b a):=by
 simp only[zCT,zEJ,zFI];exact (zKp _ _).lex ((zKp _ _).lex zJx)
theorem zXs (a b c:Int×Int):Tr3 (zCT a b) (zCT b c) (zCT a c):=by
 simp only[zCT,zEJ,zFI];exact (zKo _ _ _).lex ((zKo _ _ _).lex zJw)
/-- Lists compared one by one; what ends earlier is less. -/
def zDY {α:Type} (f:α→α→Int):List α→List α→Int
  | [],[]=>0
  | [],_::_=>-1
  | _::_,[]=>1
  | x::l,y::m=>zFo (f x y) (zDY f l m)
theorem zPb {α:Type} {f:α→α→Int} (hf:∀a b,Sy (f a b) (f b a)):∀a b:List α,Sy (zDY f a b) (zDY f b a)
  | x::a,y::b=>(hf x y).lex (zPb hf a b)
  | [],[]=>zJx
  | [],_::_=>by simp only[zDY];unfold Sy;omega
  | _::_,[]=>by simp only[zDY];unfold Sy;omega
theorem zPa {α:Type} {f:α→α→Int} (hf:∀a b c,Tr3 (f a b) (f b c) (f a c)):∀a b c:List α,Tr3 (zDY f a b) (zDY f b c) (zDY f a c)
  | x::a,y::b,z::c=>(hf x y z).lex (zPa hf a b c)
  | [],[],[]=>zJw
  | [],[],_::_=>by simp only[zDY];unfold Tr3;omega
  | [],_::_,[]=>by simp only[zDY];unfold Tr3;omega
  | [],_::_,_::_=>by simp only[zDY];unfold Tr3;omega
  | _::_,[],[]=>by simp only[zDY];unfold Tr3;omega
  | _::_,[],_::_=>by simp only[zDY];unfold Tr3;omega
  | _::_,_::_,[]=>by simp only[zDY];unfold Tr3;omega
mutual
def zCm:Re→Re→Int
  | .mk k s a m x _,.mk k' s' a' m' x' _=>orL [zCI k k',zDY zCT s s',zCI m m',zCI x x',zCG a a']
def zCG:List Re→List Re→Int
  | [],[]=>0
  | [],_::_=>-1
  | _::_,[]=>1
  | t::ts,u::us=>zFo (zCm t u) (zCG ts us)
end
mutual
theorem zWI:∀a b:Re,Sy (zCm a b) (zCm b a)
  | .mk k s a m x g,.mk k' s' a' m' x' g'=>by
    simp only[zCm,zEJ,zFI];exact (zKp _ _).lex ((zPb zXt _ _).lex ((zKp _ _).lex ((zKp _ _).lex ((zTW a a').lex zJx))))
theorem zTW:∀a b:List Re,Sy (zCG a b) (zCG b a)
  | x::a,y::b=>by simp only[zCG];exact (zWI x y).lex (zTW a b)
  | [],[]=>by simp only[zCG];exact zJx
  | [],_::_=>by simp only[zCG];unfold Sy;omega
  | _::_,[]=>by simp only[zCG];unfold Sy;omega
end
mutual
theorem zMJ:∀a b c:Re,Tr3 (zCm a b) (zCm b c) (zCm a c)
  | .mk k s a m x g,.mk k' s' a' m' x' g',.mk k'' s'' a'' m'' x'' g''=>by
    simp only[zCm,zEJ,zFI];exact (zKo _ _ _).lex ((zPa zXs _ _ _).lex ((zKo _ _ _).lex ((zKo _ _ _).lex ((zTV a a' a'').lex zJw))))
theorem zTV:∀a b c:List Re,Tr3 (zCG a b) (zCG b c) (zCG a c)
  | x::a,y::b,z::c=>by simp only[zCG];exact (zMJ x y z).lex (zTV a b c)
  | [],[],[]=>by simp only[zCG];exact zJw
  | [],[],_::_=>by simp only[zCG];unfold Tr3;omega
  | [],_::_,[]=>by simp only[zCG];unfold Tr3;omega
  | [],_::_,_::_=>by simp only[zCG];unfold Tr3;omega
  | _::_,[],[]=>by simp only[zCG];unfold Tr3;omega
  | _::_,[],_::_=>by simp only[zCG];unfold Tr3;omega
  | _::_,_::_,[]=>by simp only[zCG];unfold Tr3;omega
end
theorem zBs (a b:Re):zCm b a<0↔0<zCm a b:=(zWI b a).1
theorem zWY (a b:Re):zCm a b≤0∨zCm b a≤0:=by have:=zBs a b;have:=zBs b a;omega
theorem zTg {a b c:Re} (h:zCm a b≤0) (k:zCm b c≤0):zCm a c≤0:=(zMJ a b c).1 h k
theorem zGV {p q:Int}:zFo p q=0↔p=0∧q=0:=by unfold zFo;split<;>omega
theorem zLr {a b:Int}:zCI a b=0↔a=b:=by unfold zCI;(repeat' split)<;>omega
theorem zOy {a b:Int×Int}:zCT a b=0↔a=b:=by
 simp only[zCT,zEJ,zFI,zGV,zLr,and_true,Prod.ext_iff]
theorem zLq {α:Type} {f:α→α→Int} (hf:∀a b,f a b=0↔a=b):∀{a b:List α},zDY f a b=0↔a=b
  | [],[]=>by simp[zDY]
  | [],_::_=>by simp[zDY]
  | _::_,[]=>by simp[zDY]
  | x::l,y::m=>by simp only[zDY,zGV,hf,zLq hf,List.cons.injEq]
mutual
/-- No node is marked as the opposite. -/
def zEn:Re→Bool
  | .mk _ _ a _ _ g=>!g && zIS a
def zIS:List Re→Bool
  | []=>true
  | t::ts=>zEn t && zIS ts
end
mutual
theorem zHr:∀{a b:Re},zEn a=true→zEn b=true→(zCm a b=0↔a=b)
  | .mk k s a m x g,.mk k' s' a' m' x' g',h,h'=>by
    simp only[zEn,Bool.and_eq_true,Bool.not_eq_true'] at h h';simp only[zCm,zEJ,zFI,zGV,zLr,zLq (f:=zCT) fun _ _=>zOy,zLQ h.2 h'.2,and_true,Re.mk.injEq,h.1,h'.1];constructor
    · rintro ⟨h1,h2,h3,h4,h5⟩;exact ⟨h1,h2,h5,h3,h4⟩
    · rintro ⟨h1,h2,h5,h3,h4⟩;exact ⟨h1,h2,h3,h4,h5⟩
theorem zLQ:∀{a b:List Re},zIS a=true→zIS b=true→(zCG a b=0↔a=b)
  | [],[],_,_=>by simp[zCG]
  | [],_::_,_,_=>by simp[zCG]
  | _::_,[],_,_=>by simp[zCG]
  | t::ts,u::us,h,h'=>by
    simp only[zIS,Bool.and_eq_true] at h h';simp only[zCG,zGV,zHr h.1 h'.1,zLQ h.2 h'.2,List.cons.injEq]
end
def zGK:Re:=.mk 8 [] [zBa] 0 0 false
def zCw (t:Re):Bool:=decide (t.kind=8) && decide ((t.args.headD zBa).kind=0)
def zBc (t:Re):Bool:=decide (t.kind=0)
def zCF (t:Re):Bool:=decide (t.kind=1)
def zFq (p:Re→Bool) (l:List Re):List Re:=l.filter fun x=>!p x
def zCL (k:Int) (nothing:Re):List Re→Re
  | []=>nothing
  | [x]=>x
  | x::y::l=>.mk k [] (x::y::l) 0 0 false
def zEz (l:List Re):Re:=if ((zFq zCF (zBY 3 l)).any zBc)=true then zBa else zCL 3 zBT (zFq zCF (zBY 3 l))
/-- Of neighbours that are equal one stays. -/
def zGu:List Re→List Re
  | []=>[]
  | [x]=>[x]
  | x::y::l=>if zBZ x y=true then zGu (y::l) else x::zGu (y::l)
def leR (a b:Re):Bool:=decide (zCm a b≤0)
def zER (l:List Re):List Re:=l.mergeSort leR
def zJG (k:Int) (l:List Re) (strong weak:Re→Bool) (nothing:Re):Re:=
  match l.find? strong with
  | some x=>x
  | none=>zCL k nothing (zGu (zER (zFq weak (zBY k l))))
def zCr (k:Int) (s:List (Int×Int)) (a:List Re) (m x:Int) (g:Bool):Re:=
 let y:=a.headD zBa
 if k=3 then zEz a else if k=4 then zJG 4 a zCw zBc zBa else if k=7 then zJG 7 a zBc zCw zGK
 else if k=5 then (if y.kind=0∨y.kind=1 then zBT else if y.kind=5 then y else .mk k s a m x g)
 else if k=6 then (if x=0∨y.kind=1∨(y.kind=0∧m=0) then zBT else if y.kind=0∨(m=1∧x=1) then y else .mk k s a m x g)
 else if k=8 then (if y.kind=8 then y.args.headD zBa else .mk k s a m x g)
 else .mk k s a m x g
def zDN:Re→Re
  | .mk k s a m x g=>zCr k s a m x g
mutual
def zCz:Re→Re
  | .mk k s a m x g=>zCr k s (zCx a) m x g
def zCx:List Re→List Re
  | []=>[]
  | t::ts=>zCz t::zCx ts
end
theorem zCh (ts:List Re):zCx ts=ts.map zCz:=by
  induction ts with
  | nil=>rfl
  | cons t ts ih=>simp[zCx,ih]
theorem zPj (t:Re):zCz t=zCr t.kind t.set (t.args.map zCz) t.mn t.mx t.neg:=by cases t;simp[zCz,zCh,Re.kind,Re.set,Re.args,Re.mn,Re.mx,Re.neg]
mutual
/-- Whether an expression matches the empty text. -/
def zBW:Re→Bool
  | .mk k _ a m _ g=>if k=1∨k=5 then true else if k=3∨k=7∨k=9 then zCd a else if k=4 then zES a else if k=6 then (decide (m=0) || zCd a) else if k=8 then !zCd a else if k=10 then (zCd a != g) else false
def zCd:List Re→Bool
  | []=>true
  | t::ts=>zBW t && zCd ts
def zES:List Re→Bool
  | []=>false
  | t::ts=>zBW t || zES ts
end
mutual
/-- The derivative of an expression in similar form. -/
def zBK (c:Int):Re→Re
  | .mk k s a m x g=>if k=2 then (if inS s c=true then zBT else zBa) else if k=3 then zEx c a
    else if k=4∨k=7∨k=8 then zCr k [] (zBw c a) 0 0 false
    else if k=5 then zEz [(zBw c a).headD zBa,.mk k s a m x g]
    else if k=6 then zEz [(zBw c a).headD zBa,zCr 6 [] [a.headD zBa] (max 0 (m - 1)) (x - 1) false]
    else zBa
def zBw (c:Int):List Re→List Re
  | []=>[]
  | t::ts=>zBK c t::zBw c ts
/-- The derivative of a concatenation. -/
def zEx (c:Int):List Re→Re
  | []=>zBa
  | t::ts=>if ts=[] then zBK c t else (let first:=zEz [zBK c t,zCL 3 zBT ts];if zBW t=true then zCr 4 [] [first,zEx c ts] 0 0 false else first)
end
end Go.Proofs
namespace Go.Proofs
open Go Go.Eng
set_option maxRecDepth 100000
theorem zTc {P:Program} {σ:Env} {w:World} {dst:Option Tmp} {ty:TypeId} {pos:String} {af:Array Edge} {g:Option (Nat×Bool)} {tys:Array TypeId} {x y:Operand} {k:IntKind} {a b c:Int} (hx:ev σ x=.int k a) (hy:ev σ y=.int k b) (hc:min a b=c) :
  (execOp (ev σ) ⟨dst,.call ⟨.builtin .min,#[x,y],tys⟩,ty,pos,af,g⟩).run P w=.ok (.value (.int k c)) w:=by
 subst hc;have:(if b<a then b else a)=min a b:=by split<;>omega
 simp[execOp,resolve,invoke,builtin,Builtin.min_,Builtin.min2,hx,hy,this]
end Go.Proofs
namespace Go.Eng
open Go
abbrev TRe:Nat:=25
mutual
def zFA (Z:Nat→Prop) (w:World):Re→List Value→(Nat→Prop)→Prop
  | .mk k set args mn mx ng,vs,L=>∃sa sc aa ac,vs=[.int .i64 k,.slice sa set.length sc,.slice aa args.length ac,.int .i64 mn,.int .i64 mx,.bool ng]∧zDK Z w 2 (.slice sa set.length sc) (set.map zBh)∧(args.length≤ac∧ac≤9223372036854775807)∧
      (args=[]∨∃b rows rest L',L b∧aa=some ⟨b,0,none⟩∧Blk w b (rows.flatten++rest).toArray TRe∧(∀r∈rows,r.length=6)∧zBn Z w args rows L'∧(∀x,L' x→L x∧x≠b))
def zBn (Z:Nat→Prop) (w:World):List Re→List (List Value)→(Nat→Prop)→Prop
  | [],rows,_=>rows=[]
  | t::ts,rows,L=>∃vs rs L1 L2,rows=vs::rs∧zFA Z w t vs L1∧zBn Z w ts rs L2∧(∀x,L1 x→L x∧¬L2 x)∧(∀x,L2 x→L x)
end
mutual
theorem zFA.chg {Z M:Nat→Prop} {w w':World} (c:Chg M w w') (hz:∀b,Z b→¬M b):∀(t:Re) {vs:List Value} {L:Nat→Prop},(∀b,L b→¬M b)→zFA Z w t vs L→zFA Z w' t vs L
  | .mk k set args mn mx ng,vs,L,hl,h=>by
    simp only[zFA] at h⊢;obtain ⟨sa,sc,aa,ac,hv,hs,hn,ha⟩:=h;refine ⟨sa,sc,aa,ac,hv,hs.chg c hz,hn,?_⟩;rcases ha with h|⟨b,rows,rest,L',h1,h2,h3,h4,h5,h6⟩
    · exact .inl h
    · exact .inr ⟨b,rows,rest,L',h1,h2,c.keep (hl b h1) h3,h4,zBn.chg c hz args (fun x hx=>hl x (h6 x hx).1) h5,h6⟩
theorem zBn.chg {Z M:Nat→Prop} {w w':World} (c:Chg M w w') (hz:∀b,Z b→¬M b):∀(ts:List Re) {rows:List (List Value)} {L:Nat→Prop},(∀b,L b→¬M b)→zBn Z w ts rows L→zBn Z w' ts rows L
  | [],_,_,_,h=>by simp only[zBn] at h⊢;exact h
  | t::ts,rows,L,hl,h=>by
    simp only[zBn] at h⊢;obtain ⟨vs,rs,L1,L2,h1,h2,h3,h4,h5⟩:=h;exact ⟨vs,rs,L1,L2,h1,zFA.chg c hz t (fun x hx=>hl x (h4 x hx).1) h2,zBn.chg c hz ts (fun x hx=>hl x (h5 x hx)) h3,h4,h5⟩
end
theorem zFA.ext {Z:Nat→Prop} {w w':World} (e:Ext w w') (t:Re) {vs:List Value} {L:Nat→Prop} (h:zFA Z w t vs L):zFA Z w' t vs L:=zFA.chg e (fun _ _ f=>f) t (fun _ _ f=>f) h
theorem zBn.ext {Z:Nat→Prop} {w w':World} (e:Ext w w') (ts:List Re) {rows:List (List Value)} {L:Nat→Prop} (h:zBn Z w ts rows L):zBn Z w' ts rows L:=zBn.chg e (fun _ _ f=>f) ts (fun _ _ f=>f) h
mutual
theorem zFA.mono {Z Z':Nat→Prop} {w:World} (hz:∀b,Z b→Z' b):∀(t:Re) {vs:List Value} {L L':Nat→Prop},(∀b,L b→L' b)→zFA Z w t vs L→zFA Z' w t vs L'
  | .mk k set args mn mx ng,vs,L,L',hl,h=>by
    simp only[zFA] at h⊢;obtain ⟨sa,sc,aa,ac,hv,hs,hn,ha⟩:=h;refine ⟨sa,sc,aa,ac,hv,hs.mono hz,hn,?_⟩;rcases ha with h|⟨b,rows,rest,K,h1,h2,h3,h4,h5,h6⟩
    · exact .inl h
    · exact .inr ⟨b,rows,rest,K,hl b h1,h2,h3,h4,zBn.mono hz args (fun _ h=>h) h5,fun x hx=>⟨hl x (h6 x hx).1,(h6 x hx).2⟩⟩
theorem zBn.mono {Z Z':Nat→Prop} {w:World} (hz:∀b,Z b→Z' b):∀(ts:List Re) {rows:List (List Value)} {L L':Nat→Prop},(∀b,L b→L' b)→zBn Z w ts rows L→zBn Z' w ts rows L'
  | [],_,_,_,_,h=>by simp only[zBn] at h⊢;exact h
  | t::ts,rows,L,L',hl,h=>by
    simp only[zBn] at h⊢;obtain ⟨vs,rs,L1,L2,h1,h2,h3,h4,h5⟩:=h;exact ⟨vs,rs,L1,L2,h1,zFA.mono hz t (fun _ h=>h) h2,zBn.mono hz ts (fun _ h=>h) h3,fun x hx=>⟨hl x (h4 x hx).1,(h4 x hx).2⟩,fun x hx=>hl x (h5 x hx)⟩
end
theorem zFA.form {Z:Nat→Prop} {w:World} {t:Re} {vs:List Value} {L:Nat→Prop} (h:zFA Z w t vs L):∃sa sc aa ac,vs=[.int .i64 t.kind,.slice sa t.set.length sc,.slice aa t.args.length ac,.int .i64 t.mn,.int .i64 t.mx,.bool t.neg]∧zDK Z w 2 (.slice sa t.set.length sc) (t.set.map zBh)∧(t.args.length≤ac∧ac≤9223372036854775807)∧
   (t.args=[]∨∃b rows rest L',L b∧aa=some ⟨b,0,none⟩∧Blk w b (rows.flatten++rest).toArray TRe∧(∀r∈rows,r.length=6)∧zBn Z w t.args rows L'∧(∀x,L' x→L x∧x≠b)):=by
 cases t;simp only[zFA] at h;exact h
theorem zFA.len {Z:Nat→Prop} {w:World} {t:Re} {vs:List Value} {L:Nat→Prop} (h:zFA Z w t vs L):vs.length=6:=by
 obtain ⟨_,_,_,_,rfl,_⟩:=h.form;rfl
theorem zFA.one {Z:Nat→Prop} {w:World} {t:Re} {vs:List Value} {L:Nat→Prop} (h:zFA Z w t vs L):∀u∈vs,u.oneCell'=true:=by
 obtain ⟨_,_,_,_,rfl,_⟩:=h.form;simp[Value.oneCell']
theorem zBn.len {Z:Nat→Prop} {w:World}:∀{ts:List Re} {rows:List (List Value)} {L:Nat→Prop},zBn Z w ts rows L→rows.length=ts.length
  | [],_,_,h=>by simp only[zBn] at h;subst h;rfl
  | t::ts,rows,L,h=>by
    simp only[zBn] at h;obtain ⟨vs,rs,L1,L2,rfl,_,h3,_⟩:=h;simp[zBn.len h3]
theorem zBn.six {Z:Nat→Prop} {w:World}:∀{ts:List Re} {rows:List (List Value)} {L:Nat→Prop},zBn Z w ts rows L→∀r∈rows,r.length=6
  | [],_,_,h=>by simp only[zBn] at h;subst h;simp
  | t::ts,rows,L,h=>by
    simp only[zBn] at h;obtain ⟨vs,rs,L1,L2,rfl,h2,h3,_⟩:=h;intro r hr;rcases List.mem_cons.1 hr with rfl|hr
    · exact h2.len
    · exact zBn.six h3 r hr
theorem zBn.snoc {Z:Nat→Prop} {w:World} {t:Re} {vs:List Value} {K:Nat→Prop} (ht:zFA Z w t vs K):∀{ts:List Re} {rows:List (List Value)} {L:Nat→Prop},zBn Z w ts rows L→(∀x,L x→¬K x)→zBn Z w (ts++[t]) (rows++[vs]) (fun x=>L x∨K x)
  | [],rows,L,h,hd=>by
    simp only[zBn] at h;subst h;simp only[List.nil_append,zBn];exact ⟨vs,[],K,fun _=>False,rfl,ht,rfl,fun x hx=>⟨.inr hx,fun f=>f⟩,fun x f=>f.elim⟩
  | u::ts,rows,L,h,hd=>by
    simp only[zBn] at h;obtain ⟨us,rs,L1,L2,rfl,h2,h3,h4,h5⟩:=h;have:=zBn.snoc ht h3 fun x hx=>hd x (h5 x hx);simp only[List.cons_append,zBn];exact ⟨us,rs++[vs],L1,_,rfl,h2,this,fun x hx=>⟨.inl (h4 x hx).1,fun hh=>hh.elim (h4 x hx).2 (hd x (h4 x hx).1)⟩,fun x hx=>hx.elim (fun h=>.inl (h5 x h)) .inr⟩
theorem zJT {rows:List (List Value)} {rest:List Value} {k:Nat} (hk:∀r∈rows,r.length=k):∀{i:Nat} {r:List Value},rows[i]?=some r→∀(j:Nat) (u:Value),r[j]?=some u→(rows.flatten++rest)[i*k+j]?=some u:=by
  induction rows with
  | nil=>intro i r h;simp at h
  | cons x rs ih=>
    intro i r hr j u hu;have hx:x.length=k:=hk x qP;cases i with
    | zero=>
      simp at hr;subst hr;have hj:=zAa hu;simp only[List.flatten_cons,Nat.zero_mul,Nat.zero_add,List.append_assoc];rw[List.getElem?_append_left hj];exact hu
    | succ i=>
      simp at hr;simp only[List.flatten_cons,List.append_assoc];rw[List.getElem?_append_right (by rw[hx,Nat.succ_mul];omega)];rw[show (i+1)*k+j - x.length=i*k+j from by rw[hx,Nat.succ_mul];omega];exact ih (fun r hr=>hk r (by simp[hr])) hr j u hu
theorem zFy {w:World} {b T k:Nat} {rows:List (List Value)} {rest:List Value} (h:Blk w b (rows.flatten++rest).toArray T) (hk:∀r∈rows,r.length=k) {i:Nat} {r:List Value} (hr:rows[i]?=some r):zBD w b (i*k) r:=by
 intro j u hu;exact h.cell (by simpa using zJT hk hr j u hu)
theorem zKD {k:Nat} {v:List Value} (hv:v.length=k):∀{rows:List (List Value)} {rest:List Value} {i:Nat},(∀r∈rows,r.length=k)→i<rows.length→(rows.flatten++rest).take (i*k)++v++(rows.flatten++rest).drop (i*k+k)=(rows.set i v).flatten++rest
  | [],_,_,_,hi=>by simp at hi
  | x::rs,rest,0,hk,hi=>by
    have hx:x.length=k:=hk x qP;simp only[List.flatten_cons,Nat.zero_mul,List.take_zero,Nat.zero_add,List.set_cons_zero,List.nil_append,List.append_assoc];rw[List.drop_append_of_le_length qO,List.drop_of_length_le qO];simp
  | x::rs,rest,i+1,hk,hi=>by
    have hx:x.length=k:=hk x qP;have ih:=zKD hv (rows:=rs) (rest:=rest) (i:=i) (fun r hr=>hk r (by simp[hr])) (by simpa using hi);simp only[List.flatten_cons,List.set_cons_succ,List.append_assoc] at ih⊢;rw[←ih,Nat.succ_mul];have e1:∀(A:List Value) (m:Nat),(x++A).take (x.length+m)=x++A.take m:=fun A m=>by rw[List.take_append,List.take_of_length_le qO,Nat.add_sub_cancel_left]
    have e2:∀(A:List Value) (m:Nat),(x++A).drop (x.length+m)=A.drop m:=fun A m=>by rw[List.drop_append,List.drop_of_length_le qO,Nat.add_sub_cancel_left,List.nil_append]
    rw[show i*k+k=x.length+i*k from qO,e1,show x.length+i*k+k=x.length+(i*k+k) from qO,e2];rw[List.append_assoc,show x.length+i*k=i*k+k from qO]
theorem zCE {k:Nat}:∀{rows:List (List Value)},(∀r∈rows,r.length=k)→rows.flatten.length=rows.length*k
  | [],_=>qP
  | x::rs,h=>by
    have:=zCE (rows:=rs) (fun r hr=>h r (by simp[hr]));have hx:x.length=k:=h x qP;simp only[List.flatten_cons,List.length_append,List.length_cons,this,hx,Nat.succ_mul];omega
theorem zDB {S:Nat→Prop} {w:World} {b:Nat}:∀{ts:List Re} {o:Nat},(∀i t,ts[i]?=some t→∃vs,zBD w b (o+i*6) vs∧zAe S w t vs)→zBX S w b o ts
  | [],_,_=>by simp only[zBX]
  | t::ts,o,h=>by
    simp only[zBX];refine ⟨by simpa using h 0 t rfl,zDB fun i u hu=>?_⟩;have:=h (i+1) u (by simpa using hu)
    rwa [show o+(i+1)*6=o+6+i*6 from qO] at this
end Go.Eng
namespace Go.Proofs
open Go Go.Eng
set_option maxRecDepth 100000
def zIs (w:World) (v:Value) (ts:List Re):Prop:=∃aa ac,v=.slice aa ts.length ac∧(ts.length≤ac∧ac≤9223372036854775807)∧(ts=[]∨∃b o,aa=some ⟨b,o,none⟩∧zCO w b o ts)
theorem zIs.ext {w w':World} {v:Value} {ts:List Re} (h:zIs w v ts) (e:Ext w w'):zIs w' v ts:=by
 obtain ⟨aa,ac,h1,h2,h3⟩:=h;refine ⟨aa,ac,h1,h2,?_⟩;rcases h3 with h|⟨b,o,h4,h5⟩
 ·exact .inl h
 ·exact .inr ⟨b,o,h4,zCO.ext e ts h5⟩
theorem zIs.cells {w:World} {aa:Option Addr} {n ac:Nat} {ts:List Re} (h:zIs w (.slice aa n ac) ts) (hn:0<n):∃b o,aa=some ⟨b,o,none⟩∧∀i t,ts[i]?=some t→∃vs,zBD w b (o+i*6) vs∧zBG w t vs:=by
 obtain ⟨aa',ac',h1,h2,h3⟩:=h;simp only[Value.slice.injEq] at h1;obtain ⟨rfl,rfl,rfl⟩:=h1;rcases h3 with rfl|⟨b,o,h4,h5⟩
 ·simp at hn
 ·exact ⟨b,o,h4,fun i t ht=>zCO.get h5 ht⟩
theorem zBG.rs {w:World} {t:Re} {sa aa:Option Addr} {k m x:Int} {n sc n' ac:Nat} {ng:Bool} (h:zBG w t [.int .i64 k,.slice sa n sc,.slice aa n' ac,.int .i64 m,.int .i64 x,.bool ng]):zIs w (.slice aa n' ac) t.args:=by
 obtain ⟨sa',sc',aa',ac',hv,_,h2,h3⟩:=h.form;simp at hv;obtain ⟨_,_,⟨rfl,rfl,rfl⟩,_⟩:=hv;exact ⟨_,_,rfl,h2,h3⟩
theorem zNJ (t u:Re):zBZ t u=(decide (t.kind=u.kind) && decide (t.set=u.set) && decide (t.mn=u.mn) && decide (t.mx=u.mx) && decide (t.neg=u.neg) && zEa t.args u.args):=by
 cases t;cases u;simp only[zBZ,Re.kind,Re.set,Re.args,Re.mn,Re.mx,Re.neg];try rfl
theorem zZJ (w0:World) (v1 v2 fv:Value) (l1 l2:List Re) (h1:zIs w0 v1 l1) (h2:zIs w0 v2 l2)
  (hf:∀(w:World) (x u:Re) (vs us:List Value),Ext w0 w→x∈l1→zBG w x vs→zBG w u us→zCD prog fv #[.agg vs.toArray,.agg us.toArray] w fun r w'=>r=.bool (zBZ x u)∧Ext w w') :
  Ret prog 81 #[v1,v2,fv] w0 fun v w=>v=.bool (zEa l1 l2)∧Ext w0 w:=by
 have g1:=h1;have g2:=h2;obtain ⟨a1,c1,rfl,hb1,_⟩:=h1;obtain ⟨a2,c2,rfl,hb2,_⟩:=h2;refine qR func81 rfl ntmps81 rfl (fun E=>(zAA (qA _ rfl (zAB (zAK (zAA (qM _ rfl (qV (zAM underlying23 rfl) (qM _ rfl (qV (zAM underlying23 rfl) (qV (zBo rfl rfl) (zAB (qC rfl (fun hl=>?_) (fun hl=>?_))))))))))))))
 ·refine zAA (qA _ rfl (zAB (zAR (zAI (zAW results81 (v:=(.bool false)) rfl ?_)))));exact ⟨zAx (by symm;rw[←Bool.not_eq_true,zDl];intro h;rw[h] at hl;exact hl rfl),E⟩
 ·refine zAP (zAC (zAK (zAA (qM _ rfl (qV (zAM underlying23 rfl) (qM _ rfl (zAB (zAT (zAq (fun nn_ σ W2=>∃(k:Nat),(∃jj_,σ=zCH jj_ [(1,(.slice a2 l2.length c2)),(2,fv),(15,(.slice a1 l1.length c1)),(16,(I6 (l1.length:Int))),(17,(I6 (k:Int)))])∧Chg zAo w0 W2∧(k≤l1.length)∧(∀(i:Nat),i<k→l1[i]?=l2[i]?)∧nn_=l1.length - k) (n:=l1.length - 0) ?_ ?_)))))))))
  ·exact ⟨0,zBA.out ⟨rfl,rfl,rfl,rfl,rfl,trivial⟩,E,Nat.zero_le _,(fun i h=>absurd h (Nat.not_lt_zero _)),rfl⟩
  ·clear E;rintro _ _ W2 ⟨k,⟨j2,rfl⟩,E,hk,an,rfl⟩;refine zAA (qV (zBH rfl rfl) (zAB (zAK (qC rfl (fun ao=>?_) (fun ao=>?_)))))
   ·obtain ⟨p,hp⟩:=zAU (l:=l1) (i:=k) qO;obtain ⟨q,hq⟩:=zAU (l:=l2) (i:=k) qO;obtain ⟨b1,o1,rfl,au⟩:=g1.cells qO;obtain ⟨b2,o2,rfl,ar⟩:=g2.cells qO;obtain ⟨vs,ap,am⟩:=au k p hp;obtain ⟨us,aq,al⟩:=ar k q hq;have ae:=am;have ak:=al;obtain ⟨sa,sc,aa,ac,rfl,_,_,_⟩:=am.form;obtain ⟨af,ai,ah,ag,rfl,_,_,_⟩:=al.form;refine zAP (zAC (zAK (zAT (zAA (qM _ rfl (qV (zAH (b:=b1) (o:=o1) (len:=l1.length) (cap:=c1) (i:=k) (o':=o1+k*6) rfl rfl rfl underlying23 zAO qO qO) (qV (zAG rfl zAc zAO rfl (ap.ext E)) (zBJ (c:=#[(I6 0),(.slice none 0 0),(.slice none 0 0),(I6 0),(I6 0),(.bool false)]) qD zAu rfl ?_))))))));intro bp wp Np;have Fp:=Np.ge E;replace E:=E.ext Np.ext;have Bp:=Np.blk;refine qA _ rfl (zAY (b:=bp) (o:=0) (c':=(R6 p sa sc aa ac)) rfl rfl qS zAO rfl Bp qL rfl ?_);intro w4 S4;replace E:=S4.step E qQ;replace Bp:=S4.blk;refine zAB (zAA (qM _ rfl (qM _ rfl (qV (zAH (b:=b2) (o:=o2) (len:=l2.length) (cap:=c2) (i:=k) (o':=o2+k*6) rfl rfl rfl underlying23 zAO qO qO) (qV (zAG rfl zAc zAO rfl (aq.ext E)) (zAg (v:=(.agg (R6 q af ai ah ag))) (c:=(R6 q af ai ah ag)) (n:=6) qD zAu rfl zAO rfl rfl rfl qS ?_))))));intro bq wq Nq;have Fq:=Nq.ge E;have Oq_bp:=Nq.lt Bp;replace Bp:=Nq.keep Bp;replace E:=E.ext Nq.ext;have Bq:=Nq.blk;refine zAB (zAA (qM _ rfl (qV (zAG (vs:=[(I6 p.kind),(.slice sa p.set.length sc),(.slice aa p.args.length ac),(I6 p.mn),(I6 p.mx),(.bool p.neg)]) rfl zAc zAO rfl (Bp.cells rfl)) (qV (zAG (vs:=[(I6 q.kind),(.slice af q.set.length ai),(.slice ah q.args.length ag),(I6 q.mn),(I6 q.mx),(.bool q.neg)]) rfl zAc zAO rfl (Bq.cells rfl)) (zCZ qD rfl rfl (hf _ p q _ _ E (List.mem_of_getElem? hp) (zBG.ext E p ae) (zBG.ext E q ak)) ?_)))));rintro _ w9 ⟨rfl,X9⟩;replace Bp:=X9.keep Bp;replace Bq:=X9.keep Bq;replace E:=E.ext X9;refine qV (zCf rfl) (zAB (zAt rfl (fun ab=>?_) (fun ab=>?_)))
    ·have ad:=ab;replace ab:=by simpa using ab
     refine zAA (qA _ rfl (zAB (zAR (zAZ (zAI (zAI (zAZ (zAI (zAW results81 (v:=(.bool false)) rfl ?_)))))))));exact ⟨zAx (by symm;rw[←Bool.not_eq_true,zDl];intro h;subst h;rw[hp] at hq;cases hq;rw[(zBP p p).2 rfl] at ab;cases ab),E⟩
    ·have ad:=ab;replace ab:=by simpa using ab
     have aj:p=q:=(zBP p q).1 (by simpa using ab);refine zAP (zAS (zAC (zAN (qV (zAy rfl rfl (zBV qO)) (qM _ rfl (zAB (zAC ?_)))))));exact ⟨l1.length - (k+1),qO,k+1,zBA.out ⟨rfl,rfl,rfl,rfl,rfl,trivial⟩,E,qO,(fun i hi=>by rcases Nat.lt_or_ge i k with h|h;exact an i h;obtain rfl:i=k:=qO;rw[hp,hq,aj]),rfl⟩
   ·have hkk:k=l1.length:=qO
    refine zAp (zAX (zAX (zAj (zAC (zAA (qA _ rfl (zAB (zAR (zAW results81 (v:=(.bool true)) rfl ?_)))))))));exact ⟨zAx (by symm;rw[zDl];exact zIa qO (fun i hi=>an i qO)),E⟩
theorem zNM:∀(n:Nat) (t u:Re) (w0:World) (vs us:List Value),t.size≤n→zBG w0 t vs→zBG w0 u us→
    Ret prog 25 #[.agg vs.toArray,.agg us.toArray] w0 fun v w=>v=.bool (zBZ t u)∧Ext w0 w:=by
  intro n
  induction n with
  | zero=>intro t u w0 vs us hn;have:=t.size_pos;omega
  | succ n ih=>
  intro t u w0 vs us hn ht hu;have am:=ht;have ap:=hu;obtain ⟨sa,sc,aa,ac,rfl,an,_,_⟩:=ht.form;obtain ⟨ah,ak,aj,ai,rfl,al,_,_⟩:=hu.form;have hF:zBZ t u=(decide (t.kind=u.kind) && decide (t.set=u.set) && decide (t.mn=u.mn) && decide (t.mx=u.mx) && decide (t.neg=u.neg) && zEa t.args u.args):=zNJ t u;refine qR func25 rfl ntmps25 rfl (fun E=>(zAA (zBL (v:=(.agg (R6 t sa sc aa ac))) (c:=(R6 t sa sc aa ac)) qD rfl rfl ?_)));intro b1 w1 N1;have F1:=N1.ge E;replace E:=E.ext N1.ext;have B1:=N1.blk;refine zBL (v:=(.agg (R6 u ah ak aj ai))) (c:=(R6 u ah ak aj ai)) qD rfl rfl ?_;intro b2 w2 N2;have F2:=N2.ge E;have O2_b1:=N2.lt B1;replace B1:=N2.keep B1;replace E:=E.ext N2.ext;have B2:=N2.blk;refine qA _ rfl (zAB (zAA (qF b1 0 0 rfl underlying25 rfl zAv rfl (qV (zAL rfl zAf (B1.cell rfl)) (qF b2 0 0 rfl underlying25 rfl zAv rfl (qV (zAL rfl zAf (B2.cell rfl)) (qV (zAk rfl rfl) (qM _ rfl ?_))))))));rcases Bool.eq_false_or_eq_true (decide ((t.kind:Int)=u.kind)) with g1|g1
  · have ad:=g1;replace ad:=of_decide_eq_true ad;refine zAF rfl rfl qD (cbk g1) (qF b1 0 1 rfl underlying25 rfl zBm rfl (zAF rfl rfl qD (cbk g1) (qV (zAL rfl zBe (B1.cell rfl)) (zAF rfl rfl qD (cbk g1) (qF b2 0 1 rfl underlying25 rfl zBm rfl (zAF rfl rfl qD (cbk g1) (qV (zAL rfl zBe (B2.cell rfl)) (zAF rfl rfl qD (cbk g1) (qE rfl (zAV func80 zaT zag rfl) (zTX _ _ _ t.set u.set (zBq.ext an E) (zBq.ext al E)) ?_)))))))));rintro _ w9 ⟨rfl,X9⟩;replace B1:=X9.keep B1;replace B2:=X9.keep B2;replace E:=E.ext X9;refine qV (zAd (v:=(.bool (decide (t.set=u.set)))) rfl (by rw[g1];rfl)) (qM _ rfl ?_);rcases Bool.eq_false_or_eq_true (decide (t.set=u.set)) with g2|g2
    · have ae:=g2;replace ae:=of_decide_eq_true ae;refine zAF rfl rfl qD (cbk g2) (qF b1 0 3 rfl underlying25 rfl zAv rfl (zAF rfl rfl qD (cbk g2) (qV (zAL rfl zAf (B1.cell rfl)) (zAF rfl rfl qD (cbk g2) (qF b2 0 3 rfl underlying25 rfl zAv rfl (zAF rfl rfl qD (cbk g2) (qV (zAL rfl zAf (B2.cell rfl)) (zAF rfl rfl qD (cbk g2) (qV (zAk rfl rfl) (qV (zAd (v:=(.bool (decide ((t.mn:Int)=u.mn)))) rfl (by rw[g2];rfl)) (qM _ rfl ?_)))))))))));rcases Bool.eq_false_or_eq_true (decide ((t.mn:Int)=u.mn)) with g3|g3
      · have ab:=g3;replace ab:=of_decide_eq_true ab;refine zAF rfl rfl qD (cbk g3) (qF b1 0 4 rfl underlying25 rfl zAv rfl (zAF rfl rfl qD (cbk g3) (qV (zAL rfl zAf (B1.cell rfl)) (zAF rfl rfl qD (cbk g3) (qF b2 0 4 rfl underlying25 rfl zAv rfl (zAF rfl rfl qD (cbk g3) (qV (zAL rfl zAf (B2.cell rfl)) (zAF rfl rfl qD (cbk g3) (qV (zAk rfl rfl) (qV (zAd (v:=(.bool (decide ((t.mx:Int)=u.mx)))) rfl (by rw[g3];rfl)) (qM _ rfl ?_)))))))))));rcases Bool.eq_false_or_eq_true (decide ((t.mx:Int)=u.mx)) with g4|g4
        · have af:=g4;replace af:=of_decide_eq_true af;refine zAF rfl rfl qD (cbk g4) (qF b1 0 5 rfl underlying25 rfl zNG rfl (zAF rfl rfl qD (cbk g4) (qV (zAL rfl zHm (B1.cell rfl)) (zAF rfl rfl qD (cbk g4) (qF b2 0 5 rfl underlying25 rfl zNG rfl (zAF rfl rfl qD (cbk g4) (qV (zAL rfl zHm (B2.cell rfl)) (zAF rfl rfl qD (cbk g4) (qV (zWT underlying4 rfl rfl) (qV (zAd (v:=(.bool (t.neg == u.neg))) rfl (by rw[g4];rfl)) (qM _ rfl ?_)))))))))));rcases Bool.eq_false_or_eq_true (t.neg == u.neg) with g5|g5
          · have ao:=g5;refine zAF rfl rfl qD (cbk g5) (qF b1 0 2 rfl underlying25 rfl zBS rfl (zAF rfl rfl qD (cbk g5) (qV (zAL rfl zBE (B1.cell rfl)) (zAF rfl rfl qD (cbk g5) (qF b2 0 2 rfl underlying25 rfl zBS rfl (zAF rfl rfl qD (cbk g5) (qV (zAL rfl zBE (B2.cell rfl)) (zAF rfl rfl qD (cbk g5) (qE rfl (zAV func81 nm81 bd81 rfl) (zZJ _ _ _ _ t.args u.args ((zBG.rs am).ext E) ((zBG.rs ap).ext E) (fun w x y vs us hE hx h1 h2=>zCD.mk (first:=#[]) (cap:=#[]) func25 zYO zZU rfl (ih x y w vs us (by obtain ⟨i,hi⟩:=List.mem_iff_getElem?.1 hx;have:=Re.size_arg hi;omega) h1 h2))) ?_)))))))));rintro _ w19 ⟨rfl,ag⟩;replace B1:=ag.keep B1;replace B2:=ag.keep B2;replace E:=E.ext ag;refine qV (zAd (v:=(.bool (zEa t.args u.args))) rfl (by rw[g5];rfl)) (qA _ rfl (zAB (zAR (zAW results25 (v:=(.bool (zEa t.args u.args))) rfl ?_))));exact ⟨zAx (by rw[hF,g1,g2,g3,g4];simp at g5;simp[g5]),E⟩
          · have ao:=g5;refine zAE rfl rfl qD (v:=.bool false) (cbk g5) (Or.inl rfl) (zAE rfl rfl qD (v:=.bool false) (cbk g5) (Or.inl rfl) (zAE rfl rfl qD (v:=.bool false) (cbk g5) (Or.inl rfl) (zAE rfl rfl qD (v:=.bool false) (cbk g5) (Or.inl rfl) (zAE rfl rfl qD (v:=.bool false) (cbk g5) (Or.inl rfl) (qV (zAd (v:=(.bool false)) rfl (by rw[g5];rfl)) (qA _ rfl (zAB (zAR (zAW results25 (v:=(.bool false)) rfl ?_)))))))));exact ⟨zAx (by rw[hF];simp at g5;simp[g5]),E⟩
        · have af:=g4;replace af:=of_decide_eq_false af;refine zAE rfl rfl qD (v:=.bool false) (cbk g4) (Or.inl rfl) (zAE rfl rfl qD (v:=.bool false) (cbk g4) (Or.inl rfl) (zAE rfl rfl qD (v:=.bool false) (cbk g4) (Or.inl rfl) (zAE rfl rfl qD (v:=.bool false) (cbk g4) (Or.inl rfl) (zAE rfl rfl qD (v:=.bool false) (cbk g4) (Or.inl rfl) (qV (zAd (v:=(.bool false)) rfl (by rw[g4];rfl)) (qM _ rfl (zAE rfl rfl qD (v:=.bool false) rfl (Or.inl rfl) (zAE rfl rfl qD (v:=.bool false) rfl (Or.inl rfl) (zAE rfl rfl qD (v:=.bool false) rfl (Or.inl rfl) (zAE rfl rfl qD (v:=.bool false) rfl (Or.inl rfl) (zAE rfl rfl qD (v:=.bool false) rfl (Or.inl rfl) (qV (zAd rfl rfl) (qA _ rfl (zAB (zAR ?_)))))))))))))));refine zAW results25 (v:=(.bool false)) rfl ?_;exact ⟨zAx (by rw[hF];simp at g4;simp[g4]),E⟩
      · have ab:=g3;replace ab:=of_decide_eq_false ab;refine zAE rfl rfl qD (v:=.bool false) (cbk g3) (Or.inl rfl) (zAE rfl rfl qD (v:=.bool false) (cbk g3) (Or.inl rfl) (zAE rfl rfl qD (v:=.bool false) (cbk g3) (Or.inl rfl) (zAE rfl rfl qD (v:=.bool false) (cbk g3) (Or.inl rfl) (zAE rfl rfl qD (v:=.bool false) (cbk g3) (Or.inl rfl) (qV (zAd (v:=(.bool false)) rfl (by rw[g3];rfl)) (qM _ rfl (zAE rfl rfl qD (v:=.bool false) rfl (Or.inl rfl) (zAE rfl rfl qD (v:=.bool false) rfl (Or.inl rfl) (zAE rfl rfl qD (v:=.bool false) rfl (Or.inl rfl) (zAE rfl rfl qD (v:=.bool false) rfl (Or.inl rfl) (zAE rfl rfl qD (v:=.bool false) rfl (Or.inl rfl) (qV (zAd rfl rfl) (qM _ rfl (zAE rfl rfl qD (v:=.bool false) rfl (Or.inl rfl) ?_))))))))))))));refine zAE rfl rfl qD (v:=.bool false) rfl (Or.inl rfl) (zAE rfl rfl qD (v:=.bool false) rfl (Or.inl rfl) (zAE rfl rfl qD (v:=.bool false) rfl (Or.inl rfl) (zAE rfl rfl qD (v:=.bool false) rfl (Or.inl rfl) (qV (zAd rfl rfl) (qA _ rfl (zAB (zAR (zAW results25 (v:=(.bool false)) rfl ?_))))))));exact ⟨zAx (by rw[hF];simp at g3;simp[g3]),E⟩
    · have ae:=g2;replace ae:=of_decide_eq_false ae;refine zAE rfl rfl qD (v:=.bool false) (cbk g2) (Or.inl rfl) (zAE rfl rfl qD (v:=.bool false) (cbk g2) (Or.inl rfl) (zAE rfl rfl qD (v:=.bool false) (cbk g2) (Or.inl rfl) (zAE rfl rfl qD (v:=.bool false) (cbk g2) (Or.inl rfl) (zAE rfl rfl qD (v:=.bool false) (cbk g2) (Or.inl rfl) (qV (zAd (v:=(.bool false)) rfl (by rw[g2];rfl)) (qM _ rfl (zAE rfl rfl qD (v:=.bool false) rfl (Or.inl rfl) (zAE rfl rfl qD (v:=.bool false) rfl (Or.inl rfl) (zAE rfl rfl qD (v:=.bool false) rfl (Or.inl rfl) (zAE rfl rfl qD (v:=.bool false) rfl (Or.inl rfl) (zAE rfl rfl qD (v:=.bool false) rfl (Or.inl rfl) (qV (zAd rfl rfl) (qM _ rfl (zAE rfl rfl qD (v:=.bool false) rfl (Or.inl rfl) ?_))))))))))))));refine zAE rfl rfl qD (v:=.bool false) rfl (Or.inl rfl) (zAE rfl rfl qD (v:=.bool false) rfl (Or.inl rfl) (zAE rfl rfl qD (v:=.bool false) rfl (Or.inl rfl) (zAE rfl rfl qD (v:=.bool false) rfl (Or.inl rfl) (qV (zAd rfl rfl) (qM _ rfl (zAE rfl rfl qD (v:=.bool false) rfl (Or.inl rfl) (zAE rfl rfl qD (v:=.bool false) rfl (Or.inl rfl) (zAE rfl rfl qD (v:=.bool false) rfl (Or.inl rfl) (zAE rfl rfl qD (v:=.bool false) rfl (Or.inl rfl) (zAE rfl rfl qD (v:=.bool false) rfl (Or.inl rfl) (qV (zAd rfl rfl) (qA _ rfl (zAB (zAR (zAW results25 (v:=(.bool false)) rfl ?_)))))))))))))));exact ⟨zAx (by rw[hF];simp at g2;simp[g2]),E⟩
  · have ad:=g1;replace ad:=of_decide_eq_false ad;refine zAE rfl rfl qD (v:=.bool false) (cbk g1) (Or.inl rfl) (zAE rfl rfl qD (v:=.bool false) (cbk g1) (Or.inl rfl) (zAE rfl rfl qD (v:=.bool false) (cbk g1) (Or.inl rfl) (zAE rfl rfl qD (v:=.bool false) (cbk g1) (Or.inl rfl) (zAE rfl rfl qD (v:=.bool false) (cbk g1) (Or.inl rfl) (qV (zAd (v:=(.bool false)) rfl (by rw[g1];rfl)) (qM _ rfl (zAE rfl rfl qD (v:=.bool false) rfl (Or.inl rfl) (zAE rfl rfl qD (v:=.bool false) rfl (Or.inl rfl) (zAE rfl rfl qD (v:=.bool false) rfl (Or.inl rfl) (zAE rfl rfl qD (v:=.bool false) rfl (Or.inl rfl) (zAE rfl rfl qD (v:=.bool false) rfl (Or.inl rfl) (qV (zAd rfl rfl) (qM _ rfl (zAE rfl rfl qD (v:=.bool false) rfl (Or.inl rfl) ?_))))))))))))));refine zAE rfl rfl qD (v:=.bool false) rfl (Or.inl rfl) (zAE rfl rfl qD (v:=.bool false) rfl (Or.inl rfl) (zAE rfl rfl qD (v:=.bool false) rfl (Or.inl rfl) (zAE rfl rfl qD (v:=.bool false) rfl (Or.inl rfl) (qV (zAd rfl rfl) (qM _ rfl (zAE rfl rfl qD (v:=.bool false) rfl (Or.inl rfl) (zAE rfl rfl qD (v:=.bool false) rfl (Or.inl rfl) (zAE rfl rfl qD (v:=.bool false) rfl (Or.inl rfl) (zAE rfl rfl qD (v:=.bool false) rfl (Or.inl rfl) (zAE rfl rfl qD (v:=.bool false) rfl (Or.inl rfl) (qV (zAd rfl rfl) (qM _ rfl (zAE rfl rfl qD (v:=.bool false) rfl (Or.inl rfl) (zAE rfl rfl qD (v:=.bool false) rfl (Or.inl rfl) ?_))))))))))))));refine zAE rfl rfl qD (v:=.bool false) rfl (Or.inl rfl) (zAE rfl rfl qD (v:=.bool false) rfl (Or.inl rfl) (zAE rfl rfl qD (v:=.bool false) rfl (Or.inl rfl) (qV (zAd rfl rfl) (qA _ rfl (zAB (zAR (zAW results25 (v:=(.bool false)) rfl ?_)))))));exact ⟨zAx (by rw[hF];simp at g1;simp[g1]),E⟩
theorem zGP (w0:World) (v fv:Value) (l:List Re) (p:Re→Bool) (hs:zIs w0 v l) (hf:∀(w:World) (x:Re) (vs:List Value),Ext w0 w→x∈l→zBG w x vs→zCD prog fv #[.agg vs.toArray] w fun r w'=>r=.bool (p x)∧Ext w w') :
  Ret prog 82 #[v,fv] w0 fun r w=>r=.int .i64 (idx p l)∧Ext w0 w:=by
 have g1:=hs;obtain ⟨a,c,rfl,hb1,_⟩:=hs;refine qR func82 rfl ntmps82 rfl (fun E=>(zAA (qA _ rfl (zAB (zAK (zAA (qM _ rfl (qV (zAM underlying23 rfl) (qM _ rfl (zAB (zAT (zAq (fun nn_ σ W1=>∃(k:Nat),(∃jj_,σ=zCH jj_ [(0,(.slice a l.length c)),(1,fv),(7,(I6 (l.length:Int))),(8,(I6 (k:Int)))])∧Chg zAo w0 W1∧(k≤l.length)∧(∀(i:Nat) (y:Re),i<k→l[i]?=some y→p y=false)∧nn_=l.length - k) (n:=l.length - 0) ?_ ?_))))))))))))
 ·exact ⟨0,zBA.out ⟨rfl,rfl,rfl,rfl,trivial⟩,E,Nat.zero_le _,(fun i y h=>absurd h (Nat.not_lt_zero _)),rfl⟩
 ·clear E;rintro _ _ W1 ⟨k,⟨j1,rfl⟩,E,hk,ad,rfl⟩;refine zAA (qV (zBH rfl rfl) (zAB (zAK (qC rfl (fun ai=>?_) (fun ai=>?_)))))
  ·obtain ⟨x,hx⟩:=zAU (l:=l) (i:=k) qO;obtain ⟨b,o,rfl,ah⟩:=g1.cells qO;obtain ⟨vs,af,ae⟩:=ah k x hx;have ab:=ae;obtain ⟨sa,sc,aa,ac,rfl,_,_,_⟩:=ae.form;refine zAP (zAC (zAK (zAT (zAA (qM _ rfl (qA _ rfl (zAB (zAA (qM _ rfl (qM _ rfl (qM _ rfl (qV (zAH (b:=b) (o:=o) (len:=l.length) (cap:=c) (i:=k) (o':=o+k*6) rfl rfl rfl underlying23 zAO qO qO) (qV (zAG rfl zAc zAO rfl (af.ext E)) (zCZ qD rfl rfl (hf _ x _ E (List.mem_of_getElem? hx) (zBG.ext E x ab)) ?_))))))))))))));rintro _ w9 ⟨rfl,X9⟩;replace E:=E.ext X9;refine zAB (zAt rfl (fun hp=>?_) (fun hp=>?_))
   ·have ag:=hp;refine zAA (qM _ rfl (qA _ rfl (zAB (zAR (zAZ (zAI (zAI (zAZ (zAI (zAW results82 (v:=(.int .i64 ((k:Nat):Int))) rfl ?_))))))))));exact ⟨zBO (zHL hx hp ad).symm,E⟩
   ·have ag:=hp;refine zAP (zAS (zAC (zAN (qV (zAy rfl rfl (zBV qO)) (qM _ rfl (zAB (zAC ?_)))))));exact ⟨l.length - (k+1),qO,k+1,zBA.out ⟨rfl,rfl,rfl,rfl,trivial⟩,E,qO,zEi hx hp ad,rfl⟩
  ·have hkk:k=l.length:=qO
   refine zAp (zAX (zAX (zAj (zAC (zAA (qA _ rfl (zAB (zAR (zAW results82 (v:=(.int .i64 (-1))) rfl ?_)))))))));exact ⟨zBO (zGY fun i y hy=>ad i y (by have:=zAa hy;omega) hy).symm,E⟩
theorem zPu (w0:World) (v fv:Value) (l:List Re) (p:Re→Bool) (hs:zIs w0 v l) (hf:∀(w:World) (x:Re) (vs:List Value),Ext w0 w→x∈l→zBG w x vs→zCD prog fv #[.agg vs.toArray] w fun r w'=>r=.bool (p x)∧Ext w w') :
  Ret prog 26 #[v,fv] w0 fun r w=>r=.bool (l.any p)∧Ext w0 w:=by
 refine qR func26 rfl ntmps26 rfl (fun E=>(zAA (qA _ rfl (zAB (zAA (qM v rfl (qM _ rfl (qE rfl (zAV func82 zXf zXk rfl) (zGP _ v fv l p hs hf) ?_))))))));rintro _ w9 ⟨rfl,X9⟩;replace E:=E.ext X9;refine qV (zFG rfl rfl) (qA _ rfl (zAB (zAR (zAW results26 (v:=(.bool (decide ((0:Int)≤idx p l)))) rfl ?_))));exact ⟨zAx (zGB p l),E⟩
end Go.Proofs
