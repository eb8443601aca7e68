/- Contracts and plain lemmas, part 1. -/
import Derived.Tactics
import Derived.Deep.Quiet
import Derived.Laws.AppendOwn
import Derived.KernelRfl
import Derived.Laws.Entries
import Derived.Laws.Build
import Derived.Below
import Derived.RowKit3
import Derived.StillTail
import Derived.Sort.Grow
import Derived.Deep.Draws
import Derived.Test.YtdbomjjhpidajaaGreatDoorChecked
import Derived.Laws.StructEq
import Derived.MapKept
import Derived.Laws.BytesArg
import Derived.Laws.CopyRow
import Derived.DeepKeys3
import Derived.Lib.SlicesS
import Derived.Laws.Concat
import Derived.Defers
import Derived.Recover
import Derived.Shelf.SlSortCmp.WholeK
import Derived.Shelf.Sort.Plain
import Derived.Shelf.Slices.CompactI
import Derived.Test.YtdbomjjhpidajaaGreatDoorProg
import Derived.ChangeKeysEq
open Go.Proofs.Tryz
set_option maxHeartbeats 16000000
namespace Go
theorem qO {p : Prop} (h : p := by omega) : p := h
theorem qD {p : Prop} (h : p := by decide) : p := h
theorem qP {p : Prop} (h : p := by simp) : p := h
theorem qK {p : Prop} (h : p := by kernel_rfl) : p := h
end Go
theorem Go.Proofs.kQ {p:Prop} (h:p:=by kernel_rfl):p:=h
namespace Go.Eng
open Go
abbrev Env:=Nat→Value
abbrev zFm:=Exit→Env→World→Prop
def upd (σ:Env) (d:Nat) (v:Value):Env:=fun t=>bif Nat.beq t d then v else σ t
def ev (σ:Env):Operand→Value
  | .tmp t=>σ t
  | .const v=>v
  | .global g=>.pointer (some ⟨g,0,none⟩)
  | .func f=>.func (.func f) #[] #[]
def env (a:Act):Env:=fun t=>a.tmps.getD t undef
def lk (t:Nat):List (Nat×Value)→Value→Value
  | [],d=>d
  | (k,v)::r,d=>bif Nat.beq t k then v else lk t r d
def zCT (σ:Env) (l:List (Nat×Value)):Env:=fun t=>lk t l (σ t)
theorem zPw (σ:Env) (l:List (Nat×Value)) (h:∀p∈l,σ p.1=p.2):zCT σ l=σ:=by
  funext t;unfold zCT
  induction l with
  | nil=>rfl
  | cons p r ih=>
    obtain ⟨k,v⟩:=p;simp only[lk];cases hb:Nat.beq t k
    · simp only[cond_false];exact ih fun p hp=>h p (List.mem_cons_of_mem _ hp)
    · have:t=k:=Nat.eq_of_beq_eq_true hb;subst this;simp only[cond_true];exact (h (t,v) List.mem_cons_self).symm
def zAs (σ:Env):List (Nat×Value)→Prop
  | []=>True
  | (k,v)::r=>σ k=v∧zAs σ r
theorem zAs.all {σ:Env}:∀{l:List (Nat×Value)},zAs σ l→∀p∈l,σ p.1=p.2
  | [],_,_,hp=>by cases hp
  | (k,v)::r,h,p,hp=>by
    cases hp with
    | head=>exact h.1
    | tail _ hp=>exact zAs.all h.2 p hp
theorem zAs.out {σ:Env} {l:List (Nat×Value)} (h:zAs σ l):∃j,σ=zCT j l:=⟨σ,(zPw σ l h.all).symm⟩
theorem zCL (a:Act):a.eval=ev (env a):=by
  funext x;cases x<;>rfl
structure Ok (dz:List Deferred) (N:Nat) (a:Act):Prop where
  size:a.tmps.size=N
  defers:a.defers=dz
theorem zDQ {dz:List Deferred} {N:Nat} {a:Act} (h:Ok dz N a) {d:Nat} (hd:d<N) (v:Value):env (a.put (some d) v)=upd (env a) d v:=by
  funext t;have hs:=h.size;simp only[env,upd,Act.put];cases hb:Nat.beq t d
  · have aa:d≠t:=fun e=>by subst e;rw[Nat.beq_refl] at hb;cases hb
    simp[Array.getElem?_setIfInBounds_ne aa]
  · have:t=d:=Nat.eq_of_beq_eq_true hb;subst this;simp[hs,hd]
theorem Ok.put {dz:List Deferred} {N:Nat} {a:Act} (h:Ok dz N a) (d:Option Nat) (v:Value):Ok dz N (a.put d v):=by
  cases d with
  | none=>exact h
  | some d=>exact ⟨by simp[Act.put,h.size],h.defers⟩
def zGE (dz:List Deferred) (N:Nat) (Q:zFm):Exit→Act→World→Prop:=fun e a w=>Ok dz N a∧Q e (env a) w
def Wp (P:Program) (N:Nat) (c:Code) (Q:zFm) (σ:Env) (w:World):Prop:=
  ∀dz a,Ok dz N a→env a=σ→c.wp P (zGE dz N Q) a w
def thn (K:Env→World→Prop) (Q:zFm):zFm
  | .normal=>K
  | e=>Q e
def inB (id:Nat) (Q:zFm):zFm
  | .exit j=>if j=id then Q .normal else Q (.exit j)
  | e=>Q e
section
variable {P : Program} {N : Nat} {Q : zFm} {σ : Env} {w : World} {K : Env → World → Prop}
theorem zAC (h:K σ w):thn K Q .normal σ w:=h
theorem zAV {j:Nat} (h:Q (.exit j) σ w):thn K Q (.exit j) σ w:=h
theorem zAX (h:Q .ret σ w):thn K Q .ret σ w:=h
theorem zAS {id:Nat} (h:Q .normal σ w):inB id Q .normal σ w:=h
theorem zAh {id:Nat} (h:Q .ret σ w):inB id Q .ret σ w:=h
theorem zAf {id:Nat} (h:Q .normal σ w):inB id Q (.exit id) σ w:=by unfold inB;simp only[if_true];exact h
theorem zRN {id j:Nat} (hne:j≠id) (h:Q (.exit j) σ w):inB id Q (.exit j) σ w:=by unfold inB;simp only[hne,if_false];exact h
theorem zWy {c:Code} {Q':zFm} (h:Wp P N c Q σ w) (hq:∀e σ w,Q e σ w→Q' e σ w):Wp P N c Q' σ w:=
  fun dz a ha he=>Code.wp_mono (fun _ _ _ ⟨o,q⟩=>⟨o,hq _ _ _ q⟩) (h dz a ha he)
theorem zAH {x y:Code} (h:Wp P N x (thn (Wp P N y Q) Q) σ w):Wp P N (.seq x y) Q σ w:=by
  intro dz a ha he;refine wp_seq (Code.wp_mono ?_ (h dz a ha he));rintro e a w ⟨o,q⟩;cases e<;>first|exact q dz a o rfl|exact ⟨o,q⟩
theorem zAO (h:Q .normal σ w):Wp P N .skip Q σ w:=fun _ _ ha he=>wp_skip ⟨ha,he▸h⟩
theorem zAl {id:Nat} (h:Q (.exit id) σ w):Wp P N (.exit id) Q σ w:=fun _ _ ha he=>wp_exit ⟨ha,he▸h⟩
theorem zAW (h:Q .ret σ w):Wp P N .ret Q σ w:=fun _ _ ha he=>wp_ret ⟨ha,he▸h⟩
theorem zAT {id:Nat} {c:Code} (h:Wp P N c (inB id Q) σ w):Wp P N (.block id c) Q σ w:=by
  intro dz a ha he;refine wp_block (Code.wp_mono ?_ (h dz a ha he));rintro e a w ⟨o,q⟩;cases e with
  | exit j=>
    unfold Exit.inBlock;unfold inB at q;by_cases hj:j=id
    · simp only[hj,if_true] at q⊢;exact ⟨o,q⟩
    · simp only[hj,if_false] at q⊢;exact ⟨o,q⟩
  | normal=>exact ⟨o,q⟩
  | goto l=>exact ⟨o,q⟩
  | ret=>exact ⟨o,q⟩
  | panic c=>exact ⟨o,q⟩
  | outgrown=>exact ⟨o,q⟩
theorem zAx {c:Operand} {x y:Code} {b:Bool} (hc:ev σ c=.bool b) (ht:b=true→Wp P N x Q σ w) (hf:b=false→Wp P N y Q σ w) :
    Wp P N (.cond c x y) Q σ w:=by
  intro dz a ha he;refine wp_cond_split (t:=b) (by rw[zCL,he];exact hc) (fun h=>ht h dz a ha he) (fun h=>hf h dz a ha he)
theorem zAk {c:Operand} {x y:Code} (hc:ev σ c=.bool true) (h:Wp P N x Q σ w):Wp P N (.cond c x y) Q σ w:=
  zAx hc (fun _=>h) (fun h=>by cases h)
theorem zAN {c:Operand} {x y:Code} (hc:ev σ c=.bool false) (h:Wp P N y Q σ w):Wp P N (.cond c x y) Q σ w:=
  zAx hc (fun h=>by cases h) (fun _=>h)
theorem zAo {c:Code} (I:Nat→Env→World→Prop) {n:Nat} (h0:I n σ w)
    (round:∀n σ w,I n σ w→Wp P N c (thn (fun σ' w'=>∃m,m<n∧I m σ' w') Q) σ w):Wp P N (.loop c) Q σ w:=by
  intro dz a ha he b k cs;have ae:∀n a w,Ok dz N a→I n (env a) w→
      ∃e a' w',zGE dz N Q e a' w'∧Arrives P (lone (b.at a (.code c::.inLoop c::k)) cs w) b k cs e a' w':=by
    intro n
    induction n using Nat.strongRecOn with
    | _ n ih=>
      intro a w ha hI;obtain ⟨e,a1,w1,⟨ho,hq⟩,aa⟩:=round n _ w hI dz a ha rfl b (.inLoop c::k) cs;cases e with
      | normal=>
        obtain ⟨m,af,ad⟩:=hq;obtain ⟨e2,a2,w2,ac,ab⟩:=ih m af a1 w1 ho ad;exact ⟨e2,a2,w2,ac,.of_steps (Steps.trans aa (.one step_inLoop)) ab⟩
      | exit id=>exact ⟨_,a1,w1,⟨ho,hq⟩,.pass (x:=.inLoop c) rfl (fun _ _=>.inl qP) aa⟩
      | goto l=>exact ⟨_,a1,w1,⟨ho,hq⟩,.pass (x:=.inLoop c) rfl (fun _ _=>.inl qP) aa⟩
      | ret=>exact ⟨_,a1,w1,⟨ho,hq⟩,.pass (x:=.inLoop c) rfl (fun _ _=>.inl qP) aa⟩
      | panic ch=>exact ⟨_,a1,w1,⟨ho,hq⟩,.pass (x:=.inLoop c) rfl (fun _ _=>.inl qP) aa⟩
      | outgrown=>exact ⟨_,a1,w1,⟨ho,hq⟩,.pass (x:=.inLoop c) rfl (fun _ _=>.inl qP) aa⟩
  obtain ⟨e,a',w',hq,aa⟩:=ae n a w ha (he▸h0);exact ⟨e,a',w',hq,.of_steps (.one step_loop) aa⟩
end
def WpL (P:Program) (N:Nat) (ops:Array Oper) (K:Env→World→Prop) (Q:zFm) (l:List Oper) (σ:Env) (w:World):Prop:=
  ∀dz a,Ok dz N a→env a=σ→wpList P ops (zGE dz N (thn K Q)) l a w
section
variable {P : Program} {N : Nat} {Q : zFm} {σ : Env} {w : World} {K : Env → World → Prop} {ops : Array Oper} {rest : List Oper}
theorem zAF {id:Nat} {l:List Oper} (h:WpL P N l.toArray (Q .normal) Q l σ w):Wp P N (.region id l.toArray false) Q σ w:=by
  intro dz a ha he;refine wp_region_lit ?_;have:=h dz a ha he;have e:zGE dz N (thn (Q .normal) Q)=zGE dz N Q:=by funext e a w;cases e<;>rfl
  rwa [e] at this
theorem zAA {id:Nat} {l:List Oper} {y:Code} (h:WpL P N l.toArray (Wp P N y Q) Q l σ w):Wp P N (.seq (.region id l.toArray false) y) Q σ w:=by
  refine zAH ?_;intro dz a ha he;exact wp_region_lit (h dz a ha he)
theorem zAB (h:K σ w):WpL P N ops K Q [] σ w:=fun dz a ha he=>⟨ha,by subst he;exact h⟩
theorem zBo {o:Oper} (hg:o.guard=none) {d:Nat} (hd:o.dst=some d) (hN:d<N) {v:Value} {w':World}
    (hr:(execOp (ev σ) o).run P w=.ok (.value v) w') (k:WpL P N ops K Q rest (upd σ d v) w'):WpL P N ops K Q (o::rest) σ w:=by
  intro dz a ha he;refine wpList_plain hg fun K' hK=>?_;unfold Oper.wp;rw[zCL,he,hr];simp only[Oper.upon,hd];exact hK _ _ (k dz _ (ha.put _ _) (by rw[zDQ ha hN,he]))
theorem zGl {o:Oper} (hg:o.guard=none) (hd:o.dst=none) {w':World}
    (hr:(execOp (ev σ) o).run P w=.ok .skip w') (k:WpL P N ops K Q rest σ w'):WpL P N ops K Q (o::rest) σ w:=by
  intro dz a ha he;refine wpList_plain hg fun K' hK=>?_;unfold Oper.wp;rw[zCL,he,hr];simp only[Oper.upon,hd];exact hK _ _ (k dz a ha he)
def Ret (P:Program) (f:FuncId) (args:Array Value) (w:World) (R:Value→World→Prop):Prop:=
  Calls P f args w fun e w'=>∃v,e=.returned v∧R v w'
theorem Ret.mono {f:FuncId} {args:Array Value} {R R':Value→World→Prop} (h:Ret P f args w R) (hr:∀v w',R v w'→R' v w'):Ret P f args w R':=
  Calls.mono h fun _ _ ⟨v,e,r⟩=>⟨v,e,hr _ _ r⟩
theorem zDC {o:Oper} (hg:o.guard=none) {d:Nat} (hd:o.dst=some d) (hN:d<N) {f:FuncId} {args:Array Value} {R:Value→World→Prop}
    (hr:(execOp (ev σ) o).run P w=.ok (.enter f args) w) (hc:Ret P f args w R) (k:∀v w',R v w'→WpL P N ops K Q rest (upd σ d v) w'):WpL P N ops K Q (o::rest) σ w:=by
  intro dz a ha he;refine wpList_plain hg fun K' hK=>?_;unfold Oper.wp;rw[zCL,he,hr];simp only[Oper.upon,hd];refine Calls.mono hc ?_;rintro e w' ⟨v,rfl,r⟩;exact hK _ _ (k v w' r dz _ (ha.put _ _) (by rw[zDQ ha hN,he]))
def zSX (P:Program) (ch:List PanicEntry) (f:FuncId) (args:Array Value) (w:World) (R:Value→World→Prop) (X:World→Prop):Prop:=
  Calls P f args w fun e w'=>(∃v,e=.returned v∧R v w')∨(e=.panicked ch∧X w')
theorem zSX.mono {ch:List PanicEntry} {f:FuncId} {args:Array Value} {R R':Value→World→Prop} {X X':World→Prop} (h:zSX P ch f args w R X) (hr:∀v w',R v w'→R' v w') (hx:∀w',X w'→X' w'):zSX P ch f args w R' X':=
  Calls.mono h fun _ _ h=>h.imp (fun ⟨v,e,r⟩=>⟨v,e,hr _ _ r⟩) fun ⟨e,x⟩=>⟨e,hx _ x⟩
theorem zBX {o:Oper} (hg:o.guard=none) {d:Nat} (hd:o.dst=some d) (hN:d<N) {ch:List PanicEntry} {f:FuncId} {args:Array Value} {R:Value→World→Prop} {X:World→Prop}
    (hr:(execOp (ev σ) o).run P w=.ok (.enter f args) w) (hc:zSX P ch f args w R X) (hx:∀w',X w'→Q (.panic ch) σ w') (k:∀v w',R v w'→WpL P N ops K Q rest (upd σ d v) w'):WpL P N ops K Q (o::rest) σ w:=by
  intro dz a ha he;refine wpList_plain hg fun K' hK=>?_;unfold Oper.wp;rw[zCL,he,hr];simp only[Oper.upon,hd];refine Calls.mono hc ?_;rintro e w' (⟨v,rfl,r⟩|⟨rfl,x⟩)
  · exact hK _ _ (k v w' r dz _ (ha.put _ _) (by rw[zDQ ha hN,he]))
  · exact ⟨ha,by rw[he];exact hx _ x⟩
theorem zAL {dst:Option Tmp} {op:Op} {ty:TypeId} {pos:String} {af:Array Edge} {j:Nat} {b:Bool} {oj:Oper} {dj:Nat}
    (hj:ops[j]?=some oj) (hdj:oj.dst=some dj) (hN:dj<N) (hy:σ dj=.bool b)
    (k:WpL P N ops K Q (⟨dst,op,ty,pos,af,none⟩::rest) σ w):WpL P N ops K Q (⟨dst,op,ty,pos,af,some (j,b)⟩::rest) σ w:=by
  intro dz a ha he;have h1:=k dz a ha he;have hw:Region.wanted ⟨dst,op,ty,pos,af,some (j,b)⟩ (yielded ops a.tmps)=true:=by
    simp only[Region.wanted,yielded,hj,hdj,Option.bind_some];have:a.tmps[dj]?=some (Value.bool b):=by
      have h2:a.tmps.getD dj undef=.bool b:=by rw[←hy,←he];rfl
      have aa:dj<a.tmps.size:=by rw[ha.size];exact hN
      rw[Array.getElem?_eq_getElem aa];simpa[aa] using h2
    simp[this]
  unfold wpList at h1⊢;rw[if_pos hw];rw[if_pos (by rfl)] at h1;exact h1
theorem zAM {d:Nat} {op:Op} {ty:TypeId} {pos:String} {af:Array Edge} {j:Nat} {b:Bool} {oj:Oper} {dj:Nat} {v:Value}
    (hj:ops[j]?=some oj) (hdj:oj.dst=some dj) (hd:d<N) (hy:σ dj=v) (hv:v=.bool (!b)∨v=undef)
    (k:WpL P N ops K Q rest (upd σ d undef) w):WpL P N ops K Q (⟨some d,op,ty,pos,af,some (j,b)⟩::rest) σ w:=by
  intro dz a ha he;have hw:Region.wanted ⟨some d,op,ty,pos,af,some (j,b)⟩ (yielded ops a.tmps)=false:=by
    simp only[Region.wanted,yielded,hj,hdj,Option.bind_some];have h2:a.tmps.getD dj undef=v:=by rw[←hy,←he];rfl
    cases hx:a.tmps[dj]? with
    | none=>simp
    | some u=>
      have:u=v:=by simpa[hx] using h2
      subst this;rcases hv with rfl|rfl
      · cases b<;>simp
      · simp[undef]
  unfold wpList;rw[hw,if_neg qP];exact k dz _ (ha.put _ _) (by rw[zDQ ha hd,he])
theorem zKq {d:Nat} {op:Op} {ty:TypeId} {pos:String} {af:Array Edge} {j:Nat} {b:Bool} {oj:Oper} {dj:Nat} {gv u:Value}
    (hj:ops[j]?=some oj) (hdj:oj.dst=some dj) (hN:dj<N) (hd:d<N) (hy:σ dj=gv)
    (h:(gv=.bool b∧(execOp (ev σ) ⟨some d,op,ty,pos,af,none⟩).run P w=.ok (.value u) w)∨((gv=.bool (!b)∨gv=undef)∧u=undef))
    (k:WpL P N ops K Q rest (upd σ d u) w):WpL P N ops K Q (⟨some d,op,ty,pos,af,some (j,b)⟩::rest) σ w:=by
  rcases h with ⟨h1,h2⟩|⟨h1,rfl⟩
  · exact zAL hj hdj hN (hy.trans h1) (zBo rfl rfl hd h2 k)
  · exact zAM hj hdj hd hy h1 k
end
def fin (P:Program) (fn:Func) (R:Value→World→Prop):zFm
  | .normal,σ,w | .ret,σ,w=>∃v,(∀a:Act,env a=σ→(results fn a.tmps).run P w=.ok v w)∧R v w
  | _,_,_=>False
theorem zDE {P:Program} {f:FuncId} {fn:Func} {c:Code} {N:Nat} {args:Array Value} {w:World} {R:Value→World→Prop}
    (hf:P.funcs[f]?=some fn) (hb:fn.body=some c) (hn:fn.ntmps=N) (hsz:args.size≤N)
    (h:Wp P N c (fin P fn R) (fun t=>args.getD t undef) w):Ret P f args w R:=by
  refine calls_of_wp hf hb (Code.wp_mono ?_ (h [] _ ⟨?_,rfl⟩ ?_))
  · rintro e a w ⟨o,q⟩;cases e<;>simp only[fin] at q
    · obtain ⟨v,hv,r⟩:=q;exact ⟨o.defers,v,hv a rfl,v,rfl,r⟩
    · obtain ⟨v,hv,r⟩:=q;exact ⟨o.defers,v,hv a rfl,v,rfl,r⟩
  · simp[hn];omega
  · funext t;simp only[env,Array.getD_eq_getD_getElem?,Array.getElem?_append];split
    · rfl
    · rename_i hlt
      rw[Array.getElem?_replicate,Array.getElem?_eq_none (xs:=args) qO];split<;>rfl
def zZQ (P:Program) (ch:List PanicEntry) (fn:Func) (R:Value→World→Prop) (X:World→Prop):zFm
  | .panic c,_,w=>c=ch∧X w
  | e,σ,w=>fin P fn R e σ w
theorem zDj {P:Program} {ch:List PanicEntry} {f:FuncId} {fn:Func} {c:Code} {N:Nat} {args:Array Value} {w:World} {R:Value→World→Prop} {X:World→Prop}
    (hf:P.funcs[f]?=some fn) (hb:fn.body=some c) (hn:fn.ntmps=N) (hsz:args.size≤N)
    (h:Wp P N c (zZQ P ch fn R X) (fun t=>args.getD t undef) w):zSX P ch f args w R X:=by
  refine calls_of_wp hf hb (Code.wp_mono ?_ (h [] _ ⟨?_,rfl⟩ ?_))
  · rintro e a w ⟨o,q⟩;cases e<;>simp only[zZQ,fin] at q
    · obtain ⟨v,hv,r⟩:=q;exact ⟨o.defers,v,hv a rfl,.inl ⟨v,rfl,r⟩⟩
    · obtain ⟨v,hv,r⟩:=q;exact ⟨o.defers,v,hv a rfl,.inl ⟨v,rfl,r⟩⟩
    · obtain ⟨rfl,x⟩:=q;exact ⟨o.defers,.inr ⟨rfl,x⟩⟩
  · simp[hn];omega
  · funext t;simp only[env,Array.getD_eq_getD_getElem?,Array.getElem?_append];split
    · rfl
    · rename_i hlt
      rw[Array.getElem?_replicate,Array.getElem?_eq_none (xs:=args) qO];split<;>rfl
theorem zAZ {P:Program} {fn:Func} {R:Value→World→Prop} {t:Nat} (hr:fn.results=#[.tmp t]) {σ:Env} {w:World} {v:Value} (hv:σ t=v) (h:R v w):fin P fn R .ret σ w:=
  ⟨v,fun a ha=>by rw[results_tmp hr];subst ha;rw[←hv];rfl,h⟩
theorem zCY {P:Program} {fn:Func} {R:Value→World→Prop} {t u:Nat} (hr:fn.results=#[.tmp t,.tmp u]) {σ:Env} {w:World} {v v':Value} (hv:σ t=v) (hv':σ u=v') (h:R (.tuple #[v,v']) w):fin P fn R .ret σ w:=
  ⟨.tuple #[v,v'],fun a ha=>by rw[results_tmp2 hr];subst ha;rw[←hv,←hv'];rfl,h⟩
theorem zET {P:Program} {fn:Func} {R:Value→World→Prop} (hr:fn.results=#[]) {σ:Env} {w:World} (h:R (.tuple #[]) w):fin P fn R .normal σ w:=
  ⟨.tuple #[],fun a ha=>by rw[results_none hr],h⟩
theorem zRc {P:Program} {fn:Func} {R:Value→World→Prop} (hr:fn.results=#[]) {σ:Env} {w:World} (h:R (.tuple #[]) w):fin P fn R .ret σ w:=
  ⟨.tuple #[],fun a ha=>by rw[results_none hr],h⟩
end Go.Eng
namespace Go.Eng
open Go
structure Chg (M:Nat→Prop) (w w':World):Prop where
  os:w'.os=w.os
  tape:w'.tape=w.tape
  output:w'.output=w.output
  drw:w.drawn≤w'.drawn
  size:w.heap.size≤w'.heap.size
  blk:∀b,b<w.heap.size→¬M b→w'.heap[b]?=w.heap[b]?
def zAe:Nat→Prop:=fun _=>False
def Ext (w w':World):Prop:=Chg zAe w w'
def Blk (w:World) (b:Nat) (c:Array Value) (t:TypeId):Prop:=w.heap[b]?=some (.cells c t (0,0))
theorem Chg.refl (M:Nat→Prop) (w:World):Chg M w w:=⟨rfl,rfl,rfl,Nat.le_refl _,Nat.le_refl _,fun _ _ _=>rfl⟩
theorem Ext.refl (w:World):Ext w w:=Chg.refl _ w
theorem Chg.step {M M':Nat→Prop} {a b c:World} (h:Chg M a b) (k:Chg M' b c) (hm:∀x,x<a.heap.size→M' x→M x):Chg M a c:=
  ⟨k.os.trans h.os,k.tape.trans h.tape,k.output.trans h.output,Nat.le_trans h.drw k.drw,Nat.le_trans h.size k.size,
    fun x hx hn=>(k.blk x (Nat.lt_of_lt_of_le hx h.size) (fun hm'=>hn (hm x hx hm'))).trans (h.blk x hx hn)⟩
theorem Chg.trans {M:Nat→Prop} {a b c:World} (h:Chg M a b) (k:Chg M b c):Chg M a c:=h.step k fun _ _ x=>x
theorem Chg.ext {M:Nat→Prop} {a b c:World} (h:Chg M a b) (k:Ext b c):Chg M a c:=h.step k fun _ _ x=>x.elim
theorem Ext.trans {a b c:World} (h:Ext a b) (k:Ext b c):Ext a c:=Chg.trans h k
theorem Ext.chg {M:Nat→Prop} {a b:World} (h:Ext a b):Chg M a b:=⟨h.os,h.tape,h.output,h.drw,h.size,fun x hx _=>h.blk x hx (fun f=>f)⟩
theorem Chg.mono {M M':Nat→Prop} {a b:World} (h:Chg M a b) (hm:∀x,x<a.heap.size→M x→M' x):Chg M' a b:=
  ⟨h.os,h.tape,h.output,h.drw,h.size,fun x hx hn=>h.blk x hx fun m=>hn (hm x hx m)⟩
theorem Blk.lt {w:World} {b:Nat} {c:Array Value} {t:TypeId} (h:Blk w b c t):b<w.heap.size:=(Array.getElem?_eq_some_iff.1 h).1
theorem Chg.keep {M:Nat→Prop} {w w':World} (h:Chg M w w') {b:Nat} {c:Array Value} {t:TypeId} (hm:¬M b) (hb:Blk w b c t):Blk w' b c t:=
  (h.blk b hb.lt hm).trans hb
theorem Ext.keep {w w':World} (h:Ext w w') {b:Nat} {c:Array Value} {t:TypeId} (hb:Blk w b c t):Blk w' b c t:=Chg.keep h (fun f=>f) hb
theorem Chg.cell {M:Nat→Prop} {w w':World} (h:Chg M w w') {a:Addr} {v:Value} (hm:¬M a.block) (hc:w.cell? a=some v):w'.cell? a=some v:=
  (World.cell?_of_block (w:=w) (h.blk a.block (World.block_lt_of_cell? w a hc) hm)).trans hc
theorem Ext.cell {w w':World} (h:Ext w w') {a:Addr} {v:Value} (hc:w.cell? a=some v):w'.cell? a=some v:=Chg.cell h (fun f=>f) hc
theorem Blk.cell {w:World} {b:Nat} {c:Array Value} {t:TypeId} (h:Blk w b c t) {o:Nat} {v:Value} (hv:c[o]?=some v):w.cell? ⟨b,o,none⟩=some v:=by
  unfold Blk at h;simp[World.cell?,h,hv]
theorem Ext.below {w w':World} (h:Ext w w'):RowKit.Below w.heap.size w w':=⟨h.os,h.tape,h.output,h.size,fun k hk=>h.blk k hk fun f=>f⟩
theorem Ext.grown {w w':World} (h:Ext w w'):∃q os,w'=Sort.grow (w.drewN q) os:=by
  refine ⟨w'.drawn - w.drawn,w'.heap.extract w.heap.size w'.heap.size,?_⟩;have h1:=h.os;have h2:=h.tape;have h3:=h.output;have h4:=h.drw;have h5:=h.size;have h6:=h.blk;obtain ⟨hp,tp,dr,o,ou⟩:=w';obtain ⟨aa,tp',dr',o',ou'⟩:=w;simp only at h1 h2 h3 h4 h5 h6;subst h1;subst h2;subst h3;simp only[Sort.grow,World.drewN,World.mk.injEq,and_true,true_and];refine ⟨?_,qO⟩;apply Array.ext_getElem?;intro i;rw[Array.getElem?_append];by_cases hi:i<aa.size
  · rw[if_pos hi];exact h6 i hi fun f=>f
  · rw[if_neg hi,Array.getElem?_extract];by_cases h7:i<hp.size
    · rw[if_pos qO];congr 1;omega
    · rw[if_neg qO,Array.getElem?_eq_none qO]
structure New (w w':World) (b:Nat) (c:Array Value) (t:TypeId):Prop where
  blk:Blk w' b c t
  ext:Ext w w'
  eq:b=w.heap.size
  size:w'.heap.size=w.heap.size+1
theorem New.mk' (w:World) (c:Array Value) (t:TypeId):New w {w with heap:=w.heap.push (.cells c t (0,0))} w.heap.size c t:=
  ⟨by unfold Blk;simp,⟨rfl,rfl,rfl,Nat.le_refl _,qP,fun x hx _=>by simp[Array.getElem?_push,Nat.ne_of_lt hx]⟩,rfl,qP⟩
theorem New.keep {w w':World} {b:Nat} {c:Array Value} {t:TypeId} (h:New w w' b c t) {b':Nat} {c':Array Value} {t':TypeId} (hb:Blk w b' c' t'):Blk w' b' c' t':=h.ext.keep hb
theorem New.lt {w w':World} {b:Nat} {c:Array Value} {t:TypeId} (h:New w w' b c t) {b':Nat} {c':Array Value} {t':TypeId} (hb:Blk w b' c' t'):b'<b:=by rw[h.eq];exact hb.lt
theorem New.ge {w0 w w':World} {b:Nat} {c:Array Value} {t:TypeId} (h:New w w' b c t) {M:Nat→Prop} (e:Chg M w0 w):w0.heap.size≤b:=by rw[h.eq];exact e.size
structure Put (w w':World) (b:Nat) (c:Array Value) (t:TypeId):Prop where
  blk:Blk w' b c t
  chg:Chg (fun x=>x=b) w w'
  size:w'.heap.size=w.heap.size
theorem Put.of_setRow {w:World} {b:Nat} {c:Array Value} {t:TypeId} (h:Blk w b c t) (c':Array Value):Put w (w.setRow b c') b c' t:=
  ⟨setRow_heap w b c c' t _ h,⟨rfl,rfl,rfl,Nat.le_refl _,by simp[World.setRow],fun x _ hn=>setRow_other w b x c' hn⟩,by simp[World.setRow]⟩
theorem Put.keep {w w':World} {b:Nat} {c:Array Value} {t:TypeId} (h:Put w w' b c t) {b':Nat} {c':Array Value} {t':TypeId} (hne:b'≠b) (hb:Blk w b' c' t'):Blk w' b' c' t':=h.chg.keep hne hb
theorem Put.ext {w0 w w':World} {b:Nat} {c:Array Value} {t:TypeId} (h:Put w w' b c t) {M:Nat→Prop} (e:Chg M w0 w) (hb:w0.heap.size≤b):Chg M w0 w':=
  e.step h.chg fun x hx hm=>by subst hm;omega
theorem Put.step {w0 w w':World} {b:Nat} {c:Array Value} {t:TypeId} (h:Put w w' b c t) {M:Nat→Prop} (e:Chg M w0 w) (hb:w0.heap.size≤b∨M b):Chg M w0 w':=
  e.step h.chg fun x hx hm=>by subst hm;rcases hb with hb|hb;omega;exact hb
def zAz (w:World) (b o:Nat) (vs:List Value):Prop:=∀i v,vs[i]?=some v→w.cell? ⟨b,o+i,none⟩=some v
theorem zAz.chg {M:Nat→Prop} {w w':World} {b o:Nat} {vs:List Value} (h:zAz w b o vs) (e:Chg M w w') (hm:¬M b):zAz w' b o vs:=
  fun i v hv=>e.cell hm (h i v hv)
theorem zAz.ext {w w':World} {b o:Nat} {vs:List Value} (h:zAz w b o vs) (e:Ext w w'):zAz w' b o vs:=h.chg e fun f=>f
theorem Blk.cells {w:World} {b:Nat} {c:Array Value} {t:TypeId} (h:Blk w b c t) {o:Nat} {vs:List Value} (hv:(c.toList.drop o).take vs.length=vs):zAz w b o vs:=by
  intro i v hi;refine h.cell ?_;have aa:i<vs.length:=by
    rcases Nat.lt_or_ge i vs.length with h|h
    · exact h
    · simp[List.getElem?_eq_none h] at hi
  rw[←hv,List.getElem?_take_of_lt aa,List.getElem?_drop] at hi;simpa using hi
def Siz (P:Program) (t:TypeId) (n:Nat):Prop:=(P.info? t).map (fun i=>i.size)=some n
def Byt (P:Program) (t:TypeId) (n:Nat):Prop:=(P.info? t).map (fun i=>i.bytes)=some n
def Zer (P:Program) (t:TypeId) (z:Value):Prop:=(P.info? t).bind (fun i=>i.zero)=some z
def zDG (P:Program) (t:TypeId):Bool:=match P.underlying t with
  | some (.struct _)|some (.array _ _)|none=>false
  | some _=>true
def zMS (P:Program) (t:TypeId):Bool:=match P.underlying t with
  | some (.struct _)|some (.array _ _)=>true
  | _=>false
theorem Siz.run {P:Program} {t:TypeId} {n:Nat} (h:Siz P t n) (w:World):(sizeOf t).run P w=.ok n w:=by
  unfold Siz at h;cases hi:P.info? t with
  | none=>simp[hi] at h
  | some i=>simp[hi] at h;simp[sizeOf,typeInfo,hi,h]
theorem Zer.run {P:Program} {t:TypeId} {z:Value} (h:Zer P t z) (w:World):(zeroValue t).run P w=.ok z w:=by
  unfold Zer at h;cases hi:P.info? t with
  | none=>simp[hi] at h
  | some i=>simp[hi] at h;simp[zeroValue,typeInfo,hi,h]
theorem zDG.run {P:Program} {t:TypeId} (h:zDG P t=true) (w:World):(isAgg t).run P w=.ok false w:=by
  unfold zDG at h;cases hi:P.underlying t with
  | none=>simp[hi] at h
  | some d=>cases d<;>simp[hi] at h<;>simp[isAgg,run_underlying hi]
theorem zMS.run {P:Program} {t:TypeId} (h:zMS P t=true) (w:World):(isAgg t).run P w=.ok true w:=by
  unfold zMS at h;cases hi:P.underlying t with
  | none=>simp[hi] at h
  | some d=>cases d<;>simp[hi] at h<;>simp[isAgg,run_underlying hi]
section
variable {P : Program} {σ : Env} {w : World} {dst : Option Tmp} {ty : TypeId} {pos : String} {af : Array Edge} {g : Option (Nat × Bool)}
theorem zAj {x:Operand} {v:Value} (hx:ev σ x=v):(execOp (ev σ) ⟨dst,.move x,ty,pos,af,g⟩).run P w=.ok (.value v) w:=by subst hx;rfl
theorem zEu {x:Operand} {v:Value} (hx:ev σ x=v):(execOp (ev σ) ⟨dst,.assign x,ty,pos,af,g⟩).run P w=.ok (.value v) w:=by subst hx;rfl
theorem zAr {c x y:Operand} {b:Bool} {v:Value} (hc:ev σ c=.bool b) (hv:(if b then ev σ x else ev σ y)=v):(execOp (ev σ) ⟨dst,.pick c x y,ty,pos,af,g⟩).run P w=.ok (.value v) w:=by
  subst hv;simp only[execOp,hc,asBool];cases b<;>rfl
theorem zBd {x:Operand} {a:Addr} (hx:ev σ x=.pointer (some a)):(execOp (ev σ) ⟨dst,.nilCheck x,ty,pos,af,g⟩).run P w=.ok (.value (.pointer (some a))) w:=by
  simp only[execOp,hx];rfl
theorem zCa {t:TypeId} {x:Operand} {b:Bool} (hx:ev σ x=.bool b):(execOp (ev σ) ⟨dst,.unOp .not t x,ty,pos,af,g⟩).run P w=.ok (.value (.bool (!b))) w:=by
  simp only[execOp,hx];rfl
theorem zDY {s t:TypeId} {x:Operand} {k k':IntKind} {n c:Int} (hs:∃d,P.underlying s=some d) (ht:P.underlying t=some (.int k')) (hx:ev σ x=.int k n) (hw:k'.wrap n=c) :
    (execOp (ev σ) ⟨dst,.convert s t x,ty,pos,af,g⟩).run P w=.ok (.value (.int k' c)) w:=by
  obtain ⟨d,hd⟩:=hs;subst hw;simp only[execOp,hx,convert,Sem.run_bind,run_underlying hd,run_underlying ht,Result.andThen_ok];rfl
variable {t t' : TypeId} {x y : Operand} {k : IntKind} {a b c : Int}
theorem zAw (hx:ev σ x=.int k a) (hy:ev σ y=.int k b) (hw:k.wrap (a+b)=c):(execOp (ev σ) ⟨dst,.binOp .add t x y t',ty,pos,af,g⟩).run P w=.ok (.value (.int k c)) w:=by
  subst hw;simp only[execOp,hx,hy,eqGuard,binOp];simp[Op.intArith]
theorem zEX (hx:ev σ x=.int k a) (hy:ev σ y=.int k b) (hw:k.wrap (a - b)=c):(execOp (ev σ) ⟨dst,.binOp .sub t x y t',ty,pos,af,g⟩).run P w=.ok (.value (.int k c)) w:=by
  subst hw;simp only[execOp,hx,hy,eqGuard,binOp];simp[Op.intArith]
theorem zQd (hx:ev σ x=.int k a) (hy:ev σ y=.int k b) (hw:k.wrap (a*b)=c):(execOp (ev σ) ⟨dst,.binOp .mul t x y t',ty,pos,af,g⟩).run P w=.ok (.value (.int k c)) w:=by
  subst hw;simp only[execOp,hx,hy,eqGuard,binOp];simp[Op.intArith]
theorem zVs (hx:ev σ x=.int k a) (hy:ev σ y=.int k b) (h0:b≠0) (hw:a.tmod b=c):(execOp (ev σ) ⟨dst,.binOp .rem t x y t',ty,pos,af,g⟩).run P w=.ok (.value (.int k c)) w:=by
  subst hw;simp only[execOp,hx,hy,eqGuard,binOp];simp[Op.intDiv,h0]
theorem zVt (hx:ev σ x=.int k a) (hy:ev σ y=.int k b) (h0:b≠0) (hw:k.wrap (a.tdiv b)=c):(execOp (ev σ) ⟨dst,.binOp .quo t x y t',ty,pos,af,g⟩).run P w=.ok (.value (.int k c)) w:=by
  subst hw;simp only[execOp,hx,hy,eqGuard,binOp];simp[Op.intDiv,h0]
theorem zBA (hx:ev σ x=.int k a) (hy:ev σ y=.int k b):(execOp (ev σ) ⟨dst,.binOp .lss t x y t',ty,pos,af,g⟩).run P w=.ok (.value (.bool (decide (a<b)))) w:=by
  simp only[execOp,hx,hy,eqGuard,binOp];simp[Op.intCmp]
theorem zMn (hx:ev σ x=.int k a) (hy:ev σ y=.int k b):(execOp (ev σ) ⟨dst,.binOp .leq t x y t',ty,pos,af,g⟩).run P w=.ok (.value (.bool (decide (a≤b)))) w:=by
  simp only[execOp,hx,hy,eqGuard,binOp];simp[Op.intCmp]
theorem zEN (hx:ev σ x=.int k a) (hy:ev σ y=.int k b):(execOp (ev σ) ⟨dst,.binOp .gtr t x y t',ty,pos,af,g⟩).run P w=.ok (.value (.bool (decide (b<a)))) w:=by
  simp only[execOp,hx,hy,eqGuard,binOp];simp[Op.intCmp]
theorem zDF (hx:ev σ x=.int k a) (hy:ev σ y=.int k b):(execOp (ev σ) ⟨dst,.binOp .geq t x y t',ty,pos,af,g⟩).run P w=.ok (.value (.bool (decide (b≤a)))) w:=by
  simp only[execOp,hx,hy,eqGuard,binOp];simp[Op.intCmp]
theorem zAq (hx:ev σ x=.int k a) (hy:ev σ y=.int k b):(execOp (ev σ) ⟨dst,.binOp .eql t x y t',ty,pos,af,g⟩).run P w=.ok (.value (.bool (decide (a=b)))) w:=by
  have:(a == b)=decide (a=b):=by rw[Bool.eq_iff_iff];simp
  rw[←this];simp only[execOp,hx,hy,eqGuard,binOp];simp[Op.intCmp]
theorem zEY (hx:ev σ x=.int k a) (hy:ev σ y=.int k b):(execOp (ev σ) ⟨dst,.binOp .neq t x y t',ty,pos,af,g⟩).run P w=.ok (.value (.bool (decide (a≠b)))) w:=by
  have:(a != b)=decide (a≠b):=by rw[Bool.eq_iff_iff];simp
  rw[←this];simp only[execOp,hx,hy,eqGuard,binOp];simp[Op.intCmp]
theorem zJd {op:BinOp} {v:Value} (hx:ev σ x=.int k a) (hy:ev σ y=.int k b) (ho:op=.and∨op=.or∨op=.xor∨op=.andNot) (hv:(Op.intBits op k a b).run P w=.ok v w) :
    (execOp (ev σ) ⟨dst,.binOp op t x y t',ty,pos,af,g⟩).run P w=.ok (.value v) w:=by
  rcases ho with rfl|rfl|rfl|rfl<;>(simp only[execOp,hx,hy,eqGuard,binOp];simp[hv])
theorem zXn {k':IntKind} (hx:ev σ x=.int k a) (hy:ev σ y=.int k' b) (h0:0≤b) (hw:k.wrap (a*2 ^ (min b.toNat k.bits))=c) :
    (execOp (ev σ) ⟨dst,.binOp .shl t x y t',ty,pos,af,g⟩).run P w=.ok (.value (.int k c)) w:=by
  subst hw;simp only[execOp,hx,hy,eqGuard,binOp];simp[Op.shift,Int.not_lt.2 h0]
theorem zJE {k':IntKind} (hx:ev σ x=.int k a) (hy:ev σ y=.int k' b) (h0:0≤b) (hw:a.fdiv (2 ^ (min b.toNat k.bits))=c) :
    (execOp (ev σ) ⟨dst,.binOp .shr t x y t',ty,pos,af,g⟩).run P w=.ok (.value (.int k c)) w:=by
  subst hw;simp only[execOp,hx,hy,eqGuard,binOp];simp[Op.shift,Int.not_lt.2 h0]
theorem zAK {e:TypeId} {ad:Option Addr} {n cap:Nat} (hu:P.underlying t=some (.slice e)) (hx:ev σ x=.slice ad n cap) :
    (execOp (ev σ) ⟨dst,.call ⟨.builtin .len,#[x],#[t]⟩,ty,pos,af,g⟩).run P w=.ok (.value (.int .i64 n)) w:=by
  simp only[execOp,resolve,List.map_toArray,List.map_cons,List.map_nil,hx];simp[invoke,builtin,Builtin.len_,run_underlying hu,goInt]
theorem zAY {fs:Array Field} {f:Field} {i n b o o':Nat} (hx:ev σ x=.pointer (some ⟨b,o,none⟩)) (hu:P.underlying t=some (.struct fs)) (hf:fs[i]?=some f) (hs:Siz P f.type (n+1)) (ho:o+f.offset=o') :
    (execOp (ev σ) ⟨dst,.fieldAddr t x i,ty,pos,af,g⟩).run P w=.ok (.value (.pointer (some ⟨b,o',none⟩))) w:=by
  subst ho;simp[execOp,hx,Instr.fieldAt,run_underlying hu,hf,Instr.sureAddr,fieldPlace,hs.run,Addr.add_lit]
theorem zAD {e:TypeId} {n b o o' len cap i:Nat} {k:IntKind} {a:Int} (hx:ev σ x=.slice (some ⟨b,o,none⟩) len cap) (hy:ev σ y=.int k a) (ha:a=(i:Int)) (hu:P.underlying t=some (.slice e)) (hs:Siz P e n) (hi:i<len) (ho:o+i*n=o') :
    (execOp (ev σ) ⟨dst,.indexAddr t x y,ty,pos,af,g⟩).run P w=.ok (.value (.pointer (some ⟨b,o',none⟩))) w:=by
  subst ho;subst ha;have h1:(0:Int)≤(i:Int)∧(i:Int)<(len:Int):=qO
  simp[execOp,hx,hy,Instr.indexAt,asIntOf,run_underlying hu,hs.run,Addr.add_lit,hi]
theorem zCE {e:TypeId} {n b o o' len i:Nat} {k:IntKind} {a:Int} (hx:ev σ x=.pointer (some ⟨b,o,none⟩)) (hy:ev σ y=.int k a) (ha:a=(i:Int)) (hu:P.underlying t=some (.array len e)) (hs:Siz P e n) (hi:i<len) (ho:o+i*n=o') :
    (execOp (ev σ) ⟨dst,.indexAddr t x y,ty,pos,af,g⟩).run P w=.ok (.value (.pointer (some ⟨b,o',none⟩))) w:=by
  subst ho;subst ha;simp[execOp,hx,hy,Instr.indexAt,Instr.sureAddr,asIntOf,run_underlying hu,hs.run,Addr.add_lit,hi]
theorem zFL {e:TypeId} {a a':Option Addr} {n len cap lo n' c':Nat} {k:IntKind} {l:Int} (hu:P.underlying t=some (.slice e)) (hs:Siz P e n) (hx:ev σ x=.slice a len cap) (hy:ev σ y=.int k l) (hl:l=(lo:Int)) (h1:lo≤len) (ha:(if cap=lo then a else a.map (·.add (lo*n)))=a') (hn:len - lo=n') (hc:cap - lo=c') :
    (execOp (ev σ) ⟨dst,.slice t x (some y) none none,ty,pos,af,g⟩).run P w=.ok (.value (.slice a' n' c')) w:=by
  subst ha;subst hn;subst hc;subst hl;have h2:(0:Int)≤(lo:Int)∧(lo:Int)≤(len:Int):=qO
  simp[execOp,hx,hy,Instr.sliceAt,Instr.slice,run_underlying hu,Instr.sliceBounds,Instr.sliceBound,asIntOf,h1,hs.run]
theorem zLP {e:TypeId} {a a':Option Addr} {n len cap hi:Nat} {k:IntKind} {l:Int} (hu:P.underlying t=some (.slice e)) (hs:Siz P e n) (hx:ev σ x=.slice a len cap) (hy:ev σ y=.int k l) (hl:l=(hi:Int)) (h1:hi≤cap) (ha:(if cap=0 then a else a.map (·.add (0*n)))=a') :
    (execOp (ev σ) ⟨dst,.slice t x none (some y) none,ty,pos,af,g⟩).run P w=.ok (.value (.slice a' hi cap)) w:=by
  subst ha;subst hl;simp[execOp,hx,hy,Instr.sliceAt,Instr.slice,run_underlying hu,Instr.sliceBounds,Instr.sliceBound,asIntOf,h1,hs.run]
theorem zAG {ad:Addr} {v:Value} (hx:ev σ x=.pointer (some ad)) (hf:zDG P t=true) (hc:w.cell? ad=some v) :
    (execOp (ev σ) ⟨dst,.load t x,ty,pos,af,g⟩).run P w=.ok (.value v) w:=by
  simp[execOp,hx,Instr.loadAt,Instr.sureAddr,loadVar,zDG.run hf,hc]
theorem zAP {b o n:Nat} {vs:List Value} (hx:ev σ x=.pointer (some ⟨b,o,none⟩)) (hf:zMS P t=true) (hs:Siz P t n) (hn:vs.length=n) (hc:zAz w b o vs) :
    (execOp (ev σ) ⟨dst,.load t x,ty,pos,af,g⟩).run P w=.ok (.value (.agg vs.toArray)) w:=by
  subst hn;have h1:=run_loadCells_list (P:=P) w ⟨b,o,none⟩ vs (fun j v hj=>by rw[Addr.add_lit];exact hc j v hj);simp[execOp,hx,Instr.loadAt,Instr.sureAddr,loadVar,zMS.run hf,hs.run,h1]
theorem zBQ {fn:Fn} {first captured:List Operand} {vs us:List Value} (h1:first.map (ev σ)=vs) (h2:captured.map (ev σ)=us) :
    (execOp (ev σ) ⟨dst,.makeFunc fn first.toArray captured.toArray,ty,pos,af,g⟩).run P w=.ok (.value (.func fn vs.toArray us.toArray)) w:=by
  subst h1;subst h2;simp[execOp,Instr.makeFunc]
theorem zAb {i:Nat} {vs:Array Value} {v:Value} (hx:ev σ x=.tuple vs) (hv:vs[i]?=some v) :
    (execOp (ev σ) ⟨dst,.extract x i,ty,pos,af,g⟩).run P w=.ok (.value v) w:=by
  simp[execOp,hx,Instr.extract,hv]
theorem zBF {parts:List (Nat×Operand)} {ps:List (Nat×Value)} {v:Value} (hp:(parts.map fun (i,x)=>(i,ev σ x))=ps) (hb:(Instr.build t ps.toArray).run P w=.ok v w) :
    (execOp (ev σ) ⟨dst,.build t parts.toArray,ty,pos,af,g⟩).run P w=.ok (.value v) w:=by
  subst hp;simp[execOp,hb]
theorem zGO {f : FuncId} {fn : Func} {vs : Array Value} (hf : P.funcs[f]? = some fn) (hn : (fn.name == "runtime.NumGoroutine") = false) (hb : fn.body.isNone = false) :
    (callFunc f vs).run P w=.ok (.enter f vs) w:=by
  simp only[callFunc,Sem.run_bind,run_program,Result.andThen_ok,hf,hn,hb,Bool.false_eq_true,if_false];rfl
theorem zAU {f : FuncId} {fn : Func} {args : List Operand} {tys : Array TypeId} {vs : List Value} (hf : P.funcs[f]? = some fn) (hn : (fn.name == "runtime.NumGoroutine") = false) (hb : fn.body.isNone = false) (ha : args.map (ev σ) = vs) :
    (execOp (ev σ) ⟨dst,.call ⟨.value (.func f),args.toArray,tys⟩,ty,pos,af,g⟩).run P w=.ok (.enter f vs.toArray) w:=by
  subst ha;simp[execOp,resolve,ev,Deferred.ofValue,invoke,zGO hf hn hb]
theorem zCy {f : FuncId} {fn : Func} {z : Operand} {args : List Operand} {tys : Array TypeId} {first cap ws : Array Value} {vs : List Value} (hz : ev σ z = .func (.func f) first cap) (hf : P.funcs[f]? = some fn) (hn : (fn.name == "runtime.NumGoroutine") = false) (hb : fn.body.isNone = false) (ha : args.map (ev σ) = vs) (hws : first ++ vs.toArray ++ cap = ws) :
    (execOp (ev σ) ⟨dst,.call ⟨.value z,args.toArray,tys⟩,ty,pos,af,g⟩).run P w=.ok (.enter f ws) w:=by
  subst ha;subst hws;simp[execOp,resolve,hz,Deferred.ofValue,invoke,zGO hf hn hb]
end
section
variable {P : Program} {N : Nat} {Q : zFm} {σ : Env} {w : World} {K : Env → World → Prop} {ops : Array Oper} {rest : List Oper} {d : Nat} {ty : TypeId} {pos : String} {af : Array Edge} {t : TypeId} {x y : Operand}
theorem zBY {v:Value} {c:Array Value} (hN:d<N) (hx:ev σ x=v) (hc:v.cells=c) (k:∀b w',New w w' b c t→WpL P N ops K Q rest (upd σ d (.pointer (some ⟨b,0,none⟩))) w') :
    WpL P N ops K Q (⟨some d,.box t x,ty,pos,af,none⟩::rest) σ w:=by
  subst hc;refine zBo (v:=.pointer (some ⟨w.heap.size,0,none⟩)) (w':={w with heap:=w.heap.push (.cells v.cells t (0,0))}) rfl rfl hN ?_ (k _ _ (New.mk' w v.cells t));simp[execOp,hx,Instr.box,newVar,newRow]
theorem zBB {z:Value} {c:Array Value} (hN:d<N) (hz:Zer P t z) (hc:z.cells=c) (k:∀b w',New w w' b c t→WpL P N ops K Q rest (upd σ d (.pointer (some ⟨b,0,none⟩))) w') :
    WpL P N ops K Q (⟨some d,.alloc t,ty,pos,af,none⟩::rest) σ w:=by
  subst hc;refine zBo (v:=.pointer (some ⟨w.heap.size,0,none⟩)) (w':={w with heap:=w.heap.push (.cells z.cells t (0,0))}) rfl rfl hN ?_ (k _ _ (New.mk' w z.cells t));simp[execOp,Instr.alloc,hz.run,newVar,newRow]
theorem zAt {b o:Nat} {v:Value} {c c':Array Value} {e:TypeId} (hx:ev σ x=.pointer (some ⟨b,o,none⟩)) (hy:ev σ y=v) (h1:v.oneCell'=true) (hs:Siz P t 1) (hB:Blk w b c e) (ho:o<c.size) (hc:c.setIfInBounds o v=c')
    (k:∀w',Put w w' b c' e→WpL P N ops K Q rest σ w'):WpL P N ops K Q (⟨none,.store t x y,ty,pos,af,none⟩::rest) σ w:=by
  subst hc;refine zGl (w':=w.setRow b (c.setIfInBounds o v)) rfl rfl ?_ (k _ (Put.of_setRow hB _));have ab:v.cells=#[v]:=by cases v<;>first|rfl|(simp[Value.oneCell'] at h1;done)
  have aa:=run_storeCells_at P b o e [v] 0 c w hB (by simp;omega) (by simpa using h1);have he:(c.toList.take (o+0)++[v]++c.toList.drop (o+0+[v].length)).toArray=c.setIfInBounds o v:=by
    apply Array.ext';simp only[Nat.add_zero,List.length_singleton,Array.toList_setIfInBounds];rw[List.set_eq_take_append_cons_drop,if_pos (by simpa using ho)];simp
  rw[he] at aa;simp[execOp,hx,hy,Instr.storeAt,Instr.sureAddr,storeVar,hs.run,ab,aa]
theorem zAa {b o n:Nat} {vs c c':Array Value} {e:TypeId} (hx:ev σ x=.pointer (some ⟨b,o,none⟩)) (hy:ev σ y=.agg vs) (h1:∀v∈vs.toList,v.oneCell'=true) (hs:Siz P t n) (hn:vs.size=n) (hB:Blk w b c e) (ho:o+n≤c.size) (hc:(c.toList.take o++vs.toList++c.toList.drop (o+n)).toArray=c')
    (k:∀w',Put w w' b c' e→WpL P N ops K Q rest σ w'):WpL P N ops K Q (⟨none,.store t x y,ty,pos,af,none⟩::rest) σ w:=by
  subst hc;subst hn;refine zGl (w':=w.setRow b _) rfl rfl ?_ (k _ (Put.of_setRow hB _));have aa:=run_storeCells_at P b o e vs.toList 0 c w hB (by simpa using ho) h1;simp only[Nat.add_zero,Array.length_toList] at aa;simp[execOp,hx,hy,Instr.storeAt,Instr.sureAddr,storeVar,hs.run,Value.cells,aa]
theorem zAd {z v:Value} {n:Nat} {c:Array Value} {ty':TypeId} {pos':String} {af':Array Edge} (hN:d<N) (hz:Zer P t z) (hzs:z.cells.size=n) (hs:Siz P t n) (hy:ev (upd σ d (.pointer (some ⟨w.heap.size,0,none⟩))) y=v) (hc:v.cells=c) (hn:c.size=n) (h1:∀u∈c.toList,u.oneCell'=true)
    (k:∀b w',New w w' b c t→WpL P N ops K Q rest (upd σ d (.pointer (some ⟨b,0,none⟩))) w') :
    WpL P N ops K Q (⟨some d,.alloc t,ty,pos,af,none⟩::⟨none,.store t (.tmp d) y,ty',pos',af',none⟩::rest) σ w:=by
  subst hc;refine zBo (v:=.pointer (some ⟨w.heap.size,0,none⟩)) (w':={w with heap:=w.heap.push (.cells z.cells t (0,0))}) rfl rfl hN ?_ ?_
  · simp[execOp,Instr.alloc,hz.run,newVar,newRow]
  · refine zGl (w':={w with heap:=w.heap.push (.cells v.cells t (0,0))}) rfl rfl ?_ (k _ _ (New.mk' w v.cells t));have hB:Blk {w with heap:=w.heap.push (.cells z.cells t (0,0))} w.heap.size z.cells t:=(New.mk' w z.cells t).blk;have ab:=run_storeCells_at P w.heap.size 0 t v.cells.toList 0 z.cells _ hB (by simp[hn,hzs]) h1;have hd:ev (upd σ d (.pointer (some ⟨w.heap.size,0,none⟩))) (.tmp d)=.pointer (some ⟨w.heap.size,0,none⟩):=by simp[ev,upd]
    have hw:World.setRow {w with heap:=w.heap.push (.cells z.cells t (0,0))} w.heap.size (z.cells.toList.take (0+0)++v.cells.toList++z.cells.toList.drop (0+0+v.cells.toList.length)).toArray={w with heap:=w.heap.push (.cells v.cells t (0,0))}:=by
      have e:(z.cells.toList.take (0+0)++v.cells.toList++z.cells.toList.drop (0+0+v.cells.toList.length)).toArray=v.cells:=by
        apply Array.ext';simp[hn,←hzs]
      rw[e];simp only[World.setRow];congr 1;apply Array.ext
      · simp
      · intro i h1 h2;simp only[Array.getElem_modify,Array.getElem_push];by_cases hi:i<w.heap.size
        · simp[hi,Nat.ne_of_gt hi]
        · have:i=w.heap.size:=by simp at h2;omega
          simp[this]
    rw[hw] at ab;have aa:(storeCells ⟨w.heap.size,0,none⟩ v.cells.toList).run P (w.alloc (.cells z.cells t))=.ok () (w.alloc (.cells v.cells t)):=ab;simp[execOp,hd,hy,Instr.storeAt,Instr.sureAddr,storeVar,hs.run,hn,aa]
theorem zAc {e:TypeId} {len n:Nat} {z:Value} {parts:List (Nat×Operand)} {ps:List (Nat×Value)} {c:Array Value} (hN:d<N) (hp:(parts.map fun (i,x)=>(i,ev σ x))=ps) (hu:P.underlying t=some (.slice e)) (hs:Siz P e n) (hz:Zer P e z) (hl:¬(len*n > 2 ^ 24)) (h0:len*n≠0)
    (hc:Instr.fill (fun i=>some (i*n,n)) ((Array.range (len*n)).map (z.cells[· % z.cells.size]!)) ps=some c)
    (k:∀b w',New w w' b c e→WpL P N ops K Q rest (upd σ d (.slice (some ⟨b,0,none⟩) len len)) w'):WpL P N ops K Q (⟨some d,.buildSlice t len parts.toArray,ty,pos,af,none⟩::rest) σ w:=by
  subst hp;refine zBo (v:=.slice (some ⟨w.heap.size,0,none⟩) len len) (w':={w with heap:=w.heap.push (.cells c e (0,0))}) rfl rfl hN ?_ (k _ _ (New.mk' w c e));simp only[execOp,Instr.buildSlice,List.map_toArray,Sem.run_bind,run_underlying hu,Result.andThen_ok,hs.run,hl,h0,if_false,Sem.run_pure,hz.run,hc];simp[newRow]
end
theorem zEP {P:Program} {ops:Array Oper} {w:World} {R R':Act→Prop} (h:∀a,R a→R' a):∀(l:List Oper) (a:Act),wpStill P ops w R l a→wpStill P ops w R' l a
  | [],a,hr=>h a hr
  | o::rest,a,hr=>by
    unfold wpStill at hr⊢;split
    · rename_i hw
      rw[if_pos hw] at hr;exact Oper.still_mono (fun a'=>zEP h rest a') hr
    · rename_i hw
      rw[if_neg hw] at hr;exact zEP h rest _ hr
def WpS (P:Program) (N:Nat) (ops:Array Oper) (w:World) (K:Env→Prop) (l:List Oper) (σ:Env):Prop:=
  ∀dz a,Ok dz N a→env a=σ→wpStill P ops w (fun a'=>Ok dz N a'∧K (env a')) l a
def WpT (P:Program) (N:Nat) (ops:Array Oper) (w:World) (K:Env→World→Prop) (Q:zFm):Nat→List Oper→Env→Prop
  | n,l,σ=>WpS P N ops w (fun σ'=>WpL P N ops K Q (l.drop n) σ' w) (l.take n) σ
section
variable {P : Program} {N : Nat} {Q : zFm} {σ : Env} {w : World} {K : Env → World → Prop} {ops : Array Oper} {rest : List Oper} {n : Nat}
theorem zEW {l:List Oper} (h:WpL P N ops K Q l σ w):WpT P N ops w K Q 0 l σ:=fun dz a ha he=>by
  simp only[List.take_zero,List.drop_zero];exact ⟨ha,he▸h⟩
theorem zXA {o:Oper} (hg:o.guard=none) {d:Nat} (hd:o.dst=some d) (hN:d<N) {v:Value}
    (hr:(execOp (ev σ) o).run P w=.ok (.value v) w) (k:WpT P N ops w K Q n rest (upd σ d v)):WpT P N ops w K Q (n+1) (o::rest) σ:=by
  intro dz a ha he;simp only[List.take_succ_cons,List.drop_succ_cons];unfold wpStill;rw[if_pos (by simp[Region.wanted,hg])];unfold Oper.still;rw[zCL,he,hr];refine ⟨rfl,?_⟩;rw[hd];exact k dz _ (ha.put _ _) (by rw[zDQ ha hN,he])
theorem zBj {d:Nat} {op:Op} {ty:TypeId} {pos:String} {af:Array Edge} {j:Nat} {b:Bool} {oj:Oper} {dj:Nat} {gv u:Value}
    (hj:ops[j]?=some oj) (hdj:oj.dst=some dj) (hN:dj<N) (hd:d<N) (hy:σ dj=gv)
    (h:(gv=.bool b∧(execOp (ev σ) ⟨some d,op,ty,pos,af,none⟩).run P w=.ok (.value u) w)∨((gv=.bool (!b)∨gv=undef)∧u=undef))
    (k:WpT P N ops w K Q n rest (upd σ d u)):WpT P N ops w K Q (n+1) (⟨some d,op,ty,pos,af,some (j,b)⟩::rest) σ:=by
  intro dz a ha he;simp only[List.take_succ_cons,List.drop_succ_cons];have hk:=k dz _ (ha.put (some d) u) (by rw[zDQ ha hd,he]);have h2:a.tmps.getD dj undef=gv:=by rw[←hy,←he];rfl
  have aa:dj<a.tmps.size:=by rw[ha.size];exact hN
  have h3:a.tmps[dj]?=some gv:=by rw[Array.getElem?_eq_getElem aa];simpa[aa] using h2
  unfold wpStill;rcases h with ⟨h1,h4⟩|⟨h1,rfl⟩
  · subst h1;rw[if_pos (by simp[Region.wanted,yielded,hj,hdj,h3])];unfold Oper.still;have h5:(execOp a.eval ⟨some d,op,ty,pos,af,some (j,b)⟩).run P w=.ok (.value u) w:=by rw[zCL,he];exact h4
    rw[h5];exact ⟨rfl,hk⟩
  · rw[if_neg]
    · exact hk
    · rcases h1 with rfl|rfl
      · cases b<;>simp[Region.wanted,yielded,hj,hdj,h3]
      · simp[Region.wanted,yielded,hj,hdj,h3,undef]
theorem zBq {dst:Option Tmp} {op:Op} {ty:TypeId} {pos:String} {af:Array Edge} {j:Nat} {b:Bool} {oj:Oper} {dj:Nat}
    (hj:ops[j]?=some oj) (hdj:oj.dst=some dj) (hN:dj<N) (hy:σ dj=.bool b)
    (k:WpT P N ops w K Q (n+1) (⟨dst,op,ty,pos,af,none⟩::rest) σ):WpT P N ops w K Q (n+1) (⟨dst,op,ty,pos,af,some (j,b)⟩::rest) σ:=by
  intro dz a ha he;have h1:=k dz a ha he;simp only[List.take_succ_cons,List.drop_succ_cons] at h1⊢;have h2:a.tmps.getD dj undef=.bool b:=by rw[←hy,←he];rfl
  have aa:dj<a.tmps.size:=by rw[ha.size];exact hN
  have h3:a.tmps[dj]?=some (.bool b):=by rw[Array.getElem?_eq_getElem aa];simpa[aa] using h2
  unfold wpStill at h1⊢;rw[if_pos (by simp[Region.wanted,yielded,hj,hdj,h3])];rw[if_pos (by rfl)] at h1;exact h1
theorem zCA {d:Nat} {op:Op} {ty:TypeId} {pos:String} {af:Array Edge} {j:Nat} {b:Bool} {oj:Oper} {dj:Nat} {v:Value}
    (hj:ops[j]?=some oj) (hdj:oj.dst=some dj) (hd:d<N∧dj<N) (hy:σ dj=v) (hv:v=.bool (!b)∨v=undef)
    (k:WpT P N ops w K Q n rest (upd σ d undef)):WpT P N ops w K Q (n+1) (⟨some d,op,ty,pos,af,some (j,b)⟩::rest) σ:=
  zBj hj hdj hd.2 hd.1 hy (.inr ⟨hv,rfl⟩) k
theorem zFf (w:World):Ext w {w with drawn:=w.drawn+1}:=⟨rfl,rfl,rfl,Nat.le_succ _,Nat.le_refl _,fun _ _ _=>rfl⟩
theorem zKp {id:Nat} {l:List Oper} (n:Nat) (hm:P.follows .mixedOrders=true) (hB:Region.lexTailB .any l.toArray n=true)
    (h:∀w',Ext w w'→w'.heap=w.heap→WpT P N l.toArray w' (Q .normal) Q n l σ):Wp P N (.region id l.toArray true) Q σ w:=by
  intro dz a ha he;have e:zGE dz N (thn (Q .normal) Q)=zGE dz N Q:=by funext e a w;cases e<;>rfl
  refine wp_region_still_tail n hm hB ?_;have h1:=h _ (zFf w) rfl dz a ha he;have:(fun a'=>Ok dz N a'∧WpL P N l.toArray (Q .normal) Q (l.drop n) (env a') {w with drawn:=w.drawn+1})=(fun a'=>Ok dz N a'∧WpL P N l.toArray (Q .normal) Q (l.drop n) (env a') {w with drawn:=w.drawn+1}):=rfl;refine zEP ?_ _ _ h1;rintro a' ⟨aa,hk⟩;have:=hk dz a' aa rfl
  rwa [e] at this
theorem zEK {id:Nat} {l:List Oper} {y:Code} (n:Nat) (hm:P.follows .mixedOrders=true) (hB:Region.lexTailB .any l.toArray n=true)
    (h:∀w',Ext w w'→w'.heap=w.heap→WpT P N l.toArray w' (Wp P N y Q) Q n l σ):Wp P N (.seq (.region id l.toArray true) y) Q σ w:=by
  refine zAH (zKp n hm hB fun w' e he=>?_);have:thn (Wp P N y Q) Q .normal=Wp P N y Q:=rfl;intro dz a ha ac;have h1:=h w' e he dz a ha ac;refine zEP ?_ _ _ h1;rintro a' ⟨ab,hk⟩;refine ⟨ab,fun aa a2 h2 h3=>?_⟩;have h4:=hk aa a2 h2 h3;have e2:zGE aa N (thn (thn (Wp P N y Q) Q .normal) (thn (Wp P N y Q) Q))=zGE aa N (thn (Wp P N y Q) Q):=by funext e a w;cases e<;>rfl
  rw[e2];exact h4
end
theorem zBf {n:Int} (h : -9223372036854775808≤n∧n≤9223372036854775807):IntKind.i64.wrap n=n:=by
  simp only[IntKind.wrap,IntKind.bits,IntKind.signed,Bool.true_and,Bool.false_and,decide_eq_true_eq,ge_iff_le,Int.reducePow,Nat.reduceSub,Bool.false_eq_true,if_false];split<;>omega
theorem zXW {n:Int} (h:0≤n∧n≤18446744073709551615):IntKind.u64.wrap n=n:=by
  simp only[IntKind.wrap,IntKind.bits,IntKind.signed,Bool.true_and,Bool.false_and,decide_eq_true_eq,ge_iff_le,Int.reducePow,Nat.reduceSub,Bool.false_eq_true,if_false];omega
theorem zZc {n:Int} (h:0≤n∧n≤4294967295):IntKind.u32.wrap n=n:=by
  simp only[IntKind.wrap,IntKind.bits,IntKind.signed,Bool.true_and,Bool.false_and,decide_eq_true_eq,ge_iff_le,Int.reducePow,Nat.reduceSub,Bool.false_eq_true,if_false];omega
theorem zFq {P:Program} {N:Nat} {Q:zFm} {σ:Env} {w:World} {x y:Code} (J:Env→World→Prop) (h:Wp P N x (thn J Q) σ w) (k:∀σ' w',J σ' w'→Wp P N y Q σ' w'):Wp P N (.seq x y) Q σ w:=
  zAH (zWy h fun e σ' w' q=>by cases e<;>first|exact k _ _ q|exact q)
theorem zEt {P:Program} {w:World} {b o n:Nat} {t:TypeId} {vs:List Value} (hf:zMS P t=true) (hs:Siz P t n) (hn:vs.length=n) (hc:zAz w b o vs):(loadVar t ⟨b,o,none⟩).run P w=.ok (.agg vs.toArray) w:=by
  subst hn;have h1:=run_loadCells_list (P:=P) w ⟨b,o,none⟩ vs (fun j v hj=>by rw[Addr.add_lit];exact hc j v hj);simp[loadVar,zMS.run hf,hs.run,h1]
theorem zBb {P:Program} {fn:Func} {R:Value→World→Prop} {a0 t b n:Nat} (hr:fn.results=#[.cell a0 t]) {σ:Env} {w:World} {vs:List Value} (hv:σ a0=.pointer (some ⟨b,0,none⟩)) (hf:zMS P t=true) (hs:Siz P t n) (hn:vs.length=n) (hc:zAz w b 0 vs) (h:R (.agg vs.toArray) w):fin P fn R .ret σ w:=
  ⟨.agg vs.toArray,fun a ha=>by
    subst ha;have hv':a.tmps.getD a0 undef=.pointer (some ⟨b,0,none⟩):=hv;simp only[Array.getD_eq_getD_getElem?] at hv';simp[results,hr,hv',asAddr,zEt hf hs hn hc],h⟩
theorem zBG {P:Program} {fn:Func} {R:Value→World→Prop} {a0 t b n u:Nat} (hr:fn.results=#[.cell a0 t,.tmp u]) {σ:Env} {w:World} {vs:List Value} {v':Value} (hv:σ a0=.pointer (some ⟨b,0,none⟩)) (hf:zMS P t=true) (hs:Siz P t n) (hn:vs.length=n) (hc:zAz w b 0 vs) (hv':σ u=v') (h:R (.tuple #[.agg vs.toArray,v']) w):fin P fn R .ret σ w:=
  ⟨.tuple #[.agg vs.toArray,v'],fun a ha=>by
    subst ha;have h0:a.tmps.getD a0 undef=.pointer (some ⟨b,0,none⟩):=hv;have h1:a.tmps.getD u undef=v':=hv';simp only[Array.getD_eq_getD_getElem?] at h0 h1;simp[results,hr,h0,h1,asAddr,zEt hf hs hn hc],h⟩
theorem zDa {P:Program} {fn:Func} {R:Value→World→Prop} {a0 t b n u s:Nat} (hr:fn.results=#[.cell a0 t,.tmp u,.tmp s]) {σ:Env} {w:World} {vs:List Value} {v' v'':Value} (hv:σ a0=.pointer (some ⟨b,0,none⟩)) (hf:zMS P t=true) (hs:Siz P t n) (hn:vs.length=n) (hc:zAz w b 0 vs) (hv':σ u=v') (hv'':σ s=v'') (h:R (.tuple #[.agg vs.toArray,v',v'']) w):fin P fn R .ret σ w:=
  ⟨.tuple #[.agg vs.toArray,v',v''],fun a ha=>by
    subst ha;have h0:a.tmps.getD a0 undef=.pointer (some ⟨b,0,none⟩):=hv;have h1:a.tmps.getD u undef=v':=hv';have h2:a.tmps.getD s undef=v'':=hv'';simp only[Array.getD_eq_getD_getElem?] at h0 h1 h2;simp[results,hr,h0,h1,h2,asAddr,zEt hf hs hn hc],h⟩
abbrev I6 (x:Int):Value:=.int .i64 x
abbrev P6 (b o:Nat):Value:=.pointer (some ⟨b,o,none⟩)
abbrev nU (b:Bool) (v:Value):Value:=bif b then undef else v
abbrev yU (b:Bool) (v:Value):Value:=bif b then v else undef
section
variable {P : Program} {N : Nat} {Q : zFm} {σ : Env} {w : World} {K : Env → World → Prop} {ops : Array Oper} {rest : List Oper} {n d : Nat} {op : Op} {ty : TypeId} {pos : String} {af : Array Edge} {v : Value} {x : Operand}
theorem qV {w':World} (hr:(execOp (ev σ) ⟨some d,op,ty,pos,af,none⟩).run P w=.ok (.value v) w') (k:WpL P N ops K Q rest (upd σ d v) w') (hN:d<N:=by decide):WpL P N ops K Q (⟨some d,op,ty,pos,af,none⟩::rest) σ w:=zBo rfl rfl hN hr k
theorem qT (hr:(execOp (ev σ) ⟨some d,op,ty,pos,af,none⟩).run P w=.ok (.value v) w) (k:WpT P N ops w K Q n rest (upd σ d v)) (hN:d<N:=by decide):WpT P N ops w K Q (n+1) (⟨some d,op,ty,pos,af,none⟩::rest) σ:=zXA rfl rfl hN hr k
theorem qM (v:Value) (hx:ev σ x=v) (k:WpL P N ops K Q rest (upd σ d v) w) (hN:d<N:=by decide):WpL P N ops K Q (⟨some d,.move x,ty,pos,af,none⟩::rest) σ w:=qV (zAj hx) k hN
theorem qA (v:Value) (hx:ev σ x=v) (k:WpL P N ops K Q rest (upd σ d v) w) (hN:d<N:=by decide):WpL P N ops K Q (⟨some d,.assign x,ty,pos,af,none⟩::rest) σ w:=qV (zEu hx) k hN
theorem gA {A:Prop} {v:Value}:A∨((v=v∨v=undef)∧undef=undef):=.inr ⟨.inl rfl,rfl⟩
theorem gB {A:Prop} {u:Value}:A∨((undef=u∨undef=undef)∧undef=undef):=.inr ⟨.inr rfl,rfl⟩
theorem qG {j:Nat} {b:Bool} {oj:Oper} {dj:Nat} (gv u:Value)
    (h:(gv=.bool b∧(execOp (ev σ) ⟨some d,op,ty,pos,af,none⟩).run P w=.ok (.value u) w)∨((gv=.bool (!b)∨gv=undef)∧u=undef))
    (k:WpL P N ops K Q rest (upd σ d u) w) (hj:ops[j]?=some oj:=by rfl) (hdj:oj.dst=some dj:=by rfl) (hN:dj<N:=by decide) (hd:d<N:=by decide) (hy:σ dj=gv:=by rfl):WpL P N ops K Q (⟨some d,op,ty,pos,af,some (j,b)⟩::rest) σ w:=zKq hj hdj hN hd hy h k
theorem qF {t:TypeId} {fs:Array Field} {f:Field} {i m:Nat} (b o o':Nat) (hx:ev σ x=.pointer (some ⟨b,o,none⟩)) (hu:P.underlying t=some (.struct fs)) (hf:fs[i]?=some f) (hs:Siz P f.type (m+1)) (ho:o+f.offset=o')
    (k:WpL P N ops K Q rest (upd σ d (.pointer (some ⟨b,o',none⟩))) w) (hN:d<N:=by decide):WpL P N ops K Q (⟨some d,.fieldAddr t x i,ty,pos,af,none⟩::rest) σ w:=qV (zAY hx hu hf hs ho) k hN
end
end Go.Eng
namespace Go.Eng
open Go
theorem qC {P : Program} {N : Nat} {Q : zFm} {σ : Env} {w : World} {c : Operand} {x y : Code} {p : Prop} [Decidable p] (hc : ev σ c = .bool (decide p)) (ht : p → Wp P N x Q σ w) (hf : ¬ p → Wp P N y Q σ w) : Wp P N (.cond c x y) Q σ w := zAx hc (fun h => ht (of_decide_eq_true h)) fun h => hf (of_decide_eq_false h)
theorem leT {a b : Nat} (h : Nat.ble a b = true) : a ≤ b := Nat.le_of_ble_eq_true h
theorem qR {P : Program} {f : FuncId} {fn : Func} {c : Code} {N : Nat} {args : Array Value} {w : World} {R : Value → World → Prop} (hf : P.funcs[f]? = some fn) (hb : fn.body = some c) (hn : fn.ntmps = N) (hsz : Nat.ble args.size N = true) (h : Chg zAe w w → Wp P N c (fin P fn R) (fun t => args.getD t undef) w) : Ret P f args w R := zDE hf hb hn (leT hsz) (h (Chg.refl _ _))
theorem qE {P : Program} {N : Nat} {Q : zFm} {σ : Env} {w : World} {K : Env → World → Prop} {ops : Array Oper} {rest : List Oper} {d : Nat} {op : Op} {ty : TypeId} {pos : String} {af : Array Edge} {f : FuncId} {args : Array Value} {R : Value → World → Prop} (hN : Nat.ble (d + 1) N = true) (hr : (execOp (ev σ) ⟨some d, op, ty, pos, af, none⟩).run P w = .ok (.enter f args) w) (hc : Ret P f args w R) (k : ∀ v w', R v w' → WpL P N ops K Q rest (upd σ d v) w') : WpL P N ops K Q (⟨some d, op, ty, pos, af, none⟩ :: rest) σ w := zDC rfl rfl (leT hN) hr hc k
theorem cbk {a b : Bool} (h : a = b) : Value.bool a = Value.bool b := congrArg Value.bool h
theorem qQ {p : Prop} (h : p := by first | exact Or.inl (by omega) | exact Or.inr rfl | exact Or.inr (by assumption) | exact Or.inr (by simp) | exact Or.inr (by omega) | exact Or.inr (by dsimp only; omega)) : p := h
theorem qS {p : Prop} (h : p := by simp [Value.oneCell']) : p := h
theorem qL {p : Prop} (h : p := by first | (simp; done) | exact Nat.le_of_ble_eq_true rfl) : p := h
end Go.Eng
namespace Go.Eng
open Go
inductive Re where
  | mk (kind:Int) (set:List (Int×Int)) (args:List Re) (mn mx:Int) (neg:Bool)
namespace Re
def kind:Re→Int | .mk k _ _ _ _ _=>k
def set:Re→List (Int×Int) | .mk _ s _ _ _ _=>s
def args:Re→List Re | .mk _ _ a _ _ _=>a
def mn:Re→Int | .mk _ _ _ m _ _=>m
def mx:Re→Int | .mk _ _ _ _ m _=>m
def neg:Re→Bool | .mk _ _ _ _ _ n=>n
mutual
def size:Re→Nat
  | .mk _ _ a _ _ _=>sizes a+1
def sizes:List Re→Nat
  | []=>0
  | t::ts=>size t+sizes ts
end
theorem size_pos (t:Re):0<t.size:=by cases t;simp[size]
theorem size_eq (t:Re):t.size=sizes t.args+1:=by cases t;rfl
theorem zQN {ts:List Re} {i:Nat} {t:Re} (h:ts[i]?=some t):t.size≤sizes ts:=by
  induction ts generalizing i with
  | nil=>simp at h
  | cons a r ih=>
    cases i with
    | zero=>simp at h;subst h;simp[sizes]
    | succ i=>simp at h;have:=ih h;simp[sizes];omega
theorem size_arg {t:Re} {i:Nat} {x:Re} (h:t.args[i]?=some x):x.size<t.size:=by
 have:=zQN h;rw[size_eq t];omega
theorem sizes_append (a b:List Re):sizes (a++b)=sizes a+sizes b:=by
  induction a with
  | nil=>simp[sizes]
  | cons x r ih=>simp[sizes,ih];omega
end Re
abbrev R6 (t:Re) (sa:Option Addr) (sc:Nat) (aa:Option Addr) (ac:Nat):Array Value:=#[.int .i64 t.kind,.slice sa t.set.length sc,.slice aa t.args.length ac,.int .i64 t.mn,.int .i64 t.mx,.bool t.neg]
theorem zAE {α:Type} {l:List α} {i:Nat} {y:α} (h:l[i]?=some y):i<l.length:=by
 rcases Nat.lt_or_ge i l.length with h'|h'
 ·exact h'
 ·simp[List.getElem?_eq_none h'] at h
def zCQ (w:World) (k:Nat) (v:Value) (rows:List (List Value)):Prop:=
 ∃a cap,v=.slice a rows.length cap∧rows.length≤9223372036854775807∧rows.length≤cap∧(rows=[]∨∃b o,a=some ⟨b,o,none⟩∧∀i r,rows[i]?=some r→zAz w b (o+i*k) r)
theorem zCQ.ext {w w':World} {k:Nat} {v:Value} {rows:List (List Value)} (h:zCQ w k v rows) (e:Ext w w'):zCQ w' k v rows:=by
 obtain ⟨a,aa,hv,hl,hc,h⟩:=h;refine ⟨a,aa,hv,hl,hc,?_⟩;rcases h with h|⟨b,o,ha,hc⟩
 ·exact .inl h
 ·exact .inr ⟨b,o,ha,fun i r hr=>(hc i r hr).ext e⟩
theorem zCQ.nil (w:World) (k:Nat) (a:Option Addr) (cap:Nat):zCQ w k (.slice a 0 cap) []:=⟨a,cap,rfl,qP,qP,.inl rfl⟩
theorem zCQ.at {w:World} {k:Nat} {a:Option Addr} {n cap:Nat} {rows:List (List Value)} (h:zCQ w k (.slice a n cap) rows) (hn:0<n) :
  ∃b o,a=some ⟨b,o,none⟩∧∀i r,rows[i]?=some r→zAz w b (o+i*k) r:=by
 obtain ⟨a',aa,hv,_,_,h⟩:=h;simp only[Value.slice.injEq] at hv;obtain ⟨rfl,rfl,rfl⟩:=hv;rcases h with rfl|h
 ·simp at hn
 ·exact h
theorem zCQ.le {w:World} {k:Nat} {v:Value} {rows:List (List Value)} (h:zCQ w k v rows):rows.length≤9223372036854775807:=let ⟨_,_,_,h,_⟩:=h;h
theorem zCQ.cap {w:World} {k:Nat} {a:Option Addr} {n c:Nat} {rows:List (List Value)} (h:zCQ w k (.slice a n c) rows):n≤c∧rows.length=n:=by
 obtain ⟨a',aa,hv,_,hc,_⟩:=h;simp only[Value.slice.injEq] at hv;obtain ⟨rfl,rfl,rfl⟩:=hv;exact ⟨hc,rfl⟩
theorem zCQ.cut {w:World} {k:Nat} {a a':Option Addr} {n c lo hi n' c':Nat} {rows:List (List Value)} (h:zCQ w k (.slice a n c) rows) (h1:lo≤hi) (h2:hi≤n) (ha:(if c=lo then a else a.map (·.add (lo*k)))=a') (hn:hi - lo=n') (hc:c - lo=c') :
  zCQ w k (.slice a' n' c') ((rows.drop lo).take n'):=by
 obtain ⟨h3,h4⟩:=h.cap;have hl:=h.le;have aa:((rows.drop lo).take n').length=n':=by simp;omega
 refine ⟨a',c',by rw[aa],by rw[aa];omega,by rw[aa];omega,?_⟩;rcases Nat.eq_zero_or_pos n' with h0|h0
 ·left;subst h0;simp
 ·obtain ⟨b,o,rfl,ab⟩:=h.at qO;rw[if_neg qO] at ha;refine .inr ⟨b,o+lo*k,?_,fun i r hr=>?_⟩
  ·rw[←ha];simp[Addr.add_lit]
  ·have ac:=zAE hr;rw[aa] at ac;rw[List.getElem?_take_of_lt ac,List.getElem?_drop] at hr;have:=ab (lo+i) r hr
   rwa [show o+(lo+i)*k=o+lo*k+i*k from by rw[Nat.add_mul];omega] at this
theorem zCQ.form {w:World} {k:Nat} {v:Value} {rows:List (List Value)} (h:zCQ w k v rows):∃a cap,v=.slice a rows.length cap:=let ⟨a,c,h,_⟩:=h;⟨a,c,h⟩
def zND (x:Int):List Value:=[.int .i64 x]
def zBw (s:Int×Int):List Value:=[.int .i64 s.1,.int .i64 s.2]
def zBa (w:World) (v:Value) (l:List Int):Prop:=zCQ w 1 v (l.map zND)
def zBc (w:World) (v:Value) (l:List (Int×Int)):Prop:=zCQ w 2 v (l.map zBw)
theorem zBa.ext {w w':World} {v:Value} {l:List Int} (h:zBa w v l) (e:Ext w w'):zBa w' v l:=zCQ.ext h e
theorem zBc.ext {w w':World} {v:Value} {l:List (Int×Int)} (h:zBc w v l) (e:Ext w w'):zBc w' v l:=zCQ.ext h e
theorem zAz.at1 {w:World} {b o:Nat} {x y:Value} (h:zAz w b o [x,y]):w.cell? ⟨b,o+1,none⟩=some y:=h 1 y rfl
theorem zAz.at0 {w:World} {b o:Nat} {x:Value} {r:List Value} (h:zAz w b o (x::r)):w.cell? ⟨b,o,none⟩=some x:=h 0 x rfl
theorem zBu {w:World} {a:Option Addr} {n c:Nat} {l:List (Int×Int)} (h:zBc w (.slice a n c) l) (hn:0<n) :
  ∃b o,a=some ⟨b,o,none⟩∧∀i s,l[i]?=some s→zAz w b (o+i*2) [.int .i64 s.1,.int .i64 s.2]:=by
 obtain ⟨b,o,ha,h⟩:=zCQ.at h hn;exact ⟨b,o,ha,fun i s hs=>h i (zBw s) (by simp[hs])⟩
mutual
def zBm (w:World):Re→List Value→Prop
  | .mk k set args mn mx ng,vs=>∃sa sc aa ac,vs=[.int .i64 k,.slice sa set.length sc,.slice aa args.length ac,.int .i64 mn,.int .i64 mx,.bool ng]∧zBc w (.slice sa set.length sc) set∧(args.length≤ac∧ac≤9223372036854775807)∧
      (args=[]∨∃b o,aa=some ⟨b,o,none⟩∧zDS w b o args)
def zDS (w:World) (b:Nat):Nat→List Re→Prop
  | _,[]=>True
  | o,t::ts=>(∃vs,zAz w b o vs∧zBm w t vs)∧zDS w b (o+6) ts
end
mutual
theorem zBm.ext {w w':World} (e:Ext w w'):∀(t:Re) {vs:List Value},zBm w t vs→zBm w' t vs
  | .mk k set args mn mx ng,vs,h=>by
    simp only[zBm] at h⊢;obtain ⟨sa,sc,aa,ac,hv,hs,hl,ha⟩:=h;refine ⟨sa,sc,aa,ac,hv,hs.ext e,hl,?_⟩;rcases ha with h|⟨b,o,h1,h2⟩
    · exact .inl h
    · exact .inr ⟨b,o,h1,zDS.ext e args h2⟩
theorem zDS.ext {w w':World} (e:Ext w w') {b:Nat}:∀(ts:List Re) {o:Nat},zDS w b o ts→zDS w' b o ts
  | [],_,_=>by simp only[zDS]
  | t::ts,o,h=>by
    simp only[zDS] at h⊢;obtain ⟨⟨vs,h1,h2⟩,h3⟩:=h;exact ⟨⟨vs,h1.ext e,zBm.ext e t h2⟩,zDS.ext e ts h3⟩
end
theorem zDS.get {w:World} {b:Nat}:∀{ts:List Re} {o i:Nat} {t:Re},zDS w b o ts→ts[i]?=some t→∃vs,zAz w b (o+i*6) vs∧zBm w t vs
  | [],_,_,_,_,h=>by simp at h
  | x::ts,o,0,t,h,hi=>by
    simp only[zDS] at h;simp at hi;subst hi;simpa using h.1
  | x::ts,o,i+1,t,h,hi=>by
    simp only[zDS] at h;have:=zDS.get h.2 (i:=i) (by simpa using hi)
    rwa [show o+(i+1)*6=o+6+i*6 from qO]
theorem zBm.form {w:World} {t:Re} {vs:List Value} (h:zBm w t vs):∃sa sc aa ac,vs=[.int .i64 t.kind,.slice sa t.set.length sc,.slice aa t.args.length ac,.int .i64 t.mn,.int .i64 t.mx,.bool t.neg]∧zBc w (.slice sa t.set.length sc) t.set∧(t.args.length≤ac∧ac≤9223372036854775807)∧
  (t.args=[]∨∃b o,aa=some ⟨b,o,none⟩∧zDS w b o t.args):=by
 cases t;simp only[zBm] at h;exact h
theorem zBm.of {w:World} {k:Int} {set:List (Int×Int)} {args:List Re} {mn mx:Int} {ng:Bool} {sa aa:Option Addr} {sc ac:Nat} (hs:zBc w (.slice sa set.length sc) set) (hl:(args.length≤ac∧ac≤9223372036854775807)) (ha:args=[]∨∃b o,aa=some ⟨b,o,none⟩∧zDS w b o args) :
  zBm w (.mk k set args mn mx ng) [.int .i64 k,.slice sa set.length sc,.slice aa args.length ac,.int .i64 mn,.int .i64 mx,.bool ng]:=by
 simp only[zBm];exact ⟨sa,sc,aa,ac,rfl,hs,hl,ha⟩
theorem zBm.len {w:World} {t:Re} {vs:List Value} (h:zBm w t vs):vs.length=6:=by
 obtain ⟨_,_,_,_,rfl,_⟩:=h.form;rfl
def zCJ (P:Program) (fv:Value) (args:Array Value) (w:World) (R:Value→World→Prop):Prop:=
 ∃ f fn first cap, fv = .func (.func f) first cap ∧ P.funcs[f]? = some fn ∧ (fn.name == "runtime.NumGoroutine") = false ∧ fn.body.isNone = false ∧ Ret P f (first ++ args ++ cap) w R
theorem zCJ.mk {P : Program} {f : FuncId} {fn : Func} {first cap args ws : Array Value} {w : World} {R : Value → World → Prop} (hf : P.funcs[f]? = some fn) (hn : (fn.name == "runtime.NumGoroutine") = false) (hb : fn.body.isNone = false) (hw : first ++ args ++ cap = ws) (h : Ret P f ws w R) :
  zCJ P (.func (.func f) first cap) args w R:=⟨f,fn,first,cap,rfl,hf,hn,hb,hw▸h⟩
theorem zCJ.mono {P:Program} {fv:Value} {args:Array Value} {w:World} {R R':Value→World→Prop} (h:zCJ P fv args w R) (hr:∀v w',R v w'→R' v w'):zCJ P fv args w R':=
 let ⟨f,fn,first,cap,h1,h2,h3,h4,h5⟩:=h;⟨f,fn,first,cap,h1,h2,h3,h4,h5.mono hr⟩
theorem zDD {P:Program} {N:Nat} {Q:zFm} {σ:Env} {w:World} {K:Env→World→Prop} {ops:Array Oper} {rest:List Oper} {d:Nat} {z:Operand} {args:List Operand} {tys:Array TypeId} {ty:TypeId} {pos:String} {af:Array Edge} {fv:Value} {vs:List Value} {R:Value→World→Prop}
  (hN:d<N) (hz:ev σ z=fv) (ha:args.map (ev σ)=vs) (hc:zCJ P fv vs.toArray w R) (k:∀v w',R v w'→WpL P N ops K Q rest (upd σ d v) w') :
  WpL P N ops K Q (⟨some d,.call ⟨.value z,args.toArray,tys⟩,ty,pos,af,none⟩::rest) σ w:=by
 obtain ⟨f,fn,aa,cap,rfl,hf,hn,hb,hr⟩:=hc;exact zDC rfl rfl hN (zCy hz hf hn hb ha rfl) hr k
section
variable {S : Type} (F : S → Re → Bool × S)
mutual
def zCp:Re→S→Bool×S
  | .mk k set args mn mx ng,s=>match F s (.mk k set args mn mx ng) with
    | (false,s')=>(false,s')
    | (true,s')=>zCZ args s'
def zCZ:List Re→S→Bool×S
  | [],s=>(true,s)
  | t::ts,s=>match zCp t s with
    | (false,s')=>(false,s')
    | (true,s')=>zCZ ts s'
end
theorem zEl (t:Re) (s:S):zCp F t s=if (F s t).1 then zCZ F t.args (F s t).2 else (false,(F s t).2):=by
 cases t;simp only[zCp,Re.args];split<;>rename_i h<;>simp[h]
theorem zCo (t:Re) (ts:List Re) (s:S):zCZ F (t::ts) s=if (zCp F t s).1 then zCZ F ts (zCp F t s).2 else (false,(zCp F t s).2):=by
 simp only[zCZ];split<;>rename_i h<;>simp[h]
end
def idx {α:Type} (p:α→Bool) (l:List α):Int:=match l.findIdx? p with
  | some i=>i
  | none=>-1
theorem zKX {α:Type} (p:α→Bool) (l:List α):decide (0≤idx p l)=l.any p:=by
  unfold idx;cases h:l.findIdx? p with
  | none=>
    have h':l.any p=false:=by
      rw[List.findIdx?_eq_none_iff] at h;rw[List.any_eq_false];intro x hx;simp[h x hx]
    rw[h'];decide
  | some i=>
    have h':l.any p=true:=by
      rw[List.findIdx?_eq_some_iff_getElem] at h;obtain ⟨hi,hp,_⟩:=h;rw[List.any_eq_true];exact ⟨_,List.getElem_mem hi,hp⟩
    rw[h'];simp
theorem zKW {α:Type} {p:α→Bool} {l:List α} {k:Nat} {x:α} (hk:l[k]?=some x) (hp:p x=true) (hb:∀i y,i<k→l[i]?=some y→p y=false):idx p l=k:=by
 unfold idx;have aa:k<l.length:=by
  rcases Nat.lt_or_ge k l.length with h|h
  ·exact h
  ·simp[List.getElem?_eq_none h] at hk
 have:l.findIdx? p=some k:=by
  rw[List.findIdx?_eq_some_iff_getElem];refine ⟨aa,?_,fun j hj=>?_⟩
  ·rw[List.getElem?_eq_getElem aa] at hk;cases hk;exact hp
  ·have:=hb j l[j] hj (List.getElem?_eq_getElem qO);simp[this]
 rw[this]
theorem zHw {α:Type} {p:α→Bool} {l:List α} (hb:∀(i:Nat) (y:α),l[i]?=some y→p y=false):idx p l = -1:=by
 unfold idx;have:l.findIdx? p=none:=by
  rw[List.findIdx?_eq_none_iff];intro x hx;obtain ⟨i,hi⟩:=List.mem_iff_getElem?.1 hx;simp[hb i x hi]
 rw[this]
theorem zBM {a b:Int} (h:a=b):Value.int .i64 a=.int .i64 b:=by rw[h]
theorem zBx {a b:Bool} (h:a=b):Value.bool a=.bool b:=by rw[h]
theorem zAy {w:World} {a:Option Addr} {n c:Nat} {l:List Int} (h:zBa w (.slice a n c) l) (hn:0<n) :
  ∃b o,a=some ⟨b,o,none⟩∧∀i x,l[i]?=some x→w.cell? ⟨b,o+i,none⟩=some (.int .i64 x):=by
 obtain ⟨b,o,ha,h⟩:=zCQ.at h hn;refine ⟨b,o,ha,fun i x hx=>?_⟩;have:=h i (zND x) (by simp[hx]) 0 _ rfl;simpa using this
theorem zAJ {α:Type} {l:List α} {i:Nat} (h:i<l.length):∃x,l[i]?=some x:=⟨_,List.getElem?_eq_getElem h⟩
theorem zFO {α:Type} {l:List α} {k:Nat} {x:α} (h:l[k]?=some x):l.drop k=x::l.drop (k+1):=by
 have aa:=zAE h;rw[List.drop_eq_getElem_cons aa];rw[List.getElem?_eq_getElem aa] at h;cases h;rfl
theorem zFi {α:Type} {p:α→Bool} {l:List α} {k:Nat} {x:α} (hx:l[k]?=some x) (hp:p x=false) (hno:∀(i:Nat) (y:α),i<k→l[i]?=some y→p y=false):∀(i:Nat) (y:α),i<k+1→l[i]?=some y→p y=false:=by
 intro i y hi hy;rcases Nat.lt_or_ge i k with h|h
 ·exact hno i y h hy
 ·obtain rfl:i=k:=qO
  rw[hx] at hy;cases hy;exact hp
theorem zFt {w:World} {b t k cap:Nat} {rows:List (List Value)} (h:Blk w b rows.flatten.toArray t) (hk:∀r∈rows,r.length=k) (hl:rows.length≤9223372036854775807) (hcap:rows.length≤cap):zCQ w k (.slice (some ⟨b,0,none⟩) rows.length cap) rows:=by
  refine ⟨_,cap,rfl,hl,hcap,.inr ⟨b,0,rfl,fun i r hr j u hu=>?_⟩⟩;have hc:(rows.flatten)[i*k+j]?=some u:=by
    clear h hl hcap
    induction rows generalizing i with
    | nil=>simp at hr
    | cons x rs ih=>
      have hx:x.length=k:=hk x qP;cases i with
      | zero=>
        simp at hr;subst hr;have hj:=zAE hu;simp only[List.flatten_cons,Nat.zero_mul,Nat.zero_add];rw[List.getElem?_append_left hj];exact hu
      | succ i=>
        simp at hr;simp only[List.flatten_cons];rw[List.getElem?_append_right (by rw[hx,Nat.succ_mul];omega)];rw[show (i+1)*k+j - x.length=i*k+j from by rw[hx,Nat.succ_mul];omega];exact ih (fun r hr=>hk r (by simp[hr])) _ hr
  rw[Nat.zero_add];exact h.cell (by simpa using hc)
theorem zEv {w:World} {b t cap:Nat} (l:List Int) (h:Blk w b (l.map zND).flatten.toArray t) (hl:l.length≤9223372036854775807) (hcap:l.length≤cap):zBa w (.slice (some ⟨b,0,none⟩) l.length cap) l:=by
 have:=zFt (k:=1) (cap:=cap) h (by intro r hr;simp only[List.mem_map] at hr;obtain ⟨x,_,rfl⟩:=hr;rfl) (by simpa using hl) (by simpa using hcap);simpa[zBa] using this
theorem zHV {w:World} {b t cap:Nat} (l:List (Int×Int)) (h:Blk w b (l.map zBw).flatten.toArray t) (hl:l.length≤9223372036854775807) (hcap:l.length≤cap):zBc w (.slice (some ⟨b,0,none⟩) l.length cap) l:=by
 have:=zFt (k:=2) (cap:=cap) h (by intro r hr;simp only[List.mem_map] at hr;obtain ⟨x,_,rfl⟩:=hr;rfl) (by simpa using hl) (by simpa using hcap);simpa[zBc] using this
theorem zBm.one {w:World} {t:Re} {vs:List Value} (h:zBm w t vs):∀u∈vs,u.oneCell'=true:=by
 obtain ⟨_,_,_,_,rfl,_⟩:=h.form;simp[Value.oneCell']
end Go.Eng
namespace Go.Proofs
open Go Go.Eng
structure Dfa where
 start:Int
 accept:List Int
 next:List (List Int)
end Go.Proofs
namespace Go.Proofs
open Go Go.Eng
--BEGIN
def toD (d:Dfa) (s:Int) (x:Nat):Int:=if s<0 then -1 else (d.next.getD s.toNat []).getD x (-1)
def atD (d:Dfa) (s:Int):Int:=if s<0 then -1 else d.accept.getD s.toNat (-1)
def beh (d:Dfa) (s:Int):List Nat→Int
  | []=>atD d s
  | x::w=>beh d (toD d s x) w
def inW (c:Nat) (w:List Nat):Prop:=∀x∈w,x<c
theorem inW.tail {c x:Nat} {w:List Nat} (h:inW c (x::w)):inW c w:=fun y hy=>h y (List.mem_cons_of_mem _ hy)
theorem inW.head {c x:Nat} {w:List Nat} (h:inW c (x::w)):x<c:=h x List.mem_cons_self
theorem inW.cons {c x:Nat} {w:List Nat} (hx:x<c) (h:inW c w):inW c (x::w):=fun y hy=>by
 rcases List.mem_cons.1 hy with rfl|h1
 ·exact hx
 ·exact h y h1
theorem inW.nil (c:Nat):inW c []:=fun x h=>by cases h
structure OkD (n c:Nat) (d:Dfa):Prop where
 nl:d.next.length=n
 al:d.accept.length=n
 st:0≤d.start∧d.start<n
 acc:∀x∈d.accept,-1≤x
 row:∀r∈d.next,r.length=c∧∀x∈r,-1≤x∧x<n
def zBT (c:Nat) (d:Dfa) (s:Int):Prop:=∃w,inW c w∧0≤beh d s w
def zMa (c:Nat) (d:Dfa) (s t:Int):Prop:=∀w,inW c w→beh d s w=beh d t w
theorem zDw {d:Dfa} {s:Int} (h:s<0) (x:Nat):toD d s x = -1:=by unfold toD;rw[if_pos h]
theorem zCh {d:Dfa}:∀{w:List Nat} {s:Int},s<0→beh d s w = -1
  | [],s,h=>by unfold beh atD;rw[if_pos h]
  | x::w,s,h=>by unfold beh;rw[zDw h];exact zCh qD
theorem zEq {d:Dfa} {s x:Nat} {r:List Int} {t:Int} (h:d.next[s]?=some r) (ht:r[x]?=some t):toD d ((s:Nat):Int) x=t:=by
 unfold toD;rw[if_neg qO,Int.toNat_natCast,List.getD_eq_getElem?_getD,List.getD_eq_getElem?_getD,h,Option.getD_some,ht,Option.getD_some]
theorem zDi {d:Dfa} {s:Nat} {t:Int} (h:d.accept[s]?=some t):atD d ((s:Nat):Int)=t:=by
 unfold atD;rw[if_neg qO,Int.toNat_natCast,List.getD_eq_getElem?_getD,h,Option.getD_some]
theorem OkD.to {n c:Nat} {d:Dfa} (h:OkD n c d) {s:Int} {x:Nat} : -1≤toD d s x∧toD d s x<n:=by
  have hn:=h.st;unfold toD;split
  · omega
  · rw[List.getD_eq_getElem?_getD,List.getD_eq_getElem?_getD];cases h1:d.next[s.toNat]? with
    | none=>simp;omega
    | some r=>
      simp only[Option.getD_some];cases h2:r[x]? with
      | none=>simp;omega
      | some t=>exact (h.row r (List.mem_of_getElem? h1)).2 t (List.mem_of_getElem? h2)
theorem OkD.at' {n c:Nat} {d:Dfa} (h:OkD n c d) {s:Int} : -1≤atD d s:=by
  unfold atD;split
  · omega
  · rw[List.getD_eq_getElem?_getD];cases h1:d.accept[s.toNat]? with
    | none=>simp
    | some t=>exact h.acc t (List.mem_of_getElem? h1)
theorem OkD.beh {n c:Nat} {d:Dfa} (h:OkD n c d):∀{w:List Nat} {s:Int},-1≤beh d s w
  | [],_=>h.at'
  | _::w,_=>OkD.beh h (w:=w)
theorem OkD.dead {n c:Nat} {d:Dfa} (h:OkD n c d) {s:Int} (hl:¬zBT c d s) {w:List Nat} (hw:inW c w):Go.Proofs.beh d s w = -1:=by
 have h1:=h.beh (w:=w) (s:=s);rcases Int.lt_or_le (Go.Proofs.beh d s w) 0 with h2|h2
 ·omega
 ·exact absurd ⟨w,hw,h2⟩ hl
theorem zWQ {c x:Nat} {d:Dfa} {s:Int} (h:zBT c d (toD d s x)) (hx:x<c):zBT c d s:=by
 obtain ⟨w,hw,h1⟩:=h;exact ⟨x::w,inW.cons hx hw,h1⟩
theorem zBz {c:Nat} {d:Dfa} {s:Int} (h:s<0):¬zBT c d s:=fun ⟨w,_,h1⟩=>by rw[zCh h] at h1;omega
theorem zMa.to {c x:Nat} {d:Dfa} {s t:Int} (h:zMa c d s t) (hx:x<c):zMa c d (toD d s x) (toD d t x):=fun w hw=>h (x::w) (inW.cons hx hw)
theorem zMa.live {c:Nat} {d:Dfa} {s t:Int} (h:zMa c d s t) (hl:zBT c d s):zBT c d t:=by
 obtain ⟨w,hw,h1⟩:=hl;exact ⟨w,hw,by rw[←h w hw];exact h1⟩
theorem zOR {c:Nat}:∀{L:List (List Int)} {i x:Nat} {r:List Int},(∀r∈L,r.length=c)→L[i]?=some r→x<c→L.flatten[i*c+x]?=r[x]?
  | [],_,_,_,_,h,_=>by simp at h
  | q::L,0,x,r,h,hi,hx=>by
    simp at hi;subst hi;rw[List.flatten_cons,Nat.zero_mul,Nat.zero_add,List.getElem?_append_left (by rw[h q List.mem_cons_self];exact hx)]
  | q::L,i+1,x,r,h,hi,hx=>by
    have hq:=h q List.mem_cons_self;rw[List.flatten_cons,List.getElem?_append_right (by rw[hq,Nat.add_mul];omega),hq,show (i+1)*c+x - c=i*c+x by rw[Nat.add_mul];omega];exact zOR (fun r hr=>h r (List.mem_cons_of_mem _ hr)) (by simpa using hi) hx
theorem zGb {c:Nat}:∀{L:List (List Int)},(∀r∈L,r.length=c)→L.flatten.length=L.length*c
  | [],_=>qP
  | q::L,h=>by
    rw[List.flatten_cons,List.length_append,h q List.mem_cons_self,zGb fun r hr=>h r (List.mem_cons_of_mem _ hr),List.length_cons,Nat.add_mul];omega
def mxL (l:List Int):Int:=l.foldl max 0
theorem zGV (l:List Int) (x:Int):mxL (l++[x])=max (mxL l) x:=by unfold mxL;rw[List.foldl_append];rfl
theorem zQw:∀(m:List Int) (z:Int),z≤m.foldl max z
  | [],_=>Int.le_refl _
  | x::m,z=>by
    have:=zQw m (max z x);simp only[List.foldl_cons];omega
theorem zOH {l:List Int} (m:List Int):mxL l≤mxL (l++m):=by
 unfold mxL;rw[List.foldl_append];exact zQw m _
theorem zUu (l:List Int):0≤mxL l:=by
 have:=zOH (l:=[]) l;simpa[mxL] using this
theorem zHu {l:List Int} {i j:Nat} (h:i≤j):mxL (l.take i)≤mxL (l.take j):=by
 have e:l.take j=l.take i++(l.take j).drop i:=by
  have:=List.take_append_drop i (l.take j);rw[List.take_take,Nat.min_eq_left h] at this;exact this.symm
 rw[e];exact zOH _
structure Bfs (n c:Nat) (C:Dfa):Prop where
 ok:OkD n c C
 st:C.start=0
 ord:∀(k:Nat) (x:Int),C.next.flatten[k]?=some x→x≤mxL (C.next.flatten.take k)+1
 rch:∀i:Nat,i<n→((i:Nat):Int)≤mxL (C.next.flatten.take (i*c))
 fin:mxL C.next.flatten=n - 1
def zCc (c:Nat) (f:List Nat→Int) (C:Dfa):Prop:=∃m,Bfs m c C∧(∀w,inW c w→beh C 0 w=f w)∧(∀s t:Int,0≤s→s<m→0≤t→t<m→zMa c C s t→s=t)∧∀(s:Int) (x:Nat),x<c→0≤toD C s x→zBT c C (toD C s x)
theorem zRi {n c i x:Nat} {C:Dfa} (h:OkD n c C) (hi:i<n) (hx:x<c):C.next.flatten[i*c+x]?=some (toD C ((i:Nat):Int) x):=by
 have hr:C.next[i]?=some (C.next[i]'(by rw[h.nl];exact hi)):=List.getElem?_eq_getElem _;have aa:=h.row _ (List.mem_of_getElem? hr);rw[zOR (fun r hr=>(h.row r hr).1) hr hx];have ht:(C.next[i]'(by rw[h.nl];exact hi))[x]?=some ((C.next[i]'(by rw[h.nl];exact hi))[x]'(by rw[aa.1];exact hx)):=List.getElem?_eq_getElem _;rw[ht,zEq hr ht]
theorem zDm {l:List Int} {k:Nat} {x:Int} (h:l[k]?=some x):l.take (k+1)=l.take k++[x]:=by rw[List.take_add_one,h];rfl
theorem zCc.steps {c n m:Nat} {A B:Dfa} (hA:Bfs n c A) (hB:Bfs m c B) (h0:∀w,inW c w→beh A 0 w=beh B 0 w)
    (rA:∀s t:Int,0≤s→s<n→0≤t→t<n→zMa c A s t→s=t) (rB:∀s t:Int,0≤s→s<m→0≤t→t<m→zMa c B s t→s=t)
    (lA:∀(s:Int) (x:Nat),x<c→0≤toD A s x→zBT c A (toD A s x)) (lB:∀(s:Int) (x:Nat),x<c→0≤toD B s x→zBT c B (toD B s x)) :
    ∀k,k≤n*c→k≤m*c→A.next.flatten.take k=B.next.flatten.take k∧∀j:Int,0≤j→j≤mxL (A.next.flatten.take k)→∀w,inW c w→beh A j w=beh B j w:=by
  intro k
  induction k with
  | zero=>
    intro _ _;refine ⟨qP,fun j h1 h2 w hw=>?_⟩;have:j=0:=by simp[mxL] at h2;omega
    rw[this];exact h0 w hw
  | succ k ih=>
    intro hn hm;obtain ⟨e1,e2⟩:=ih qO qO;have hc:0<c:=by
      rcases Nat.eq_zero_or_pos c with h|h
      · subst h;omega
      · exact h
    obtain ⟨i,x,rfl,hx⟩:∃i x,k=i*c+x∧x<c:=⟨k / c,k % c,by rw[Nat.mul_comm];exact (Nat.div_add_mod k c).symm,Nat.mod_lt _ hc⟩;have ab:i<n:=by
      apply Classical.byContradiction;intro h;have:n*c≤i*c:=Nat.mul_le_mul_right c qO;omega
    have ad:i<m:=by
      apply Classical.byContradiction;intro h;have:m*c≤i*c:=Nat.mul_le_mul_right c qO;omega
    have hi:=hA.rch i ab;have ac:mxL (A.next.flatten.take (i*c))≤mxL (A.next.flatten.take (i*c+x)):=zHu qO;have af:=e2 ((i:Nat):Int) qO qO;have a1:=zRi hA.ok ab hx;have b1:=zRi hB.ok ad hx;obtain ⟨s,hs⟩:∃s,toD A ((i:Nat):Int) x=s:=⟨_,rfl⟩;obtain ⟨t,ht⟩:∃t,toD B ((i:Nat):Int) x=t:=⟨_,rfl⟩;rw[hs] at a1;rw[ht] at b1;have aa:∀w,inW c w→beh A s w=beh B t w:=fun w hw=>by
      have:=af (x::w) (inW.cons hx hw);simp only[beh,hs,ht] at this;exact this
    have oA:=hA.ord _ _ a1;have oB:=hB.ord _ _ b1;rw[←e1] at oB;have bA:=hA.ok.to (s:=((i:Nat):Int)) (x:=x);have bB:=hB.ok.to (s:=((i:Nat):Int)) (x:=x);rw[hs] at bA;rw[ht] at bB;have ae:s=t:=by
      rcases Int.lt_or_le s 0 with h1|h1
      · rcases Int.lt_or_le t 0 with h2|h2
        · omega
        · exfalso;have:=lB ((i:Nat):Int) x hx (by rw[ht];exact h2);rw[ht] at this;obtain ⟨w,hw,h3⟩:=this;rw[←aa w hw,zCh h1] at h3;omega
      · rcases Int.lt_or_le t 0 with h2|h2
        · exfalso;have:=lA ((i:Nat):Int) x hx (by rw[hs];exact h1);rw[hs] at this;obtain ⟨w,hw,h3⟩:=this;rw[aa w hw,zCh h2] at h3;omega
        · rcases Int.lt_or_le (mxL (A.next.flatten.take (i*c+x))) s with h3|h3
          · rcases Int.lt_or_le (mxL (A.next.flatten.take (i*c+x))) t with h4|h4
            · omega
            · -- B's is old: then A's is the same old one
              have h5:∀w,inW c w→beh A s w=beh A t w:=fun w hw=>(aa w hw).trans (e2 t h2 h4 w hw).symm;have h6:mxL (A.next.flatten.take (i*c+x))≤n - 1:=by
                rw[←hA.fin];have:=zHu (l:=A.next.flatten) (i:=i*c+x) (j:=max (i*c+x) A.next.flatten.length) qO
                rwa [List.take_of_length_le (show A.next.flatten.length≤max (i*c+x) A.next.flatten.length by omega)] at this
              exact rA s t h1 bA.2 h2 qO h5
          · have h5:∀w,inW c w→beh B t w=beh B s w:=fun w hw=>(aa w hw).symm.trans (e2 s h1 h3 w hw);have h6:mxL (A.next.flatten.take (i*c+x))≤m - 1:=by
              rw[←hB.fin,e1];have:=zHu (l:=B.next.flatten) (i:=i*c+x) (j:=max (i*c+x) B.next.flatten.length) qO
              rwa [List.take_of_length_le (show B.next.flatten.length≤max (i*c+x) B.next.flatten.length by omega)] at this
            exact (rB t s h2 bB.2 h1 qO h5).symm
    subst ae;refine ⟨by rw[zDm a1,zDm b1,e1],fun j h1 h2 w hw=>?_⟩;rw[zDm a1,zGV] at h2;rcases Int.lt_or_le (mxL (A.next.flatten.take (i*c+x))) j with h3|h3
    · have:j=s:=qO
      rw[this];exact aa w hw
    · exact e2 j h1 h3 w hw
theorem zQW {c:Nat}:∀{L M:List (List Int)},(∀r∈L,r.length=c)→(∀r∈M,r.length=c)→L.length=M.length→L.flatten=M.flatten→L=M
  | [],[],_,_,_,_=>rfl
  | [],_::_,_,_,h,_=>by cases h
  | _::_,[],_,_,h,_=>by cases h
  | q::L,r::M,h1,h2,h3,h4=>by
    rw[List.flatten_cons,List.flatten_cons] at h4;obtain ⟨e1,e2⟩:=List.append_inj h4 (by rw[h1 q List.mem_cons_self,h2 r List.mem_cons_self]);rw[e1,zQW (fun x hx=>h1 x (List.mem_cons_of_mem _ hx)) (fun x hx=>h2 x (List.mem_cons_of_mem _ hx)) (by simpa using h3) e2]
theorem zCc.uniq {c:Nat} {f g:List Nat→Int} {A B:Dfa} (hA:zCc c f A) (hB:zCc c g B) (hfg:∀w,inW c w→f w=g w):A=B:=by
 obtain ⟨n,bA,fA,rA,lA⟩:=hA;obtain ⟨m,bB,fB,rB,lB⟩:=hB;have h0:∀w,inW c w→beh A 0 w=beh B 0 w:=fun w hw=>by rw[fA w hw,fB w hw,hfg w hw]
 have ac:=zCc.steps bA bB h0 rA rB lA lB;have ab:=zGb (L:=A.next) (c:=c) fun r hr=>(bA.ok.row r hr).1;have aa:=zGb (L:=B.next) (c:=c) fun r hr=>(bB.ok.row r hr).1;rw[bA.ok.nl] at ab;rw[bB.ok.nl] at aa;have nA:=bA.ok.st;have nB:=bB.ok.st;have ad:n=m:=by
  rcases Nat.lt_trichotomy n m with h|h|h
  ·exfalso;have h1:=(ac (n*c) (Nat.le_refl _) (Nat.mul_le_mul_right c qO)).1;have h2:=bB.rch n h;rw[←h1,List.take_of_length_le qO,bA.fin] at h2;omega
  ·exact h
  ·exfalso;have h1:=(ac (m*c) (Nat.mul_le_mul_right c qO) (Nat.le_refl _)).1;have h2:=bA.rch m h;rw[h1,List.take_of_length_le qO,bB.fin] at h2;omega
 subst ad;obtain ⟨e1,e2⟩:=ac (n*c) (Nat.le_refl _) (Nat.le_refl _);rw[List.take_of_length_le qO,List.take_of_length_le qO] at e1;rw[List.take_of_length_le qO,bA.fin] at e2;have e3:=zQW (c:=c) (fun r hr=>(bA.ok.row r hr).1) (fun r hr=>(bB.ok.row r hr).1) (by rw[bA.ok.nl,bB.ok.nl]) e1;have e4:A.accept=B.accept:=by
  apply List.ext_getElem (by rw[bA.ok.al,bB.ok.al]);intro i h1 h2;have h3:=e2 ((i:Nat):Int) qO (by have:=bA.ok.al;omega) [] (inW.nil c);simp only[beh] at h3
  rwa [zDi (List.getElem?_eq_getElem h1),zDi (List.getElem?_eq_getElem h2)] at h3
 have e5:A.start=B.start:=by rw[bA.st,bB.st]
 cases A;cases B;simp only at e3 e4 e5;rw[e3,e4,e5]
theorem zML {n m c:Nat} {d C:Dfa} {st:List Int} (ok:OkD n c d) (b:Bfs m c C) (hl:st.length=m) (h0:st[0]?=some d.start)
    (hinj:∀(i j:Nat) s t,st[i]?=some s→st[j]?=some t→zMa c d s t→i=j)
    (hacc:∀(i:Nat) s,st[i]?=some s→atD C ((i:Nat):Int)=atD d s)
    (hnext:∀(i x:Nat) s,st[i]?=some s→x<c→(toD C ((i:Nat):Int) x = -1∧¬zBT c d (toD d s x))∨∃(j:Nat) (t:Int),toD C ((i:Nat):Int) x=((j:Nat):Int)∧st[j]?=some t∧zMa c d t (toD d s x)∧zBT c d t):zCc c (beh d d.start) C:=by
  have hb:∀(w:List Nat) (i:Nat) s,inW c w→st[i]?=some s→beh C ((i:Nat):Int) w=beh d s w:=by
    intro w
    induction w with
    | nil=>exact fun i s _ hs=>hacc i s hs
    | cons x w ih=>
      intro i s hw hs;simp only[beh];rcases hnext i x s hs hw.head with ⟨h1,h2⟩|⟨j,t,h1,h2,h3,_⟩
      · rw[h1,zCh qD,ok.dead h2 hw.tail]
      · rw[h1,ih j t hw.tail h2,h3 w hw.tail]
  have aa:∀s:Int,0≤s→s<m→∃(i:Nat) (t:Int),s=((i:Nat):Int)∧st[i]?=some t:=fun s h1 h2=>by
    obtain ⟨i,rfl⟩:=Int.eq_ofNat_of_zero_le h1;exact ⟨i,st[i]'(by omega),rfl,List.getElem?_eq_getElem _⟩
  refine ⟨m,b,fun w hw=>hb w 0 d.start hw h0,?_,?_⟩
  · intro s t s0 s1 t0 t1 he;obtain ⟨i,p,rfl,hp⟩:=aa s s0 s1;obtain ⟨j,q,rfl,hq⟩:=aa t t0 t1;have:=hinj i j p q hp hq fun w hw=>by rw[←hb w i p hw hp,←hb w j q hw hq];exact he w hw
    omega
  · intro s x hx h1;rcases Int.lt_or_le s 0 with h2|h2
    · rw[zDw h2] at h1;omega
    · rcases Int.lt_or_le s m with h3|h3
      · obtain ⟨i,p,rfl,hp⟩:=aa s h2 h3;rcases hnext i x p hp hx with ⟨h4,_⟩|⟨j,t,h4,h5,_,w,hw,h7⟩
        · omega
        · exact ⟨w,hw,by rw[h4,hb w j t hw h5];exact h7⟩
      · exfalso;unfold toD at h1;have e:C.next[s.toNat]?=none:=List.getElem?_eq_none (by rw[b.ok.nl];omega);rw[if_neg qO] at h1;simp[List.getD_eq_getElem?_getD,e] at h1
--END
end Go.Proofs
namespace Go.Proofs
open Go Go.Eng Go.Sort
--BEGIN
theorem zEf:∀{l m:List Nat},l.Nodup→(∀x∈l,x∈m)→l.length≤m.length
  | [],_,_,_=>Nat.zero_le _
  | x::l,m,hd,h=>by
    have hd':=List.nodup_cons.1 hd;have hx:=h x List.mem_cons_self;have h1:=zEf (l:=l) (m:=m.erase x) hd'.2 fun y hy=>(List.mem_erase_of_ne (show y≠x from fun e=>hd'.1 (by rw[←e];exact hy))).2 (h y (List.mem_cons_of_mem _ hy));rw[List.length_erase_of_mem hx] at h1;have:=List.length_pos_of_mem hx;simp only[List.length_cons];omega
structure Num (keys:List (Option (List Int))) (ks:List (List Int)) (out:List Int):Prop where
 len:out.length=keys.length
 nd:ks.Nodup
 non:∀(s:Nat),keys[s]?=some none→out[s]?=some (-1)
 som:∀(s:Nat) k,keys[s]?=some (some k)→∃j:Nat,out[s]?=some ((j:Nat):Int)∧ks[j]?=some k
 all:∀k∈ks,some k∈keys
theorem Num.start:Num [] [] []:=⟨rfl,List.nodup_nil,fun s h=>by simp at h,fun s k h=>by simp at h,fun k h=>by cases h⟩
theorem zCD {α:Type} {l:List α} {a x:α} {i:Nat} (h:(l++[a])[i]?=some x):l[i]?=some x∨(i=l.length∧x=a):=by
 rcases Nat.lt_or_ge i l.length with h1|h1
 ·left;rwa [List.getElem?_append_left h1] at h
 ·right;rw[List.getElem?_append_right h1] at h;have h2:=zAE h;simp at h2;rw[show i - l.length=0 by omega] at h;simp at h;exact ⟨qO,h.symm⟩
theorem Num.none {keys:List (Option (List Int))} {ks:List (List Int)} {out:List Int} (h:Num keys ks out):Num (keys++[Option.none]) ks (out++[-1]):=by
 refine ⟨by simp[h.len],h.nd,fun s hs=>?_,fun s k hs=>?_,fun k hk=>List.mem_append_left _ (h.all k hk)⟩
 ·rcases zCD hs with h1|⟨h1,_⟩
  ·have:=h.non s h1
   rwa [List.getElem?_append_left (zAE this)]
  ·rw[h1,List.getElem?_append_right (by rw[h.len];exact Nat.le_refl _),h.len,Nat.sub_self];rfl
 ·rcases zCD hs with h1|⟨_,h2⟩
  ·obtain ⟨j,h3,h4⟩:=h.som s k h1;exact ⟨j,by rw[List.getElem?_append_left (zAE h3)];exact h3,h4⟩
  ·cases h2
theorem Num.hit {keys:List (Option (List Int))} {ks:List (List Int)} {out:List Int} {k:List Int} {j:Nat} (h:Num keys ks out) (hj:ks[j]?=some k):Num (keys++[some k]) ks (out++[((j:Nat):Int)]):=by
 refine ⟨by simp[h.len],h.nd,fun s hs=>?_,fun s q hs=>?_,fun q hq=>List.mem_append_left _ (h.all q hq)⟩
 ·rcases zCD hs with h1|⟨_,h2⟩
  ·have:=h.non s h1
   rwa [List.getElem?_append_left (zAE this)]
  ·cases h2
 ·rcases zCD hs with h1|⟨h1,h2⟩
  ·obtain ⟨i,h3,h4⟩:=h.som s q h1;exact ⟨i,by rw[List.getElem?_append_left (zAE h3)];exact h3,h4⟩
  ·cases h2;exact ⟨j,by rw[h1,List.getElem?_append_right (by rw[h.len];exact Nat.le_refl _),h.len,Nat.sub_self];rfl,hj⟩
theorem Num.new {keys:List (Option (List Int))} {ks:List (List Int)} {out:List Int} {k:List Int} (h:Num keys ks out) (hk:k∉ks):Num (keys++[some k]) (ks++[k]) (out++[((ks.length:Nat):Int)]):=by
 refine ⟨by simp[h.len],?_,fun s hs=>?_,fun s q hs=>?_,fun q hq=>?_⟩
 ·rw[List.nodup_append];exact ⟨h.nd,qP,fun a ha b hb=>by rw[List.mem_singleton] at hb;subst hb;exact fun e=>hk (e▸ha)⟩
 ·rcases zCD hs with h1|⟨_,h2⟩
  ·have:=h.non s h1
   rwa [List.getElem?_append_left (zAE this)]
  ·cases h2
 ·rcases zCD hs with h1|⟨h1,h2⟩
  ·obtain ⟨i,h3,h4⟩:=h.som s q h1;exact ⟨i,by rw[List.getElem?_append_left (zAE h3)];exact h3,by rw[List.getElem?_append_left (zAE h4)];exact h4⟩
  ·cases h2;exact ⟨ks.length,by rw[h1,List.getElem?_append_right (by rw[h.len];exact Nat.le_refl _),h.len,Nat.sub_self];rfl,qP⟩
 ·rcases List.mem_append.1 hq with h1|h1
  ·exact List.mem_append_left _ (h.all q h1)
  ·rw[List.mem_singleton] at h1;subst h1;simp
theorem Num.eq_iff {keys:List (Option (List Int))} {ks:List (List Int)} {out:List Int} (h:Num keys ks out) {s t:Nat} {k q:List Int} (hs:keys[s]?=some (some k)) (ht:keys[t]?=some (some q)):out[s]?=out[t]?↔k=q:=by
 obtain ⟨i,h1,h2⟩:=h.som s k hs;obtain ⟨j,h3,h4⟩:=h.som t q ht;rw[h1,h3];constructor
 ·intro e;have:i=j:=by simp at e;omega
  subst this;rw[h2] at h4;exact Option.some.inj h4
 ·intro e;subst e;have hi:=zAE h2;have hj:=zAE h4;rw[List.getElem?_eq_getElem hi] at h2;rw[List.getElem?_eq_getElem hj] at h4;have e2:=(Option.some.inj h2).trans (Option.some.inj h4).symm;have:i=j:=by
   rcases Nat.lt_trichotomy i j with h5|h5|h5
   ·exact absurd e2 (List.pairwise_iff_getElem.1 h.nd i j hi hj h5)
   ·exact h5
   ·exact absurd e2.symm (List.pairwise_iff_getElem.1 h.nd j i hj hi h5)
  rw[this]
def ptD (p:List Int) (s:Int):Int:=if s<0 then -1 else p.getD s.toNat (-1)
theorem zCR {p:List Int} {s:Nat} {x:Int} (h:p[s]?=some x):ptD p ((s:Nat):Int)=x:=by
 unfold ptD;rw[if_neg qO,Int.toNat_natCast,List.getD_eq_getElem?_getD,h,Option.getD_some]
theorem zMr {p:List Int} {s:Int} (h:s<0):ptD p s = -1:=by unfold ptD;rw[if_pos h]
structure Refd (n c:Nat) (d:Dfa) (p:List Int) (cnt:Nat):Prop where
 len:p.length=n
 dead:∀s:Nat,s<n→¬zBT c d s→p[s]?=some (-1)
 liv:∀s:Nat,s<n→zBT c d s→∃j:Nat,p[s]?=some ((j:Nat):Int)∧j<cnt
 onto:∀j:Nat,j<cnt→∃s:Nat,s<n∧zBT c d s∧p[s]?=some ((j:Nat):Int)
 acc:∀s t:Nat,s<n→t<n→zBT c d s→zBT c d t→p[s]?=p[t]?→atD d s=atD d t
 eqv:∀s t:Nat,s<n→t<n→zBT c d s→zBT c d t→zMa c d s t→p[s]?=p[t]?
theorem Refd.cnt_le {n c cnt:Nat} {d:Dfa} {p:List Int} (h:Refd n c d p cnt):cnt≤n:=by
  -- each number has a state
  have ab:∀k,k≤cnt→∃l:List Nat,l.length=k∧l.Nodup∧(∀s∈l,s<n∧∃j:Nat,j<k∧p[s]?=some ((j:Nat):Int)):=by
    intro k
    induction k with
    | zero=>exact fun _=>⟨[],rfl,List.nodup_nil,fun s h=>by cases h⟩
    | succ k ih=>
      intro hk;obtain ⟨l,h1,h2,h3⟩:=ih qO;obtain ⟨s,hs,_,hp⟩:=h.onto k qO;refine ⟨s::l,by simp[h1],List.nodup_cons.2 ⟨fun hm=>?_,h2⟩,fun t ht=>?_⟩
      · obtain ⟨_,j,hj,aa⟩:=h3 s hm;rw[hp] at aa;simp at aa;omega
      · rcases List.mem_cons.1 ht with rfl|h4
        · exact ⟨hs,k,qO,hp⟩
        · obtain ⟨h5,j,h6,h7⟩:=h3 t h4;exact ⟨h5,j,qO,h7⟩
  obtain ⟨l,h1,h2,h3⟩:=ab cnt (Nat.le_refl _);have:=zEf (m:=List.range n) h2 fun s hs=>List.mem_range.2 (h3 s hs).1;simpa[h1] using this
theorem Refd.ptLive {n c cnt:Nat} {d:Dfa} {p:List Int} (h:Refd n c d p cnt) {s:Int} (hs : -1≤s∧s<n):(0≤ptD p s↔zBT c d s)∧-1≤ptD p s:=by
 rcases Int.lt_or_le s 0 with h1|h1
 ·rw[zMr h1];exact ⟨⟨fun h=>absurd h qD,fun h=>absurd h (zBz h1)⟩,Int.le_refl _⟩
 ·obtain ⟨k,rfl⟩:=Int.eq_ofNat_of_zero_le h1;by_cases hl:zBT c d ((k:Nat):Int)
  ·obtain ⟨j,h2,_⟩:=h.liv k qO hl;rw[zCR h2];exact ⟨⟨fun _=>hl,fun _=>qO⟩,qO⟩
  ·rw[zCR (h.dead k qO hl)];exact ⟨⟨fun h=>absurd h qD,fun h=>absurd h hl⟩,Int.le_refl _⟩
theorem Refd.ptEqv {n c cnt:Nat} {d:Dfa} {p:List Int} (h:Refd n c d p cnt) {s t:Int} (hs : -1≤s∧s<n) (ht : -1≤t∧t<n) (he:zMa c d s t):ptD p s=ptD p t:=by
 obtain ⟨a1,a2⟩:=h.ptLive hs;obtain ⟨b1,b2⟩:=h.ptLive ht;by_cases hl:zBT c d s
 ·have aa:=he.live hl;have s0:0≤s:=by rcases Int.lt_or_le s 0 with h1|h1;exact absurd hl (zBz h1);exact h1
  have t0:0≤t:=by rcases Int.lt_or_le t 0 with h1|h1;exact absurd aa (zBz h1);exact h1
  obtain ⟨i,rfl⟩:=Int.eq_ofNat_of_zero_le s0;obtain ⟨j,rfl⟩:=Int.eq_ofNat_of_zero_le t0;have h3:=h.eqv i j qO qO hl aa he;obtain ⟨a,h4,_⟩:=h.liv i qO hl;rw[zCR h4,zCR (h3▸h4)]
 ·have aa:¬zBT c d t:=fun h2=>hl (zMa.live (fun w hw=>(he w hw).symm) h2);have h3:¬0≤ptD p s:=fun h=>hl (a1.1 h);have h4:¬0≤ptD p t:=fun h=>aa (b1.1 h);omega
def zDM (c:Nat) (d:Dfa) (p:List Int) (s:Nat):List Int:=ptD p s::(List.range c).map fun x=>ptD p (toD d s x)
theorem zEg {c:Nat} {d:Dfa} {p:List Int} {s t:Nat}:zDM c d p s=zDM c d p t↔ptD p s=ptD p t∧∀x,x<c→ptD p (toD d s x)=ptD p (toD d t x):=by
 unfold zDM;rw[List.cons.injEq];constructor
 ·rintro ⟨h1,h2⟩;refine ⟨h1,fun x hx=>?_⟩;have:=congrArg (fun l=>l[x]?) h2;simpa[hx] using this
 ·rintro ⟨h1,h2⟩;exact ⟨h1,List.map_congr_left fun x hx=>h2 x (List.mem_range.1 hx)⟩
theorem Refd.of_num {n c:Nat} {d:Dfa} {keys:List (Option (List Int))} {ks:List (List Int)} {q:List Int} (hN:Num keys ks q) (hl:keys.length=n) (hd:∀s:Nat,s<n→¬zBT c d s→keys[s]?=some none) {key:Nat→List Int} (hk:∀s:Nat,s<n→zBT c d s→keys[s]?=some (some (key s)))
  (ha:∀s t:Nat,s<n→t<n→zBT c d s→zBT c d t→key s=key t→atD d s=atD d t) (he:∀s t:Nat,s<n→t<n→zBT c d s→zBT c d t→zMa c d s t→key s=key t):Refd n c d q ks.length:=by
 refine ⟨by rw[hN.len,hl],fun s hs h=>hN.non s (hd s hs h),fun s hs h=>?_,fun j hj=>?_,fun s t hs ht l1 l2 h=>?_,fun s t hs ht l1 l2 h=>?_⟩
 ·obtain ⟨j,h1,h2⟩:=hN.som s _ (hk s hs h);exact ⟨j,h1,zAE h2⟩
 ·obtain ⟨k,aa⟩:=zAJ hj;obtain ⟨s,hs⟩:=List.getElem?_of_mem (hN.all k (List.mem_of_getElem? aa));have ab:s<n:=by rw[←hl];exact zAE hs
  have ac:zBT c d s:=Classical.byContradiction fun h=>by rw[hd s ab h] at hs;cases hs
  obtain ⟨i,h1,h2⟩:=hN.som s k hs;refine ⟨s,ab,ac,?_⟩;have hi:=zAE h2;rw[List.getElem?_eq_getElem hi] at h2;rw[List.getElem?_eq_getElem hj] at aa;have e2:=(Option.some.inj h2).trans (Option.some.inj aa).symm;have:i=j:=by
   rcases Nat.lt_trichotomy i j with h5|h5|h5
   ·exact absurd e2 (List.pairwise_iff_getElem.1 hN.nd i j hi hj h5)
   ·exact h5
   ·exact absurd e2.symm (List.pairwise_iff_getElem.1 hN.nd j i hj hi h5)
  rw[←this];exact h1
 ·exact ha s t hs ht l1 l2 ((hN.eq_iff (hk s hs l1) (hk t ht l2)).1 h)
 ·exact (hN.eq_iff (hk s hs l1) (hk t ht l2)).2 (he s t hs ht l1 l2 h)
structure PartsOf (n c:Nat) (d:Dfa) (q:List Int):Prop where
 len:q.length=n
 live:∀s:Int,-1≤s∧s<n→(0≤ptD q s↔zBT c d s)∧-1≤ptD q s∧ptD q s<n
 iff:∀s t:Int,-1≤s∧s<n→-1≤t∧t<n→(ptD q s=ptD q t↔zMa c d s t)
theorem Refd.same {n c cnt:Nat} {d:Dfa} {p q:List Int} (hp:Refd n c d p cnt) (hq:Refd n c d q cnt) (hf:∀s t:Nat,s<n→t<n→zBT c d s→zBT c d t→q[s]?=q[t]?→p[s]?=p[t]?) :
  ∀s t:Nat,s<n→t<n→zBT c d s→zBT c d t→p[s]?=p[t]?→q[s]?=q[t]?:=by
 intro s t hs ht l1 l2 al;apply Classical.byContradiction;intro an;obtain ⟨a,ha,ad⟩:=hq.liv s hs l1;obtain ⟨b,hb,am⟩:=hq.liv t ht l2;have aj:a≠b:=fun e=>an (by rw[ha,hb,e])
 -- each number of q other than b goes to a number of p; all are met
 have ac:∀j:Nat,∃i:Nat,j<cnt→(i<cnt∧∀u:Nat,u<n→zBT c d u→q[u]?=some ((j:Nat):Int)→p[u]?=some ((i:Nat):Int)):=by
  intro j;by_cases hj:j<cnt
  ·obtain ⟨u,hu,lu,ak⟩:=hq.onto j hj;obtain ⟨i,hi,ah⟩:=hp.liv u hu lu;refine ⟨i,fun _=>⟨ah,fun v hv lv af=>?_⟩⟩;rw[←hf u v hu hv lu lv (by rw[ak,af])];exact hi
  ·exact ⟨0,fun h=>absurd h hj⟩
 obtain ⟨f,aa⟩:=Classical.axiomOfChoice ac;have ag:=zEf (l:=List.range cnt) (m:=((List.range cnt).erase b).map f) List.nodup_range fun i hi=>by
  rw[List.mem_range] at hi;obtain ⟨u,hu,lu,ai⟩:=hp.onto i hi;obtain ⟨j,hj,ab⟩:=hq.liv u hu lu;have h1:=(aa j ab).2 u hu lu hj;rw[ai] at h1;have ae:f j=i:=by simp at h1;omega
  by_cases hjb:j=b
  ·-- then a serves
   subst hjb;have h2:=(aa a ad).2 s hs l1 ha;have h3:=(aa j ab).2 t ht l2 hb;have h4:f a=f j:=by rw[al,h3] at h2;simp at h2;omega
   refine List.mem_map.2 ⟨a,(List.mem_erase_of_ne aj).2 (List.mem_range.2 ad),by rw[h4,ae]⟩
  ·exact List.mem_map.2 ⟨j,(List.mem_erase_of_ne hjb).2 (List.mem_range.2 ab),ae⟩
 rw[List.length_map,List.length_erase_of_mem (List.mem_range.2 am),List.length_range] at ag;omega
theorem Refd.final {n c cnt:Nat} {d:Dfa} {p q:List Int} (ok:OkD n c d) (hp:Refd n c d p cnt) (hq:Refd n c d q cnt)
    (hk:∀s t:Nat,s<n→t<n→zBT c d s→zBT c d t→(q[s]?=q[t]?↔zDM c d p s=zDM c d p t)):PartsOf n c d q:=by
  have ad:∀s:Nat,s<n→zBT c d s→∃a:Nat,p[s]?=some ((a:Nat):Int)∧ptD p s=((a:Nat):Int):=fun s hs l=>by
    obtain ⟨a,h1,_⟩:=hp.liv s hs l;exact ⟨a,h1,zCR h1⟩
  have ae:∀s t:Nat,s<n→t<n→zBT c d s→zBT c d t→(p[s]?=p[t]?↔ptD p s=ptD p t):=fun s t hs ht l1 l2=>by
    obtain ⟨a,h1,h2⟩:=ad s hs l1;obtain ⟨b,h3,h4⟩:=ad t ht l2;rw[h1,h2,h3,h4];simp
  have ac:=hp.same hq fun s t hs ht l1 l2 h=>(ae s t hs ht l1 l2).2 (zEg.1 ((hk s t hs ht l1 l2).1 h)).1;have af:∀w,inW c w→∀s t:Int,-1≤s∧s<n→-1≤t∧t<n→ptD q s=ptD q t→beh d s w=beh d t w:=by
    intro w
    induction w with
    | nil=>
      intro hw s t hs ht h;obtain ⟨a1,a2⟩:=hq.ptLive hs;obtain ⟨b1,b2⟩:=hq.ptLive ht;by_cases hl:zBT c d s
      · have ab:zBT c d t:=b1.1 (by rw[←h];exact a1.2 hl);have s0:0≤s:=by rcases Int.lt_or_le s 0 with h1|h1;exact absurd hl (zBz h1);exact h1
        have t0:0≤t:=by rcases Int.lt_or_le t 0 with h1|h1;exact absurd ab (zBz h1);exact h1
        obtain ⟨i,rfl⟩:=Int.eq_ofNat_of_zero_le s0;obtain ⟨j,rfl⟩:=Int.eq_ofNat_of_zero_le t0;obtain ⟨a,h1,_⟩:=hq.liv i qO hl;obtain ⟨b,h2,_⟩:=hq.liv j qO ab;rw[zCR h1,zCR h2] at h;exact hq.acc i j qO qO hl ab (by rw[h1,h2,h])
      · have ab:¬zBT c d t:=fun h2=>hl (a1.1 (by rw[h];exact b1.2 h2));rw[ok.dead hl hw,ok.dead ab hw]
    | cons x w ih=>
      intro hw s t hs ht h;obtain ⟨a1,a2⟩:=hq.ptLive hs;obtain ⟨b1,b2⟩:=hq.ptLive ht;by_cases hl:zBT c d s
      · have ab:zBT c d t:=b1.1 (by rw[←h];exact a1.2 hl);have s0:0≤s:=by rcases Int.lt_or_le s 0 with h1|h1;exact absurd hl (zBz h1);exact h1
        have t0:0≤t:=by rcases Int.lt_or_le t 0 with h1|h1;exact absurd ab (zBz h1);exact h1
        obtain ⟨i,rfl⟩:=Int.eq_ofNat_of_zero_le s0;obtain ⟨j,rfl⟩:=Int.eq_ofNat_of_zero_le t0;obtain ⟨a,h1,_⟩:=hq.liv i qO hl;obtain ⟨b,h2,_⟩:=hq.liv j qO ab;rw[zCR h1,zCR h2] at h;have h3:=(zEg.1 ((hk i j qO qO hl ab).1 (by rw[h1,h2,h]))).2 x hw.head;have ti:=ok.to (s:=((i:Nat):Int)) (x:=x);have tj:=ok.to (s:=((j:Nat):Int)) (x:=x);simp only[beh];refine ih hw.tail _ _ ti tj ?_;obtain ⟨c1,c2⟩:=hp.ptLive ti;obtain ⟨d1,d2⟩:=hp.ptLive tj;obtain ⟨e1,e2⟩:=hq.ptLive ti;obtain ⟨f1,f2⟩:=hq.ptLive tj;by_cases hlt:zBT c d (toD d ((i:Nat):Int) x)
        · have aa:zBT c d (toD d ((j:Nat):Int) x):=d1.1 (by rw[←h3];exact c1.2 hlt);obtain ⟨u,hu⟩:=Int.eq_ofNat_of_zero_le (show 0≤toD d ((i:Nat):Int) x by rcases Int.lt_or_le (toD d ((i:Nat):Int) x) 0 with h1|h1;exact absurd hlt (zBz h1);exact h1);obtain ⟨v,hv⟩:=Int.eq_ofNat_of_zero_le (show 0≤toD d ((j:Nat):Int) x by rcases Int.lt_or_le (toD d ((j:Nat):Int) x) 0 with h1|h1;exact absurd aa (zBz h1);exact h1);rw[hu] at hlt h3 ti⊢;rw[hv] at aa h3 tj⊢;have h4:=ac u v qO qO hlt aa ((ae u v qO qO hlt aa).2 h3);obtain ⟨a',h5,_⟩:=hq.liv u qO hlt;rw[zCR h5,zCR (h4▸h5)]
        · have aa:¬zBT c d (toD d ((j:Nat):Int) x):=fun h2=>hlt (c1.1 (by rw[h3];exact d1.2 h2));have h5:¬0≤ptD q (toD d ((i:Nat):Int) x):=fun h=>hlt (e1.1 h);have h6:¬0≤ptD q (toD d ((j:Nat):Int) x):=fun h=>aa (f1.1 h);omega
      · have ab:¬zBT c d t:=fun h2=>hl (a1.1 (by rw[h];exact b1.2 h2));rw[ok.dead hl hw,ok.dead ab hw]
  refine ⟨hq.len,fun s hs=>⟨(hq.ptLive hs).1,(hq.ptLive hs).2,?_⟩,fun s t hs ht=>⟨fun h w hw=>af w hw s t hs ht h,fun h=>hq.ptEqv hs ht h⟩⟩;have hcn:=hq.cnt_le;by_cases hl:zBT c d s
  · have s0:0≤s:=by rcases Int.lt_or_le s 0 with h1|h1;exact absurd hl (zBz h1);exact h1
    obtain ⟨i,rfl⟩:=Int.eq_ofNat_of_zero_le s0;obtain ⟨a,h1,h2⟩:=hq.liv i qO hl;rw[zCR h1];omega
  · have:=(hq.ptLive hs).1;have h5:¬0≤ptD q s:=fun h=>hl (this.1 h);have:=hs.1;have hst:=ok.st;omega
--END
end Go.Proofs
namespace Go.Proofs
open Go Go.Eng Go.Sort
--BEGIN
structure IntoP (n c:Nat) (d:Dfa) (into:List (List Int)) (s k:Nat):Prop where
 len:into.length=n
 snd:∀(t:Nat) l,into[t]?=some l→∀x∈l,0≤x∧x<n∧∃y,y<c∧toD d x y=((t:Nat):Int)
 cmp:∀s' y:Nat,y<c→(s'<s∨(s'=s∧y<k))→0≤toD d ((s':Nat):Int) y→∃l,into[(toD d ((s':Nat):Int) y).toNat]?=some l∧((s':Nat):Int)∈l
 sht:∀l∈into,l.length≤s*c+k
theorem IntoP.start (n c:Nat) (d:Dfa):IntoP n c d (List.replicate n []) 0 0:=by
 have hv:∀(t:Nat) l,(List.replicate n ([]:List Int))[t]?=some l→l=[]:=fun t l h=>(List.mem_replicate.1 (List.mem_of_getElem? h)).2;exact ⟨qP,fun t l h x hx=>(by rw[hv t l h] at hx;cases hx),fun s' y _ h=>qO,fun l hl=>by rw[(List.mem_replicate.1 hl).2];exact Nat.zero_le _⟩
theorem IntoP.row {n c s k:Nat} {d:Dfa} {into:List (List Int)} (h:IntoP n c d into s k) (hk:k=c):IntoP n c d into (s+1) 0:=by
 subst hk;exact ⟨h.len,h.snd,fun s' y hy h1 h2=>h.cmp s' y hy qO h2,fun l hl=>by have:=h.sht l hl;rw[Nat.add_mul];omega⟩
theorem IntoP.skip {n c s k:Nat} {d:Dfa} {into:List (List Int)} (h:IntoP n c d into s k) (ht:toD d ((s:Nat):Int) k<0):IntoP n c d into s (k+1):=by
 refine ⟨h.len,h.snd,fun s' y hy h1 h2=>?_,fun l hl=>by have:=h.sht l hl;omega⟩;by_cases he:s'=s∧y=k
 ·obtain ⟨rfl,rfl⟩:=he;omega
 ·exact h.cmp s' y hy qO h2
theorem IntoP.add {n c s k t:Nat} {d:Dfa} {into:List (List Int)} {l:List Int} (h:IntoP n c d into s k) (hs:s<n) (hk:k<c) (ht:toD d ((s:Nat):Int) k=((t:Nat):Int)) (hl:into[t]?=some l):IntoP n c d (into.set t (l++[((s:Nat):Int)])) s (k+1):=by
 have ac:=zAE hl;have aa:∀(i:Nat) q,(into.set t (l++[((s:Nat):Int)]))[i]?=some q→(i=t∧q=l++[((s:Nat):Int)])∨(i≠t∧into[i]?=some q):=by
  intro i q hq;rw[List.getElem?_set] at hq;split at hq
  ·rename_i he
   exact .inl ⟨he.symm,(Option.some.inj hq).symm⟩
  ·rename_i he
   exact .inr ⟨fun e=>he e.symm,hq⟩
 refine ⟨by simp[h.len],fun i q hq x hx=>?_,fun s' y hy h1 h2=>?_,fun q hq=>?_⟩
 ·rcases aa i q hq with ⟨rfl,rfl⟩|⟨_,h3⟩
  ·rcases List.mem_append.1 hx with h4|h4
   ·exact h.snd i l hl x h4
   ·rw[List.mem_singleton] at h4;subst h4;exact ⟨qO,qO,k,hk,ht⟩
  ·exact h.snd i q h3 x hx
 ·have ab:(∃q,into[(toD d ((s':Nat):Int) y).toNat]?=some q∧((s':Nat):Int)∈q)→∃q,(into.set t (l++[((s:Nat):Int)]))[(toD d ((s':Nat):Int) y).toNat]?=some q∧((s':Nat):Int)∈q:=by
   rintro ⟨q,h3,h4⟩;by_cases he:(toD d ((s':Nat):Int) y).toNat=t
   ·rw[he] at h3⊢;rw[hl] at h3;cases h3;exact ⟨_,by rw[List.getElem?_set,if_pos rfl,if_pos ac],List.mem_append_left _ h4⟩
   ·exact ⟨q,by rw[List.getElem?_set,if_neg (fun e=>he e.symm)];exact h3,h4⟩
  by_cases he:s'=s∧y=k
  ·obtain ⟨rfl,rfl⟩:=he;rw[ht,Int.toNat_natCast];exact ⟨_,by rw[List.getElem?_set,if_pos rfl,if_pos ac],qP⟩
  ·exact ab (h.cmp s' y hy qO h2)
 ·obtain ⟨i,hi⟩:=List.getElem?_of_mem hq;rcases aa i q hi with ⟨_,rfl⟩|⟨_,h3⟩
  ·have:=h.sht l (List.mem_of_getElem? hl);simp;omega
  ·have:=h.sht q (List.mem_of_getElem? h3);omega
structure LiveP (n c:Nat) (d:Dfa) (M:List Bool) (work:List Int) (k:Nat):Prop where
 len:M.length=n
 wrk:∀x∈work,∃i:Nat,x=((i:Nat):Int)∧M[i]?=some true
 snd:∀i:Nat,M[i]?=some true→zBT c d ((i:Nat):Int)
 acc:∀i:Nat,i<k→0≤atD d ((i:Nat):Int)→M[i]?=some true
 cnt:work.length+M.countP (fun b=>!b)≤n
theorem LiveP.start (n c:Nat) (d:Dfa):LiveP n c d (List.replicate n false) [] 0:=by
 refine ⟨qP,fun x h=>(by cases h),fun i h=>?_,fun i h=>qO,?_⟩
 ·have:=(List.mem_replicate.1 (List.mem_of_getElem? h)).2;cases this
 ·simp[List.countP_replicate]
theorem count_set {M:List Bool} {i:Nat} (h:M[i]?=some false):(M.set i true).countP (fun b=>!b)+1=M.countP fun b=>!b:=by
 have hi:=zAE h;have e:M=M.take i++false::M.drop (i+1):=by
  have h1:M.drop i=false::M.drop (i+1):=by
   rw[List.drop_eq_getElem_cons hi];rw[List.getElem?_eq_getElem hi] at h;rw[Option.some.inj h]
  rw[←h1,List.take_append_drop]
 have e2:M.set i true=M.take i++true::M.drop (i+1):=by rw[List.set_eq_take_append_cons_drop,if_pos hi]
 rw[e2]
 conv=>rhs;rw[e]
 rw[List.countP_append,List.countP_append,List.countP_cons,List.countP_cons];simp;omega
theorem zFY {M:List Bool} {i j:Nat} (h:M[j]?=some true):(M.set i true)[j]?=some true:=by
 rw[List.getElem?_set];split
 ·rename_i he
  subst he;rw[if_pos (zAE h)]
 ·exact h
theorem zMk {M:List Bool} {i j:Nat} (h:(M.set i true)[j]?=some true):j=i∨M[j]?=some true:=by
 rw[List.getElem?_set] at h;split at h
 ·rename_i he;exact .inl he.symm
 ·exact .inr h
theorem LiveP.mark {n c k i:Nat} {d:Dfa} {M:List Bool} {work:List Int} (h:LiveP n c d M work k) (hM:M[i]?=some false) (hl:zBT c d ((i:Nat):Int)):LiveP n c d (M.set i true) (work++[((i:Nat):Int)]) k:=by
 have hi:=zAE hM;refine ⟨by simp[h.len],fun x hx=>?_,fun j hj=>?_,fun j hj ha=>zFY (h.acc j hj ha),?_⟩
 ·rcases List.mem_append.1 hx with h1|h1
  ·obtain ⟨j,h2,h3⟩:=h.wrk x h1;exact ⟨j,h2,zFY h3⟩
  ·rw[List.mem_singleton] at h1;exact ⟨i,h1,by rw[List.getElem?_set,if_pos rfl,if_pos hi]⟩
 ·rcases zMk hj with h1|h1
  ·rw[h1];exact hl
  ·exact h.snd j h1
 ·have:=count_set hM;have:=h.cnt;simp;omega
theorem LiveP.next {n c k:Nat} {d:Dfa} {M:List Bool} {work:List Int} (h:LiveP n c d M work k) (ha:0≤atD d ((k:Nat):Int)→M[k]?=some true):LiveP n c d M work (k+1):=
 ⟨h.len,h.wrk,h.snd,fun i hi h1=>by rcases Nat.lt_or_ge i k with h2|h2;exact h.acc i h2 h1;obtain rfl:i=k:=qO;exact ha h1,h.cnt⟩
def zIy (into:List (List Int)) (M:List Bool) (work:List Int):Prop:=∀t:Nat,M[t]?=some true→((t:Nat):Int)∈work∨∀l,into[t]?=some l→∀x∈l,M[x.toNat]?=some true
theorem zIy.mark {into:List (List Int)} {M:List Bool} {work:List Int} {i:Nat} (h:zIy into M work):zIy into (M.set i true) (work++[((i:Nat):Int)]):=by
 intro t ht;rcases zMk ht with h1|h1
 ·left;rw[h1];simp
 ·rcases h t h1 with h2|h2
  ·exact .inl (List.mem_append_left _ h2)
  ·exact .inr fun l hl x hx=>zFY (h2 l hl x hx)
def zJM (into:List (List Int)) (M:List Bool) (work:List Int) (u:Nat) (lu:List Int) (k:Nat):Prop:=
 (∀t:Nat,M[t]?=some true→t≠u→((t:Nat):Int)∈work∨∀l,into[t]?=some l→∀x∈l,M[x.toNat]?=some true)∧∀x∈lu.take k,M[x.toNat]?=some true
theorem zIy.open {into:List (List Int)} {M:List Bool} {work:List Int} {u:Nat} (h:zIy into M (work++[((u:Nat):Int)])) (lu:List Int):zJM into M work u lu 0:=by
 refine ⟨fun t ht hne=>?_,fun x hx=>by simp at hx⟩;rcases h t ht with h1|h1
 ·rcases List.mem_append.1 h1 with h2|h2
  ·exact .inl h2
  ·rw[List.mem_singleton] at h2;omega
 ·exact .inr h1
theorem zJM.seen {into:List (List Int)} {M:List Bool} {work:List Int} {u k:Nat} {lu:List Int} {x:Int} (h:zJM into M work u lu k) (hx:lu[k]?=some x) (hM:M[x.toNat]?=some true):zJM into M work u lu (k+1):=by
 refine ⟨h.1,fun y hy=>?_⟩;rw[List.take_add_one,hx] at hy;rcases List.mem_append.1 hy with h1|h1
 ·exact h.2 y h1
 ·simp at h1;subst h1;exact hM
theorem zJM.mark {into:List (List Int)} {M:List Bool} {work:List Int} {u k i:Nat} {lu:List Int} (h:zJM into M work u lu k) (hx:lu[k]?=some ((i:Nat):Int)) (hM:M[i]?=some false):zJM into (M.set i true) (work++[((i:Nat):Int)]) u lu (k+1):=by
 have hi:=zAE hM;refine ⟨fun t ht aa=>?_,fun y hy=>?_⟩
 ·rcases zMk ht with h1|h1
  ·left;rw[h1];simp
  ·rcases h.1 t h1 aa with h2|h2
   ·exact .inl (List.mem_append_left _ h2)
   ·exact .inr fun l hl x hx=>zFY (h2 l hl x hx)
 ·rw[List.take_add_one,hx] at hy;rcases List.mem_append.1 hy with h1|h1
  ·exact zFY (h.2 y h1)
  ·simp at h1;subst h1;rw[Int.toNat_natCast,List.getElem?_set,if_pos rfl,if_pos hi]
theorem zJM.done {into:List (List Int)} {M:List Bool} {work:List Int} {u k:Nat} {lu:List Int} (h:zJM into M work u lu k) (hl:into[u]?=some lu) (hk:k=lu.length):zIy into M work:=by
 intro t ht;by_cases he:t=u
 ·subst he;right;intro l aa x hx;rw[hl] at aa;cases aa;exact h.2 x (by rw[hk,List.take_length];exact hx)
 ·exact h.1 t ht he
structure LiveOf (n c:Nat) (d:Dfa) (M:List Bool):Prop where
 len:M.length=n
 iff:∀s:Nat,s<n→(M[s]?=some true↔zBT c d ((s:Nat):Int))
theorem zPJ {n c:Nat} {d:Dfa} {M:List Bool} {into:List (List Int)} (ok:OkD n c d) (hI:IntoP n c d into n 0) (hL:LiveP n c d M [] n) (hC:zIy into M []):LiveOf n c d M:=by
  refine ⟨hL.len,fun s hs=>⟨hL.snd s,?_⟩⟩;rintro ⟨w,hw,h⟩;have aa:∀(w:List Nat) (s:Nat),s<n→inW c w→0≤beh d ((s:Nat):Int) w→M[s]?=some true:=by
    intro w
    induction w with
    | nil=>exact fun s hs _ h=>hL.acc s hs h
    | cons x w ih=>
      intro s hs hw h;simp only[beh] at h;have ht:=ok.to (s:=((s:Nat):Int)) (x:=x);rcases Int.lt_or_le (toD d ((s:Nat):Int) x) 0 with h1|h1
      · rw[zCh h1] at h;omega
      · obtain ⟨t,he⟩:=Int.eq_ofNat_of_zero_le h1;rw[he] at h ht;have hm:=ih t qO hw.tail h;obtain ⟨l,h2,h3⟩:=hI.cmp s x hw.head (.inl hs) h1;rw[he,Int.toNat_natCast] at h2;rcases hC t hm with h4|h4
        · cases h4
        · have:=h4 l h2 _ h3
          rwa [Int.toNat_natCast] at this
  exact aa w s hs hw h
--END
end Go.Proofs
namespace Go.Proofs
open Go Go.Eng
set_option maxRecDepth 100000
theorem zAv:Siz prog 3 1:=by unfold Siz;kernel_rfl
theorem zJs:Byt prog 3 8:=by unfold Byt;kernel_rfl
theorem zDJ:Zer prog 3 (.int .i64 0):=by unfold Zer;kernel_rfl
theorem zAm:zDG prog 3=true:=by kernel_rfl
theorem zUi:Siz prog 4 1:=by unfold Siz;kernel_rfl
theorem byt4:Byt prog 4 1:=by unfold Byt;kernel_rfl
theorem zer4:Zer prog 4 (.bool false):=by unfold Zer;kernel_rfl
theorem zKa:zDG prog 4=true:=by kernel_rfl
theorem zMj:Siz prog 5 1:=by unfold Siz;kernel_rfl
theorem zYX:Byt prog 5 1:=by unfold Byt;kernel_rfl
theorem zXE:Zer prog 5 (.int .u8 0):=by unfold Zer;kernel_rfl
theorem zZP:zDG prog 5=true:=by kernel_rfl
theorem zXF:Siz prog 9 1:=by unfold Siz;kernel_rfl
theorem byt9:Byt prog 9 16:=by unfold Byt;kernel_rfl
theorem zYg:Zer prog 9 (.string ByteArray.empty):=by unfold Zer;kernel_rfl
theorem zRV:zDG prog 9=true:=by kernel_rfl
theorem zBE:Siz prog 22 1:=by unfold Siz;kernel_rfl
theorem zNN:Byt prog 22 24:=by unfold Byt;kernel_rfl
theorem zEj:Zer prog 22 (.slice none 0 0):=by unfold Zer;kernel_rfl
theorem zBI:zDG prog 22=true:=by kernel_rfl
theorem zCi:Siz prog 23 1:=by unfold Siz;kernel_rfl
theorem zYY:Byt prog 23 24:=by unfold Byt;kernel_rfl
theorem zSY:Zer prog 23 (.slice none 0 0):=by unfold Zer;kernel_rfl
theorem zCs:zDG prog 23=true:=by kernel_rfl
theorem zDn:Siz prog 24 1:=by unfold Siz;kernel_rfl
theorem zCr:zDG prog 24=true:=by kernel_rfl
theorem zAp:Siz prog 26 6:=by unfold Siz;kernel_rfl
theorem zZV:Byt prog 26 80:=by unfold Byt;kernel_rfl
theorem zDg:Zer prog 26 (.agg #[(.int .i64 0),(.slice none 0 0),(.slice none 0 0),(.int .i64 0),(.int .i64 0),(.bool false)]):=by unfold Zer;kernel_rfl
theorem zBZ:zMS prog 26=true:=by kernel_rfl
theorem zQO:Siz prog 29 1:=by unfold Siz;kernel_rfl
theorem zXM:Zer prog 29 (.int .i64 0):=by unfold Zer;kernel_rfl
theorem zLw:zDG prog 29=true:=by kernel_rfl
theorem zBr:Siz prog 32 1:=by unfold Siz;kernel_rfl
theorem zBh:zDG prog 32=true:=by kernel_rfl
theorem zAi:Siz prog 34 3:=by unfold Siz;kernel_rfl
theorem zWr:Byt prog 34 56:=by unfold Byt;kernel_rfl
theorem zBn:Zer prog 34 (.agg #[(.int .i64 0),(.slice none 0 0),(.slice none 0 0)]):=by unfold Zer;kernel_rfl
theorem zBC:zMS prog 34=true:=by kernel_rfl
theorem zHg:Siz prog 35 1:=by unfold Siz;kernel_rfl
theorem zYr:Zer prog 35 (.slice none 0 0):=by unfold Zer;kernel_rfl
theorem zES:zDG prog 35=true:=by kernel_rfl
theorem zCK:Siz prog 44 2:=by unfold Siz;kernel_rfl
theorem zSD:Byt prog 44 16:=by unfold Byt;kernel_rfl
theorem zGF:Zer prog 44 (.agg #[(.int .i64 0),(.int .i64 0)]):=by unfold Zer;kernel_rfl
theorem zIo:zMS prog 44=true:=by kernel_rfl
theorem zYy:Siz prog 69 1:=by unfold Siz;kernel_rfl
theorem zYq:Zer prog 69 (.slice none 0 0):=by unfold Zer;kernel_rfl
theorem zRW:zDG prog 69=true:=by kernel_rfl
theorem zVn:Siz prog 96 1:=by unfold Siz;kernel_rfl
theorem zYM:zDG prog 96=true:=by kernel_rfl
theorem zXd:Siz prog 139 1:=by unfold Siz;kernel_rfl
theorem zXQ:Zer prog 139 (.slice none 0 0):=by unfold Zer;kernel_rfl
theorem zWV:zDG prog 139=true:=by kernel_rfl
theorem zXc:Siz prog 143 1:=by unfold Siz;kernel_rfl
theorem zXP:Zer prog 143 .nilFunc:=by unfold Zer;kernel_rfl
theorem zKb:zDG prog 143=true:=by kernel_rfl
theorem zCP:Siz prog 163 2:=by unfold Siz;kernel_rfl
theorem zYa:Byt prog 163 16:=by unfold Byt;kernel_rfl
theorem zJO:Zer prog 163 (.agg #[(.int .i64 0),(.int .i64 0)]):=by unfold Zer;kernel_rfl
theorem zEJ:zMS prog 163=true:=by kernel_rfl
theorem zUj:Siz prog 203 1:=by unfold Siz;kernel_rfl
theorem zRZ:zDG prog 203=true:=by kernel_rfl
theorem zCx:Siz prog 205 2:=by unfold Siz;kernel_rfl
theorem zYZ:Byt prog 205 24:=by unfold Byt;kernel_rfl
theorem zJN:Zer prog 205 (.agg #[(.int .i64 0),(.string ByteArray.empty)]):=by unfold Zer;kernel_rfl
theorem zFp:zMS prog 205=true:=by kernel_rfl
theorem zXb:Siz prog 207 1:=by unfold Siz;kernel_rfl
theorem zXO:Zer prog 207 .nilFunc:=by unfold Zer;kernel_rfl
theorem zRY:zDG prog 207=true:=by kernel_rfl
theorem zXa:Siz prog 215 1:=by unfold Siz;kernel_rfl
theorem zXN:Zer prog 215 .nilFunc:=by unfold Zer;kernel_rfl
theorem zRX:zDG prog 215=true:=by kernel_rfl
theorem mixed:prog.follows .mixedOrders=true:=by kernel_rfl
end Go.Proofs
namespace Go.Eng
open Go
def zYC:Nat→(Nat→Bool)→Nat
  | 0,_=>0
  | n+1,f=>zYC n f+(if f n then 2 ^ n else 0)
end Go.Eng
namespace Go.Eng
open Go
abbrev Rl:=Nat→Nat→Bool
def zGJ (A B:Rl) (n:Nat):Rl:=fun i k=>decide (i≤n) && (List.range 25).any fun j=>A i j && B j k
def orR (A B:Rl):Rl:=fun i j=>A i j || B i j
def zYl (A B:Rl):Rl:=fun i j=>A i j && B i j
def idR (n:Nat):Rl:=fun i j=>decide (i≤n) && decide (j=i)
def noR:Rl:=fun _ _=>false
def inS (l:List (Int×Int)) (r:Int):Bool:=l.any fun s=>decide (s.1≤r) && decide (r≤s.2)
def zYz (text:List Int) (set:List (Int×Int)):Rl:=fun i j=>(match text[i]? with|some c=>inS set c|none=>false) && decide (j=i+1)
def zZF (n:Nat) (A:Rl):Rl:=fun i j=>(decide (i≤n) && (decide (i≤j) && decide (j≤n))) && !A i j
def zSh (n:Nat) (A:Rl):Nat→Rl
  | 0=>idR n
  | m+1=>orR (zSh n A m) (zGJ (zSh n A m) A n)
def zZC (n:Nat) (A:Rl):Nat→Rl
  | 0=>idR n
  | m+1=>zGJ (zZC n A m) A n
def zXk (n:Nat) (A:Rl) (mn:Int):Nat→Rl
  | 0=>noR
  | m+1=>if mn≤(m:Int) then orR (zXk n A mn m) (zZC n A m) else zXk n A mn m
def zWP (n:Nat) (A:Rl) (neg:Bool):Rl:=fun i j=>(decide (i≤n) && decide (j=i)) && (decide (zYC 25 (A i)≠0) != neg)
def zYj (text:List Int) (k:Int) (set:List (Int×Int)) (L:List Rl) (mn mx:Int) (ng:Bool):Rl:=
 if k=1 then idR text.length else if k=2 then zYz text set
 else if k=3 then L.foldl (fun a x=>zGJ a x text.length) (idR text.length)
 else if k=4 then L.foldl orR noR
 else if k=7 then L.foldl zYl (L.headD noR)
 else if k=8 then zZF text.length (L.headD noR)
 else if k=5 then zSh text.length (L.headD noR) (text.length+1)
 else if k=6 then zXk text.length (L.headD noR) mn (mx+1).toNat
 else if k=9 then L.headD noR
 else if k=10 then zWP text.length (L.headD noR) ng
 else noR
mutual
def zIG (text:List Int):Re→Rl
  | .mk k set args mn mx ng=>zYj text k set (zJb text args) mn mx ng
def zJb (text:List Int):List Re→List Rl
  | []=>[]
  | t::ts=>zIG text t::zJb text ts
end
theorem zBR {w:World} {base e size n:Nat} {v:Value} {xs:List Value} (h:w.ownsRow base e size v n xs):∃a c,v=.slice a n c:=by
 rcases h.2 with ⟨rfl,rfl⟩|⟨g,cap,cur,rfl,_⟩
 ·exact ⟨_,_,rfl⟩
 ·exact ⟨_,_,rfl⟩
theorem zAn {M:Nat→Prop} {w w':World} {base e size n:Nat} {v:Value} {xs:List Value} (h:w.ownsRow base e size v n xs) (c:Chg M w w') (hm:∀k,v.ownBlock=some k→¬M k):w'.ownsRow base e size v n xs:=by
 refine ⟨h.1,?_⟩;rcases h.2 with hn|⟨g,ac,ad,rfl,hb,ab,aa⟩
 ·exact .inl hn
 ·refine .inr ⟨g,ac,ad,rfl,hb,?_,aa⟩;rw[c.blk g (Array.getElem?_eq_some_iff.1 ab).1 (hm g rfl)];exact ab
theorem zVx {w:World} {base e size n m cap:Nat} {a:Option Addr} {xs:List Value} (h:w.ownsRow base e size (.slice a n cap) n xs) (hm:m≤n) (h0:0<n):w.ownsRow base e size (.slice a m cap) m (xs.take (m*size)):=by
 rcases h.2 with ⟨h1,rfl⟩|⟨g,ae,ad,hv,hb,ac,hnc,ab,ag,aa⟩
 ·omega
 ·simp only[Value.slice.injEq] at hv;obtain ⟨rfl,_,rfl⟩:=hv;have af:m*size≤n*size:=Nat.mul_le_mul_right _ hm;refine ⟨by rw[List.length_take,h.1];omega,.inr ⟨g,cap,ad,rfl,hb,ac,qO,ab,ag,?_⟩⟩;rw[←aa,List.take_take,Nat.min_eq_left af]
theorem zAg {w w':World} {base e size n:Nat} {v:Value} {xs:List Value} (h:w.ownsRow base e size v n xs) (c:Ext w w'):w'.ownsRow base e size v n xs:=zAn h c fun _ _ f=>f
theorem zBS {w:World} {base e size n:Nat} {a:Option Addr} {c:Nat} {xs:List Value} (h:w.ownsRow base e size (.slice a n c) n xs) (hn:0<n) :
  ∃g,a=some ⟨g,0,none⟩∧base≤g∧zAz w g 0 xs:=by
 rcases h.2 with ⟨h1,rfl⟩|⟨g,cap,cur,hv,hb,hgg,_,_,_,aa⟩
 ·omega
 ·simp only[Value.slice.injEq] at hv;obtain ⟨rfl,_,rfl⟩:=hv;refine ⟨g,rfl,hb,fun i v hv=>?_⟩;have:=h.cells (g:=g) rfl i v hv
  rwa [Addr.add_lit] at this
theorem zCz {w:World} {base e k n:Nat} {v:Value} {rows:List (List Value)} (h:w.ownsRow base e k v n rows.flatten) (hk:∀r∈rows,r.length=k) (hn:rows.length=n) (hpos:0<k):zCQ w k v rows:=by
  obtain ⟨h1,h2⟩:=h;rcases h2 with ⟨rfl,rfl⟩|⟨g,ac,cur,rfl,hb,ab,hnc,ae,hcs,aa⟩
  · have:rows=[]:=List.eq_nil_of_length_eq_zero hn;subst this;exact zCQ.nil w k _ _
  · refine ⟨_,ac,by rw[hn],by simp only[maxLen] at ae;omega,qO,.inr ⟨g,0,rfl,fun i r hr j u hu=>?_⟩⟩;have hc:(rows.flatten)[i*k+j]?=some u:=by
      clear aa ab h1 hn
      induction rows generalizing i with
      | nil=>simp at hr
      | cons x rs ih=>
        have hx:x.length=k:=hk x qP;cases i with
        | zero=>
          simp at hr;subst hr;have hj:=zAE hu;simp only[List.flatten_cons,Nat.zero_mul,Nat.zero_add];rw[List.getElem?_append_left hj];exact hu
        | succ i=>
          simp at hr;simp only[List.flatten_cons];rw[List.getElem?_append_right (by rw[hx,Nat.succ_mul];omega)];rw[show (i+1)*k+j - x.length=i*k+j from by rw[hx,Nat.succ_mul];omega];exact ih (fun r hr=>hk r (by simp[hr])) _ hr
    rw[←aa] at hc;have ad:i*k+j<n*k:=by
      have:=zAE hc;simp at this;omega
    rw[List.getElem?_take_of_lt ad] at hc;show w.cell? ⟨g,0+i*k+j,none⟩=some u;rw[Nat.zero_add];simp only[World.cell?,ab];simpa using hc
theorem zHe {P:Program} {w w':World} {base t ty e size bytes n m c:Nat} {i:TypeInfo} {z v v':Value} {xs news:List Value} {a:Addr} (ht:P.underlying t=some (.slice e)) (hi:P.info? e=some i) (hz:i.zero=some z) (hsize:i.size=size) (hby:i.bytes=bytes) (hzs:z.cells.size=size) (hsz:0<size)
  (hown:w.ownsRow base e size v n xs) (hl:news.length=m*size) (hnews:∀j u,news[j]?=some u→w.cell? (a.add j)=some u) (h1:∀u∈news,u.oneCell'=true) (h63:n+m≤maxLen) (hbytes:(n+m)*bytes≤140737488355328)
  (hr:(Builtin.append_ #[t,t] ty #[v,.slice (some a) m c]).run P w=.ok v' w'):∀k,v'.ownBlock=some k→v.ownBlock=some k∨w.heap.size≤k:=by
 rcases hown.2 with ⟨rfl,rfl⟩|⟨g,ad,ag,rfl,hbg,hg,hnc,hcm,ai,af⟩
 ·have hx:xs=[]:=List.eq_nil_of_length_eq_zero (by simpa using hown.1);subst hx;obtain ⟨v2,w2,ab,ah,_⟩:=run_append_own (P:=P) w w.heap.size t ty e i z size bytes ht hi hz hsize hby hzs hsz (.slice none 0 0) 0 [] (World.ownsRow_nil w w.heap.size e size) a m c news hl hnews h1 h63 hbytes (Nat.le_refl _);rw[ab] at hr;cases hr;intro k hk;exact .inr (ah.lt k hk).1
 ·have ac:n+m≤9223372036854775807:=by simp only[maxLen] at h63;omega
  subst hsize;subst hby
  by_cases hroom:n+m≤ad
  ·have ae:n*i.size+news.length≤ag.size:=by rw[hl,ai,←Nat.add_mul];exact Nat.mul_le_mul_right _ hroom
   have ab:=run_append_room (P:=P) w t ty e i ht hi g n ad ag hg a m c news hl hnews h1 hroom ae;rw[ab] at hr;cases hr;intro k hk;exact .inl hk
  ·have aa:∀j u,xs[j]?=some u→w.cell? ((⟨g,0,none⟩:Addr).add j)=some u:=hown.cells (g:=g) rfl;have ab:=run_append_grow (P:=P) w t ty e i z ht hi hz ⟨g,0,none⟩ n ad xs hown.1 aa a m c news hl hnews qO qO (growslice_fits qO hbytes);rw[ab] at hr;cases hr;intro k hk;simp only[Value.ownBlock,Option.some.injEq] at hk;exact .inr qO
theorem zHf {P:Program} {w w':World} {base t ty e size bytes n m c:Nat} {i:TypeInfo} {z v v':Value} {xs news:List Value} {a:Addr} (ht:P.underlying t=some (.slice e)) (hi:P.info? e=some i) (hz:i.zero=some z) (hsize:i.size=size) (hby:i.bytes=bytes)
  (hown:w.ownsRow base e size v n xs) (hl:news.length=m*size) (hnews:∀j u,news[j]?=some u→w.cell? (a.add j)=some u) (h1:∀u∈news,u.oneCell'=true) (h63:n+m≤maxLen) (hbytes:(n+m)*bytes≤140737488355328)
  (hr:(Builtin.append_ #[t,t] ty #[v,.slice (some a) m c]).run P w=.ok v' w'):w.drawn≤w'.drawn:=by
 have ac:n+m≤9223372036854775807:=by simp only[maxLen] at h63;omega
 subst hsize;subst hby
 rcases hown.2 with ⟨rfl,rfl⟩|⟨g,ad,ag,rfl,hbg,hg,hnc,hcm,ah,af⟩
 ·by_cases hm:m=0
  ·subst hm;have h2:(Builtin.append_ #[t,t] ty #[.slice none 0 0,.slice (some a) 0 c]).run P w=.ok (.slice none 0 0) w:=by
    simp[Builtin.append_,run_underlying ht,sizeOf,typeInfo,hi,Builtin.lenOf,Builtin.firstCells,loadCells,loadCellsFrom]
   rw[h2] at hr;cases hr;exact Nat.le_refl _
  ·have ab:=run_append_nil (P:=P) w t ty e i z ht hi hz a m c news hl hnews qO qO (by have hb:=hbytes;simp only[Nat.zero_add] at hb;omega);rw[ab] at hr;cases hr;exact Nat.le_succ _
 ·by_cases hroom:n+m≤ad
  ·have ae:n*i.size+news.length≤ag.size:=by rw[hl,ah,←Nat.add_mul];exact Nat.mul_le_mul_right _ hroom
   have ab:=run_append_room (P:=P) w t ty e i ht hi g n ad ag hg a m c news hl hnews h1 hroom ae;rw[ab] at hr;cases hr;exact Nat.le_refl _
  ·have aa:∀j u,xs[j]?=some u→w.cell? ((⟨g,0,none⟩:Addr).add j)=some u:=hown.cells (g:=g) rfl;have ab:=run_append_grow (P:=P) w t ty e i z ht hi hz ⟨g,0,none⟩ n ad xs hown.1 aa a m c news hl hnews qO qO (growslice_fits qO hbytes);rw[ab] at hr;cases hr;exact Nat.le_succ _
theorem zBt {P:Program} {N:Nat} {Q:zFm} {σ:Env} {w:World} {K:Env→World→Prop} {ops:Array Oper} {rest:List Oper} {d:Nat} {ty:TypeId} {pos:String} {af:Array Edge} {t:TypeId} {s x:Operand}
    {base e size bytes n m c bx ox:Nat} {z v:Value} {xs news:List Value} (hN:d<N) (hu:P.underlying t=some (.slice e)) (hsz:Siz P e size) (hby:Byt P e bytes) (hz:Zer P e z) (hzs:z.cells.size=size) (h0:0<size)
    (hs:ev σ s=v) (hown:w.ownsRow base e size v n xs) (hx:ev σ x=.slice (some ⟨bx,ox,none⟩) m c) (hl:news.length=m*size) (hnews:zAz w bx ox news) (h1:∀u∈news,u.oneCell'=true)
    (h63:n+m≤maxLen) (hbytes:(n+m)*bytes≤140737488355328) (hbase:base≤w.heap.size)
    (k:∀v' w',w'.ownsRow base e size v' (n+m) (xs++news)→Chg (fun x=>v.ownBlock=some x) w w'→(∀k,v'.ownBlock=some k→v.ownBlock=some k∨w.heap.size≤k)→WpL P N ops K Q rest (upd σ d v') w') :
    WpL P N ops K Q (⟨some d,.call ⟨.builtin .append,#[s,x],#[t,t]⟩,ty,pos,af,none⟩::rest) σ w:=by
  unfold Siz at hsz;unfold Byt at hby;unfold Zer at hz;cases hi:P.info? e with
  | none=>rw[hi] at hsz;simp at hsz
  | some i=>
  rw[hi] at hsz hby hz;simp at hsz hby hz;obtain ⟨v',w',hr,h2,h3,_⟩:=run_append_own (P:=P) w base t ty e i z size bytes hu hi hz hsz hby hzs h0 v n xs hown ⟨bx,ox,none⟩ m c news hl (fun j u hj=>by rw[Addr.add_lit];exact hnews j u hj) h1 h63 hbytes hbase;refine zBo (v:=v') (w':=w') rfl rfl hN ?_ (k v' w' h2 ⟨h3.os,h3.tape,h3.output,zHf (P:=P) hu hi hz hsz hby hown hl (fun j u hj=>by rw[Addr.add_lit];exact hnews j u hj) h1 h63 hbytes hr,h3.size,fun b hb hn=>h3.block b hb (fun h=>hn h.symm)⟩ (zHe (P:=P) hu hi hz hsz hby hzs h0 hown hl (fun j u hj=>by rw[Addr.add_lit];exact hnews j u hj) h1 h63 hbytes hr));simp[execOp,resolve,invoke,builtin,hs,hx,hr]
end Go.Eng
namespace Go.Eng
open Go
abbrev Fct:=Value→World→Prop
def zMX (F:Fct):Prop:=∀v w w',Ext w w'→F v w→F v w'
inductive Fact where
  | eq (v:Value)
  | re (t:Re)
  | res (ts:List Re)
  | gen (F:Fct) (h:zMX F)
def Fact.In:Fact→Fct
  | .eq u,v,_=>v=u
  | .re t,v,w=>∃vs,v=.agg vs.toArray∧zBm w t vs
  | .res ts,v,w=>∃b,v=.slice (some ⟨b,0,none⟩) ts.length ts.length∧zDS w b 0 ts
  | .gen F _,v,w=>F v w
theorem Fact.ext {F:Fact} {v:Value} {w w':World} (h:F.In v w) (e:Ext w w'):F.In v w':=by
  cases F with
  | eq u=>exact h
  | re t=>obtain ⟨vs,h1,h2⟩:=h;exact ⟨vs,h1,zBm.ext e t h2⟩
  | res ts=>obtain ⟨b,h1,h2⟩:=h;exact ⟨b,h1,zDS.ext e ts h2⟩
  | gen F hF=>exact hF _ _ _ e h
def zYo (P:Program) (N:Nat) (o:Oper) (R:Fct) (σ:Env) (w:World):Prop:=
 ∀dz a,Ok dz N a→env a=σ→∀(Q:Exit→Act→World→Prop) (K:Act→World→Prop),(∀v w',Ext w w'→R v w'→K (a.put o.dst v) w')→o.wp P a w K Q
def Holds (ds:List Nat) (Fs:List Fact) (j:Nat) (σ:Env) (w:World):Prop:=∀d F,ds[j]?=some d→Fs[j]?=some F→F.In (σ d) w
def zIw (ds:List Nat) (o:Oper) (σ:Env):Prop:=∀j b,o.guard=some (j,b)→∃d,ds[j]?=some d∧σ d=.bool b
def zUb (ds:List Nat) (o:Oper) (σ:Env):Prop:=∃j b d,o.guard=some (j,b)∧ds[j]?=some d∧(σ d=.bool (!b)∨σ d=undef)
theorem zFj {ds:List Nat} {o:Oper} {σ:Env} {j:Nat} {b:Bool} {d:Nat} (h:o.guard=some (j,b)) (hd:ds[j]?=some d) (hv:σ d=.bool (!b)∨σ d=undef):zUb ds o σ:=⟨j,b,d,h,hd,hv⟩
section
variable {P : Program} {N : Nat} {o : Oper} {R : Fct} {σ : Env} {w : World}
theorem zAu {v:Value} {w':World} (hr:(execOp (ev σ) o).run P w=.ok (.value v) w') (hx:Ext w w') (h:R v w'):zYo P N o R σ w:=by
 intro dz a ha he Q K hK;unfold Oper.wp;rw[zCL,he,hr];simp only[Oper.upon];exact hK _ _ hx h
theorem zDU {f:FuncId} {args:Array Value} (hr:(execOp (ev σ) o).run P w=.ok (.enter f args) w) (hc:Ret P f args w fun v w'=>R v w'∧Ext w w'):zYo P N o R σ w:=by
 intro dz a ha he Q K hK;unfold Oper.wp;rw[zCL,he,hr];simp only[Oper.upon];refine Calls.mono hc ?_;rintro e w' ⟨v,rfl,r,x⟩;exact hK _ _ x r
theorem zAI {ds:List Nat} (h:o.guard=none):zIw ds o σ:=fun j b hj=>by rw[h] at hj;cases hj
theorem zCt {ds:List Nat} {j:Nat} {b:Bool} {d:Nat} (h:o.guard=some (j,b)) (hd:ds[j]?=some d) (hv:σ d=.bool b):zIw ds o σ:=fun j' b' hj=>by
 rw[h] at hj;cases hj;exact ⟨d,hd,hv⟩
end
def zFR (N i:Nat) (o:Oper) (d:Nat) (ws:List Nat):Bool:=
 (match o.dst with|some d'=>Nat.beq d' d|none=>false) && Nat.blt d N && (o.after.all fun e=>!Region.binds .any e || Nat.blt e.on i) && ws.all fun j=>o.after.any fun e=>Region.binds .any e && Nat.beq e.on j
def zPp (N:Nat):Nat→List Oper→List Nat→List (List Nat)→Bool
  | _,[],[],[]=>true
  | i,o::l,d::ds,ws::wss=>zFR N i o d ws && zPp N (i+1) l ds wss
  | _,_,_,_=>false
def zGU:List Nat→Bool
  | []=>true
  | d::ds=>!ds.contains d && zGU ds
theorem zCN:∀{ds:List Nat},zGU ds=true→∀{i j d:Nat},ds[i]?=some d→ds[j]?=some d→i=j
  | [],_,i,_,_,h,_=>by simp at h
  | x::ds,hn,i,j,d,hi,hj=>by
    simp only[zGU,Bool.and_eq_true,Bool.not_eq_true',List.contains_eq_mem,decide_eq_false_iff_not] at hn;cases i with
    | zero=>
      cases j with
      | zero=>rfl
      | succ j=>simp at hi hj;subst hi;exact absurd (List.mem_of_getElem? hj) hn.1
    | succ i=>
      cases j with
      | zero=>simp at hi hj;subst hj;exact absurd (List.mem_of_getElem? hi) hn.1
      | succ j=>simp at hi hj;rw[zCN hn.2 hi hj]
theorem zGf {N:Nat}:∀{i:Nat} {l:List Oper} {ds:List Nat} {wss:List (List Nat)},zPp N i l ds wss=true→∀{j:Nat} {o:Oper},l[j]?=some o→∃d ws,ds[j]?=some d∧wss[j]?=some ws∧zFR N (i+j) o d ws=true
  | _,[],_,_,_,j,o,h=>by simp at h
  | i,x::l,[],_,hB,_,_,_=>by simp[zPp] at hB
  | i,x::l,d::ds,[],hB,_,_,_=>by simp[zPp] at hB
  | i,x::l,d::ds,ws::wss,hB,j,o,h=>by
    simp only[zPp,Bool.and_eq_true] at hB;cases j with
    | zero=>simp at h;subst h;exact ⟨d,ws,rfl,rfl,hB.1⟩
    | succ j=>
      simp at h;obtain ⟨d',ws',h1,h2,h3⟩:=zGf hB.2 h;exact ⟨d',ws',by simpa using h1,by simpa using h2,by rw[show i+(j+1)=i+1+j from qO];exact h3⟩
theorem zOW {N:Nat}:∀{i:Nat} {l:List Oper} {ds:List Nat} {wss:List (List Nat)},zPp N i l ds wss=true→ds.length=l.length
  | _,[],[],[],_=>rfl
  | _,[],[],_::_,hB=>by simp[zPp] at hB
  | _,[],_::_,_,hB=>by simp[zPp] at hB
  | i,x::l,[],_,hB=>by simp[zPp] at hB
  | i,x::l,d::ds,[],hB=>by simp[zPp] at hB
  | i,x::l,d::ds,ws::wss,hB=>by
    simp only[zPp,Bool.and_eq_true] at hB;simp[zOW hB.2]
def zKt (P:Program) (N:Nat) (ds:List Nat) (Fs:List Fact) (σ:Env) (w:World) (o:Oper) (ws:List Nat) (F:Fact):Prop:=
 ∀σ' w',Ext w w'→(∀t,ds.contains t=false→σ' t=σ t)→(∀j,ws.contains j=true→Holds ds Fs j σ' w')→(zIw ds o σ'∧zYo P N o F.In σ' w')∨(zUb ds o σ'∧F.In undef w')
inductive DagSteps (P:Program) (N:Nat) (ds:List Nat) (Fs:List Fact) (σ:Env) (w:World):List Oper→List (List Nat)→List Fact→Prop where
  | nil:DagSteps P N ds Fs σ w [] [] []
  | cons {o:Oper} {ws:List Nat} {F:Fact} {l:List Oper} {wss:List (List Nat)} {Gs:List Fact}:zKt P N ds Fs σ w o ws F→DagSteps P N ds Fs σ w l wss Gs→DagSteps P N ds Fs σ w (o::l) (ws::wss) (F::Gs)
theorem DagSteps.get {P:Program} {N:Nat} {ds:List Nat} {Fs:List Fact} {σ:Env} {w:World}:∀{l:List Oper} {wss:List (List Nat)} {Gs:List Fact},DagSteps P N ds Fs σ w l wss Gs→∀{j:Nat} {o:Oper},l[j]?=some o→∃ws F,wss[j]?=some ws∧Gs[j]?=some F∧zKt P N ds Fs σ w o ws F
  | _,_,_,.nil,j,o,h=>by simp at h
  | _,_,_,.cons h1 h2,0,o,h=>by simp at h;subst h;exact ⟨_,_,rfl,rfl,h1⟩
  | _,_,_,.cons h1 h2,j+1,o,h=>by
    obtain ⟨ws,F,a,b,c⟩:=h2.get (j:=j) (by simpa using h);exact ⟨ws,F,by simpa using a,by simpa using b,c⟩
theorem zOe {P:Program} {N:Nat} {Q:zFm} {σ:Env} {w:World} {id:Nat} {l:List Oper} (ds:List Nat) (wss:List (List Nat)) (Fs:List Fact) {Gs:List Fact} (hG:Fs=Gs) (hm:P.follows .mixedOrders=true) (hB:zPp N 0 l ds wss=true) (hn:zGU ds=true)
    (steps:∀w1,Ext w w1→DagSteps P N ds Fs σ w1 l wss Gs)
    (k:∀σ' w',Ext w w'→(∀t,ds.contains t=false→σ' t=σ t)→(∀j,Holds ds Fs j σ' w')→Q .normal σ' w'):Wp P N (.region id l.toArray true) Q σ w:=by
  intro dz a ha he;refine wp_region_any hm ?_;obtain ⟨w1,a1⟩:∃w1:World,w1={w with drawn:=w.drawn+1}:=⟨_,rfl⟩;have a3:Ext w w1:=by rw[a1];exact zFf w
  rw[←a1];have a2:=steps w1 a3;rw[←hG] at a2;have bb:=zOW hB;have bd:∀(ad:Nat) (aa:Array Bool) (a:Act) (w':World),aa.size=l.length→aa.toList.count false≤ad→Ok dz N a→Ext w1 w'→(∀t,ds.contains t=false→env a t=σ t)→(∀j,aa.getD j false=true→Holds ds Fs j (env a) w')→
      wpAny P .any l.toArray (zGE dz N Q) ad aa a w':=by
    intro ad;have ay:∀(aa:Array Bool) (a:Act) (w':World),aa.size=l.length→Ok dz N a→Ext w1 w'→(∀t,ds.contains t=false→env a t=σ t)→(∀j,aa.getD j false=true→Holds ds Fs j (env a) w')→aa.toList.count false=0→zGE dz N Q .normal a w':=by
      intro aa a w' hs ha hx hu hh hc;refine ⟨ha,k _ _ (a3.trans hx) hu fun j=>?_⟩;intro d F hd hF;have hj:j<aa.size:=by have:=zAE hd;omega
      refine hh j ?_ d F hd hF;rw[List.count_eq_zero] at hc;have:aa[j]≠false:=fun h=>hc (by rw[←h];exact Array.getElem_mem_toList hj);simp only[Array.getD_eq_getD_getElem?,Array.getElem?_eq_getElem hj,Option.getD_some];simpa using this
    induction ad with
    | zero=>
      intro aa a w' hs hc ha hx hu hh;have ar:aa.toList.count false=0:=qO
      refine ⟨?_,ay aa a w' hs ha hx hu hh ar⟩;rw[List.eq_nil_iff_forall_not_mem];intro i hi;obtain ⟨h1,o,h2,_⟩:=mem_ready.1 hi;have hj:i<aa.size:=by have:=(Array.getElem?_eq_some_iff.1 h2).1;simp at this;omega
      simp only[Array.getD_eq_getD_getElem?,Array.getElem?_eq_getElem hj,Option.getD_some] at h1;rw[List.count_eq_zero] at ar;exact ar (by rw[←h1];exact Array.getElem_mem_toList hj)
    | succ ad ih=>
      intro aa a w' hs hc ha hx hu hh;refine ⟨fun hr=>ay aa a w' hs ha hx hu hh ?_,fun i hi=>?_⟩
      · -- none is ready: ay are aa
        have au:∀i,i<aa.size→aa.getD i true=true:=by
          intro i
          induction i using Nat.strongRecOn with
          | _ i ihi=>
            intro hi;cases hv:aa.getD i true with
            | true=>rfl
            | false=>
              exfalso;obtain ⟨o,ho⟩:=zAJ (l:=l) (i:=i) qO;obtain ⟨d,ws,_,_,h3⟩:=zGf hB ho;have:i∈Region.ready .any l.toArray aa:=by
                refine mem_ready.2 ⟨hv,o,by simpa using ho,fun e he hb=>?_⟩;simp only[zFR,Bool.and_eq_true,Array.all_eq_true_iff_forall_mem,Bool.or_eq_true,Bool.not_eq_true',Nat.zero_add] at h3;have:=(h3.1.2 e he).resolve_left (by simp[hb]);have ah:e.on<i:=by simpa[Nat.blt_eq] using this
                have h4:=ihi e.on ah qO;have hj:e.on<aa.size:=qO
                simpa only[Array.getD_eq_getD_getElem?,Array.getElem?_eq_getElem hj,Option.getD_some] using h4
              rw[hr] at this;cases this
        rw[List.count_eq_zero];intro av;obtain ⟨i,hi,he⟩:=List.getElem_of_mem av;have hj:i<aa.size:=by simpa using hi
        have:=au i hj;simp only[Array.getD_eq_getD_getElem?,Array.getElem?_eq_getElem hj,Option.getD_some] at this;simp at he;rw[this] at he;cases he
      · obtain ⟨h1,o,h2,h3⟩:=mem_ready.1 hi;have ho:l[i]?=some o:=by simpa using h2
        have hil:i<l.length:=zAE ho;obtain ⟨d,ws,hd,a9,h4⟩:=zGf hB ho;obtain ⟨ws',F,ap,hF,al⟩:=a2.get ho;rw[a9] at ap;cases ap;simp only[zFR,Bool.and_eq_true,List.all_eq_true,Array.any_eq_true',Array.all_eq_true_iff_forall_mem,Bool.or_eq_true,Bool.not_eq_true',Nat.zero_add] at h4;obtain ⟨⟨⟨ae,az⟩,_⟩,ak⟩:=h4;have ae:o.dst=some d:=by
          split at ae
          · rename_i d' h;rw[h,Nat.eq_of_beq_eq_true ae]
          · cases ae
        have az:d<N:=by simpa[Nat.blt_eq] using az
        have hH:∀j,ws.contains j=true→Holds ds Fs j (env a) w':=by
          intro j hj;have a6:j∈ws:=by simpa using hj
          obtain ⟨e,he,hb⟩:=ak j a6;obtain ⟨a5,a8⟩:=hb;have:e.on=j:=Nat.eq_of_beq_eq_true a8;exact hh j (this▸h3 e he a5)
        have ao:∀v w2,Ext w' w2→F.In v w2→wpAny P .any l.toArray (zGE dz N Q) ad (aa.setIfInBounds i true) (a.put o.dst v) w2:=by
          intro v w2 a0 hv;have am:env (a.put o.dst v)=upd (env a) d v:=by rw[ae];exact zDQ ha az v
          refine ih _ _ _ (by simpa using hs) ?_ (ha.put _ _) (hx.trans a0) ?_ ?_
          · have a7:i<aa.toList.length:=by simp;omega
            have hl:aa.toList[i]=false:=by
              have hj:i<aa.size:=qO
              simp only[Array.getD_eq_getD_getElem?,Array.getElem?_eq_getElem hj,Option.getD_some] at h1;simpa using h1
            rw[Array.toList_setIfInBounds,List.count_set a7,hl,if_pos (by rfl),if_neg qD];omega
          · intro t ht;rw[am,←hu t ht];simp only[upd];cases hb:Nat.beq t d
            · rfl
            · exfalso;have:t=d:=Nat.eq_of_beq_eq_true hb;subst this;have:=List.mem_of_getElem? hd;simp[this] at ht
          · intro j hj d' F' aq ax;rw[am];by_cases hij:j=i
            · subst hij;rw[hd] at aq;cases aq;rw[hF] at ax;cases ax;simp only[upd,Nat.beq_refl,cond_true];exact hv
            · have ba:Nat.beq d' d=false:=by
                cases hb:Nat.beq d' d
                · rfl
                · exfalso;have:d'=d:=Nat.eq_of_beq_eq_true hb;subst this;exact hij (zCN hn aq hd)
              simp only[upd,ba,cond_false];rw[getD_set_ne _ (Ne.symm hij)] at hj;exact Fact.ext (hh j hj d' F' aq ax) a0
        rcases al (env a) w' hx hu hH with ⟨hg,a4⟩|⟨⟨j,b,dj,aj,an,ag⟩,aw⟩
        · have hw:Region.wanted o (yielded l.toArray a.tmps)=true:=by
            cases aj:o.guard with
            | none=>simp[Region.wanted,aj]
            | some p=>
              obtain ⟨j,b⟩:=p;obtain ⟨dj,an,ag⟩:=hg j b aj;obtain ⟨oj,ai⟩:=zAJ (l:=l) (i:=j) (by have:=zAE an;omega);obtain ⟨bc,_,af,_,h5⟩:=zGf hB ai;rw[an] at af;cases af;simp only[zFR,Bool.and_eq_true] at h5;obtain ⟨⟨⟨ab,ac⟩,_⟩,_⟩:=h5;have ab:oj.dst=some dj:=by
                split at ab
                · rename_i d' h;rw[h,Nat.eq_of_beq_eq_true ab]
                · cases ab
              have ac:dj<N:=by simpa[Nat.blt_eq] using ac
              have h6:a.tmps[dj]?=some (Value.bool b):=by
                have h2:a.tmps.getD dj undef=.bool b:=ag;have ah:dj<a.tmps.size:=by rw[ha.size];exact ac
                rw[Array.getElem?_eq_getElem ah];simpa[ah] using h2
              simp[Region.wanted,aj,yielded,ai,ab,h6]
          unfold wpOp;simp only[h2,hw,if_true];exact Or.inl (a4 _ a ha rfl _ _ ao)
        · have hw:Region.wanted o (yielded l.toArray a.tmps)=false:=by
            obtain ⟨oj,ai⟩:=zAJ (l:=l) (i:=j) (by have:=zAE an;omega);obtain ⟨bc,_,af,_,h5⟩:=zGf hB ai;rw[an] at af;cases af;simp only[zFR,Bool.and_eq_true] at h5;obtain ⟨⟨⟨ab,ac⟩,_⟩,_⟩:=h5;have ab:oj.dst=some dj:=by
              split at ab
              · rename_i d' h;rw[h,Nat.eq_of_beq_eq_true ab]
              · cases ab
            have ac:dj<N:=by simpa[Nat.blt_eq] using ac
            have ah:dj<a.tmps.size:=by rw[ha.size];exact ac
            have h6:a.tmps[dj]?=some (env a dj):=by
              rw[Array.getElem?_eq_getElem ah];simp[env,ah]
            rcases ag with ag|ag
            · rw[ag] at h6;cases b<;>simp[Region.wanted,aj,yielded,ai,ab,h6]
            · rw[ag] at h6;simp[Region.wanted,aj,yielded,ai,ab,h6,undef]
          unfold wpOp;simp only[h2,hw,Bool.false_eq_true,if_false];exact ao undef w' (Ext.refl _) aw
  refine bd _ _ _ _ qP qP ha (Ext.refl _) (fun t _=>by rw[he]) ?_;intro j hj;exfalso;simp only[Array.getD_eq_getD_getElem?,Array.getElem?_replicate] at hj;split at hj<;>simp at hj
theorem zPI {x a:Value} (h:x=a):[x]=[a]:=by rw[h]
theorem zPH {x y a b:Value} (h:x=a) (h':y=b):[x,y]=[a,b]:=by rw[h,h']
theorem zXH {x y z a b c:Value} (h:x=a) (h':y=b) (h'':z=c):[x,y,z]=[a,b,c]:=by rw[h,h',h'']
theorem lst4 {x y z u a b c d:Value} (h:x=a) (h':y=b) (h'':z=c) (h3:u=d):[x,y,z,u]=[a,b,c,d]:=by rw[h,h',h'',h3]
section
variable {P : Program} {N : Nat} {σ : Env} {w : World} {dst : Option Tmp} {ty : TypeId} {pos : String} {af : Array Edge} {g : Option (Nat × Bool)} {t : TypeId} {x y : Operand}
theorem zDW {e:TypeId} {len n:Nat} {z:Value} {parts:List (Nat×Operand)} {ps:List (Nat×Value)} {c:Array Value} (hp:(parts.map fun (i,x)=>(i,ev σ x))=ps) (hu:P.underlying t=some (.slice e)) (hs:Siz P e n) (hz:Zer P e z) (hl:¬(len*n > 2 ^ 24)) (h0:len*n≠0)
  (hc:Instr.fill (fun i=>some (i*n,n)) ((Array.range (len*n)).map (z.cells[· % z.cells.size]!)) ps=some c) :
  (execOp (ev σ) ⟨dst,.buildSlice t len parts.toArray,ty,pos,af,g⟩).run P w=.ok (.value (.slice (some ⟨w.heap.size,0,none⟩) len len)) {w with heap:=w.heap.push (.cells c e (0,0))}:=by
 subst hp;simp only[execOp,Instr.buildSlice,List.map_toArray,Sem.run_bind,run_underlying hu,Result.andThen_ok,hs.run,hl,h0,if_false,Sem.run_pure,hz.run,hc];simp[newRow]
end
end Go.Eng
namespace Go.Eng
open Go
inductive FactT (M:Nat→Prop) where
  | eq (v:Value)
  | gen (F:Fct) (h:∀v w w',Chg M w w'→F v w→F v w')
  | own (F:Fct) (h:∀v w w',Ext w w'→F v w→F v w')
  | till (F:Fct) (h:∀v w w',Ext w w'→F v w→F v w')
def FactT.In {M:Nat→Prop}:FactT M→Fct
  | .eq u,v,_=>v=u
  | .gen F _,v,w=>F v w
  | .own F _,v,w=>F v w
  | .till F _,v,w=>F v w
def FactT.At {M:Nat→Prop} (done:Bool):FactT M→Fct
  | .till F _,v,w=>done=false→F v w
  | F,v,w=>F.In v w
theorem FactT.at_in {M:Nat→Prop} {F:FactT M} {v:Value} {w:World} (h:F.In v w) (done:Bool):F.At done v w:=by
 cases F<;>first|exact h|exact fun _=>h
theorem FactT.at_false {M:Nat→Prop} {F:FactT M} {v:Value} {w:World} (h:F.At false v w):F.In v w:=by
 cases F<;>first|exact h|exact h rfl
def FactT.isOwn {M:Nat→Prop}:FactT M→Bool
  | .own _ _=>true
  | _=>false
theorem FactT.chg {M:Nat→Prop} {F:FactT M} {v:Value} {w w':World} {done:Bool} (h:F.At done v w) (e:Chg M w w') (ho:F.isOwn=false):F.At true v w':=by
  cases F with
  | eq u=>exact h
  | gen F hF=>exact hF _ _ _ e h
  | own F hF=>cases ho
  | till F hF=>intro hd;cases hd
theorem FactT.ext {M:Nat→Prop} {F:FactT M} {v:Value} {w w':World} {done:Bool} (h:F.At done v w) (e:Ext w w'):F.At done v w':=by
  cases F with
  | eq u=>exact h
  | gen F hF=>exact hF _ _ _ (Ext.chg e) h
  | own F hF=>exact hF _ _ _ e h
  | till F hF=>exact fun hd=>hF _ _ _ e (h hd)
def zXt {M:Nat→Prop} (c:Nat):Nat→List (FactT M)→Bool
  | _,[]=>true
  | i,F::l=>(!F.isOwn || Nat.beq i c) && zXt c (i+1) l
theorem zOA {M:Nat→Prop} {c:Nat}:∀{i:Nat} {l:List (FactT M)},zXt c i l=true→∀{j:Nat} {F:FactT M},l[j]?=some F→i+j≠c→F.isOwn=false
  | _,[],_,_,_,h,_=>by simp at h
  | i,G::l,hB,0,F,h,hne=>by
    simp at h;subst h;simp only[zXt,Bool.and_eq_true,Bool.or_eq_true,Bool.not_eq_true'] at hB;rcases hB.1 with h|h
    · exact h
    · exact absurd (Nat.eq_of_beq_eq_true h) hne
  | i,G::l,hB,j+1,F,h,hne=>by
    simp only[zXt,Bool.and_eq_true] at hB;simp at h;exact zOA hB.2 h qO
def zCg (M:Nat→Prop) (P:Program) (N:Nat) (o:Oper) (R:Fct) (σ:Env) (w:World):Prop:=
 ∀dz a,Ok dz N a→env a=σ→∀(Q:Exit→Act→World→Prop) (K:Act→World→Prop),(∀v w',Chg M w w'→R v w'→K (a.put o.dst v) w')→o.wp P a w K Q
def zOg {M:Nat→Prop} (ds:List Nat) (Fs:List (FactT M)) (done:Bool) (j:Nat) (σ:Env) (w:World):Prop:=∀d F,ds[j]?=some d→Fs[j]?=some F→F.At done (σ d) w
section
variable {M : Nat → Prop} {P : Program} {N : Nat} {o : Oper} {R : Fct} {σ : Env} {w : World}
theorem zAQ {v:Value} {w':World} (hr:(execOp (ev σ) o).run P w=.ok (.value v) w') (hx:Chg M w w') (h:R v w'):zCg M P N o R σ w:=by
 intro dz a ha he Q K hK;unfold Oper.wp;rw[zCL,he,hr];simp only[Oper.upon];exact hK _ _ hx h
theorem zPl {w':World} (hr:(execOp (ev σ) o).run P w=.ok .skip w') (hx:Chg M w w') (h:R undef w'):zCg M P N o R σ w:=by
 intro dz a ha he Q K hK;unfold Oper.wp;rw[zCL,he,hr];simp only[Oper.upon];exact hK _ _ hx h
theorem zCS {f:FuncId} {args:Array Value} (hr:(execOp (ev σ) o).run P w=.ok (.enter f args) w) (hc:Ret P f args w fun v w'=>R v w'∧Chg M w w'):zCg M P N o R σ w:=by
 intro dz a ha he Q K hK;unfold Oper.wp;rw[zCL,he,hr];simp only[Oper.upon];refine Calls.mono hc ?_;rintro e w' ⟨v,rfl,r,x⟩;exact hK _ _ x r
end
def zFQ (N i:Nat) (o:Oper) (d:Nat) (ws:List Nat):Bool:=
 (match o.dst with|some d'=>Nat.beq d' d && Nat.blt d N|none=>Nat.ble N d) && (o.after.all fun e=>!Region.binds .any e || Nat.blt e.on i) && (ws.all fun j=>o.after.any fun e=>Region.binds .any e && Nat.beq e.on j) && o.guard.isNone
def zHD (N:Nat):Nat→List Oper→List Nat→List (List Nat)→Bool
  | _,[],[],[]=>true
  | i,o::l,d::ds,ws::wss=>zFQ N i o d ws && zHD N (i+1) l ds wss
  | _,_,_,_=>false
theorem zDb {N:Nat}:∀{i:Nat} {l:List Oper} {ds:List Nat} {wss:List (List Nat)},zHD N i l ds wss=true→∀{j:Nat} {o:Oper},l[j]?=some o→∃d ws,ds[j]?=some d∧wss[j]?=some ws∧zFQ N (i+j) o d ws=true
  | _,[],_,_,_,j,o,h=>by simp at h
  | i,x::l,[],_,hB,_,_,_=>by simp[zHD] at hB
  | i,x::l,d::ds,[],hB,_,_,_=>by simp[zHD] at hB
  | i,x::l,d::ds,ws::wss,hB,j,o,h=>by
    simp only[zHD,Bool.and_eq_true] at hB;cases j with
    | zero=>simp at h;subst h;exact ⟨d,ws,rfl,rfl,hB.1⟩
    | succ j=>
      simp at h;obtain ⟨d',ws',h1,h2,h3⟩:=zDb hB.2 h;exact ⟨d',ws',by simpa using h1,by simpa using h2,by rw[show i+(j+1)=i+1+j from qO];exact h3⟩
theorem zIj {N:Nat}:∀{i:Nat} {l:List Oper} {ds:List Nat} {wss:List (List Nat)},zHD N i l ds wss=true→ds.length=l.length
  | _,[],[],[],_=>rfl
  | _,[],[],_::_,hB=>by simp[zHD] at hB
  | _,[],_::_,_,hB=>by simp[zHD] at hB
  | i,x::l,[],_,hB=>by simp[zHD] at hB
  | i,x::l,d::ds,[],hB=>by simp[zHD] at hB
  | i,x::l,d::ds,ws::wss,hB=>by
    simp only[zHD,Bool.and_eq_true] at hB;simp[zIj hB.2]
def zMM (c:Nat) (wss:List (List Nat)) (i:Nat):Bool:=Nat.beq i c || (wss.getD c []).contains i
def valOf (o:Oper) (v:Value):Value:=match o.dst with
  | some _=>v
  | none=>undef
def zOi {M:Nat→Prop} (P:Program) (N:Nat) (ds:List Nat) (Fs:List (FactT M)) (σ:Env) (w:World) (own calm:Bool) (o:Oper) (ws:List Nat) (F:FactT M):Prop:=
 ∀σ' w',Chg (bif calm then zAe else M) w w'→(∀t,ds.contains t=false→σ' t=σ t)→(∀j,ws.contains j=true→zOg ds Fs (!calm) j σ' w')→zCg (bif own then M else zAe) P N o (fun v w=>F.In (Go.Eng.valOf o v) w) σ' w'
inductive DagStepsT {M:Nat→Prop} (P:Program) (N:Nat) (ds:List Nat) (Fs:List (FactT M)) (σ:Env) (w:World) (c:Nat) (all:List (List Nat)):Nat→List Oper→List (List Nat)→List (FactT M)→Prop where
  | nil {i:Nat}:DagStepsT P N ds Fs σ w c all i [] [] []
  | cons {i:Nat} {o:Oper} {ws:List Nat} {F:FactT M} {l:List Oper} {wss:List (List Nat)} {Gs:List (FactT M)}:zOi P N ds Fs σ w (Nat.beq i c) (zMM c all i) o ws F→DagStepsT P N ds Fs σ w c all (i+1) l wss Gs→DagStepsT P N ds Fs σ w c all i (o::l) (ws::wss) (F::Gs)
theorem DagStepsT.get {M:Nat→Prop} {P:Program} {N:Nat} {ds:List Nat} {Fs:List (FactT M)} {σ:Env} {w:World} {c:Nat} {all:List (List Nat)}:∀{i:Nat} {l:List Oper} {wss:List (List Nat)} {Gs:List (FactT M)},DagStepsT P N ds Fs σ w c all i l wss Gs→∀{j:Nat} {o:Oper},l[j]?=some o→∃ws F,wss[j]?=some ws∧Gs[j]?=some F∧zOi P N ds Fs σ w (Nat.beq (i+j) c) (zMM c all (i+j)) o ws F
  | _,_,_,_,.nil,j,o,h=>by simp at h
  | _,_,_,_,.cons h1 h2,0,o,h=>by simp at h;subst h;exact ⟨_,_,rfl,rfl,h1⟩
  | i,_,_,_,.cons h1 h2,j+1,o,h=>by
    obtain ⟨ws,F,a,b,c⟩:=h2.get (j:=j) (by simpa using h);exact ⟨ws,F,by simpa using a,by simpa using b,by rw[show i+(j+1)=i+1+j from qO];exact c⟩
def zER (n m:Nat):Array Bool:=(List.replicate n true++List.replicate (m - n) false).toArray
theorem zFn {l:List Bool} {n i:Nat} (hi:i<n) (hl:n≤l.length) (hf:l[i]?=some false):((l.set i true).take n).count false+1=(l.take n).count false:=by
 have aa:i<(l.take n).length:=by simp;omega
 rw[List.take_set,List.count_set aa];have:(l.take n)[i]=false:=by
  have h2:(l.take n)[i]?=some false:=by rw[List.getElem?_take_of_lt hi];exact hf
  rw[List.getElem?_eq_getElem aa] at h2;simpa using h2
 rw[this,if_pos (by rfl),if_neg qD];have:0<(l.take n).count false:=by
  rw[List.count_pos_iff];rw[←this];exact List.getElem_mem aa
 omega
theorem zOP {l:List Bool} {n:Nat} (hl:n≤l.length) (h0:(l.take n).count false=0) (ht:∀t,n≤t→t<l.length→l[t]?=some false):l=List.replicate n true++List.replicate (l.length - n) false:=by
  apply List.ext_getElem?;intro i;rcases Nat.lt_or_ge i n with h|h
  · rw[List.getElem?_append_left (by simpa using h),List.getElem?_replicate,if_pos h];have hi:i<l.length:=qO
    rw[List.getElem?_eq_getElem hi];cases hv:l[i] with
    | true=>rfl
    | false=>
      exfalso;rw[List.count_eq_zero] at h0;apply h0;have:(l.take n)[i]?=some false:=by rw[List.getElem?_take_of_lt h,List.getElem?_eq_getElem hi,hv]
      exact List.mem_of_getElem? this
  · rw[List.getElem?_append_right (by simpa using h),List.getElem?_replicate,List.length_replicate];rcases Nat.lt_or_ge i l.length with h2|h2
    · rw[if_pos qO,ht i h h2]
    · rw[if_neg qO,List.getElem?_eq_none h2]
theorem zFW {P:Program} {N:Nat} {Q:zFm} {σ:Env} {w:World} {id:Nat} {l:List Oper} (M:Nat→Prop) (n c:Nat) (ds:List Nat) (wss:List (List Nat)) (Fs:List (FactT M)) {Gs:List (FactT M)} (hG:Fs=Gs) (hO:zXt c 0 Gs=true) (hm:P.follows .mixedOrders=true) (hB:zHD N 0 (l.take n) ds wss=true) (hn:zGU ds=true)
    (hT:(decide (n<l.length) && Region.sinkB .any l.toArray n && Region.chainB .any l.toArray n && Region.seqB .any l.toArray (l.length - n) n (zER n l.length))=true)
    (steps:∀w1,Ext w w1→DagStepsT P N ds Fs σ w1 c wss 0 (l.take n) wss Gs)
    (k:∀σ' w1 w',Ext w w1→Chg M w1 w'→(∀t,ds.contains t=false→σ' t=σ t)→(∀j,zOg ds Fs true j σ' w')→WpL P N l.toArray (Q .normal) Q (l.drop n) σ' w'):Wp P N (.region id l.toArray true) Q σ w:=by
  intro dz a ha he;have eQ:zGE dz N (thn (Q .normal) Q)=zGE dz N Q:=by funext e a w;cases e<;>rfl
  refine wp_region_any hm ?_;obtain ⟨w1,a6⟩:∃w1:World,w1={w with drawn:=w.drawn+1}:=⟨_,rfl⟩;have a9:Ext w w1:=by rw[a6];exact zFf w
  rw[←a6];have a8:=steps w1 a9;rw[←hG] at a8;simp only[Bool.and_eq_true,decide_eq_true_eq] at hT;obtain ⟨⟨⟨bc,hs⟩,hc⟩,ax⟩:=hT;have aq:∀{q:Bool} {u u':World},Chg (bif q then M else zAe) u u'→Chg M u u':=fun {q u u'} h=>by cases q with|true=>exact h|false=>exact Ext.chg h
  have bm:ds.length=n:=by rw[zIj hB];simp;omega
  have bq:∀(m:Nat) (aa:Array Bool) (a:Act) (w':World),(aa.toList.take n).count false=m→HeadInv .any l.toArray n aa→Ok dz N a→Chg (bif aa.getD c false then M else zAe) w1 w'→(∀t,ds.contains t=false→env a t=σ t)→(∀j,aa.getD j false=true→zOg ds Fs (aa.getD c false) j (env a) w')→
      wpAny P .any l.toArray (zGE dz N Q) (m+(l.length - n)) aa a w':=by
    intro m
    induction m with
    | zero=>
      intro aa a w' ba af ha hx hu hh;have az:aa.size=l.length:=by simpa using af.size
      have hl:aa=zER n l.length:=by
        apply Array.ext';rw[zER];have:=zOP (l:=aa.toList) (n:=n) (by simp;omega) ba (by
          intro t h1 h2;have a3:t<aa.size:=by simpa using h2
          have:=af.tail t h1 (by simpa[az] using a3);simp only[Array.getD_eq_getD_getElem?,Array.getElem?_eq_getElem a3,Option.getD_some] at this;simp[a3,this])
        rw[this];simp[az]
      rw[Nat.zero_add];have h1:=k (env a) w1 w' a9 (aq hx) hu (fun j d F hd hF=>by
        have hj:j<n:=by have:=zAE hd;omega
        have h2:=hh j (by
          rw[hl,zER];simp[Array.getD_eq_getD_getElem?,List.getElem?_append_left,hj]) d F hd hF
        cases F with
        | till F hF=>intro hd;cases hd
        | eq u=>exact h2
        | gen F hF=>exact h2
        | own F hF=>exact h2) dz a ha rfl
      rw[eQ] at h1;have:=wpAny_of_seq (P:=P) (md:=.any) (ops:=l.toArray) (Q':=zGE dz N Q) (l.drop n) n aa a w' (fun j=>by simp[List.getElem?_drop]) (by rw[List.length_drop,hl];exact ax) h1
      rwa [List.length_drop] at this
    | succ m ih=>
      intro aa a w' hcm af ha hx hu hh;have az:aa.size=l.length:=by simpa using af.size
      obtain ⟨i0,ao,a2⟩:∃i,i<n∧aa.getD i true=false:=by
        have:0<(aa.toList.take n).count false:=qO
        rw[List.count_pos_iff] at this;obtain ⟨i,hi,he⟩:=List.getElem_of_mem this;have an:i<n:=by simp at hi;omega
        refine ⟨i,an,?_⟩;have al:i<aa.size:=by simp at hi;omega
        simp only[Array.getD_eq_getD_getElem?,Array.getElem?_eq_getElem al,Option.getD_some];simpa using he
      rw[show m+1+(l.length - n)=(m+(l.length - n))+1 by omega];refine ⟨fun hr=>?_,fun i hi=>?_⟩
      · exfalso;have au:∀i,i<n→aa.getD i true=true:=by
          intro i
          induction i using Nat.strongRecOn with
          | _ i ihi=>
            intro hi;cases hv:aa.getD i true with
            | true=>rfl
            | false=>
              exfalso;obtain ⟨o,ho⟩:=zAJ (l:=l) (i:=i) qO;have ar:(l.take n)[i]?=some o:=by rw[List.getElem?_take_of_lt hi];exact ho
              obtain ⟨d,ws,_,_,h3⟩:=zDb hB ar;have:i∈Region.ready .any l.toArray aa:=by
                refine mem_ready.2 ⟨hv,o,by simpa using ho,fun e he hb=>?_⟩;simp only[zFQ,Bool.and_eq_true,Array.all_eq_true_iff_forall_mem,Bool.or_eq_true,Bool.not_eq_true',Nat.zero_add] at h3;have:=(h3.1.1.2 e he).resolve_left (by simp[hb]);have bo:e.on<i:=by simpa[Nat.blt_eq] using this
                have h4:=ihi e.on bo qO;have hj:e.on<aa.size:=qO
                simpa only[Array.getD_eq_getD_getElem?,Array.getElem?_eq_getElem hj,Option.getD_some] using h4
              rw[hr] at this;cases this
        rw[au i0 ao] at a2;cases a2
      · have an:i<n:=by
          rcases Nat.lt_or_ge i n with h|h
          · exact h
          · exact absurd hi (tail_waits hs hc (by simpa using bc) af _ i0 rfl ao a2 i h)
        obtain ⟨h1,o,h2,h3⟩:=mem_ready.1 hi;have al:i<aa.size:=qO
        have ho:l[i]?=some o:=by simpa using h2
        have ar:(l.take n)[i]?=some o:=by rw[List.getElem?_take_of_lt an];exact ho
        obtain ⟨d,ws,hd,bf,h4⟩:=zDb hB ar;obtain ⟨ws',F,ap,hF,ae⟩:=a8.get ar;rw[bf] at ap;cases ap;simp only[Nat.zero_add] at ae;simp only[zFQ,Bool.and_eq_true,List.all_eq_true,Array.any_eq_true',Array.all_eq_true_iff_forall_mem,Bool.or_eq_true,Bool.not_eq_true',Nat.zero_add] at h4;obtain ⟨⟨⟨ab,_⟩,am⟩,a4⟩:=h4;have a4:o.guard=none:=by simpa using a4
        -- what is sure to come ahead of the change
        have ag:zMM c wss i=true→aa.getD c false=false:=by
          intro ac;simp only[zMM,Bool.or_eq_true] at ac;rcases ac with ac|ac
          · have:i=c:=Nat.eq_of_beq_eq_true ac;subst this;exact getD_both h1
          · cases hlc:aa.getD c false with
            | false=>rfl
            | true=>
              exfalso;have bk:c<n:=by
                rcases Nat.lt_or_ge c n with h|h
                · exact h
                · rcases Nat.lt_or_ge c l.length with h'|h'
                  · have:=getD_both (af.tail c h (by simpa using h'));rw[this] at hlc;cases hlc
                  · simp[Array.getElem?_eq_none (show aa.size≤c by omega)] at hlc
              obtain ⟨oc,a7⟩:=zAJ (l:=l) (i:=c) qO;have av:(l.take n)[c]?=some oc:=by rw[List.getElem?_take_of_lt bk];exact a7
              obtain ⟨dc,be,_,a1,h5⟩:=zDb hB av;have bg:wss.getD c []=be:=by simp[a1]
              rw[bg] at ac;simp only[zFQ,Bool.and_eq_true,List.all_eq_true,Array.any_eq_true',Nat.zero_add] at h5;obtain ⟨e,he,aw,ay⟩:=h5.1.2 i (by simpa using ac);have bi:e.on=i:=Nat.eq_of_beq_eq_true ay;have:=af.closed c oc (by simpa using a7) hlc e he aw;rw[bi,getD_both h1] at this;cases this
        have hH:∀j,ws.contains j=true→zOg ds Fs (!zMM c wss i) j (env a) w':=by
          intro j hj d' F' aj ak;have bd:j∈ws:=by simpa using hj
          obtain ⟨e,he,hb⟩:=am j bd;obtain ⟨aw,ay⟩:=hb;have:e.on=j:=Nat.eq_of_beq_eq_true ay;have h5:=hh j (this▸h3 e he aw) d' F' aj ak;cases ac:zMM c wss i with
          | true=>rw[ag ac] at h5;exact h5
          | false=>
            cases F' with
            | till F hF=>intro hd;cases hd
            | eq u=>exact h5
            | gen F hF=>exact h5
            | own F hF=>exact h5
        have ai:(∀w2,Chg (bif Nat.beq i c then M else zAe) w' w2→Chg (bif (aa.setIfInBounds i true).getD c false then M else zAe) w1 w2):=by
          intro w2 ad;by_cases hic:i=c
          · subst hic;rw[Nat.beq_refl] at ad;have hg:(aa.setIfInBounds i true).getD i false=true:=by simp[Array.getD_eq_getD_getElem?,al]
            rw[hg];exact (aq hx).trans ad
          · have hb:Nat.beq i c=false:=by cases hb:Nat.beq i c;rfl;exact absurd (Nat.eq_of_beq_eq_true hb) hic
            rw[hb] at ad;rw[getD_set_ne _ hic];exact hx.ext ad
        have a5:∀v w2,Chg (bif Nat.beq i c then M else zAe) w' w2→F.In (Go.Eng.valOf o v) w2→wpAny P .any l.toArray (zGE dz N Q) (m+(l.length - n)) (aa.setIfInBounds i true) (a.put o.dst v) w2:=by
          intro v w2 ad hv;have ah:(∀t,t≠d→env (a.put o.dst v) t=env a t)∧env (a.put o.dst v) d=Go.Eng.valOf o v:=by
            cases hod:o.dst with
            | none=>
              rw[hod] at ab;have bh:N≤d:=Nat.le_of_ble_eq_true ab;refine ⟨fun t _=>rfl,?_⟩;simp only[Go.Eng.valOf,hod];show a.tmps.getD d undef=undef;have:a.tmps.size≤d:=by rw[ha.size];exact bh
              simp[Array.getElem?_eq_none this]
            | some d'=>
              rw[hod] at ab;simp only[Bool.and_eq_true] at ab;have bn:d'=d:=Nat.eq_of_beq_eq_true ab.1;have bp:d<N:=by simpa[Nat.blt_eq] using ab.2
              subst bn;rw[zDQ ha bp v];refine ⟨fun t ht=>?_,?_⟩
              · have:Nat.beq t d'=false:=by cases hb:Nat.beq t d';rfl;exact absurd (Nat.eq_of_beq_eq_true hb) ht
                simp[upd,this]
              · simp[upd,Go.Eng.valOf,hod]
          refine ih _ _ _ ?_ (af.set hi an) (ha.put _ _) (ai w2 ad) ?_ ?_
          · have hl:aa.toList[i]?=some false:=by
              simp only[Array.getD_eq_getD_getElem?,Array.getElem?_eq_getElem al,Option.getD_some] at h1;simp[al,h1]
            have:=zFn (l:=aa.toList) an (by simp;omega) hl;rw[Array.toList_setIfInBounds];omega
          · intro t ht;rw[ah.1 t (fun h=>by
              subst h;have:=List.mem_of_getElem? hd;simp[this] at ht),hu t ht]
          · intro j hj d' F' aj ak;by_cases hij:j=i
            · subst hij;rw[hd] at aj;cases aj;rw[hF] at ak;cases ak;rw[ah.2];exact FactT.at_in hv _
            · have bj:d'≠d:=by
                intro h;subst h;exact hij (zCN hn aj hd)
              rw[ah.1 d' bj];rw[getD_set_ne _ (Ne.symm hij)] at hj;have h6:=hh j hj d' F' aj ak;by_cases hic:i=c
              · have hg:(aa.setIfInBounds i true).getD c false=true:=by rw[←hic];simp[Array.getD_eq_getD_getElem?,al]
                rw[hg];exact FactT.chg h6 (aq ad) (zOA hO (by rw[←hG];exact ak) qO)
              · have hb:Nat.beq i c=false:=by
                  cases hb:Nat.beq i c
                  · rfl
                  · exact absurd (Nat.eq_of_beq_eq_true hb) hic
                rw[hb] at ad;rw[getD_set_ne _ hic];exact FactT.ext h6 ad
        have br:Chg (bif zMM c wss i then zAe else M) w1 w':=by
          cases ac:zMM c wss i with
          | true=>rw[ag ac] at hx;exact hx
          | false=>exact aq hx
        have bb:=ae (env a) w' br hu hH;have hw:Region.wanted o (yielded l.toArray a.tmps)=true:=by simp[Region.wanted,a4]
        unfold wpOp;simp only[h2,hw,if_true];exact Or.inl (bb _ a ha rfl _ _ a5)
  have a0:HeadInv .any l.toArray n (Array.replicate l.toArray.size false):=
    ⟨qP,fun j oj _ hl=>(by rw[getD_replicate_false] at hl;cases hl),fun t _ ht=>getD_in (by simpa using ht) (getD_replicate_false _ _)⟩
  have h1:=bq n (Array.replicate l.toArray.size false) a w1 (by simp;omega) a0 ha (by rw[getD_replicate_false];exact Chg.refl _ _) (fun t _=>by rw[he]) (fun j hj=>by rw[getD_replicate_false] at hj;cases hj);have e3:n+(l.length - n)=l.toArray.size:=by simp;omega
  rw[e3] at h1;exact h1
section
variable {M : Nat → Prop} {P : Program} {N : Nat} {σ : Env} {w : World} {ty : TypeId} {pos : String} {af : Array Edge} {g : Option (Nat × Bool)} {t : TypeId} {x y : Operand} {R : Fct}
theorem zCX {b o n:Nat} {vs c:Array Value} {e:TypeId} (hx:ev σ x=.pointer (some ⟨b,o,none⟩)) (hy:ev σ y=.agg vs) (h1:∀v∈vs.toList,v.oneCell'=true) (hs:Siz P t n) (hn:vs.size=n) (hB:Blk w b c e) (ho:o+n≤c.size) (hM:M b) (hR:∀w',Put w w' b (c.toList.take o++vs.toList++c.toList.drop (o+n)).toArray e→R undef w') :
  zCg M P N ⟨none,.store t x y,ty,pos,af,g⟩ R σ w:=by
 subst hn;have hp:=Put.of_setRow hB (c.toList.take o++vs.toList++c.toList.drop (o+vs.size)).toArray;refine zPl (w':=w.setRow b _) ?_ (hp.chg.mono fun z _ h=>by subst h;exact hM) (hR _ hp);have aa:=run_storeCells_at P b o e vs.toList 0 c w hB (by simpa using ho) h1;simp only[Nat.add_zero,Array.length_toList] at aa;simp[execOp,hx,hy,Instr.storeAt,Instr.sureAddr,storeVar,hs.run,Value.cells,aa]
end
end Go.Eng
namespace Go.Proofs
open Go Go.Eng
set_option maxRecDepth 100000
section
variable {P : Program} {σ : Env} {w : World} {dst : Option Tmp} {ty : TypeId} {pos : String} {af : Array Edge} {g : Option (Nat × Bool)} {t t' e : TypeId} {x y : Operand}
theorem zKM {a:Option Addr} {n c n' c':Nat} (hu:P.underlying t=some (.slice e)) (hx:ev σ x=.slice a n c) (hy:ev σ y=.slice none n' c') :
  (execOp (ev σ) ⟨dst,.binOp .eql t x y t',ty,pos,af,g⟩).run P w=.ok (.value (.bool a.isNone)) w:=by
 have h:(Op.equalIn 10000 t (.slice a n c) (.slice none n' c')).run P w=.ok a.isNone w:=by
  rw[Op.equalIn];cases a<;>simp[run_underlying hu]
 cases a<;>simp_all[execOp,eqGuard,binOp,Op.equal,Op.maxDepth]
theorem zLR {s:Operand} {a a':Option Addr} {n c c' size:Nat} (hu:P.underlying t=some (.slice e)) (hs:Siz P e size) (hx:ev σ s=.slice a n c) (hn:n≤c) (hy:ev σ x=.slice a' 0 c') :
  (execOp (ev σ) ⟨dst,.call ⟨.builtin .append,#[s,x],#[t,t]⟩,ty,pos,af,g⟩).run P w=.ok (.value (.slice a n c)) w:=by
 have hz:size*0=0:=Nat.mul_zero _;cases a<;>cases a'<;>simp[execOp,resolve,invoke,builtin,Builtin.append_,hx,hy,run_underlying hu,hs.run,Builtin.lenOf,Builtin.firstCells,loadCells,loadCellsFrom,storeCells,hn]
theorem zGM {N:Nat} {Q:zFm} {K:Env→World→Prop} {ops:Array Oper} {rest:List Oper} {d size:Nat} (hN:d<N) (hu:P.underlying t=some (.slice e)) (hs:Siz P e size)
  (k:∀b w',New w w' b #[] e→WpL P N ops K Q rest (upd σ d (.slice (some ⟨b,0,none⟩) 0 0)) w'):WpL P N ops K Q (⟨some d,.buildSlice t 0 #[],ty,pos,af,none⟩::rest) σ w:=by
 refine zBo (v:=.slice (some ⟨w.heap.size,0,none⟩) 0 0) (w':={w with heap:=w.heap.push (.cells #[] e (0,0))}) rfl rfl hN ?_ (k _ _ (New.mk' w #[] e));have h0:Array.range 0=#[]:=rfl;simp[execOp,Instr.buildSlice,run_underlying hu,hs.run,Instr.fill,newRow,h0]
end
theorem zGT {w:World} {b e base size:Nat} (h:Blk w b #[] e) (hb:base≤b):w.ownsRow base e size (.slice (some ⟨b,0,none⟩) 0 0) 0 []:=
 ⟨qP,.inr ⟨b,0,#[],rfl,hb,h,Nat.le_refl _,by simp[maxLen],qP,qP⟩⟩
theorem zSq {α:Type} {l cur:List α} {n i:Nat} (hc:cur.length=n) (hi:2*i+1<n) (h:∀k,k<n→cur[k]?=if k<i∨n - i≤k then l[n - 1 - k]? else l[k]?) {x y:α} (hx:cur[i]?=some x) (hy:cur[n - 1 - i]?=some y) :
  ∀k,k<n→((cur.set i y).set (n - 1 - i) x)[k]?=if k<i+1∨n - (i+1)≤k then l[n - 1 - k]? else l[k]?:=by
 intro k hk;have h1:=h i qO;rw[hx,if_neg qO] at h1;have h2:=h (n - 1 - i) qO;rw[hy,if_neg qO] at h2;by_cases hk1:k=n - 1 - i
 ·subst hk1;rw[List.getElem?_set_self (by simp;omega),if_pos qO,show n - 1 - (n - 1 - i)=i from qO,h1]
 ·rw[List.getElem?_set_ne qO];by_cases hk2:k=i
  ·subst hk2;rw[List.getElem?_set_self qO,if_pos qO,h2]
  ·rw[List.getElem?_set_ne qO,h k hk];by_cases hk3:k<i∨n - i≤k
   ·rw[if_pos hk3,if_pos qO]
   ·rw[if_neg hk3,if_neg qO]
theorem zSr {α:Type} {l cur:List α} {n i:Nat} (hn:l.length=n) (hc:cur.length=n) (hi:n≤2*i+1) (h:∀k,k<n→cur[k]?=if k<i∨n - i≤k then l[n - 1 - k]? else l[k]?):cur=l.reverse:=by
 apply List.ext_getElem?;intro k;by_cases hk:k<n
 ·rw[h k hk,List.getElem?_reverse qO,hn];by_cases hk2:k<i∨n - i≤k
  ·rw[if_pos hk2]
  ·rw[if_neg hk2,show n - 1 - k=k from qO]
 ·rw[List.getElem?_eq_none qO,List.getElem?_eq_none (by simp;omega)]
theorem zTe {l:List Int} {rest:List Value} {i:Nat} (hi:i<l.length) (y:Int):(l.map (Value.int .i64)++rest).toArray.setIfInBounds i (.int .i64 y)=((l.set i y).map (Value.int .i64)++rest).toArray:=by
 apply Array.ext';rw[Array.toList_setIfInBounds,List.map_set];simp only;rw[List.set_append,if_pos (by simpa using hi)]
theorem zTf {w:World} {b T:Nat} {l:List Int} {rest:List Value} (h:Blk w b (l.map (Value.int .i64)++rest).toArray T) {i:Nat} {x:Int} (hx:l[i]?=some x):w.cell? ⟨b,i,none⟩=some (.int .i64 x):=by
 refine h.cell ?_;have:=zAE hx;simp only[List.getElem?_toArray];rw[List.getElem?_append_left (by simpa using this)];simp[hx]
theorem zYJ (w0:World) (v:Value) (x:Int) (l:List Int) (hs:zBa w0 v l) :
  Ret prog 104 #[v,.int .i64 x] w0 fun r w=>r=.int .i64 (idx (fun y=>decide (x=y)) l)∧Ext w0 w:=by
 obtain ⟨a,c,rfl⟩:=zCQ.form hs;have ad:l.length≤9223372036854775807:=by simpa using zCQ.le hs
 simp only[List.length_map] at hs⊢;refine qR func104 rfl ntmps104 rfl (fun E=>(zAA (qA _ rfl (zAB (zAH (zAA (qM _ rfl (qV (zAK underlying22 rfl) (qM _ rfl (zAB (zAT (zAo (fun nn_ σ W1=>∃(k:Nat),(∃jj_,σ=zCT jj_ [(0,(.slice a l.length c)),(1,(I6 x)),(7,(I6 (l.length:Int))),(8,(I6 (k:Int)))])∧Chg zAe w0 W1∧(k≤l.length)∧(∀(i:Nat) (y:Int),i<k→l[i]?=some y→decide (x=y)=false)∧nn_=l.length - k) (n:=l.length - 0) ?_ ?_))))))))))))
 ·exact ⟨0,zAs.out ⟨rfl,rfl,rfl,rfl,trivial⟩,E,Nat.zero_le _,(fun i y h=>absurd h (Nat.not_lt_zero _)),rfl⟩
 ·clear E;rintro _ _ W1 ⟨k,⟨j1,rfl⟩,E,hk,ab,rfl⟩;refine zAA (qV (zBA rfl rfl) (zAB (zAH (qC rfl (fun ac=>?_) (fun ac=>?_)))))
  ·obtain ⟨y,hy⟩:=zAJ (l:=l) (i:=k) qO;obtain ⟨b,o,rfl,aa⟩:=zAy hs qO;refine zAO (zAC (zAH (zAT (zAA (qM _ rfl (qA _ rfl (zAB (zAA (qM _ rfl (qM _ rfl (qM _ rfl (qV (zAD (b:=b) (o:=o) (len:=l.length) (cap:=c) (i:=k) (o':=o+k) rfl rfl rfl underlying22 zAv qO qO) (qV (zAG rfl zAm (E.cell (fun f=>f) (aa k y hy))) (qV (zAq rfl rfl) (zAB (qC rfl (fun hp=>?_) (fun hp=>?_)))))))))))))))))
   ·refine zAA (qM _ rfl (qA _ rfl (zAB (zAW (zAh (zAX (zAX (zAh (zAX (zAZ results104 (v:=(.int .i64 ((k:Nat):Int))) rfl ?_))))))))));exact ⟨zBM (zKW hy (by simpa using hp) ab).symm,E⟩
   ·refine zAO (zAS (zAC (zAF (qV (zAw rfl rfl (zBf qO)) (qM _ rfl (zAB (zAC ?_)))))));exact ⟨l.length - (k+1),qO,k+1,zAs.out ⟨rfl,rfl,rfl,rfl,trivial⟩,E,qO,zFi hy (by simpa using hp) ab,rfl⟩
  ·have hkk:k=l.length:=qO
   refine zAl (zAV (zAV (zAf (zAC (zAA (qA _ rfl (zAB (zAW (zAZ results104 (v:=(.int .i64 (-1))) rfl ?_)))))))));exact ⟨zBM (zHw fun i y hy=>ab i y (by have:=zAE hy;omega) hy).symm,E⟩
theorem zYK (w0:World) (v:Value) (x:Int) (l:List Int) (hs:zBa w0 v l) :
  Ret prog 64 #[v,.int .i64 x] w0 fun r w=>r=.bool (l.contains x)∧Ext w0 w:=by
 refine qR func64 rfl ntmps64 rfl (fun E=>(zAA (qA _ rfl (zAB (zAA (qM v rfl (qM _ rfl (qE rfl (zAU func104 kQ kQ rfl) (zYJ _ v x l hs) ?_))))))));rintro _ w9 ⟨rfl,X9⟩;replace E:=E.ext X9;refine qV (zDF rfl rfl) (qA _ rfl (zAB (zAW (zAZ results64 (v:=(.bool (decide ((0:Int)≤idx (fun y=>decide (x=y)) l)))) rfl ?_))));exact ⟨zBx ((zKX _ l).trans (by rw[List.contains_eq_any_beq];congr 1)),E⟩
end Go.Proofs
namespace Go.Proofs
open Go Go.Eng
set_option maxRecDepth 100000
theorem zNu {P:Program} {w:World} {e:TypeId} {cs:Array Value} {o:Nat} {v:Value} (hf:zDG P e=true) (hv:cs[o]?=some v):(part e cs o).run P w=.ok v w:=by
 simp[part,zDG.run hf,hv]
theorem zNF {α:Type} {l m:List α} (hl:l.length=m.length) (h:∀i,i<l.length→l[i]?=m[i]?):l=m:=by
 apply List.ext_getElem?;intro i;rcases Nat.lt_or_ge i l.length with h'|h'
 ·exact h i h'
 ·rw[List.getElem?_eq_none h',List.getElem?_eq_none qO]
section
variable {P : Program} {σ : Env} {w : World} {dst : Option Tmp} {ty : TypeId} {pos : String} {af : Array Edge} {g : Option (Nat × Bool)} {t t' e : TypeId} {x y : Operand}
theorem zMB {f0 f1 : Field} (d : Nat) (a b c f : Int) (hp : P.stoodInHeld t = false) (ht : P.underlying t = some (.struct #[f0, f1])) (hn0 : f0.name ≠ "_") (hn1 : f1.name ≠ "_") (ho0 : f0.offset = 0) (ho1 : f1.offset = 1) (h0 : f0.type = e) (h1 : f1.type = e) (he : P.underlying e = some (.int .i64)) (hf : zDG P e = true) :
  (Op.equalIn (d+2) t (.agg #[.int .i64 a,.int .i64 b]) (.agg #[.int .i64 c,.int .i64 f])).run P w=.ok (decide (a=c) && decide (b=f)) w:=by
 have q1:∀x y:Int,(Op.equalIn (d+1) e (.int .i64 x) (.int .i64 y)).run P w=.ok (x == y) w:=fun x y=>run_equalIn_int w d e .i64 .i64 x y he;have p0:∀x y:Int,(part e #[.int .i64 x,.int .i64 y] 0).run P w=.ok (.int .i64 x) w:=fun x y=>zNu hf rfl;have p1:∀x y:Int,(part e #[.int .i64 x,.int .i64 y] 1).run P w=.ok (.int .i64 y) w:=fun x y=>zNu hf rfl;have aa:(program).run P w=.ok P w:=rfl;rw[Op.equalIn];simp only[Sem.run_bind,run_underlying ht,Result.andThen_ok,aa,hp];by_cases hac:a=c
 ·by_cases hbf:b=f
  ·simp[hn0,hn1,ho0,ho1,h0,h1,p0,p1,q1,hac,hbf]
  ·simp[hn0,hn1,ho0,ho1,h0,h1,p0,p1,q1,hac,hbf]
 ·simp[hn0,hn1,ho0,ho1,h0,h1,p0,p1,q1,hac]
theorem zQc {f0 f1 : Field} {a b c f : Int} (hp : P.stoodInHeld t = false) (ht : P.underlying t = some (.struct #[f0, f1])) (hn0 : f0.name ≠ "_") (hn1 : f1.name ≠ "_") (ho0 : f0.offset = 0) (ho1 : f1.offset = 1) (h0 : f0.type = e) (h1 : f1.type = e) (he : P.underlying e = some (.int .i64)) (hf : zDG P e = true) (hm : P.eqGuardType P.depth t = false)
  (hx:ev σ x=.agg #[.int .i64 a,.int .i64 b]) (hy:ev σ y=.agg #[.int .i64 c,.int .i64 f]) :
  (execOp (ev σ) ⟨dst,.binOp .neq t x y t',ty,pos,af,g⟩).run P w=.ok (.value (.bool (!(decide (a=c) && decide (b=f))))) w:=by
 have h:=zMB (P:=P) (w:=w) 9998 a b c f hp ht hn0 hn1 ho0 ho1 h0 h1 he hf;simp only[execOp,hx,hy,Sem.run_bind,run_eqGuard_agg w .neq t x y _ _ hm,Result.andThen_ok,run_neq_struct,h];rfl
end
theorem zWc:prog.eqGuardType prog.depth 44=false:=by kernel_rfl
theorem zQF:prog.stoodInHeld 44=false:=by kernel_rfl
theorem zUh (w0:World) (v1 v2:Value) (l1 l2:List (Int×Int)) (h1:zBc w0 v1 l1) (h2:zBc w0 v2 l2) :
  Ret prog 14 #[v1,v2] w0 fun v w=>v=.bool (decide (l1=l2))∧Ext w0 w:=by
 obtain ⟨a1,c1,rfl⟩:=zCQ.form h1;obtain ⟨a2,c2,rfl⟩:=zCQ.form h2;have hb1:l1.length≤9223372036854775807:=by simpa using zCQ.le h1
 simp only[List.length_map] at h1 h2⊢;refine qR func14 rfl ntmps14 rfl (fun E=>(zAA (qA _ rfl (zAB (zAH (zAA (qM _ rfl (qV (zAK underlying23 rfl) (qM _ rfl (qV (zAK underlying23 rfl) (qV (zEY rfl rfl) (zAB (qC rfl (fun hl=>?_) (fun hl=>?_))))))))))))))
 ·refine zAA (qA _ rfl (zAB (zAW (zAX (zAZ results14 (v:=(.bool false)) rfl ?_)))));exact ⟨zBx (by symm;rw[decide_eq_false_iff_not];intro h;rw[h] at hl;exact hl rfl),E⟩
 ·refine zAO (zAC (zAH (zAA (qM _ rfl (qV (zAK underlying23 rfl) (qM _ rfl (zAB (zAT (zAo (fun nn_ σ W2=>∃(k:Nat),(∃jj_,σ=zCT jj_ [(0,(.slice a1 l1.length c1)),(1,(.slice a2 l2.length c2)),(12,(I6 (l1.length:Int))),(13,(I6 (k:Int)))])∧Chg zAe w0 W2∧(k≤l1.length)∧(∀(i:Nat),i<k→l1[i]?=l2[i]?)∧nn_=l1.length - k) (n:=l1.length - 0) ?_ ?_)))))))))
  ·exact ⟨0,zAs.out ⟨rfl,rfl,rfl,rfl,trivial⟩,E,Nat.zero_le _,(fun i h=>absurd h (Nat.not_lt_zero _)),rfl⟩
  ·clear E;rintro _ _ W2 ⟨k,⟨j2,rfl⟩,E,hk,ad,rfl⟩;refine zAA (qV (zBA rfl rfl) (zAB (zAH (qC rfl (fun ae=>?_) (fun ae=>?_)))))
   ·obtain ⟨p,hp⟩:=zAJ (l:=l1) (i:=k) qO;obtain ⟨q,hq⟩:=zAJ (l:=l2) (i:=k) qO;obtain ⟨b1,o1,rfl,ag⟩:=zBu h1 qO;obtain ⟨b2,o2,rfl,af⟩:=zBu h2 qO;refine zAO (zAC (zAH (zAT (zAA (qM _ rfl (qA _ rfl (zAB (zEK 8 mixed qK ?_))))))));intro w4 X4 _;replace E:=E.ext X4;refine qT (zAj rfl) (qT (zAj rfl) (qT (zAD (b:=b1) (o:=o1) (len:=l1.length) (cap:=c1) (i:=k) (o':=o1+k*2) rfl rfl rfl underlying23 zCK qO qO) (qT (zAP rfl zIo zCK rfl ((ag k p hp).ext E)) (qT (zAj rfl) (qT (zAj rfl) (qT (zAD (b:=b2) (o:=o2) (len:=l2.length) (cap:=c2) (i:=k) (o':=o2+k*2) rfl rfl rfl underlying23 zCK qO qO) (qT (zAP rfl zIo zCK rfl ((af k q hq).ext E)) (zEW (zBo (v:=(.bool (!(decide (p.1=q.1) && decide (p.2=q.2))))) rfl rfl qD (zQc zQF underlying44 qD qD rfl rfl rfl rfl underlying3 zAm zWc rfl rfl) (zAB (zAx rfl (fun aa=>?_) (fun aa=>?_))))))))))))
    ·have ab:=aa;replace aa:=by simpa using aa
     refine zAA (qA _ rfl (zAB (zAW (zAh (zAX (zAX (zAh (zAX (zAZ results14 (v:=(.bool false)) rfl ?_)))))))));exact ⟨zBx (by symm;rw[decide_eq_false_iff_not];intro h;subst h;rw[hp] at hq;cases hq;simp at aa),E⟩
    ·have ab:=aa;replace aa:=by simpa using aa
     have ac:p=q:=by obtain ⟨p1,p2⟩:=p;obtain ⟨q1,q2⟩:=q;simp at aa;simp;exact aa
     refine zAO (zAS (zAC (zAF (qV (zAw rfl rfl (zBf qO)) (qM _ rfl (zAB (zAC ?_)))))));exact ⟨l1.length - (k+1),qO,k+1,zAs.out ⟨rfl,rfl,rfl,rfl,trivial⟩,E,qO,(fun i hi=>by rcases Nat.lt_or_ge i k with h|h;exact ad i h;obtain rfl:i=k:=qO;rw[hp,hq,ac]),rfl⟩
   ·have hkk:k=l1.length:=qO
    refine zAl (zAV (zAV (zAf (zAC (zAA (qA _ rfl (zAB (zAW (zAZ results14 (v:=(.bool true)) rfl ?_)))))))));exact ⟨zBx (by symm;rw[decide_eq_true_eq];exact zNF qO (fun i hi=>ad i qO)),E⟩
theorem zJS {w:World} {b o:Nat} {l:List (Int×Int)} (h:∀i s,l[i]?=some s→zAz w b (o+i*2) [.int .i64 s.1,.int .i64 s.2]):zAz w b o (l.map zBw).flatten:=by
  induction l generalizing o with
  | nil=>intro i v hv;simp at hv
  | cons s l ih=>
    have h0:=h 0 s rfl;have h1:=ih (o:=o+2) (fun i u hu=>by have:=h (i+1) u (by simpa using hu);rwa [show o+(i+1)*2=o+2+i*2 from qO] at this);intro i v hv;simp only[List.map_cons,List.flatten_cons] at hv;have hl:(zBw s).length=2:=rfl;rcases Nat.lt_or_ge i 2 with hi|hi
    · rw[List.getElem?_append_left qO] at hv;have:=h0 i v hv;simpa using this
    · rw[List.getElem?_append_right qO] at hv;have:=h1 (i - 2) v (by rw[hl] at hv;exact hv)
      rwa [show o+2+(i - 2)=o+i from qO] at this
theorem zEa (l:List (Int×Int)):(l.map zBw).flatten.length=l.length*2:=by
  induction l with
  | nil=>rfl
  | cons s l ih=>simp only[List.map_cons,List.flatten_cons,List.length_append,ih,List.length_cons];have:(zBw s).length=2:=rfl;omega
theorem zLF (l:List (Int×Int)):∀u∈(l.map zBw).flatten,u.oneCell'=true:=by
 intro u hu;simp only[List.mem_flatten,List.mem_map] at hu;obtain ⟨r,⟨s,_,rfl⟩,hu⟩:=hu;simp[zBw] at hu;rcases hu with rfl|rfl<;>rfl
def zMH (x y:Int):Int:=if x<y then -1 else if y<x then 1 else 0
theorem zYA (w0:World) (x:Int):Ret prog 126 #[.int .i64 x] w0 fun v w=>v=.bool false∧Ext w0 w:=by
 refine qR func126 rfl ntmps126 rfl (fun E=>(zAA (qA _ rfl (zAB (zAA (qM _ rfl (qM _ rfl (qV (zEY rfl rfl) (qA _ rfl (zAB (zAW (zAZ results126 (v:=(.bool (decide ((x:Int)≠x)))) rfl ?_))))))))))));exact ⟨zBx qP,E⟩
theorem zMF (w0:World) (x y:Int):Ret prog 83 #[.int .i64 x,.int .i64 y] w0 fun v w=>v=.int .i64 (zMH x y)∧Ext w0 w:=by
 refine qR func83 rfl ntmps83 rfl (fun E=>(zAA (qA _ rfl (zAB (zAA (qM _ rfl (qE rfl (zAU func126 kQ kQ rfl) (zYA _ x) ?_)))))));rintro _ w9 ⟨rfl,X9⟩;replace E:=E.ext X9;refine qA _ rfl (zAB (zAA (qM _ rfl (qE rfl (zAU func126 kQ kQ rfl) (zYA _ y) ?_))));rintro _ w19 ⟨rfl,aa⟩;replace E:=E.ext aa;refine qA _ rfl (zAB (zAH (zAA (qM _ rfl (zAB (zAN rfl (zAO (zAC (zAH (zAA (qM _ rfl (zAB (zAN rfl (zAO (zAC (zAH (zAA (qM _ rfl (qM _ rfl (qV (zBA rfl rfl) (zAB (qC rfl (fun h1=>?_) (fun h1=>?_)))))))))))))))))))))))
 ·refine zAA (qA _ rfl (zAB (zAW (zAX (zAZ results83 (v:=(.int .i64 (-1))) rfl ?_)))));exact ⟨zBM (by unfold zMH;rw[if_pos h1]),E⟩
 ·refine zAO (zAC (zAH (zAA (qM _ rfl (qM _ rfl (qV (zEN rfl rfl) (zAB (qC rfl (fun h2=>?_) (fun h2=>?_)))))))))
  ·refine zAA (qA _ rfl (zAB (zAW (zAX (zAZ results83 (v:=(.int .i64 1)) rfl ?_)))));exact ⟨zBM (by unfold zMH;rw[if_neg h1,if_pos h2]),E⟩
  ·refine zAO (zAC (zAA (qA _ rfl (zAB (zAW (zAZ results83 (v:=(.int .i64 0)) rfl ?_))))));exact ⟨zBM (by unfold zMH;rw[if_neg h1,if_neg h2]),E⟩
section
variable {P : Program} {σ : Env} {w : World} {dst : Option Tmp} {ty : TypeId} {pos : String} {af : Array Edge} {g : Option (Nat × Bool)} {tys : Array TypeId} {x y : Operand} {k : IntKind} {a b c : Int}
theorem zXo (hx:ev σ x=.int k a) (hy:ev σ y=.int k b) (hc:min a b=c) :
  (execOp (ev σ) ⟨dst,.call ⟨.builtin .min,#[x,y],tys⟩,ty,pos,af,g⟩).run P w=.ok (.value (.int k c)) w:=by
 subst hc;have:(if b<a then b else a)=min a b:=by split<;>omega
 simp[execOp,resolve,invoke,builtin,Builtin.min_,Builtin.min2,hx,hy,this]
theorem zUn (hx:ev σ x=.int k a) (hy:ev σ y=.int k b) (hc:max a b=c) :
  (execOp (ev σ) ⟨dst,.call ⟨.builtin .max,#[x,y],tys⟩,ty,pos,af,g⟩).run P w=.ok (.value (.int k c)) w:=by
 subst hc;have:(if a<b then b else a)=max a b:=by split<;>omega
 simp[execOp,resolve,invoke,builtin,Builtin.max_,Builtin.max2,hx,hy,this]
end
end Go.Proofs
namespace Go.Proofs
open Go Go.Eng
set_option maxRecDepth 100000
def zFK (s:Int×Int):Bool:=(decide (0≤s.1) && decide (s.1≤s.2)) && decide (s.2≤1114111)
theorem zVP (s:Int×Int) (w0:World) :
  Ret prog 75 #[.agg #[.int .i64 s.1,.int .i64 s.2]] w0 fun v w=>v=.bool (zFK s)∧Ext w0 w:=by
 refine qR func75 rfl ntmps75 rfl (fun E=>(zAA (zBY (v:=(.agg #[(I6 s.1),(I6 s.2)])) (c:=#[(I6 s.1),(I6 s.2)]) qD rfl rfl ?_)));intro b1 w1 N1;replace E:=E.ext N1.ext;have B1:=N1.blk;refine qA _ rfl (zAB (zAA (qF b1 0 0 rfl underlying44 rfl zAv rfl (qV (zAG rfl zAm (B1.cell rfl)) ?_))));obtain ⟨e2,ae⟩:∃e,(decide ((0:Int)≤s.1))=e:=⟨_,rfl⟩;refine qV ((zDF rfl rfl).trans (by rw[ae];try rfl)) (qM _ rfl (qG (.bool e2) (yU e2 (P6 b1 0)) (by cases e2<;>first|exact gA|exact gB|exact .inl ⟨rfl,zAY rfl underlying44 rfl zAv rfl⟩) (qG (.bool e2) (yU e2 (I6 s.1)) (by cases e2<;>first|exact gA|exact gB|exact .inl ⟨rfl,zAG rfl zAm (B1.cell rfl)⟩) (qG (.bool e2) (yU e2 (P6 b1 1)) (by cases e2<;>first|exact gA|exact gB|exact .inl ⟨rfl,zAY rfl underlying44 rfl zAv rfl⟩) (qG (.bool e2) (yU e2 (I6 s.2)) (by cases e2<;>first|exact gA|exact gB|exact .inl ⟨rfl,zAG rfl zAm (B1.cell rfl)⟩) ?_)))));obtain ⟨e3,ac⟩:∃e,(decide ((s.1:Int)≤s.2))=e:=⟨_,rfl⟩;refine qG (.bool e2) (yU e2 (.bool e3)) (by cases e2<;>first|exact gA|exact gB|exact .inl ⟨rfl,(zMn rfl rfl).trans (by rw[ac];try rfl)⟩) ?_;obtain ⟨e4,ab⟩:∃e,(e2 && e3)=e:=⟨_,rfl⟩;refine qV (zAr (v:=.bool e4) rfl (by rw[←ab];cases e2<;>rfl)) (qM _ rfl (qG (.bool e4) (yU e4 (P6 b1 1)) (by cases e4<;>first|exact gA|exact gB|exact .inl ⟨rfl,zAY rfl underlying44 rfl zAv rfl⟩) (qG (.bool e4) (yU e4 (I6 s.2)) (by cases e4<;>first|exact gA|exact gB|exact .inl ⟨rfl,zAG rfl zAm (B1.cell rfl)⟩) ?_)));obtain ⟨e5,ad⟩:∃e,(decide ((s.2:Int)≤1114111))=e:=⟨_,rfl⟩;refine qG (.bool e4) (yU e4 (.bool e5)) (by cases e4<;>first|exact gA|exact gB|exact .inl ⟨rfl,(zMn rfl rfl).trans (by rw[ad];try rfl)⟩) ?_;obtain ⟨e6,aa⟩:∃e,(e4 && e5)=e:=⟨_,rfl⟩;refine qV (zAr (v:=.bool e6) rfl (by rw[←aa];cases e4<;>rfl)) (qA _ rfl (zAB ?_));subst aa;subst ad;subst ab;subst ac;subst ae;refine zAW (zAZ results75 (v:=(.bool (((decide ((0:Int)≤s.1)) && (decide ((s.1:Int)≤s.2))) && (decide ((s.2:Int)≤1114111))))) rfl ?_);exact ⟨rfl,E⟩
def okB (k n:Int):Bool:=if k=3∨k=4∨k=7 then decide (2≤n) else if k=5∨k=6∨k=8∨k=9∨k=10 then decide (n=1) else decide (n=0)
def zFE (t:Re):Bool:=
 (((okB t.kind t.args.length && (decide (t.kind=2) || decide ((t.set.length:Int)=0))) && ((decide (t.kind=6) || decide (t.kind=9)) || decide (t.mn=0))) && (decide (t.kind=6) || decide (t.mx=0))) && (decide (t.kind=10) || !t.neg)
theorem zYL (wb w0:World) (t:Re) (vs:List Value) (ht:zBm wb t vs) :
  Ret prog 151 #[.agg vs.toArray] w0 fun v w=>v=.bool (zFE t)∧Ext w0 w:=by
 obtain ⟨sa,sc,aa,ac,rfl,bv,bu,bo⟩:=ht.form;refine qR func151 rfl ntmps151 rfl (fun E=>(zAA (zBY (v:=(.agg (R6 t sa sc aa ac))) (c:=(R6 t sa sc aa ac)) qD rfl rfl ?_)));intro b1 w1 N1;replace E:=E.ext N1.ext;have B1:=N1.blk;refine qA _ rfl (zAB (zAA (qF b1 0 2 rfl underlying26 rfl zDn rfl (qV (zAG rfl zCr (B1.cell rfl)) (qV (zAK underlying24 rfl) (qA _ rfl (zAB (zAA (qM _ rfl (qV (zAq rfl rfl) (qA _ rfl (zAB (zFq (fun σ W2=>∃(ok:Bool),(∃jj_,σ=zCT jj_ [(1,(P6 b1 0)),(4,(.bool ok))])∧Chg zAe w0 W2∧Blk W2 b1 (R6 t sa sc aa ac) 26∧(ok=okB t.kind t.args.length)) ?_ ?_)))))))))))))
 ·skip
  refine zAA (qF b1 0 0 rfl underlying26 rfl zAv rfl (qV (zAG rfl zAm (B1.cell rfl)) (zAB (zAT (zAH (zAA (qV (zAq rfl rfl) (qA _ rfl (zAB (qC rfl (fun bb=>?_) (fun bb=>?_)))))))))))
  ·have ap:=decide_eq_true bb;refine zAO (zAC (zAk (cbk ap) (zAF (qM _ rfl (qV (zDF rfl rfl) (qA _ rfl (zAB (zAS (zAC ?_)))))))));exact ⟨(decide ((2:Int)≤((t.args.length:Nat):Int))),zAs.out ⟨rfl,rfl,trivial⟩,E,B1,(by unfold okB;(repeat' split)<;>first|rfl|omega)⟩
  ·have ap:=decide_eq_false bb;refine zAA (qV (zAq rfl rfl) (qA _ rfl (zAB (qC rfl (fun bg=>?_) (fun bg=>?_)))))
   ·have a9:=decide_eq_true bg;refine zAO (zAC (zAk (cbk a9) (zAF (qM _ rfl (qV (zDF rfl rfl) (qA _ rfl (zAB (zAS (zAC ?_)))))))));exact ⟨(decide ((2:Int)≤((t.args.length:Nat):Int))),zAs.out ⟨rfl,rfl,trivial⟩,E,B1,(by unfold okB;(repeat' split)<;>first|rfl|omega)⟩
   ·have a9:=decide_eq_false bg;refine zAF (qV (zAq rfl rfl) (qA _ rfl (zAB (zAC (qC rfl (fun bs=>?_) (fun bs=>?_))))))
    ·refine zAF (qM _ rfl (qV (zDF rfl rfl) (qA _ rfl (zAB (zAS (zAC ?_))))));exact ⟨(decide ((2:Int)≤((t.args.length:Nat):Int))),zAs.out ⟨rfl,rfl,trivial⟩,E,B1,(by unfold okB;(repeat' split)<;>first|rfl|omega)⟩
    ·refine zAH (zAA (qV (zAq rfl rfl) (qA _ rfl (zAB (qC rfl (fun bc=>?_) (fun bc=>?_))))))
     ·have al:=decide_eq_true bc;refine zAO (zAC (zAk (cbk al) (zAF (qM _ rfl (qV (zAq rfl rfl) (qA _ rfl (zAB (zAS (zAC ?_)))))))));exact ⟨(decide ((((t.args.length:Nat):Int):Int)=1)),zAs.out ⟨rfl,rfl,trivial⟩,E,B1,(by unfold okB;(repeat' split)<;>first|rfl|omega)⟩
     ·have al:=decide_eq_false bc;refine zAA (qV (zAq rfl rfl) (qA _ rfl (zAB (qC rfl (fun bd=>?_) (fun bd=>?_)))))
      ·have a8:=decide_eq_true bd;refine zAO (zAC (zAk (cbk a8) (zAF (qM _ rfl (qV (zAq rfl rfl) (qA _ rfl (zAB (zAS (zAC ?_)))))))));exact ⟨(decide ((((t.args.length:Nat):Int):Int)=1)),zAs.out ⟨rfl,rfl,trivial⟩,E,B1,(by unfold okB;(repeat' split)<;>first|rfl|omega)⟩
      ·have a8:=decide_eq_false bd;refine zAA (qV (zAq rfl rfl) (qA _ rfl (zAB (qC rfl (fun be=>?_) (fun be=>?_)))))
       ·have am:=decide_eq_true be;refine zAO (zAC (zAk (cbk am) (zAF (qM _ rfl (qV (zAq rfl rfl) (qA _ rfl (zAB (zAS (zAC ?_)))))))));exact ⟨(decide ((((t.args.length:Nat):Int):Int)=1)),zAs.out ⟨rfl,rfl,trivial⟩,E,B1,(by unfold okB;(repeat' split)<;>first|rfl|omega)⟩
       ·have am:=decide_eq_false be;refine zAA (qV (zAq rfl rfl) (qA _ rfl (zAB (qC rfl (fun bh=>?_) (fun bh=>?_)))))
        ·have a6:=decide_eq_true bh;refine zAO (zAC (zAk (cbk a6) (zAF (qM _ rfl (qV (zAq rfl rfl) (qA _ rfl (zAB (zAS (zAC ?_)))))))));exact ⟨(decide ((((t.args.length:Nat):Int):Int)=1)),zAs.out ⟨rfl,rfl,trivial⟩,E,B1,(by unfold okB;(repeat' split)<;>first|rfl|omega)⟩
        ·have a6:=decide_eq_false bh;refine zAF (qV (zAq rfl rfl) (qA _ rfl (zAB (zAC (qC rfl (fun bk=>?_) (fun bk=>?_))))))
         ·refine zAF (qM _ rfl (qV (zAq rfl rfl) (qA _ rfl (zAB (zAS (zAC ?_))))));exact ⟨(decide ((((t.args.length:Nat):Int):Int)=1)),zAs.out ⟨rfl,rfl,trivial⟩,E,B1,(by unfold okB;(repeat' split)<;>first|rfl|omega)⟩
         ·refine zAO (zAS (zAC ?_));exact ⟨(decide ((((t.args.length:Nat):Int):Int)=0)),zAs.out ⟨rfl,rfl,trivial⟩,E,B1,(by unfold okB;(repeat' split)<;>first|rfl|omega)⟩
 ·clear E B1;rintro _ W2 ⟨ok,⟨j2,rfl⟩,E,B1,bt⟩;refine zAA (qM _ rfl (qM _ rfl (qG (.bool ok) (yU ok (P6 b1 0)) (by cases ok<;>first|exact gA|exact gB|exact .inl ⟨rfl,zAY rfl underlying26 rfl zAv rfl⟩) (qG (.bool ok) (yU ok (I6 t.kind)) (by cases ok<;>first|exact gA|exact gB|exact .inl ⟨rfl,zAG rfl zAm (B1.cell rfl)⟩) ?_))));obtain ⟨af,ar⟩:∃e,(decide ((t.kind:Int)=2))=e:=⟨_,rfl⟩;refine qG (.bool ok) (yU ok (.bool af)) (by cases ok<;>first|exact gA|exact gB|exact .inl ⟨rfl,(zAq rfl rfl).trans (by rw[ar];try rfl)⟩) (qG (.bool ok) (yU ok (.bool af)) (by cases ok<;>first|exact gA|exact gB|exact .inl ⟨rfl,zAj rfl⟩) (qG (yU ok (.bool af)) (yU ok (nU af (P6 b1 1))) (by cases ok<;>cases af<;>first|exact gA|exact gB|exact .inl ⟨rfl,zAY rfl underlying26 rfl zCi rfl⟩) (qG (yU ok (.bool af)) (yU ok (nU af (.slice sa t.set.length sc))) (by cases ok<;>cases af<;>first|exact gA|exact gB|exact .inl ⟨rfl,zAG rfl zCs (B1.cell rfl)⟩) (qG (yU ok (.bool af)) (yU ok (nU af (I6 (t.set.length:Int)))) (by cases ok<;>cases af<;>first|exact gA|exact gB|exact .inl ⟨rfl,zAK underlying23 rfl⟩) ?_))));obtain ⟨bq,a0⟩:∃e,(decide ((((t.set.length:Nat):Int):Int)=0))=e:=⟨_,rfl⟩;refine qG (yU ok (.bool af)) (yU ok (nU af (.bool bq))) (by cases ok<;>cases af<;>first|exact gA|exact gB|exact .inl ⟨rfl,(zAq rfl rfl).trans (by rw[a0];try rfl)⟩) ?_;obtain ⟨ba,ak⟩:∃e,(af || bq)=e:=⟨_,rfl⟩;refine qG (.bool ok) (yU ok (.bool ba)) (by cases ok<;>first|exact gA|exact gB|exact .inl ⟨rfl,zAr (v:=.bool ba) rfl (by rw[←ak];cases af<;>rfl)⟩) ?_;obtain ⟨ab,ay⟩:∃e,(ok && ba)=e:=⟨_,rfl⟩;refine qV (zAr (v:=.bool ab) rfl (by rw[←ay];cases ok<;>rfl)) (qM _ rfl (qG (.bool ab) (yU ab (P6 b1 0)) (by cases ab<;>first|exact gA|exact gB|exact .inl ⟨rfl,zAY rfl underlying26 rfl zAv rfl⟩) (qG (.bool ab) (yU ab (I6 t.kind)) (by cases ab<;>first|exact gA|exact gB|exact .inl ⟨rfl,zAG rfl zAm (B1.cell rfl)⟩) ?_)));obtain ⟨ai,az⟩:∃e,(decide ((t.kind:Int)=6))=e:=⟨_,rfl⟩;refine qG (.bool ab) (yU ab (.bool ai)) (by cases ab<;>first|exact gA|exact gB|exact .inl ⟨rfl,(zAq rfl rfl).trans (by rw[az];try rfl)⟩) (qG (.bool ab) (yU ab (.bool ai)) (by cases ab<;>first|exact gA|exact gB|exact .inl ⟨rfl,zAj rfl⟩) (qG (yU ab (.bool ai)) (yU ab (nU ai (P6 b1 0))) (by cases ab<;>cases ai<;>first|exact gA|exact gB|exact .inl ⟨rfl,zAY rfl underlying26 rfl zAv rfl⟩) (qG (yU ab (.bool ai)) (yU ab (nU ai (I6 t.kind))) (by cases ab<;>cases ai<;>first|exact gA|exact gB|exact .inl ⟨rfl,zAG rfl zAm (B1.cell rfl)⟩) ?_)));obtain ⟨bn,a1⟩:∃e,(decide ((t.kind:Int)=9))=e:=⟨_,rfl⟩;refine qG (yU ab (.bool ai)) (yU ab (nU ai (.bool bn))) (by cases ab<;>cases ai<;>first|exact gA|exact gB|exact .inl ⟨rfl,(zAq rfl rfl).trans (by rw[a1];try rfl)⟩) ?_;obtain ⟨ag,aw⟩:∃e,(ai || bn)=e:=⟨_,rfl⟩;refine qG (.bool ab) (yU ab (.bool ag)) (by cases ab<;>first|exact gA|exact gB|exact .inl ⟨rfl,zAr (v:=.bool ag) rfl (by rw[←aw];cases ai<;>rfl)⟩) (qG (.bool ab) (yU ab (.bool ag)) (by cases ab<;>first|exact gA|exact gB|exact .inl ⟨rfl,zAj rfl⟩) (qG (yU ab (.bool ag)) (yU ab (nU ag (P6 b1 3))) (by cases ab<;>cases ag<;>first|exact gA|exact gB|exact .inl ⟨rfl,zAY rfl underlying26 rfl zAv rfl⟩) (qG (yU ab (.bool ag)) (yU ab (nU ag (I6 t.mn))) (by cases ab<;>cases ag<;>first|exact gA|exact gB|exact .inl ⟨rfl,zAG rfl zAm (B1.cell rfl)⟩) ?_)));obtain ⟨bp,au⟩:∃e,(decide ((t.mn:Int)=0))=e:=⟨_,rfl⟩;refine qG (yU ab (.bool ag)) (yU ab (nU ag (.bool bp))) (by cases ab<;>cases ag<;>first|exact gA|exact gB|exact .inl ⟨rfl,(zAq rfl rfl).trans (by rw[au];try rfl)⟩) ?_;obtain ⟨bi,an⟩:∃e,(ag || bp)=e:=⟨_,rfl⟩;refine qG (.bool ab) (yU ab (.bool bi)) (by cases ab<;>first|exact gA|exact gB|exact .inl ⟨rfl,zAr (v:=.bool bi) rfl (by rw[←an];cases ag<;>rfl)⟩) ?_;obtain ⟨ad,a3⟩:∃e,(ab && bi)=e:=⟨_,rfl⟩;refine qV (zAr (v:=.bool ad) rfl (by rw[←a3];cases ab<;>rfl)) (qM _ rfl (qG (.bool ad) (yU ad (P6 b1 0)) (by cases ad<;>first|exact gA|exact gB|exact .inl ⟨rfl,zAY rfl underlying26 rfl zAv rfl⟩) (qG (.bool ad) (yU ad (I6 t.kind)) (by cases ad<;>first|exact gA|exact gB|exact .inl ⟨rfl,zAG rfl zAm (B1.cell rfl)⟩) ?_)));obtain ⟨ah,a4⟩:∃e,(decide ((t.kind:Int)=6))=e:=⟨_,rfl⟩;refine qG (.bool ad) (yU ad (.bool ah)) (by cases ad<;>first|exact gA|exact gB|exact .inl ⟨rfl,(zAq rfl rfl).trans (by rw[a4];try rfl)⟩) (qG (.bool ad) (yU ad (.bool ah)) (by cases ad<;>first|exact gA|exact gB|exact .inl ⟨rfl,zAj rfl⟩) (qG (yU ad (.bool ah)) (yU ad (nU ah (P6 b1 4))) (by cases ad<;>cases ah<;>first|exact gA|exact gB|exact .inl ⟨rfl,zAY rfl underlying26 rfl zAv rfl⟩) (qG (yU ad (.bool ah)) (yU ad (nU ah (I6 t.mx))) (by cases ad<;>cases ah<;>first|exact gA|exact gB|exact .inl ⟨rfl,zAG rfl zAm (B1.cell rfl)⟩) ?_)));obtain ⟨bm,av⟩:∃e,(decide ((t.mx:Int)=0))=e:=⟨_,rfl⟩;refine qG (yU ad (.bool ah)) (yU ad (nU ah (.bool bm))) (by cases ad<;>cases ah<;>first|exact gA|exact gB|exact .inl ⟨rfl,(zAq rfl rfl).trans (by rw[av];try rfl)⟩) ?_;obtain ⟨bj,ax⟩:∃e,(ah || bm)=e:=⟨_,rfl⟩;refine qG (.bool ad) (yU ad (.bool bj)) (by cases ad<;>first|exact gA|exact gB|exact .inl ⟨rfl,zAr (v:=.bool bj) rfl (by rw[←ax];cases ah<;>rfl)⟩) ?_;obtain ⟨ae,aq⟩:∃e,(ad && bj)=e:=⟨_,rfl⟩;refine qV (zAr (v:=.bool ae) rfl (by rw[←aq];cases ad<;>rfl)) (qM _ rfl (qG (.bool ae) (yU ae (P6 b1 0)) (by cases ae<;>first|exact gA|exact gB|exact .inl ⟨rfl,zAY rfl underlying26 rfl zAv rfl⟩) (qG (.bool ae) (yU ae (I6 t.kind)) (by cases ae<;>first|exact gA|exact gB|exact .inl ⟨rfl,zAG rfl zAm (B1.cell rfl)⟩) ?_)));obtain ⟨aj,ao⟩:∃e,(decide ((t.kind:Int)=10))=e:=⟨_,rfl⟩;refine qG (.bool ae) (yU ae (.bool aj)) (by cases ae<;>first|exact gA|exact gB|exact .inl ⟨rfl,(zAq rfl rfl).trans (by rw[ao];try rfl)⟩) (qG (.bool ae) (yU ae (.bool aj)) (by cases ae<;>first|exact gA|exact gB|exact .inl ⟨rfl,zAj rfl⟩) (qG (yU ae (.bool aj)) (yU ae (nU aj (P6 b1 5))) (by cases ae<;>cases aj<;>first|exact gA|exact gB|exact .inl ⟨rfl,zAY rfl underlying26 rfl zUi rfl⟩) (qG (yU ae (.bool aj)) (yU ae (nU aj (.bool t.neg))) (by cases ae<;>cases aj<;>first|exact gA|exact gB|exact .inl ⟨rfl,zAG rfl zKa (B1.cell rfl)⟩) ?_)));obtain ⟨br,a2⟩:∃e,(!t.neg)=e:=⟨_,rfl⟩;refine qG (yU ae (.bool aj)) (yU ae (nU aj (.bool br))) (by cases ae<;>cases aj<;>first|exact gA|exact gB|exact .inl ⟨rfl,(zCa rfl).trans (by rw[a2];try rfl)⟩) ?_;obtain ⟨bf,a5⟩:∃e,(aj || br)=e:=⟨_,rfl⟩;refine qG (.bool ae) (yU ae (.bool bf)) (by cases ae<;>first|exact gA|exact gB|exact .inl ⟨rfl,zAr (v:=.bool bf) rfl (by rw[←a5];cases aj<;>rfl)⟩) ?_;obtain ⟨bw,a7⟩:∃e,(ae && bf)=e:=⟨_,rfl⟩;refine qV (zAr (v:=.bool bw) rfl (by rw[←a7];cases ae<;>rfl)) (qA _ rfl (zAB ?_));subst a7;subst a5;subst a2;subst ao;subst aq;subst ax;subst av;subst a4;subst a3;subst an;subst au;subst aw;subst a1;subst az;subst ay;subst ak;subst a0;subst ar;refine zAW (zAZ results151 (v:=(.bool ((((ok && ((decide ((t.kind:Int)=2)) || (decide ((((t.set.length:Nat):Int):Int)=0)))) && (((decide ((t.kind:Int)=6)) || (decide ((t.kind:Int)=9))) || (decide ((t.mn:Int)=0)))) && ((decide ((t.kind:Int)=6)) || (decide ((t.mx:Int)=0)))) && ((decide ((t.kind:Int)=10)) || (!t.neg))))) rfl ?_);subst bt;exact ⟨rfl,E⟩
def zEU:Option Int→List (Int×Int)→Int
  | _,[]=>0
  | p,s::r=>if zFK s=false then 1 else if (match p with|some h=>decide (s.1<h+2)|none=>false)=true then 3 else zEU (some s.2) r
theorem zDR (p:Option Int) (s:Int×Int) (r:List (Int×Int)):zEU p (s::r)=if zFK s=false then 1 else if (match p with|some h=>decide (s.1<h+2)|none=>false)=true then 3 else zEU (some s.2) r:=rfl
def zBO (l:List (Int×Int)):Int:=if 16<l.length then 2 else zEU none l
def zDz (l:List (Int×Int)) (k:Nat):Option Int:=if k=0 then none else (l[k - 1]?).map (·.2)
theorem zUt {l:List (Int×Int)} {k:Nat} {s:Int×Int} (h:l[k]?=some s):zDz l (k+1)=some s.2:=by
 unfold zDz;simp[h]
theorem zZG {l:List (Int×Int)} {k:Nat} {s:Int×Int} {p:Int} (hpq:0<k→∃q,l[k - 1]?=some q∧q.2=p∧zDz l k=some p)
  (hf:(decide ((0:Int)<((k:Nat):Int)) && decide (s.1<p+2))=false):¬(match zDz l k with|some h=>decide (s.1<h+2)|none=>false)=true:=by
 by_cases h0:0<k
 ·obtain ⟨q,_,_,h3⟩:=hpq h0;rw[h3];simp at hf⊢;exact hf h0
 ·have:zDz l k=none:=by unfold zDz;rw[if_pos qO]
  rw[this];simp
theorem zNn (w0:World) (v:Value) (l:List (Int×Int)) (hs:zBc w0 v l) :
  Ret prog 44 #[v] w0 fun v w=>v=.int .i64 (zBO l)∧Ext w0 w:=by
 obtain ⟨a,c,rfl⟩:=zCQ.form hs;have am:l.length≤9223372036854775807:=by simpa using zCQ.le hs
 simp only[List.length_map] at hs⊢;refine qR func44 rfl ntmps44 rfl (fun E=>(zAA (qA _ rfl (zAB (zAH (zAA (qM _ rfl (qV (zAK underlying23 rfl) (qV (zEN rfl rfl) (zAB (qC rfl (fun ao=>?_) (fun ao=>?_))))))))))))
 ·refine zAA (qA _ rfl (zAB (zAW (zAX (zAZ results44 (v:=(.int .i64 2)) rfl ?_)))));exact ⟨by unfold zBO;rw[if_pos qO],E⟩
 ·have an:zBO l=zEU none l:=by unfold zBO;rw[if_neg qO]
  rw[an];refine zAO (zAC (zAH (zAA (qM _ rfl (qV (zAK underlying23 rfl) (qM _ rfl (zAB (zAT (zAo (fun nn_ σ W2=>∃(k:Nat),(∃jj_,σ=zCT jj_ [(0,(.slice a l.length c)),(8,(.slice a l.length c)),(9,(I6 (l.length:Int))),(10,(I6 (k:Int)))])∧Chg zAe w0 W2∧(k≤l.length)∧(zEU none l=zEU (zDz l k) (l.drop k))∧(∀h,zDz l k=some h→0≤h∧h≤1114111)∧nn_=l.length - k) (n:=l.length - 0) ?_ ?_)))))))))
  ·exact ⟨0,zAs.out ⟨rfl,rfl,rfl,rfl,trivial⟩,E,Nat.zero_le _,rfl,(by intro h hh;simp[zDz] at hh),rfl⟩
  ·clear E;rintro _ _ W2 ⟨k,⟨j2,rfl⟩,E,hk,aa,al,rfl⟩;refine zAA (qV (zBA rfl rfl) (zAB (zAH (qC rfl (fun au=>?_) (fun au=>?_)))))
   ·have ad:k<l.length:=qO
    obtain ⟨s,ag⟩:∃s,l[k]?=some s:=⟨_,List.getElem?_eq_getElem ad⟩;obtain ⟨b,o,rfl,ab⟩:=zBu hs qO;have av:l.drop k=s::l.drop (k+1):=by rw[List.drop_eq_getElem_cons ad];rw[List.getElem?_eq_getElem ad] at ag;cases ag;rfl
    rw[av] at aa;refine zAO (zAC (zAH (zAT (zAA (qM _ rfl (qV (zAD (b:=b) (o:=o) (len:=l.length) (cap:=c) (i:=k) (o':=o+k*2) rfl rfl rfl underlying23 zCK qO qO) (qV (zAP rfl zIo zCK rfl ((ab k s ag).ext E)) (zBB (c:=#[(I6 0),(I6 0)]) qD zGF rfl ?_))))))));intro b4 w4 N4;have F4:=N4.ge E;replace E:=E.ext N4.ext;have B4:=N4.blk;refine qA _ rfl (zAa (b:=b4) (o:=0) (c':=#[(I6 s.1),(I6 s.2)]) rfl rfl qS zCK rfl B4 qL rfl ?_);intro w5 S5;replace E:=S5.step E qQ;replace B4:=S5.blk;refine zAB (zAH (zAA (qV (zAP (vs:=[(I6 s.1),(I6 s.2)]) rfl zIo zCK rfl (B4.cells rfl)) (qE rfl (zAU func75 kQ kQ rfl) (zVP s _) ?_))));rintro _ w9 ⟨rfl,X9⟩;replace B4:=X9.keep B4;replace E:=E.ext X9;refine qV (zCa rfl) (zAB (zAx rfl (fun hv=>?_) (fun hv=>?_)))
    ·have ax:=hv;replace hv:=by simpa using hv
     refine zAA (qA _ rfl (zAB (zAW (zAX (zAh (zAX (zAX (zAh (zAX (zAZ results44 (v:=(.int .i64 1)) rfl ?_))))))))));exact ⟨by rw[aa];rw[zDR,if_pos hv],E⟩
    ·have ax:=hv;replace hv:=by simpa using hv
     have ah:zFK s=true:=by simpa using hv
     have aq:0≤s.2∧s.2≤1114111:=by unfold zFK at ah;simp at ah;omega
     obtain ⟨p,ae⟩:∃p,(zDz l k).getD 0=p:=⟨_,rfl⟩;have ai:0<k→∃q,l[k - 1]?=some q∧q.2=p∧zDz l k=some p:=by
      intro h0;have h1:k - 1<l.length:=qO
      have h2:zDz l k=some (l[k - 1]).2:=by unfold zDz;rw[if_neg qO,List.getElem?_eq_getElem h1];rfl
      rw[h2] at ae;simp at ae;exact ⟨_,List.getElem?_eq_getElem h1,ae,by rw[h2,ae]⟩
     have hpb:0≤p∧p≤1114111:=by
      by_cases h0:0<k
      ·obtain ⟨q,_,_,h3⟩:=ai h0;exact al p h3
      ·have:zDz l k=none:=by unfold zDz;rw[if_pos qO]
       rw[this] at ae;simp at ae;omega
     refine zAO (zAC (zEK 13 mixed qK ?_));intro w7 X7 _;replace B4:=X7.keep B4;replace E:=E.ext X7;refine qT (zAj rfl) ?_;obtain ⟨e8,ac⟩:∃e,(decide ((0:Int)<((k:Nat):Int)))=e:=⟨_,rfl⟩;refine qT ((zEN rfl rfl).trans (by rw[ac];try rfl)) (qT (zAj rfl) (zBj (oj:=_) (gv:=(.bool e8)) (u:=(yU e8 (P6 b4 0))) rfl rfl qD qD rfl (by cases e8<;>first|exact gA|exact gB|exact .inl ⟨rfl,zAY rfl underlying44 rfl zAv rfl⟩) (zBj (oj:=_) (gv:=(.bool e8)) (u:=(yU e8 (I6 s.1))) rfl rfl qD qD rfl (by cases e8<;>first|exact gA|exact gB|exact .inl ⟨rfl,zAG rfl zAm (B4.cell rfl)⟩) (zBj (oj:=_) (gv:=(.bool e8)) (u:=(yU e8 (.slice (some ⟨b,o,none⟩) l.length c))) rfl rfl qD qD rfl (by cases e8<;>first|exact gA|exact gB|exact .inl ⟨rfl,zAj rfl⟩) (zBj (oj:=_) (gv:=(.bool e8)) (u:=(yU e8 (I6 (k:Int)))) rfl rfl qD qD rfl (by cases e8<;>first|exact gA|exact gB|exact .inl ⟨rfl,zAj rfl⟩) (zBj (oj:=_) (gv:=(.bool e8)) (u:=(yU e8 (I6 ((k:Int) - 1)))) rfl rfl qD qD rfl (by cases e8<;>first|exact gA|exact gB|exact .inl ⟨rfl,zEX (c:=(k:Int) - 1) rfl rfl (zBf (by have:=of_decide_eq_true ac;omega))⟩) (zBj (oj:=_) (gv:=(.bool e8)) (u:=(yU e8 (.pointer (some ⟨b,o+(k - 1)*2,none⟩)))) rfl rfl qD qD rfl (by cases e8<;>first|exact gA|exact gB|exact .inl ⟨rfl,zAD (i:=k - 1) rfl rfl (by have:=of_decide_eq_true ac;omega) underlying23 zCK (by have:=of_decide_eq_true ac;omega) qO⟩) (zBj (oj:=_) (gv:=(.bool e8)) (u:=(yU e8 (.pointer (some ⟨b,o+(k - 1)*2+1,none⟩)))) rfl rfl qD qD rfl (by cases e8<;>first|exact gA|exact gB|exact .inl ⟨rfl,zAY rfl underlying44 rfl zAv rfl⟩) (zBj (oj:=_) (gv:=(.bool e8)) (u:=(yU e8 (I6 p))) rfl rfl qD qD rfl (by cases e8<;>first|exact gA|exact gB|exact .inl ⟨rfl,zAG rfl zAm ((by have:=of_decide_eq_true ac;obtain ⟨q,hq,rfl,_⟩:=ai qO;exact ((ab (k - 1) q hq).ext E).at1))⟩) (zBj (oj:=_) (gv:=(.bool e8)) (u:=(yU e8 (I6 (p+2)))) rfl rfl qD qD rfl (by cases e8<;>first|exact gA|exact gB|exact .inl ⟨rfl,zAw (c:=p+2) rfl rfl (zBf (by have:=of_decide_eq_true ac;omega))⟩) ?_))))))))));obtain ⟨e9,aj⟩:∃e,(decide ((s.1:Int)<p+2))=e:=⟨_,rfl⟩;refine zBj (oj:=_) (gv:=(.bool e8)) (u:=(yU e8 (.bool e9))) rfl rfl qD qD rfl (by cases e8<;>first|exact gA|exact gB|exact .inl ⟨rfl,(zBA rfl rfl).trans (by rw[aj];try rfl)⟩) (zEW ?_);obtain ⟨ap,af⟩:∃e,(e8 && e9)=e:=⟨_,rfl⟩;refine qV (zAr (v:=.bool ap) rfl (by rw[←af];cases e8<;>rfl)) (zAB ?_);subst af;subst aj;subst ac;refine zAx rfl (fun hf=>?_) (fun hf=>?_)
     ·have ar:=hf;have ak:0<k∧s.1<p+2:=by simpa using hf
      obtain ⟨q,_,_,h3⟩:=ai ak.1;refine zAA (qA _ rfl (zAB (zAW (zAh (zAX (zAX (zAh (zAX (zAZ results44 (v:=(.int .i64 3)) rfl ?_)))))))));exact ⟨by rw[aa];rw[zDR,if_neg (by simp[ah]),h3,if_pos (by simp[ak.2])],E⟩
     ·have ar:=hf;refine zAO (zAS (zAC (zAF (qV (zAw rfl rfl (zBf qO)) (qM _ rfl (zAB (zAC ?_)))))));exact ⟨l.length - (k+1),qO,k+1,zAs.out ⟨rfl,rfl,rfl,rfl,trivial⟩,E,qO,(by rw[aa];rw[zDR,if_neg (by simp[ah]),if_neg ?_,zUt ag];exact zZG ai hf),(by intro h hh;rw[zUt ag] at hh;cases hh;exact aq),rfl⟩
   ·have aw:k=l.length:=qO
    rw[aw,List.drop_length] at aa;refine zAl (zAV (zAV (zAf (zAC (zAA (qA _ rfl (zAB (zAW (zAZ results44 (v:=(.int .i64 0)) rfl ?_)))))))));exact ⟨by rw[aa];rfl,E⟩
end Go.Proofs
namespace Go.Proofs
open Go Go.Eng
set_option maxRecDepth 100000
theorem zPP (w0:World) (v fv:Value) (l:List (Int)) (p:Int→Bool) (hs:zBa w0 v l) (hf:∀(w:World) (x:Int),Ext w0 w→x∈l→zCJ prog fv #[.int .i64 x] w fun r w'=>r=.bool (p x)∧Ext w w') :
  Ret prog 176 #[v,fv] w0 fun r w=>r=.int .i64 (idx p l)∧Ext w0 w:=by
 obtain ⟨a,c,rfl⟩:=zCQ.form hs;have ad:l.length≤9223372036854775807:=by simpa using zCQ.le hs
 simp only[List.length_map] at hs⊢;refine qR func176 rfl ntmps176 rfl (fun E=>(zAA (qA _ rfl (zAB (zAH (zAA (qM _ rfl (qV (zAK underlying22 rfl) (qM _ rfl (zAB (zAT (zAo (fun nn_ σ W1=>∃(k:Nat),(∃jj_,σ=zCT jj_ [(0,(.slice a l.length c)),(1,fv),(7,(I6 (l.length:Int))),(8,(I6 (k:Int)))])∧Chg zAe w0 W1∧(k≤l.length)∧(∀(i:Nat) (y:Int),i<k→l[i]?=some y→p y=false)∧nn_=l.length - k) (n:=l.length - 0) ?_ ?_))))))))))))
 ·exact ⟨0,zAs.out ⟨rfl,rfl,rfl,rfl,trivial⟩,E,Nat.zero_le _,(fun i y h=>absurd h (Nat.not_lt_zero _)),rfl⟩
 ·clear E;rintro _ _ W1 ⟨k,⟨j1,rfl⟩,E,hk,ab,rfl⟩;refine zAA (qV (zBA rfl rfl) (zAB (zAH (qC rfl (fun ac=>?_) (fun ac=>?_)))))
  ·obtain ⟨x,hx⟩:=zAJ (l:=l) (i:=k) qO;obtain ⟨b,o,rfl,aa⟩:=zAy hs qO;refine zAO (zAC (zAH (zAT (zAA (qM _ rfl (qA _ rfl (zAB (zAA (qM _ rfl (qM _ rfl (qM _ rfl (qV (zAD (b:=b) (o:=o) (len:=l.length) (cap:=c) (i:=k) (o':=o+k) rfl rfl rfl underlying22 zAv qO qO) (qV (zAG rfl zAm (E.cell (fun f=>f) (aa k x hx))) (zDD qD rfl rfl (hf _ x E (List.mem_of_getElem? hx)) ?_))))))))))))));rintro _ w9 ⟨rfl,X9⟩;replace E:=E.ext X9;refine zAB (zAx rfl (fun hp=>?_) (fun hp=>?_))
   ·have ae:=hp;refine zAA (qM _ rfl (qA _ rfl (zAB (zAW (zAh (zAX (zAX (zAh (zAX (zAZ results176 (v:=(.int .i64 ((k:Nat):Int))) rfl ?_))))))))));exact ⟨zBM (zKW hx hp ab).symm,E⟩
   ·have ae:=hp;refine zAO (zAS (zAC (zAF (qV (zAw rfl rfl (zBf qO)) (qM _ rfl (zAB (zAC ?_)))))));exact ⟨l.length - (k+1),qO,k+1,zAs.out ⟨rfl,rfl,rfl,rfl,trivial⟩,E,qO,zFi hx hp ab,rfl⟩
  ·have hkk:k=l.length:=qO
   refine zAl (zAV (zAV (zAf (zAC (zAA (qA _ rfl (zAB (zAW (zAZ results176 (v:=(.int .i64 (-1))) rfl ?_)))))))));exact ⟨zBM (zHw fun i y hy=>ab i y (by have:=zAE hy;omega) hy).symm,E⟩
theorem zPQ (w0:World) (v fv:Value) (l:List (Int)) (p:Int→Bool) (hs:zBa w0 v l) (hf:∀(w:World) (x:Int),Ext w0 w→x∈l→zCJ prog fv #[.int .i64 x] w fun r w'=>r=.bool (p x)∧Ext w w') :
  Ret prog 140 #[v,fv] w0 fun r w=>r=.bool (l.any p)∧Ext w0 w:=by
 refine qR func140 rfl ntmps140 rfl (fun E=>(zAA (qA _ rfl (zAB (zAA (qM v rfl (qM _ rfl (qE rfl (zAU func176 kQ kQ rfl) (zPP _ v fv l p hs hf) ?_))))))));rintro _ w9 ⟨rfl,X9⟩;replace E:=E.ext X9;refine qV (zDF rfl rfl) (qA _ rfl (zAB (zAW (zAZ results140 (v:=(.bool (decide ((0:Int)≤idx p l)))) rfl ?_))));exact ⟨zBx (zKX p l),E⟩
theorem zMg (w0:World) (v fv:Value) (l:List (Int×Int)) (p:Int×Int→Bool) (hs:zBc w0 v l) (hf:∀(w:World) (x:Int×Int),Ext w0 w→x∈l→zCJ prog fv #[.agg #[.int .i64 x.1,.int .i64 x.2]] w fun r w'=>r=.bool (p x)∧Ext w w') :
  Ret prog 123 #[v,fv] w0 fun r w=>r=.int .i64 (idx p l)∧Ext w0 w:=by
 obtain ⟨a,c,rfl⟩:=zCQ.form hs;have ad:l.length≤9223372036854775807:=by simpa using zCQ.le hs
 simp only[List.length_map] at hs⊢;refine qR func123 rfl ntmps123 rfl (fun E=>(zAA (qA _ rfl (zAB (zAH (zAA (qM _ rfl (qV (zAK underlying23 rfl) (qM _ rfl (zAB (zAT (zAo (fun nn_ σ W1=>∃(k:Nat),(∃jj_,σ=zCT jj_ [(0,(.slice a l.length c)),(1,fv),(7,(I6 (l.length:Int))),(8,(I6 (k:Int)))])∧Chg zAe w0 W1∧(k≤l.length)∧(∀(i:Nat) (y:Int×Int),i<k→l[i]?=some y→p y=false)∧nn_=l.length - k) (n:=l.length - 0) ?_ ?_))))))))))))
 ·exact ⟨0,zAs.out ⟨rfl,rfl,rfl,rfl,trivial⟩,E,Nat.zero_le _,(fun i y h=>absurd h (Nat.not_lt_zero _)),rfl⟩
 ·clear E;rintro _ _ W1 ⟨k,⟨j1,rfl⟩,E,hk,ab,rfl⟩;refine zAA (qV (zBA rfl rfl) (zAB (zAH (qC rfl (fun ac=>?_) (fun ac=>?_)))))
  ·obtain ⟨x,hx⟩:=zAJ (l:=l) (i:=k) qO;obtain ⟨b,o,rfl,aa⟩:=zBu hs qO;refine zAO (zAC (zAH (zAT (zAA (qM _ rfl (qA _ rfl (zAB (zAA (qM _ rfl (qM _ rfl (qM _ rfl (qV (zAD (b:=b) (o:=o) (len:=l.length) (cap:=c) (i:=k) (o':=o+k*2) rfl rfl rfl underlying23 zCK qO qO) (qV (zAP rfl zIo zCK rfl ((aa k x hx).ext E)) (zDD qD rfl rfl (hf _ x E (List.mem_of_getElem? hx)) ?_))))))))))))));rintro _ w9 ⟨rfl,X9⟩;replace E:=E.ext X9;refine zAB (zAx rfl (fun hp=>?_) (fun hp=>?_))
   ·have ae:=hp;refine zAA (qM _ rfl (qA _ rfl (zAB (zAW (zAh (zAX (zAX (zAh (zAX (zAZ results123 (v:=(.int .i64 ((k:Nat):Int))) rfl ?_))))))))));exact ⟨zBM (zKW hx hp ab).symm,E⟩
   ·have ae:=hp;refine zAO (zAS (zAC (zAF (qV (zAw rfl rfl (zBf qO)) (qM _ rfl (zAB (zAC ?_)))))));exact ⟨l.length - (k+1),qO,k+1,zAs.out ⟨rfl,rfl,rfl,rfl,trivial⟩,E,qO,zFi hx hp ab,rfl⟩
  ·have hkk:k=l.length:=qO
   refine zAl (zAV (zAV (zAf (zAC (zAA (qA _ rfl (zAB (zAW (zAZ results123 (v:=(.int .i64 (-1))) rfl ?_)))))))));exact ⟨zBM (zHw fun i y hy=>ab i y (by have:=zAE hy;omega) hy).symm,E⟩
theorem zMh (w0:World) (v fv:Value) (l:List (Int×Int)) (p:Int×Int→Bool) (hs:zBc w0 v l) (hf:∀(w:World) (x:Int×Int),Ext w0 w→x∈l→zCJ prog fv #[.agg #[.int .i64 x.1,.int .i64 x.2]] w fun r w'=>r=.bool (p x)∧Ext w w') :
  Ret prog 78 #[v,fv] w0 fun r w=>r=.bool (l.any p)∧Ext w0 w:=by
 refine qR func78 rfl ntmps78 rfl (fun E=>(zAA (qA _ rfl (zAB (zAA (qM v rfl (qM _ rfl (qE rfl (zAU func123 kQ kQ rfl) (zMg _ v fv l p hs hf) ?_))))))));rintro _ w9 ⟨rfl,X9⟩;replace E:=E.ext X9;refine qV (zDF rfl rfl) (qA _ rfl (zAB (zAW (zAZ results78 (v:=(.bool (decide ((0:Int)≤idx p l)))) rfl ?_))));exact ⟨zBx (zKX p l),E⟩
theorem zZM (w0:World) (s:Int×Int) (r:Int) (b:Nat) (hB:Blk w0 b #[.int .i64 r] 3) :
  Ret prog 79 #[.agg #[.int .i64 s.1,.int .i64 s.2],.pointer (some ⟨b,0,none⟩)] w0 fun v w=>v=.bool (decide (s.1≤r) && decide (r≤s.2))∧Ext w0 w:=by
 refine qR func79 rfl ntmps79 rfl (fun E=>(zAA (zBY (v:=(.agg #[(I6 s.1),(I6 s.2)])) (c:=#[(I6 s.1),(I6 s.2)]) qD rfl rfl ?_)));intro b1 w1 N1;replace hB:=N1.keep hB;replace E:=E.ext N1.ext;have B1:=N1.blk;refine qA _ rfl (zAB (zAA (qF b1 0 0 rfl underlying44 rfl zAv rfl (qV (zAG rfl zAm (B1.cell rfl)) (qV (zAG rfl zAm (hB.cell rfl)) ?_)))));obtain ⟨e2,ac⟩:∃e,(decide ((s.1:Int)≤r))=e:=⟨_,rfl⟩;refine qV ((zMn rfl rfl).trans (by rw[ac];try rfl)) (qM _ rfl (qG (.bool e2) (yU e2 (I6 r)) (by cases e2<;>first|exact gA|exact gB|exact .inl ⟨rfl,zAG rfl zAm (hB.cell rfl)⟩) (qG (.bool e2) (yU e2 (P6 b1 1)) (by cases e2<;>first|exact gA|exact gB|exact .inl ⟨rfl,zAY rfl underlying44 rfl zAv rfl⟩) (qG (.bool e2) (yU e2 (I6 s.2)) (by cases e2<;>first|exact gA|exact gB|exact .inl ⟨rfl,zAG rfl zAm (B1.cell rfl)⟩) ?_))));obtain ⟨e3,ab⟩:∃e,(decide ((r:Int)≤s.2))=e:=⟨_,rfl⟩;refine qG (.bool e2) (yU e2 (.bool e3)) (by cases e2<;>first|exact gA|exact gB|exact .inl ⟨rfl,(zMn rfl rfl).trans (by rw[ab];try rfl)⟩) ?_;obtain ⟨e4,aa⟩:∃e,(e2 && e3)=e:=⟨_,rfl⟩;refine qV (zAr (v:=.bool e4) rfl (by rw[←aa];cases e2<;>rfl)) (qA _ rfl (zAB ?_));subst aa;subst ab;subst ac;refine zAW (zAZ results79 (v:=(.bool ((decide ((s.1:Int)≤r)) && (decide ((r:Int)≤s.2))))) rfl ?_);exact ⟨rfl,E⟩
theorem zZL (w0:World) (v:Value) (l:List (Int×Int)) (r:Int) (hs:zBc w0 v l) :
  Ret prog 47 #[v,.int .i64 r] w0 fun u w=>u=.bool (inS l r)∧Ext w0 w:=by
 refine qR func47 rfl ntmps47 rfl (fun E=>(zAA (zBY (v:=(I6 r)) (c:=#[(I6 r)]) qD rfl rfl ?_)));intro b1 w1 N1;replace E:=E.ext N1.ext;have B1:=N1.blk;refine qA _ rfl (zAB (zAA (qM v rfl (qV (zBQ rfl rfl) (qE rfl (zAU func78 kQ kQ rfl) (zMh _ v _ l (fun s=>decide (s.1≤r) && decide (r≤s.2)) (hs.ext E) (fun w x hE _=>zCJ.mk (first:=#[]) (cap:=#[.pointer (some ⟨b1,0,none⟩)]) func79 kQ kQ rfl (zZM w x r b1 (hE.keep B1)))) ?_)))));rintro _ w9 ⟨rfl,X9⟩;replace B1:=X9.keep B1;replace E:=E.ext X9;refine qA _ rfl (zAB (zAW (zAZ results47 (v:=(.bool (inS l r))) rfl ?_)));exact ⟨rfl,E⟩
def zHh (r:Int):Bool:=decide (0≤r) && decide (r≤1114111)
theorem zXh (r:Int) (w0:World):Ret prog 142 #[.int .i64 r] w0 fun u w=>u=.bool (zHh r)∧Ext w0 w:=by
 refine qR func142 rfl ntmps142 rfl (fun E=>(zAA (qA _ rfl (zAB (zAA (qM _ rfl ?_))))));obtain ⟨e1,aa⟩:∃e,(decide ((0:Int)≤r))=e:=⟨_,rfl⟩;refine qV ((zDF rfl rfl).trans (by rw[aa];try rfl)) (qM _ rfl (qG (.bool e1) (yU e1 (I6 r)) (by cases e1<;>first|exact gA|exact gB|exact .inl ⟨rfl,zAj rfl⟩) ?_));obtain ⟨e2,ac⟩:∃e,(decide ((r:Int)≤1114111))=e:=⟨_,rfl⟩;refine qG (.bool e1) (yU e1 (.bool e2)) (by cases e1<;>first|exact gA|exact gB|exact .inl ⟨rfl,(zMn rfl rfl).trans (by rw[ac];try rfl)⟩) ?_;obtain ⟨e3,ab⟩:∃e,(e1 && e2)=e:=⟨_,rfl⟩;refine qV (zAr (v:=.bool e3) rfl (by rw[←ab];cases e1<;>rfl)) (qA _ rfl (zAB ?_));subst ab;subst ac;subst aa;refine zAW (zAZ results142 (v:=(.bool ((decide ((0:Int)≤r)) && (decide ((r:Int)≤1114111))))) rfl ?_);exact ⟨rfl,E⟩
theorem zSp (r:Int) (w0:World):Ret prog 141 #[.int .i64 r] w0 fun u w=>u=.bool (!zHh r)∧Ext w0 w:=by
 refine qR func141 rfl ntmps141 rfl (fun E=>(zAA (qA _ rfl (zAB (zAA (qM _ rfl (qE rfl (zAU func142 kQ kQ rfl) (zXh r _) ?_)))))));rintro _ w9 ⟨rfl,X9⟩;replace E:=E.ext X9;refine qV (zCa rfl) (qA _ rfl (zAB (zAW (zAZ results141 (v:=(.bool (!(zHh r)))) rfl ?_))));exact ⟨rfl,E⟩
theorem zVo (w0:World) (v:Value) (l:List Int) (hs:zBa w0 v l) :
  Ret prog 96 #[v] w0 fun u w=>u=.bool (!(l.any fun r=>!zHh r))∧Ext w0 w:=by
 refine qR func96 rfl ntmps96 rfl (fun E=>(zAA (qA _ rfl (zAB (zAA (qM v rfl (qE rfl (zAU func140 kQ kQ rfl) (zPQ _ v _ l (fun r=>!zHh r) hs (fun w x hE _=>zCJ.mk (first:=#[]) (cap:=#[]) func141 kQ kQ rfl (zSp x w))) ?_)))))));rintro _ w9 ⟨rfl,X9⟩;replace E:=E.ext X9;refine qV (zCa rfl) (qA _ rfl (zAB (zAW (zAZ results96 (v:=(.bool (!(l.any fun r=>!zHh r)))) rfl ?_))));exact ⟨rfl,E⟩
end Go.Proofs
namespace Go.Proofs
open Go Go.Eng
set_option maxRecDepth 100000
abbrev Sp:=Int×Int
def vSp (s:Sp):Prop:=0≤s.1∧s.1≤s.2∧s.2≤1114111
structure Canon (l:List Sp):Prop where
 ok:∀s∈l,vSp s
 gap:l.Pairwise fun s t=>s.2+2≤t.1
theorem leLt (a b:Int):a≤b∨b<a:=qO
theorem zTZ (a b:Int):a<b∨b≤a:=qO
theorem zFx {l:List Sp} {r:Int}:inS l r=true↔∃s∈l,s.1≤r∧r≤s.2:=by
 unfold inS;simp[List.any_eq_true]
theorem zCd (s:Sp) (l:List Sp) (r:Int):inS (s::l) r=((decide (s.1≤r) && decide (r≤s.2)) || inS l r):=rfl
theorem zDu (a b:List Sp) (r:Int):inS (a++b) r=(inS a r || inS b r):=by
 unfold inS;rw[List.any_append]
theorem zFw (r:Int):inS [] r=false:=rfl
theorem zTi {a b:List Sp} (h:a.Perm b) (r:Int):inS a r=inS b r:=by
 rw[Bool.eq_iff_iff,zFx,zFx];exact ⟨fun ⟨s,hs,q⟩=>⟨s,h.mem_iff.1 hs,q⟩,fun ⟨s,hs,q⟩=>⟨s,h.mem_iff.2 hs,q⟩⟩
theorem Canon.nil:Canon []:=⟨fun _ h=>(by cases h),List.Pairwise.nil⟩
theorem Canon.one {s:Sp} (h:vSp s):Canon [s]:=⟨fun t ht=>by rw[List.mem_singleton] at ht;subst ht;exact h,List.pairwise_singleton _ _⟩
theorem Canon.tail {s:Sp} {l:List Sp} (h:Canon (s::l)):Canon l:=⟨fun t ht=>h.ok t (List.mem_cons_of_mem _ ht),(List.pairwise_cons.1 h.gap).2⟩
theorem Canon.head {s:Sp} {l:List Sp} (h:Canon (s::l)):vSp s:=h.ok s List.mem_cons_self
theorem Canon.far {s:Sp} {l:List Sp} (h:Canon (s::l)):∀t∈l,s.2+2≤t.1:=(List.pairwise_cons.1 h.gap).1
theorem Canon.cons {s:Sp} {l:List Sp} (h1:vSp s) (h2:∀t∈l,s.2+2≤t.1) (h3:Canon l):Canon (s::l):=
 ⟨fun t ht=>by rcases List.mem_cons.1 ht with rfl|ht;exact h1;exact h3.ok t ht,List.pairwise_cons.2 ⟨h2,h3.gap⟩⟩
theorem zFU {s:Sp} {l:List Sp} (h:Canon (s::l)) {r:Int} (hr:r≤s.2+1):inS l r=false:=by
  cases e:inS l r with
  | false=>rfl
  | true=>
    obtain ⟨t,ht,h1,_⟩:=zFx.1 e;have:=h.far t ht;omega
theorem zGA {s:Sp} {l:List Sp} (h:Canon (s::l)) {r:Int} (hr:r<s.1):inS (s::l) r=false:=by
 have hv:=h.head;rw[zCd,zFU h (by unfold vSp at hv;omega),Bool.or_false,decide_eq_false qO];rfl
theorem zHd:∀{a b:List Sp},Canon a→Canon b→(∀r,inS a r=inS b r)→a=b
  | [],[],_,_,_=>rfl
  | [],t::b,_,hb,h=>by
    have hv:=hb.head;unfold vSp at hv;have:=h t.1;rw[zFw,zCd,decide_eq_true (Int.le_refl _),decide_eq_true qO] at this;simp at this
  | s::a,[],ha,_,h=>by
    have hv:=ha.head;unfold vSp at hv;have:=h s.1;rw[zFw,zCd,decide_eq_true (Int.le_refl _),decide_eq_true qO] at this;simp at this
  | s::a,t::b,ha,hb,h=>by
    have hv:=ha.head;have hu:=hb.head;unfold vSp at hv hu;have self:∀{s:Sp} {l:List Sp} {r:Int},s.1≤r→r≤s.2→inS (s::l) r=true:=fun h1 h2=>by
      rw[zCd,decide_eq_true h1,decide_eq_true h2];rfl
    have e1:s.1=t.1:=by
      rcases Int.lt_trichotomy s.1 t.1 with h1|h1|h1
      · have h2:=h s.1;rw[self (Int.le_refl _) qO,zGA hb h1] at h2;cases h2
      · exact h1
      · have h2:=h t.1;rw[self (s:=t) (Int.le_refl _) qO,zGA ha h1] at h2;cases h2
    have e2:s.2=t.2:=by
      rcases Int.lt_trichotomy s.2 t.2 with h1|h1|h1
      · have h2:=h (s.2+1);rw[self (s:=t) qO qO,zCd,zFU ha (Int.le_refl _),decide_eq_false (p:=s.2+1≤s.2) qO] at h2;simp at h2
      · exact h1
      · have h2:=h (t.2+1);rw[self (s:=s) qO qO,zCd,zFU hb (Int.le_refl _),decide_eq_false (p:=t.2+1≤t.2) qO] at h2;simp at h2
    have e3:s=t:=Prod.ext e1 e2;subst e3;have e4:a=b:=zHd ha.tail hb.tail fun r=>by
      rcases leLt r (s.2+1) with h1|h1
      · rw[zFU ha h1,zFU hb h1]
      · have h2:=h r;rw[zCd,zCd,decide_eq_false (p:=r≤s.2) qO] at h2;simpa using h2
    rw[e4]
def zNC (out:List Sp) (s:Sp):List Sp:=match out.getLast? with
  | some c=>if s.1≤c.2+1 then out.dropLast++[(c.1,max c.2 s.2)] else out++[s]
  | none=>[s]
def zPO (l:List Sp):List Sp:=l.foldl zNC []
theorem zGu (o:List Sp) (c s:Sp):zNC (o++[c]) s=if s.1≤c.2+1 then o++[(c.1,max c.2 s.2)] else o++[c]++[s]:=by
 unfold zNC;simp
theorem zLo (s:Sp):zNC [] s=[s]:=rfl
structure JInv (out l:List Sp) (m:Int):Prop where
 can:Canon out
 low:∀s∈out,s.1≤m
 mem:∀r,inS out r=inS l r
 len:out.length≤l.length
theorem zJU {α:Type} (l:List α):l=[]∨∃o c,l=o++[c]:=by
 rcases List.eq_nil_or_concat l with h|⟨o,c,h⟩
 ·exact .inl h
 ·exact .inr ⟨o,c,by simpa using h⟩
theorem zHG {o:List Sp} {c:Sp}:Canon (o++[c])↔Canon o∧vSp c∧∀t∈o,t.2+2≤c.1:=by
 constructor
 ·intro h;have h1:=List.pairwise_append.1 h.gap;exact ⟨⟨fun t ht=>h.ok t (by simp[ht]),h1.1⟩,h.ok c qP,fun t ht=>h1.2.2 t ht c qP⟩
 ·rintro ⟨h1,h2,h3⟩;refine ⟨fun t ht=>?_,List.pairwise_append.2 ⟨h1.gap,List.pairwise_singleton _ _,fun t ht u hu=>?_⟩⟩
  ·rcases List.mem_append.1 ht with ht|ht
   ·exact h1.ok t ht
   ·rw[List.mem_singleton] at ht;subst ht;exact h2
  ·rw[List.mem_singleton] at hu;subst hu;exact h3 t ht
theorem zRK {out l:List Sp} {m:Int} {s:Sp} (h:JInv out l m) (hs:vSp s) (hm:m≤s.1):JInv (zNC out s) (l++[s]) s.1:=by
 rcases zJU out with rfl|⟨o,c,rfl⟩
 ·rw[zLo];refine ⟨Canon.one hs,fun t ht=>by rw[List.mem_singleton] at ht;subst ht;exact Int.le_refl _,fun r=>?_,qP⟩;rw[zDu,←h.mem r];rfl
 ·obtain ⟨h1,h2,h3⟩:=zHG.1 h.can;have hc:=h.low c qP;unfold vSp at h2 hs;rw[zGu];split
  ·rename_i h4
   have hmx:max c.2 s.2=c.2∨max c.2 s.2=s.2:=qO
   have hge:c.2≤max c.2 s.2∧s.2≤max c.2 s.2:=qO
   refine ⟨zHG.2 ⟨h1,⟨h2.1,by simp only;omega,by simp only;omega⟩,h3⟩,fun t ht=>?_,fun r=>?_,?_⟩
   ·rcases List.mem_append.1 ht with ht|ht
    ·have:=h.low t (by simp[ht]);omega
    ·rw[List.mem_singleton] at ht;subst ht;simp only;omega
   ·have hr:=h.mem r;rw[zDu] at hr;rw[zDu,zDu,←hr];have e:inS [(c.1,max c.2 s.2)] r=(inS [c] r || inS [s] r):=by
     rw[Bool.eq_iff_iff];simp only[zCd,zFw,Bool.or_false,Bool.or_eq_true,Bool.and_eq_true,decide_eq_true_eq];constructor
     ·intro ⟨q1,q2⟩;omega
     ·rintro (⟨q1,q2⟩|⟨q1,q2⟩)<;>omega
    rw[e,Bool.or_assoc]
   ·have:=h.len;simp at this⊢;omega
  ·rename_i h4
   refine ⟨zHG.2 ⟨h.can,hs,fun t ht=>?_⟩,fun t ht=>?_,fun r=>?_,?_⟩
   ·rcases List.mem_append.1 ht with ht|ht
    ·have:=h3 t ht;omega
    ·rw[List.mem_singleton] at ht;subst ht;omega
   ·rcases List.mem_append.1 ht with ht|ht
    ·have:=h.low t ht;omega
    ·rw[List.mem_singleton] at ht;subst ht;exact Int.le_refl _
   ·rw[zDu _ [s],zDu l,h.mem r]
   ·have:=h.len;simp at this⊢;omega
theorem zLs:∀(r:List Sp) {out l:List Sp} {m:Int},JInv out l m→(∀s∈r,vSp s∧m≤s.1)→r.Pairwise (fun s t=>s.1≤t.1)→∃m',JInv (r.foldl zNC out) (l++r) m'
  | [],out,l,m,h,_,_=>⟨m,by simpa using h⟩
  | s::r,out,l,m,h,hv,hp=>by
    have h1:=hv s List.mem_cons_self;have h2:=List.pairwise_cons.1 hp;obtain ⟨m',h3⟩:=zLs r (zRK h h1.1 h1.2) (fun t ht=>⟨(hv t (List.mem_cons_of_mem _ ht)).1,h2.1 t ht⟩) h2.2;exact ⟨m',by simpa using h3⟩
theorem zRL {l:List Sp} (hv:∀s∈l,vSp s) (hp:l.Pairwise (fun s t=>s.1≤t.1)):Canon (zPO l)∧(∀r,inS (zPO l) r=inS l r)∧(zPO l).length≤l.length:=by
 obtain ⟨m,h⟩:=zLs l (out:=[]) (l:=[]) (m:=0) ⟨Canon.nil,fun _ h=>by (cases h),fun _=>rfl,Nat.le_refl _⟩ (fun s hs=>⟨hv s hs,(hv s hs).1⟩) hp;exact ⟨h.can,h.mem,h.len⟩
def zFr (l out:List Sp):Prop:=∃l',l'.Perm l∧l'.Pairwise (fun s t=>s.1≤t.1)∧out=zPO l'
theorem zFr.all {l out:List Sp} (h:zFr l out) (hv:∀s∈l,vSp s):Canon out∧(∀r,inS out r=inS l r)∧out.length≤l.length:=by
 obtain ⟨l',h1,h2,rfl⟩:=h;have h3:=zRL (fun s hs=>hv s (h1.mem_iff.1 hs)) h2;exact ⟨h3.1,fun r=>(h3.2.1 r).trans (zTi h1 r),by rw[←h1.length_eq];exact h3.2.2⟩
theorem zGh {l:List Sp} (h:Canon l) {r:Int} (hr:r<0∨1114111<r):inS l r=false:=by
  cases e:inS l r with
  | false=>rfl
  | true=>obtain ⟨t,ht,q1,q2⟩:=zFx.1 e;have:=h.ok t ht;unfold vSp at this;omega
theorem zIm {a b:List Sp} (ha:Canon a) (hb:Canon b) (h:∀r,0≤r→r≤1114111→inS a r=inS b r):a=b:=
 zHd ha hb fun r=>by
  rcases zTZ r 0 with h1|h1
  ·rw[zGh ha (.inl h1),zGh hb (.inl h1)]
  ·rcases zTZ 1114111 r with h2|h2
   ·rw[zGh ha (.inr h2),zGh hb (.inr h2)]
   ·exact h r h1 h2
end Go.Proofs
namespace Go.Proofs
open Go Go.Eng
set_option maxRecDepth 100000
abbrev TSp:Nat:=44
theorem zFM {w:World} {base base' e size n:Nat} {v:Value} {xs:List Value} (h:w.ownsRow base e size v n xs) (hb:base'≤base):w.ownsRow base' e size v n xs:=by
 obtain ⟨h1,h2⟩:=h;refine ⟨h1,h2.imp id ?_⟩;rintro ⟨g,aa,ab,a,b,r⟩;exact ⟨g,aa,ab,a,Nat.le_trans hb b,r⟩
theorem zXs {w:World} {base e size n c:Nat} {a:Option Addr} {xs:List Value} (h:w.ownsRow base e size (.slice a n c) n xs):n≤c:=by
 rcases h.2 with ⟨h1,h2⟩|⟨g,cap,cur,hv,_,_,aa,_⟩
 ·omega
 ·simp only[Value.slice.injEq] at hv;obtain ⟨_,_,rfl⟩:=hv;exact aa
def zSO (w:World) (base:Nat) (r:Value) (l:List Sp):Prop:=(∃a c,r=.slice a l.length c)∧w.ownsRow base TSp 2 r l.length (l.map zBw).flatten
theorem zSO.at {w:World} {base:Nat} {r:Value} {l:List Sp} (h:zSO w base r l):zBc w r l:=
 zCz h.2 (by intro x hx;simp only[List.mem_map] at hx;obtain ⟨p,_,rfl⟩:=hx;rfl) qP qD
theorem zFX (l:List Sp) (s:Sp):((l++[s]).map zBw).flatten=(l.map zBw).flatten++[.int .i64 s.1,.int .i64 s.2]:=by simp[zBw]
theorem zOY (w0:World) (v:Value) (l:List Sp) (h:zBc w0 v l) (hl:l.length≤8796093022208) :
  Ret prog 66 #[v] w0 fun r w=>zSO w w0.heap.size r l∧Ext w0 w:=by
 obtain ⟨a,c,rfl⟩:=zCQ.form h;simp only[List.length_map] at h⊢;obtain ⟨base,ac⟩:∃base,base=w0.heap.size:=⟨_,rfl⟩;rw[←ac];refine qR func66 rfl ntmps66 rfl (fun E=>(zAA (qA _ rfl (zAB (zAH (zAA (qM _ rfl (zBo (v:=(.bool a.isNone)) rfl rfl qD (zKM underlying23 rfl rfl) (zAB (zAx rfl (fun hn=>?_) (fun hn=>?_)))))))))))
 ·have ag:=hn;have ah:l.length=0:=by rcases Nat.eq_zero_or_pos l.length with h0|h0;exact h0;obtain ⟨b,o,rfl,_⟩:=zBu h h0;simp at hn
  have ad:l=[]:=List.eq_nil_of_length_eq_zero ah;refine zAA (qA _ rfl (zAB (zAW (zAX (zAZ results66 (v:=(.slice none 0 0)) rfl ?_)))));subst ad;exact ⟨⟨⟨none,0,rfl⟩,World.ownsRow_nil _ _ _ _⟩,E⟩
 ·have ag:=hn;rcases Bool.eq_false_or_eq_true (decide (l.length=0)) with hz|hz
  ·have aa:=hz;replace aa:=of_decide_eq_true aa;refine zAO (zAC (zAA (zGM qD underlying23 zCK ?_)));intro bq wq Nq;have Fq:=Nq.ge E;replace E:=E.ext Nq.ext;have Bq:=Nq.blk;refine qM _ rfl (qV (zLR underlying23 zCK (a':=a) (c':=c) rfl (Nat.le_refl _) (by show Value.slice a l.length c=_;rw[aa])) (qA _ rfl (zAB (zAW (zAZ results66 (v:=(.slice (some ⟨bq,0,none⟩) 0 0)) rfl ?_)))));have ad:l=[]:=List.eq_nil_of_length_eq_zero aa;subst ad;exact ⟨⟨⟨_,0,rfl⟩,zGT (base:=base) (size:=2) Bq qO⟩,E⟩
  ·have aa:=hz;replace aa:=of_decide_eq_false aa;obtain ⟨b,o,rfl,aj⟩:=zBu h qO;refine zAO (zAC (zAA (zGM qD underlying23 zCK ?_)));intro bq wq Nq;have Fq:=Nq.ge E;replace E:=E.ext Nq.ext;have Bq:=Nq.blk;refine qM _ rfl ?_;have ab:=zGT (base:=base) (size:=2) Bq qO;have ai:base≤wq.heap.size:=by have:=Nq.ext.size;omega
   refine zBt (base:=base) (n:=0) (m:=l.length) (xs:=[]) (news:=(l.map zBw).flatten) (size:=2) (bytes:=16) (v:=(.slice (some ⟨bq,0,none⟩) 0 0)) qD underlying23 zCK zSD zGF rfl qD rfl ab rfl (zEa l) ((zJS aj).ext Nq.ext) (zLF l) (by unfold maxLen;omega) qO (ai) ?_;intro v9 w29 ae af Dv9;replace E:=E.step af (fun x hx h=>absurd (ab.lt x h).1 qO);obtain ⟨la,lc,rfl⟩:=zBR ae;refine qA _ rfl (zAB (zAW (zAZ results66 (v:=(.slice la (0+l.length) lc)) rfl ?_)));simp only[Nat.zero_add,List.nil_append] at ae⊢;exact ⟨⟨⟨la,lc,rfl⟩,ae⟩,E⟩
def zBl (w:World) (v:Value) (ll:List (List Sp)):Prop:=∃vs:List Value,zCQ w 1 v (vs.map fun x=>[x])∧vs.length=ll.length∧∀(i:Nat) (u:Value) (l:List Sp),vs[i]?=some u→ll[i]?=some l→zBc w u l
theorem zBl.ext {w w':World} {v:Value} {ll:List (List Sp)} (h:zBl w v ll) (e:Ext w w'):zBl w' v ll:=by
 obtain ⟨vs,h1,h2,h3⟩:=h;exact ⟨vs,h1.ext e,h2,fun i u l hu hl=>(h3 i u l hu hl).ext e⟩
theorem zBl.form {w:World} {v:Value} {ll:List (List Sp)} (h:zBl w v ll):∃a c,v=.slice a ll.length c∧ll.length≤c∧ll.length≤9223372036854775807:=by
 obtain ⟨vs,h1,h2,_⟩:=h;obtain ⟨a,c,rfl⟩:=h1.form;have:=h1.cap;have:=h1.le;simp only[List.length_map] at *;rw[h2] at *;exact ⟨a,c,rfl,qO,qO⟩
theorem zDK {w:World} {a:Option Addr} {n c:Nat} {ll:List (List Sp)} (h:zBl w (.slice a n c) ll) (hn:0<n) :
  ∃b o,a=some ⟨b,o,none⟩∧∀i l,ll[i]?=some l→∃ra rc,w.cell? ⟨b,o+i,none⟩=some (.slice ra l.length rc)∧zBc w (.slice ra l.length rc) l:=by
 obtain ⟨vs,h1,h2,h3⟩:=h;obtain ⟨b,o,ha,hc⟩:=zCQ.at h1 hn;refine ⟨b,o,ha,fun i l hl=>?_⟩;have hi:i<vs.length:=by have:=zAE hl;omega
 have hu:vs[i]?=some vs[i]:=List.getElem?_eq_getElem hi;have h4:=h3 i vs[i] l hu hl;obtain ⟨ra,rc,hf⟩:=zCQ.form h4;simp only[List.length_map] at hf;have h5:=hc i [vs[i]] (by simp[hu]) 0 _ rfl;rw[Nat.mul_one,Nat.add_zero,hf] at h5;rw[hf] at h4;exact ⟨ra,rc,h5,h4⟩
theorem zIV {ll:List (List Sp)} {k:Nat} {l:List Sp} (h:ll[k]?=some l):(ll.take (k+1)).flatten=(ll.take k).flatten++l:=by
 rw[List.take_add_one,h];simp
theorem zWR (ll:List (List Sp)) (k:Nat):(ll.take k).flatten.length≤ll.flatten.length:=by
 have h:ll.flatten=(ll.take k).flatten++(ll.drop k).flatten:=by rw[←List.flatten_append,List.take_append_drop]
 rw[h,List.length_append];omega
end Go.Proofs
namespace Go.Eng
open Go
section
variable {κ ν : Type} [DecidableEq κ]
def zBk:List (κ×ν)→κ→Option ν
  | [],_=>none
  | p::r,k=>if p.1=k then some p.2 else zBk r k
def zHq:List (κ×ν)→κ→ν→List (κ×ν)
  | [],k,v=>[(k,v)]
  | p::r,k,v=>if p.1=k then (k,v)::r else p::zHq r k v
def zHj (eV:ν→Value):List (κ×ν)→κ→Nat→Option (Nat×Value)
  | [],_,_=>none
  | p::r,k,i=>if p.1=k then some (i,eV p.2) else zHj eV r k (i+1)
theorem zHB {eV:ν→Value}:∀{es:List (κ×ν)} {k:κ} {i:Nat},zBk es k=none→zHj eV es k i=none
  | [],_,_,_=>rfl
  | p::r,k,i,h=>by
    unfold zBk at h;unfold zHj;split at h
    · cases h
    · rename_i hne;rw[if_neg hne];exact zHB h
theorem zFe {eV:ν→Value}:∀{es:List (κ×ν)} {k:κ} {i:Nat} {v:ν},zBk es k=some v→∃j,zHj eV es k i=some (i+j,eV v)∧es[j]?=some (k,v)∧∀u,zHq es k u=es.set j (k,u)
  | [],_,_,_,h=>by cases h
  | p::r,k,i,v,h=>by
    unfold zBk at h;unfold zHj;split at h
    · rename_i he
      cases h;rw[if_pos he];exact ⟨0,rfl,by obtain ⟨a,b⟩:=p;simp at he;subst he;rfl,fun u=>by unfold zHq;rw[if_pos he];rfl⟩
    · rename_i hne
      rw[if_neg hne];obtain ⟨j,h1,h2,h3⟩:=zFe (eV:=eV) (i:=i+1) h;exact ⟨j+1,by rw[h1];congr 2;omega,by simpa using h2,fun u=>by unfold zHq;rw[if_neg hne,h3 u];rfl⟩
theorem zDy:∀{es:List (κ×ν)} {k:κ} (v:ν),zBk es k=none→zHq es k v=es++[(k,v)]
  | [],_,_,_=>rfl
  | p::r,k,v,h=>by
    unfold zBk at h;unfold zHq;split at h
    · cases h
    · rename_i hne;rw[if_neg hne,zDy v h];rfl
theorem zDp {es:List (κ×ν)} {k:κ} {v:ν} (h:zBk es k=some v):(k,v)∈es:=by
 obtain ⟨j,_,h2,_⟩:=zFe (eV:=fun _=>undef) (i:=0) h;exact List.mem_of_getElem? h2
theorem zEI {es:List (κ×ν)} {k:κ}:(zBk es k).isSome=true↔k∈es.map (·.1):=by
  induction es with
  | nil=>simp[zBk]
  | cons p r ih=>
    unfold zBk;by_cases h:p.1=k
    · simp[h]
    · rw[if_neg h,ih];simp[Ne.symm h]
end
def zKx {κ ν:Type} (ek:κ→Value) (eV:ν→Value) (es:List (κ×ν)):List MapEntry:=es.zipIdx.map fun p=>{key:=ek p.1.1,val:=eV p.1.2,born:=p.2}
def zCG {κ ν:Type} (w:World) (b:Nat) (ek:κ→Value) (eV:ν→Value) (es:List (κ×ν)):Prop:=w.heap[b]?=some (.map (zKx ek eV es).toArray es.length)
theorem zTq {κ ν:Type} (ek:κ→Value) (eV:ν→Value) (es:List (κ×ν)):(zKx ek eV es).length=es.length:=by simp[zKx]
theorem zKe {κ ν:Type} {ek:κ→Value} {eV:ν→Value} {es:List (κ×ν)} {i:Nat}:(zKx ek eV es)[i]?=(es[i]?).map fun p=>{key:=ek p.1,val:=eV p.2,born:=i}:=by
 unfold zKx;rw[List.getElem?_map,List.getElem?_zipIdx];cases es[i]?<;>simp
theorem zRh {κ ν:Type} (ek:κ→Value) (eV:ν→Value) (es:List (κ×ν)):(zKx ek eV es).map (fun e=>(e.key,e.val))=es.map fun p=>(ek p.1,eV p.2):=by
 apply List.ext_getElem?;intro i;rw[List.getElem?_map,zKe,List.getElem?_map];cases es[i]?<;>rfl
section
variable {κ ν : Type} {ek : κ → Value} {eV : ν → Value} {es : List (κ × ν)} {w w' : World} {b : Nat}
theorem zCG.lt (h:zCG w b ek eV es):b<w.heap.size:=(Array.getElem?_eq_some_iff.1 h).1
theorem Chg.keepM {M:Nat→Prop} (h:Chg M w w') (hm:¬M b) (hb:zCG w b ek eV es):zCG w' b ek eV es:=(h.blk b hb.lt hm).trans hb
theorem Ext.keepM (h:Ext w w') (hb:zCG w b ek eV es):zCG w' b ek eV es:=Chg.keepM h (fun f=>f) hb
theorem New.keepM {n:Nat} {c:Array Value} {t:TypeId} (h:New w w' n c t) (hb:zCG w b ek eV es):zCG w' b ek eV es:=h.ext.keepM hb
theorem New.ltM {n:Nat} {c:Array Value} {t:TypeId} (h:New w w' n c t) (hb:zCG w b ek eV es):b<n:=by rw[h.eq];exact hb.lt
theorem Put.keepM {n:Nat} {c:Array Value} {t:TypeId} (h:Put w w' n c t) (hne:b≠n) (hb:zCG w b ek eV es):zCG w' b ek eV es:=h.chg.keepM hne hb
end
structure NewO (w w':World) (b:Nat) (o:Obj):Prop where
 at':w'.heap[b]?=some o
 ext:Ext w w'
 eq:b=w.heap.size
 size:w'.heap.size=w.heap.size+1
theorem NewO.mk' (w:World) (o:Obj):NewO w {w with heap:=w.heap.push o} w.heap.size o:=
 ⟨qP,⟨rfl,rfl,rfl,Nat.le_refl _,qP,fun x hx _=>by simp[Array.getElem?_push,Nat.ne_of_lt hx]⟩,rfl,qP⟩
section
variable {w w' : World} {b : Nat} {o : Obj}
theorem NewO.keep (h:NewO w w' b o) {b':Nat} {c':Array Value} {t':TypeId} (hb:Blk w b' c' t'):Blk w' b' c' t':=h.ext.keep hb
theorem NewO.lt (h:NewO w w' b o) {b':Nat} {c':Array Value} {t':TypeId} (hb:Blk w b' c' t'):b'<b:=by rw[h.eq];exact hb.lt
theorem NewO.ge (h:NewO w w' b o) {w0:World} {M:Nat→Prop} (e:Chg M w0 w):w0.heap.size≤b:=by rw[h.eq];exact e.size
variable {κ ν : Type} {ek : κ → Value} {eV : ν → Value} {es : List (κ × ν)} {b' : Nat}
end
structure PutO (w w':World) (b:Nat) (o:Obj):Prop where
 at':w'.heap[b]?=some o
 chg:Chg (fun x=>x=b) w w'
 size:w'.heap.size=w.heap.size
theorem PutO.mk' {w:World} {b:Nat} (o:Obj) (hb:b<w.heap.size):PutO w {w with heap:=w.heap.setIfInBounds b o} b o:=
 ⟨by simp[hb],⟨rfl,rfl,rfl,Nat.le_refl _,qP,fun x hx hne=>by simp[Array.getElem?_setIfInBounds,Ne.symm hne]⟩,qP⟩
section
variable {w w' : World} {b : Nat} {o : Obj}
theorem PutO.keep (h:PutO w w' b o) {b':Nat} {c':Array Value} {t':TypeId} (hne:b'≠b) (hb:Blk w b' c' t'):Blk w' b' c' t':=h.chg.keep hne hb
theorem PutO.step (h:PutO w w' b o) {w0:World} {M:Nat→Prop} (e:Chg M w0 w) (hb:w0.heap.size≤b∨M b):Chg M w0 w':=
 e.step h.chg fun x hx hm=>by subst hm;rcases hb with hb|hb;omega;exact hb
variable {κ ν : Type} {ek : κ → Value} {eV : ν → Value} {es : List (κ × ν)} {b' : Nat}
end
structure KeyOk (P:Program) (kt:TypeId) {κ:Type} [DecidableEq κ] (ek:κ→Value):Prop where
 check:∀(b:Bool) (w:World) (k:κ),(Instr.checkKey b 10000 kt (ek k)).run P w=.ok () w
 find:∀(ν:Type) (w:World) (k:κ) (es:List (κ×ν)) (eV:ν→Value) (L:List MapEntry),L.map (fun e=>(e.key,e.val))=es.map (fun p=>(ek p.1,eV p.2))→(Instr.findKey kt (ek k) L).run P w=.ok (zHj eV es k 0) w
 same:∀k,Instr.sameBits 10000 (ek k) (ek k)=true
def zFH (x:Int):Value:=.int .i64 x
def zKw (s:ByteArray):Value:=.string s
theorem zRG {P:Program} {kt:TypeId} (hu:P.underlying kt=some (.int .i64)):KeyOk P kt zFH where
  check:=fun b w k=>by rw[show (10000:Nat)=9999+1 from rfl,Instr.checkKey];simp only[Sem.run_bind,run_underlying hu,Result.andThen_ok,zFH];rfl
  find:=fun ν w k es eV L hL=>by
    have key:∀(L:List MapEntry) (es:List (Int×ν)) (i:Nat),L.map (fun e=>(e.key,e.val))=es.map (fun p=>(zFH p.1,eV p.2))→Instr.findNow (.int .i64) (zFH k) L i=some (zHj eV es k i):=by
      intro L
      induction L with
      | nil=>
        intro es i h;cases es with
        | nil=>rfl
        | cons _ _=>simp at h
      | cons e L ih=>
        intro es i h;cases es with
        | nil=>simp at h
        | cons p es=>
          simp only[List.map_cons,List.cons.injEq,Prod.mk.injEq] at h;obtain ⟨⟨h1,h2⟩,h3⟩:=h;unfold Instr.findNow zHj;rw[h1];simp only[zFH,Instr.sameNow,if_true];by_cases hk:p.1=k
          · rw[if_pos hk,hk];simp[h2]
          · have:(k == p.1)=false:=by simp;exact fun h=>hk h.symm
            rw[if_neg hk,this];exact ih es (i+1) h3
    simp[Instr.findKey,run_underlying hu,key L es 0 hL]
  same:=fun k=>by unfold zFH;rw[Instr.sameBits];simp
theorem zHb {P:Program} {kt:TypeId} (hu:P.underlying kt=some .string):KeyOk P kt zKw where
  check:=fun b w k=>by rw[show (10000:Nat)=9999+1 from rfl,Instr.checkKey];simp only[Sem.run_bind,run_underlying hu,Result.andThen_ok,zKw];rfl
  find:=fun ν w k es eV L hL=>by
    have key:∀(L:List MapEntry) (es:List (ByteArray×ν)) (i:Nat),L.map (fun e=>(e.key,e.val))=es.map (fun p=>(zKw p.1,eV p.2))→Instr.findNow .string (zKw k) L i=some (zHj eV es k i):=by
      intro L
      induction L with
      | nil=>
        intro es i h;cases es with
        | nil=>rfl
        | cons _ _=>simp at h
      | cons e L ih=>
        intro es i h;cases es with
        | nil=>simp at h
        | cons p es=>
          simp only[List.map_cons,List.cons.injEq,Prod.mk.injEq] at h;obtain ⟨⟨h1,h2⟩,h3⟩:=h;unfold Instr.findNow zHj;rw[h1];simp only[zKw,Instr.sameNow];by_cases hk:p.1=k
          · rw[if_pos hk,hk,(MapKept.bytes_beq k k).2 rfl];simp[h2]
          · have:(k == p.1)=false:=by rw[Bool.eq_false_iff];exact fun h=>hk ((MapKept.bytes_beq _ _).1 h).symm
            rw[if_neg hk,this];exact ih es (i+1) h3
    simp[Instr.findKey,run_underlying hu,key L es 0 hL]
  same:=fun k=>by unfold zKw;rw[Instr.sameBits];exact (MapKept.bytes_beq k k).2 rfl
section
variable {P : Program} {N : Nat} {Q : zFm} {σ : Env} {w : World} {K : Env → World → Prop} {ops : Array Oper} {rest : List Oper} {d : Nat} {ty : TypeId} {pos : String} {af : Array Edge} {g : Option (Nat × Bool)} {dst : Option Tmp} {t kt et : TypeId} {m x y : Operand} {b : Nat}
variable {κ ν : Type} [DecidableEq κ] {ek : κ → Value} {eV : ν → Value} {es : List (κ × ν)} {k : κ} {v : ν}
omit [DecidableEq κ] in
theorem zEb (ek:κ→Value) (eV:ν→Value) (hN:d<N) (kk:∀b w',NewO w w' b (.map #[] 0)→zCG w' b ek eV []→WpL P N ops K Q rest (upd σ d (.map (some b))) w') :
  WpL P N ops K Q (⟨some d,.makeMap t none,ty,pos,af,none⟩::rest) σ w:=by
 refine zBo (v:=.map (some w.heap.size)) (w':={w with heap:=w.heap.push (.map #[] 0)}) rfl rfl hN ?_ (kk _ _ (NewO.mk' w _) (NewO.mk' w _).at');simp[execOp,Instr.makeMap]
theorem zGN (hu:P.underlying t=some (.map kt et)) (hk:KeyOk P kt ek) (hm:zCG w b ek eV es) :
    (Instr.mapUpdate t (.map (some b)) (ek k) (eV v)).run P w=.ok () {w with heap:=w.heap.setIfInBounds b (.map (zKx ek eV (zHq es k v)).toArray (zHq es k v).length)}:=by
  have hlt:=hm.lt;unfold zCG at hm;have hg:(getObj b).run P w=.ok (.map (zKx ek eV es).toArray es.length) w:=by simp[getObj,Sem.run,hm]
  have hs:∀o,(setObj b o).run P w=.ok () {w with heap:=w.heap.setIfInBounds b o}:=fun o=>by simp[setObj,Sem.run,hm]
  have hf:=hk.find ν w k es eV (zKx ek eV es) (zRh ek eV es);simp only[Instr.mapUpdate,Sem.run_bind,run_underlying hu,Result.andThen_ok,hg,hk.check,hf];cases hgm:zBk es k with
  | none=>
    rw[zHB hgm];simp only[hs];congr 4
    · apply Array.ext';rw[zDy v hgm];simp[zKx,List.zipIdx_append]
    · rw[zDy v hgm];simp
  | some u=>
    obtain ⟨j,h1,h2,h3⟩:=zFe (eV:=eV) (i:=0) hgm;rw[Nat.zero_add] at h1;rw[h1];have hj:=zAE h2;have he:(zKx ek eV es).toArray[j]?=some {key:=ek k,val:=eV u,born:=j}:=by rw[List.getElem?_toArray,zKe,h2];rfl
    simp only[he,Option.map_some,Option.getD_some,Instr.keyThatStays,hk.same,if_true,Sem.run_bind,Sem.run_pure,Result.andThen_ok,hs];congr 4
    · apply Array.ext';rw[h3 v];apply List.ext_getElem?;intro i;rw[List.getElem?_toArray.symm.trans (by rfl)]<;>simp only[Array.getElem?_toList,Array.getElem?_modify,List.getElem?_toArray,zKe,List.getElem?_set];by_cases hi:j=i
      · subst hi;simp[h2,hj]
      · simp[hi]
    · rw[h3 v];simp
theorem zDL (hu:P.underlying t=some (.map kt et)) (hk:KeyOk P kt ek) (hm:zCG w b ek eV es) (h1:ev σ m=.map (some b)) (h2:ev σ x=ek k) (h3:ev σ y=eV v)
  (kk:∀w',PutO w w' b (.map (zKx ek eV (zHq es k v)).toArray (zHq es k v).length)→zCG w' b ek eV (zHq es k v)→WpL P N ops K Q rest σ w') :
  WpL P N ops K Q (⟨none,.mapUpdate t m x y,ty,pos,af,none⟩::rest) σ w:=by
 have hr:=zGN (k:=k) (v:=v) hu hk hm;refine zGl rfl rfl (w':={w with heap:=w.heap.setIfInBounds b (.map (zKx ek eV (zHq es k v)).toArray (zHq es k v).length)}) ?_ (kk _ (PutO.mk' _ hm.lt) (PutO.mk' _ hm.lt).at');simp[execOp,h1,h2,h3,hr]
theorem zHm (hu:P.underlying t=some (.map kt et)) (hk:KeyOk P kt ek) (hm:zCG w b ek eV es) (h1:ev σ m=.map (some b)) (h2:ev σ x=ek k) (h3:ev σ y=eV v)
  (kk:∀w',PutO w w' b (.map (zKx ek eV (zHq es k v)).toArray (zHq es k v).length)→zCG w' b ek eV (zHq es k v)→WpL P N ops K Q rest σ w') :
  WpL P N ops K Q (⟨none,.insert t m x y,ty,pos,af,none⟩::rest) σ w:=by
 have hr:=zGN (k:=k) (v:=v) hu hk hm;refine zGl rfl rfl (w':={w with heap:=w.heap.setIfInBounds b (.map (zKx ek eV (zHq es k v)).toArray (zHq es k v).length)}) ?_ (kk _ (PutO.mk' _ hm.lt) (PutO.mk' _ hm.lt).at');simp[execOp,h1,h2,h3,hr]
theorem zJX (c:Bool) {z:ν} (hu:P.underlying t=some (.map kt et)) (hk:KeyOk P kt ek) (hz:Zer P et (eV z)) (hm:zCG w b ek eV es) :
    (Instr.lookup t (.map (some b)) (ek k) c).run P w=.ok (if c then .tuple #[eV ((zBk es k).getD z),.bool (zBk es k).isSome] else eV ((zBk es k).getD z)) w:=by
  unfold zCG at hm;have hg:(getObj b).run P w=.ok (.map (zKx ek eV es).toArray es.length) w:=by simp[getObj,Sem.run,hm]
  have hf:=hk.find ν w k es eV (zKx ek eV es) (zRh ek eV es);simp only[Instr.lookup,Sem.run_bind,run_underlying hu,Result.andThen_ok,hg,Sem.run_pure,hk.check,hf];cases hgm:zBk es k with
  | none=>rw[zHB hgm];simp[hz.run]
  | some u=>
    obtain ⟨j,h1,_,_⟩:=zFe (eV:=eV) (i:=0) hgm;rw[h1];simp
theorem zTE {z:ν} (hu:P.underlying t=some (.map kt et)) (hk:KeyOk P kt ek) (hz:Zer P et (eV z)) (hm:zCG w b ek eV es) (h1:ev σ m=.map (some b)) (h2:ev σ x=ek k) :
  (execOp (ev σ) ⟨dst,.lookup t m x false,ty,pos,af,g⟩).run P w=.ok (.value (eV ((zBk es k).getD z))) w:=by
 simp[execOp,h1,h2,zJX false hu hk hz hm]
theorem zEd {z:ν} (hu:P.underlying t=some (.map kt et)) (hk:KeyOk P kt ek) (hz:Zer P et (eV z)) (hm:zCG w b ek eV es) (h1:ev σ m=.map (some b)) (h2:ev σ x=ek k) :
  (execOp (ev σ) ⟨dst,.lookup t m x true,ty,pos,af,g⟩).run P w=.ok (.value (.tuple #[eV ((zBk es k).getD z),.bool (zBk es k).isSome])) w:=by
 simp[execOp,h1,h2,zJX true hu hk hz hm]
omit [DecidableEq κ] in
theorem zNq (hu:P.underlying t=some (.map kt et)) (hm:zCG w b ek eV es) (h1:ev σ m=.map (some b)) :
  (execOp (ev σ) ⟨dst,.call ⟨.builtin .len,#[m],#[t]⟩,ty,pos,af,g⟩).run P w=.ok (.value (.int .i64 es.length)) w:=by
 unfold zCG at hm;have hg:(getObj b).run P w=.ok (.map (zKx ek eV es).toArray es.length) w:=by simp[getObj,Sem.run,hm]
 simp[execOp,resolve,h1,invoke,builtin,Builtin.len_,run_underlying hu,hg,goInt,zTq]
end
def zZh (w:World) (it b n:Nat) (seen:List Nat):Prop:=w.heap[it]?=some (.mapIter (some b) n seen.toArray n)
end Go.Eng
namespace Go.Proofs
open Go Go.Eng Go.Sort
section
variable {P : Program} {N : Nat} {Q : zFm} {σ : Env} {w : World} {K : Env → World → Prop} {ops : Array Oper} {rest : List Oper} {d : Nat} {ty : TypeId} {pos : String} {af : Array Edge} {t : TypeId} {x y : Operand}
theorem zEQ {e bytes n:Nat} {z:Value} (hN:d<N) (hu:P.underlying t=some (.slice e)) (hsz:Siz P e 1) (hby:Byt P e bytes) (hz:Zer P e z) (hz1:z.cells=#[z]) (hx:ev σ x=.int .i64 ((n:Nat):Int)) (hy:ev σ y=.int .i64 ((n:Nat):Int)) (hb:n*bytes≤140737488355328) (hn:n≤140737488355328)
    (k:∀b w',New w w' b (List.replicate n z).toArray e→WpL P N ops K Q rest (upd σ d (.slice (some ⟨b,0,none⟩) n n)) w'):WpL P N ops K Q (⟨some d,.makeSlice t x y,ty,pos,af,none⟩::rest) σ w:=by
  refine zBo (v:=.slice (some ⟨w.heap.size,0,none⟩) n n) (w':={w with heap:=w.heap.push (.cells (List.replicate n z).toArray e (0,0))}) rfl rfl hN ?_ (k _ _ (New.mk' w _ e));unfold Siz at hsz;unfold Byt at hby;unfold Zer at hz;cases hi:P.info? e with
  | none=>rw[hi] at hsz;simp at hsz
  | some i=>
  rw[hi] at hsz hby hz;simp at hsz hby hz;have h:=run_make (P:=P) w t e i _ hu hi hz .i64 .i64 ((n:Nat):Int) ((n:Nat):Int) qO (Int.le_refl _) (by rw[hby];have:((bytes:Nat):Int)*((n:Nat):Int)=(((n*bytes:Nat):Nat):Int):=(by rw[Int.natCast_mul,Int.mul_comm]);rw[this];omega) qO;have hc:madeCells z.cells (n*i.size)=(List.replicate n z).toArray:=by
    rw[hsz,Nat.mul_one,hz1];apply Array.ext';simp only[madeCells];apply List.ext_getElem?;intro j;simp only[Array.toList_map,List.getElem?_map,List.getElem?_replicate];rcases Nat.lt_or_ge j n with hj|hj
    · have h1:(Array.range n).toList[j]?=some j:=by simp[hj]
      rw[h1,if_pos hj];simp[Nat.mod_one]
    · have h1:(Array.range n).toList[j]?=none:=by simp;omega
      rw[h1,if_neg qO];rfl
  simp only[Int.toNat_natCast,hc] at h;simp only[execOp,hx,hy,Sem.run_bind,h,Result.andThen_ok];rfl
theorem zCM {dst:Option Tmp} {g:Option (Nat×Bool)} {s:TypeId} {e:TypeId} {b n c:Nat} {l:List Int} (hs:P.underlying s=some (.slice e)) (he:P.underlying e=some (.int .u8)) (ht:P.underlying t=some .string) (hx:ev σ x=.slice (some ⟨b,0,none⟩) n c)
  (hB:Blk w b (l.map (Value.int .u8)).toArray e) (hl:l.length=n):(execOp (ev σ) ⟨dst,.convert s t x,ty,pos,af,g⟩).run P w=.ok (.value (.string (strOfNums l))) w:=by
 have h:=run_convert_bytes_arg (P:=P) w s e hs he b 0 n c l hl (fun i hi=>by
  rw[Nat.zero_add];have h1:l[i]?=some l[i]:=List.getElem?_eq_getElem qO;have h2:=hB.cell (o:=i) (v:=.int .u8 (l.getD i 0)) (by simp[List.getD,h1]);exact h2) t ht
 simp only[execOp,hx,Sem.run_bind,h,Result.andThen_ok];rfl
end
def zDI (base e size n:Nat) (xs:List Value) (old:Value) (hs:Nat):Fct:=fun v w=>(∃a c,v=.slice a n c)∧w.ownsRow base e size v n xs∧∀k,v.ownBlock=some k→old.ownBlock=some k∨hs≤k
theorem zKm (base e size n:Nat) (xs:List Value) (old:Value) (hs:Nat):∀v w w',Ext w w'→zDI base e size n xs old hs v w→zDI base e size n xs old hs v w':=by
 rintro v w w' e ⟨h1,h2,h3⟩;exact ⟨h1,zAg h2 e,h3⟩
theorem zBe {P:Program} {N:Nat} {σ:Env} {w:World} {dst:Option Tmp} {ty:TypeId} {pos:String} {af:Array Edge} {g:Option (Nat×Bool)} {M:Nat→Prop} {t:TypeId} {s x:Operand} {base e size bytes n m c bx ox hs:Nat} {z v:Value} {xs news:List Value} (hu:P.underlying t=some (.slice e)) (hsz:Siz P e size) (hby:Byt P e bytes) (hz:Zer P e z) (hzs:z.cells.size=size) (h0:0<size)
    (he:ev σ s=v) (hown:w.ownsRow base e size v n xs) (hx:ev σ x=.slice (some ⟨bx,ox,none⟩) m c) (hl:news.length=m*size) (hnews:zAz w bx ox news) (h1:∀u∈news,u.oneCell'=true)
    (h63:n+m≤maxLen) (hbytes:(n+m)*bytes≤140737488355328) (hbase:base≤w.heap.size) (hM:∀y,v.ownBlock=some y→M y) (hhs:hs≤w.heap.size) :
    zCg M P N ⟨dst,.call ⟨.builtin .append,#[s,x],#[t,t]⟩,ty,pos,af,g⟩ (zDI base e size (n+m) (xs++news) v hs) σ w:=by
  unfold Siz at hsz;unfold Byt at hby;unfold Zer at hz;cases hi:P.info? e with
  | none=>rw[hi] at hsz;simp at hsz
  | some i=>
  rw[hi] at hsz hby hz;simp at hsz hby hz;have aa:∀j u,news[j]?=some u→w.cell? ((⟨bx,ox,none⟩:Addr).add j)=some u:=fun j u hj=>by rw[Addr.add_lit];exact hnews j u hj
  obtain ⟨v',w',hr,h2,h3,_⟩:=run_append_own (P:=P) w base t ty e i z size bytes hu hi hz hsz hby hzs h0 v n xs hown ⟨bx,ox,none⟩ m c news hl aa h1 h63 hbytes hbase;have hC:Chg (fun x=>v.ownBlock=some x) w w':=⟨h3.os,h3.tape,h3.output,zHf (P:=P) hu hi hz hsz hby hown hl aa h1 h63 hbytes hr,h3.size,fun b hb hn=>h3.block b hb (fun h=>hn h.symm)⟩;have hW:=zHe (P:=P) hu hi hz hsz hby hzs h0 hown hl aa h1 h63 hbytes hr;refine zAQ (v:=v') (w':=w') (by simp[execOp,resolve,invoke,builtin,he,hx,hr]) (hC.mono fun y _ hy=>hM y hy) ⟨zBR h2,h2,fun k hk=>?_⟩;rcases hW k hk with h4|h4
  · exact .inl h4
  · exact .inr (Nat.le_trans hhs h4)
def zEF (e:Nat) (c:Array Value) (hs:Nat):Fct:=fun v w=>∃b,v=.slice (some ⟨b,0,none⟩) 1 1∧Blk w b c e∧hs≤b
theorem zKT (e:Nat) (c:Array Value) (hs:Nat):∀v w w',Ext w w'→zEF e c hs v w→zEF e c hs v w':=by
 rintro v w w' x ⟨b,h1,h2,h3⟩;exact ⟨b,h1,Ext.keep x h2,h3⟩
theorem zCH {P:Program} {N:Nat} {σ:Env} {w:World} {dst:Option Tmp} {ty:TypeId} {pos:String} {af:Array Edge} {g:Option (Nat×Bool)} {M:Nat→Prop} {t e n hs:Nat} {x:Operand} {v z:Value} {c:Array Value} (hu:P.underlying t=some (.slice e)) (hsz:Siz P e n) (hz:Zer P e z) (hx:ev σ x=v)
  (hl:¬(1*n > 2 ^ 24)) (h0:1*n≠0) (hc:Instr.fill (fun i=>some (i*n,n)) ((Array.range (1*n)).map (z.cells[· % z.cells.size]!)) [(0,v)]=some c) (hhs:hs≤w.heap.size) :
  zCg M P N ⟨dst,.buildSlice t 1 #[(0,x)],ty,pos,af,g⟩ (zEF e c hs) σ w:=by
 have hn:=New.mk' w c e;exact zAQ (zDW (parts:=[(0,x)]) (ps:=[(0,v)]) (by simp only[List.map,hx]) hu hsz hz hl h0 hc) (Ext.chg hn.ext) ⟨_,rfl,hn.blk,hhs⟩
theorem zKO {w:World} {b e base:Nat} {v:Value} (h:Blk w b #[v] e) (hb:base≤b):w.ownsRow base e 1 (.slice (some ⟨b,0,none⟩) 1 1) 1 [v]:=
 ⟨rfl,.inr ⟨b,1,#[v],rfl,hb,h,Nat.le_refl _,qD,rfl,rfl⟩⟩
structure LSt (To e sz:Nat) (w:World) (base:Nat) (vo:Value) (vs:List Value) (ns:List (Nat×List Value)):Prop where
 o:w.ownsRow base To 1 vo ns.length vs
 len:vs.length=ns.length
 inn:∀(i:Nat) v p,vs[i]?=some v→ns[i]?=some p→w.ownsRow base e sz v p.1 p.2
 apo:∀(i:Nat) v b,vs[i]?=some v→v.ownBlock=some b→vo.ownBlock≠some b
theorem LSt.start (To e sz:Nat) (w:World) (base:Nat):LSt To e sz w base (.slice none 0 0) [] []:=
 ⟨World.ownsRow_nil _ _ _ _,rfl,fun i v p h=>by simp at h,fun i v b h=>by simp at h⟩
theorem LSt.chg {M:Nat→Prop} {To e sz base:Nat} {w w':World} {vo:Value} {vs:List Value} {ns:List (Nat×List Value)} (h:LSt To e sz w base vo vs ns) (c:Chg M w w') (hM:∀b,base≤b→b<w.heap.size→¬M b):LSt To e sz w' base vo vs ns:=
 ⟨zAn h.o c fun k hk=>hM k (h.o.lt k hk).1 (h.o.lt k hk).2,h.len,fun i v l hv hl=>zAn (h.inn i v l hv hl) c fun k hk=>hM k ((h.inn i v l hv hl).lt k hk).1 ((h.inn i v l hv hl).lt k hk).2,h.apo⟩
theorem LSt.ext {To e sz base:Nat} {w w':World} {vo:Value} {vs:List Value} {ns:List (Nat×List Value)} (h:LSt To e sz w base vo vs ns) (c:Ext w w'):LSt To e sz w' base vo vs ns:=h.chg c fun _ _ _ f=>f
theorem LSt.on {To e sz base n:Nat} {w:World} {vo:Value} {vs:List Value} {ns:List (Nat×List Value)} (h:LSt To e sz w base vo vs ns) (hn:n=ns.length):w.ownsRow base To 1 vo n vs:=by subst hn;exact h.o
theorem LSt.push {To e sz base bu n m:Nat} {w w':World} {vo v' u:Value} {vs us:List Value} {ns:List (Nat×List Value)} (h:LSt To e sz w base vo vs ns) (hn:n=ns.length) (hu:w.ownsRow bu e sz u m us) (hb:base≤bu) (hbu:∀k,vo.ownBlock=some k→k<bu)
  (Ov:w'.ownsRow base To 1 v' (n+1) (vs++[u])) (Cv:Chg (fun x=>vo.ownBlock=some x) w w') (Wv:∀k,v'.ownBlock=some k→vo.ownBlock=some k∨w.heap.size≤k):LSt To e sz w' base v' (vs++[u]) (ns++[(m,us)]):=by
 have aa:∀(i:Nat) v,(vs++[u])[i]?=some v→vs[i]?=some v∨(i=vs.length∧v=u):=by
  intro i v hv;rcases Nat.lt_or_ge i vs.length with h1|h1
  ·left;rwa [List.getElem?_append_left h1] at hv
  ·right;rw[List.getElem?_append_right h1] at hv;have h2:=zAE hv;simp at h2;obtain rfl:i=vs.length:=qO
   simp at hv;exact ⟨rfl,hv.symm⟩
 have ac:∀b,u.ownBlock=some b→vo.ownBlock≠some b:=fun b ae e'=>by
  have h1:=hbu b e';have h2:=(hu.lt b ae).1;omega
 refine ⟨by rw[List.length_append,←hn];exact Ov,by simp[h.len],?_,?_⟩
 ·intro i v p hv hp;rcases aa i v hv with h1|⟨h1,rfl⟩
  ·rw[List.getElem?_append_left (by have:=zAE h1;have:=h.len;omega)] at hp;exact zAn (h.inn i v p h1 hp) Cv fun k hk=>h.apo i v k h1 hk
  ·rw[h1,h.len] at hp;simp at hp;subst hp;exact zFM (zAn hu Cv fun k hk=>ac k hk) hb
 ·intro i v b hv ab ad;rcases aa i v hv with h1|⟨_,rfl⟩
  ·rcases Wv b ad with h2|h2
   ·exact h.apo i v b h1 ab h2
   ·obtain ⟨p,hp⟩:=zAJ (l:=ns) (i:=i) (by have:=zAE h1;have:=h.len;omega);have:=((h.inn i v p h1 hp).lt b ab).2;omega
  ·rcases Wv b ad with h2|h2
   ·exact ac b ab h2
   ·have:=(hu.lt b ab).2;omega
theorem zOz {w w':World} {base e size n cap g i:Nat} {xs:List Value} {cur:Array Value} {v:Value} (h:w.ownsRow base e size (.slice (some ⟨g,0,none⟩) n cap) n xs) (hB:Blk w g cur e) (hi:i<n*size) (hB':Blk w' g (cur.setIfInBounds i v) e):w'.ownsRow base e size (.slice (some ⟨g,0,none⟩) n cap) n (xs.set i v):=by
 rcases h.2 with ⟨h1,_⟩|⟨g',ac,ad,hv,ae,hg,ag,ab,af,aa⟩
 ·simp at h1
 ·simp only[Value.slice.injEq,Option.some.injEq,Addr.mk.injEq,and_true] at hv;obtain ⟨rfl,_,rfl⟩:=hv;unfold Blk at hB hB';rw[hB] at hg;simp only[Option.some.injEq,Obj.cells.injEq,and_true] at hg;obtain ⟨rfl,_⟩:=hg;refine ⟨by simpa using h.1,.inr ⟨g,cap,_,rfl,ae,hB',ag,ab,by simpa using af,?_⟩⟩;rw[←aa,Array.toList_setIfInBounds,List.take_set]
theorem zTL {w:World} {base e size n cap g:Nat} {xs:List Value} (h:w.ownsRow base e size (.slice (some ⟨g,0,none⟩) n cap) n xs):∃cur,Blk w g cur e∧n*size≤cur.size:=by
 rcases h.2 with ⟨h1,_⟩|⟨g',ac,aa,hv,hbg,hg,ae,hcm,ad,ab⟩
 ·simp at h1
 ·simp only[Value.slice.injEq,Option.some.injEq,Addr.mk.injEq,and_true] at hv;obtain ⟨rfl,_,rfl⟩:=hv;exact ⟨aa,hg,by rw[ad];exact Nat.mul_le_mul_right _ ae⟩
structure GSt (To e sz:Nat) (w:World) (base:Nat) (vo:Value) (vs:List Value) (ns:List (Nat×List Value)):Prop where
 l:LSt To e sz w base vo vs ns
 ap:∀(i j:Nat) v u b,vs[i]?=some v→vs[j]?=some u→v.ownBlock=some b→u.ownBlock=some b→i=j
theorem GSt.ext {To e sz base:Nat} {w w':World} {vo:Value} {vs:List Value} {ns:List (Nat×List Value)} (h:GSt To e sz w base vo vs ns) (c:Ext w w'):GSt To e sz w' base vo vs ns:=⟨h.l.ext c,h.ap⟩
theorem GSt.made {To e sz base b n:Nat} {w:World} (hB:Blk w b (List.replicate n (Value.slice none 0 0)).toArray To) (hb:base≤b) (hn:n≤9223372036854775807) (hbw:base≤b):GSt To e sz w base (.slice (some ⟨b,0,none⟩) n n) (List.replicate n (.slice none 0 0)) (List.replicate n (0,[])):=by
 have hv:∀(i:Nat) v,(List.replicate n (Value.slice none 0 0))[i]?=some v→v=.slice none 0 0:=fun i v h=>by
  have:=List.mem_of_getElem? h;exact (List.mem_replicate.1 this).2
 refine ⟨⟨?_,qP,fun i v p h hp=>?_,fun i v b h h2=>?_⟩,fun i j v u b h _ h2=>?_⟩
 ·rw[List.length_replicate];exact ⟨qP,.inr ⟨b,n,_,rfl,hb,hB,Nat.le_refl _,hn,qP,qP⟩⟩
 ·have aa:=(List.mem_replicate.1 (List.mem_of_getElem? hp)).2;subst aa;rw[hv i v h];exact World.ownsRow_nil _ _ _ _
 ·rw[hv i v h] at h2;cases h2
 ·rw[hv i v h] at h2;cases h2
theorem GSt.grow {To e sz:Nat} {w w' w2:World} {base g cap k n m m':Nat} {v v':Value} {vs:List Value} {ns:List (Nat×List Value)} {xs xs':List Value} {cur:Array Value} (h:GSt To e sz w base (.slice (some ⟨g,0,none⟩) n cap) vs ns) (hn:n=ns.length) (hv:vs[k]?=some v) (hp:ns[k]?=some (m,xs))
  (Ov:w'.ownsRow base e sz v' m' xs') (Cv:Chg (fun x=>v.ownBlock=some x) w w') (Wv:∀k,v'.ownBlock=some k→v.ownBlock=some k∨w.heap.size≤k)
  (hB:Blk w' g cur To) (P2:Put w' w2 g (cur.setIfInBounds k v') To):GSt To e sz w2 base (.slice (some ⟨g,0,none⟩) n cap) (vs.set k v') (ns.set k (m',xs')):=by
 have hkl:=zAE hv;have af:v.ownBlock≠some g:=fun e=>h.l.apo k v g hv e rfl;have hgl:=(h.l.o.lt g rfl).2;have ab:v'.ownBlock≠some g:=fun e=>by rcases Wv g e with h1|h1;exact af h1;omega
 have ag:w'.ownsRow base To 1 (.slice (some ⟨g,0,none⟩) n cap) ns.length vs:=zAn h.l.o Cv fun q hq=>by cases hq;exact af
 rw[←hn] at ag;have ah:=zOz ag hB (i:=k) (by have:=h.l.len;omega) P2.blk;have aa:∀(i:Nat) u,(vs.set k v')[i]?=some u→(i=k∧u=v')∨(i≠k∧vs[i]?=some u):=by
  intro i u hu;rw[List.getElem?_set] at hu;split at hu
  ·rename_i he
   exact .inl ⟨he.symm,(Option.some.inj hu).symm⟩
  ·rename_i he
   exact .inr ⟨fun e=>he e.symm,hu⟩
 have ac:∀(i:Nat) u,vs[i]?=some u→∃q,ns[i]?=some q:=fun i u hu=>zAJ (by have:=zAE hu;have:=h.l.len;omega);have ad:∀(i:Nat) u b,i≠k→vs[i]?=some u→u.ownBlock=some b→v.ownBlock≠some b∧v'.ownBlock≠some b∧b≠g:=by
  intro i u b hi hu hb;have h1:v.ownBlock≠some b:=fun e=>hi (h.ap i k u v b hu hv hb e);refine ⟨h1,fun e=>?_,fun e=>h.l.apo i u b hu hb (by rw[e];rfl)⟩;rcases Wv b e with h2|h2
  ·exact h1 h2
  ·obtain ⟨q,hq⟩:=ac i u hu;have:=((h.l.inn i u q hu hq).lt b hb).2;omega
 refine ⟨⟨by rw[List.length_set,←hn];exact ah,by simp[h.l.len],?_,?_⟩,?_⟩
 ·intro i u q hu hq;rcases aa i u hu with ⟨rfl,rfl⟩|⟨h1,h2⟩
  ·rw[List.getElem?_set,if_pos rfl,if_pos (by have:=h.l.len;omega)] at hq;have ai:=Option.some.inj hq;subst ai;exact zAn Ov P2.chg fun b hb e=>ab (e▸hb)
  ·rw[List.getElem?_set,if_neg (fun e=>h1 e.symm)] at hq;exact zAn (zAn (h.l.inn i u q h2 hq) Cv fun b hb=>(ad i u b h1 h2 hb).1) P2.chg fun b hb e=>(ad i u b h1 h2 hb).2.2 e
 ·intro i u b hu hb;rcases aa i u hu with ⟨rfl,rfl⟩|⟨h1,h2⟩
  ·intro e;cases e;exact ab hb
  ·exact h.l.apo i u b h2 hb
 ·intro i j u z b hu hz hb ae;rcases aa i u hu with ⟨rfl,rfl⟩|⟨h1,h2⟩<;>rcases aa j z hz with ⟨rfl,rfl⟩|⟨h3,h4⟩
  ·rfl
  ·exact absurd hb (ad j z b h3 h4 ae).2.1
  ·exact absurd ae (ad i u b h1 h2 hb).2.1
  ·exact h.ap i j u z b h2 h4 hb ae
end Go.Proofs
namespace Go.Proofs
open Go Go.Eng
set_option maxRecDepth 100000
def zDT (w:World) (v:Value) (ll:List (List Int)):Prop:=∃vs:List Value,zCQ w 1 v (vs.map fun x=>[x])∧vs.length=ll.length∧∀(i:Nat) (u:Value) (l:List Int),vs[i]?=some u→ll[i]?=some l→zBa w u l
theorem zDT.ext {w w':World} {v:Value} {ll:List (List Int)} (h:zDT w v ll) (e:Ext w w'):zDT w' v ll:=by
 obtain ⟨vs,h1,h2,h3⟩:=h;exact ⟨vs,h1.ext e,h2,fun i u l hu hl=>(h3 i u l hu hl).ext e⟩
theorem zDT.form {w:World} {v:Value} {ll:List (List Int)} (h:zDT w v ll):∃a c,v=.slice a ll.length c∧ll.length≤c∧ll.length≤9223372036854775807:=by
 obtain ⟨vs,h1,h2,_⟩:=h;obtain ⟨a,c,rfl⟩:=h1.form;have:=h1.cap;have:=h1.le;simp only[List.length_map] at *;rw[h2] at *;exact ⟨a,c,rfl,qO,qO⟩
theorem zBi {w:World} {a:Option Addr} {n c:Nat} {ll:List (List Int)} (h:zDT w (.slice a n c) ll) (hn:0<n) :
  ∃b o,a=some ⟨b,o,none⟩∧∀i l,ll[i]?=some l→∃ra rc,w.cell? ⟨b,o+i,none⟩=some (.slice ra l.length rc)∧zBa w (.slice ra l.length rc) l:=by
 obtain ⟨vs,h1,h2,h3⟩:=h;obtain ⟨b,o,ha,hc⟩:=zCQ.at h1 hn;refine ⟨b,o,ha,fun i l hl=>?_⟩;have hi:i<vs.length:=by have:=zAE hl;omega
 have hu:vs[i]?=some vs[i]:=List.getElem?_eq_getElem hi;have h4:=h3 i vs[i] l hu hl;obtain ⟨ra,rc,hf⟩:=zCQ.form h4;simp only[List.length_map] at hf;have h5:=hc i [vs[i]] (by simp[hu]) 0 _ rfl;rw[Nat.mul_one,Nat.add_zero,hf] at h5;rw[hf] at h4;exact ⟨ra,rc,h5,h4⟩
def zBV (w:World) (d:Dfa) (vs:List Value):Prop:=∃aa ac na nc,vs=[.int .i64 d.start,.slice aa d.accept.length ac,.slice na d.next.length nc]∧zBa w (.slice aa d.accept.length ac) d.accept∧zDT w (.slice na d.next.length nc) d.next
theorem zBV.ext {w w':World} {d:Dfa} {vs:List Value} (h:zBV w d vs) (e:Ext w w'):zBV w' d vs:=by
 obtain ⟨aa,ac,na,nc,h1,h2,h3⟩:=h;exact ⟨aa,ac,na,nc,h1,h2.ext e,h3.ext e⟩
def zOI (l:List Int):Int:=l.foldl min (l.headD 0)
def zRA (l:List Int):Int:=l.foldl max (l.headD 0)
theorem zFc (f:Int→Int→Int) {l:List Int} {k:Nat} {x z:Int} (hx:l[k]?=some x):(l.take (k+1)).foldl f z=f ((l.take k).foldl f z) x:=by
 rw[List.take_add_one,hx];simp[List.foldl_append]
theorem zIR:∀(l:List Int) (z:Int),l.foldl min z≤z∧∀x∈l,l.foldl min z≤x
  | [],z=>⟨Int.le_refl _,fun x h=>by simp at h⟩
  | y::l,z=>by
    obtain ⟨h1,h2⟩:=zIR l (min z y);refine ⟨by simp only[List.foldl_cons];omega,fun x hx=>?_⟩;simp only[List.foldl_cons];rcases List.mem_cons.1 hx with rfl|hx
    · omega
    · exact h2 x hx
theorem zHY:∀(l:List Int) (z:Int),l.foldl min z=z∨l.foldl min z∈l
  | [],z=>.inl rfl
  | y::l,z=>by
    simp only[List.foldl_cons];rcases zHY l (min z y) with h|h
    · rw[h];by_cases hc:z≤y
      · left;omega
      · right;rw[show min z y=y from qO];simp
    · right;simp[h]
theorem zIS:∀(l:List Int) (z:Int),z≤l.foldl max z∧∀x∈l,x≤l.foldl max z
  | [],z=>⟨Int.le_refl _,fun x h=>by simp at h⟩
  | y::l,z=>by
    obtain ⟨h1,h2⟩:=zIS l (max z y);refine ⟨by simp only[List.foldl_cons];omega,fun x hx=>?_⟩;simp only[List.foldl_cons];rcases List.mem_cons.1 hx with rfl|hx
    · omega
    · exact h2 x hx
theorem zHZ:∀(l:List Int) (z:Int),l.foldl max z=z∨l.foldl max z∈l
  | [],z=>.inl rfl
  | y::l,z=>by
    simp only[List.foldl_cons];rcases zHZ l (max z y) with h|h
    · rw[h];by_cases hc:y≤z
      · left;omega
      · right;rw[show max z y=y from qO];simp
    · right;simp[h]
theorem zOO {l:List Int} (h:l≠[]):l.headD 0∈l:=by cases l with|nil=>exact absurd rfl h|cons x l=>simp
theorem zQy {l:List Int} (h:l≠[]) {z:Int}:z≤zOI l↔∀x∈l,z≤x:=by
 constructor
 ·intro h1 x hx;have:=(zIR l (l.headD 0)).2 x hx;unfold zOI at h1;omega
 ·intro h1;unfold zOI;rcases zHY l (l.headD 0) with h2|h2
  ·rw[h2];exact h1 _ (zOO h)
  ·exact h1 _ h2
theorem zWO {l:List Int} (h:l≠[]) {z:Int}:zRA l<z↔∀x∈l,x<z:=by
 constructor
 ·intro h1 x hx;have:=(zIS l (l.headD 0)).2 x hx;unfold zRA at h1;omega
 ·intro h1;unfold zRA;rcases zHZ l (l.headD 0) with h2|h2
  ·rw[h2];exact h1 _ (zOO h)
  ·exact h1 _ h2
theorem zTY (w0:World) (v:Value) (l:List Int) (h:zBa w0 v l) (hl:l≠[]):Ret prog 71 #[v] w0 fun r w=>r=.int .i64 (zOI l)∧Ext w0 w:=by
 obtain ⟨a,c,rfl⟩:=zCQ.form h;have af:l.length≤9223372036854775807:=by simpa using zCQ.le h
 simp only[List.length_map] at h⊢;have aa:0<l.length:=List.length_pos_iff.2 hl;obtain ⟨b,o,rfl,ac⟩:=zAy h aa;obtain ⟨x0,ab⟩:=zAJ (l:=l) (i:=0) aa;have hh:l.headD 0=x0:=by cases l with|nil=>simp at ab|cons y l=>simpa using ab
 refine qR func71 rfl ntmps71 rfl (fun E=>(zAA (qA (I6 0) rfl (zAB (zAH (zAA (qM (.slice (some ⟨b,o,none⟩) l.length c) rfl (qV (zAK (ad:=some ⟨b,o,none⟩) (n:=l.length) (cap:=c) underlying22 rfl) (qV (zBA (k:=.i64) (a:=(l.length:Int)) (b:=1) rfl rfl) (zAB ?_))))))))));have ah:(decide ((((l.length:Nat):Int):Int)<1))=false:=by simp;omega
 refine zAN (cbk ah) (zAO (zAC (zAA (qM (.slice (some ⟨b,o,none⟩) l.length c) rfl (qV (zAD (b:=b) (o:=o) (len:=l.length) (cap:=c) (i:=0) (o':=o+0) rfl rfl rfl underlying22 zAv qO qO) (qV (zAG (v:=(I6 x0)) rfl zAm (E.cell (fun f=>f) (ac 0 x0 ab))) (qA (I6 x0) rfl (zAB (zAH (zAA (qA (I6 1) rfl (zAB (zAT (zAo (fun nn_ σ W2=>∃(k:Nat) (m:Int),(∃jj_,σ=zCT jj_ [(0,(.slice (some ⟨b,o,none⟩) l.length c)),(4,(I6 (k:Int))),(3,(I6 m))])∧Chg zAe w0 W2∧(1≤k∧k≤l.length)∧(m=(l.take k).foldl min (l.headD 0))∧nn_=l.length - k) (n:=l.length - 1) ?_ ?_))))))))))))))
 ·exact ⟨1,x0,zAs.out ⟨rfl,rfl,rfl,trivial⟩,E,⟨Nat.le_refl _,qO⟩,(by rw[zFc _ ab,hh];simp),rfl⟩
 ·clear E;rintro _ _ W2 ⟨k,m,⟨j2,rfl⟩,E,hk,hm,rfl⟩;refine zAH (zAA (qM (I6 (k:Int)) rfl (qM (.slice (some ⟨b,o,none⟩) l.length c) rfl (qV (zAK (ad:=some ⟨b,o,none⟩) (n:=l.length) (cap:=c) underlying22 rfl) (qV (zBA (k:=.i64) (a:=(k:Int)) (b:=(l.length:Int)) rfl rfl) (zAB (qC rfl (fun ae=>?_) (fun ae=>?_))))))))
  ·obtain ⟨x,hx⟩:=zAJ (l:=l) (i:=k) qO;refine zAO (zAC (zAH (zAT (zAF (qM (I6 m) rfl (qM (.slice (some ⟨b,o,none⟩) l.length c) rfl (qM (I6 (k:Int)) rfl (qV (zAD (b:=b) (o:=o) (len:=l.length) (cap:=c) (i:=k) (o':=o+k) rfl rfl rfl underlying22 zAv qO qO) (qV (zAG (v:=(I6 x)) rfl zAm (E.cell (fun f=>f) (ac k x hx))) (qV (zXo rfl rfl rfl) (qA (I6 (min m x)) rfl (zAB (zAS (zAC (zAF (qM (I6 (k:Int)) rfl (qV (zAw (k:=.i64) (a:=(k:Int)) (b:=1) (c:=(k:Int)+1) rfl rfl (zBf qO)) (qA (I6 ((k:Int)+1)) rfl (zAB (zAC ?_))))))))))))))))))));exact ⟨l.length - (k+1),qO,k+1,(min m x),zAs.out ⟨rfl,rfl,rfl,trivial⟩,E,⟨qO,qO⟩,(by rw[zFc _ hx,hm]),rfl⟩
  ·have ag:k=l.length:=qO
   refine zAl (zAV (zAV (zAf (zAC (zAA (qM (I6 m) rfl (qA (I6 m) rfl (zAB (zAW (zAZ results71 (v:=(.int .i64 m)) rfl (⟨zBM ?_,E⟩)))))))))));rw[hm,ag,List.take_length];rfl
theorem zWN (w0:World) (v:Value) (l:List Int) (h:zBa w0 v l) (hl:l≠[]):Ret prog 72 #[v] w0 fun r w=>r=.int .i64 (zRA l)∧Ext w0 w:=by
 obtain ⟨a,c,rfl⟩:=zCQ.form h;have af:l.length≤9223372036854775807:=by simpa using zCQ.le h
 simp only[List.length_map] at h⊢;have aa:0<l.length:=List.length_pos_iff.2 hl;obtain ⟨b,o,rfl,ac⟩:=zAy h aa;obtain ⟨x0,ab⟩:=zAJ (l:=l) (i:=0) aa;have hh:l.headD 0=x0:=by cases l with|nil=>simp at ab|cons y l=>simpa using ab
 refine qR func72 rfl ntmps72 rfl (fun E=>(zAA (qA (I6 0) rfl (zAB (zAH (zAA (qM (.slice (some ⟨b,o,none⟩) l.length c) rfl (qV (zAK (ad:=some ⟨b,o,none⟩) (n:=l.length) (cap:=c) underlying22 rfl) (qV (zBA (k:=.i64) (a:=(l.length:Int)) (b:=1) rfl rfl) (zAB ?_))))))))));have ah:(decide ((((l.length:Nat):Int):Int)<1))=false:=by simp;omega
 refine zAN (cbk ah) (zAO (zAC (zAA (qM (.slice (some ⟨b,o,none⟩) l.length c) rfl (qV (zAD (b:=b) (o:=o) (len:=l.length) (cap:=c) (i:=0) (o':=o+0) rfl rfl rfl underlying22 zAv qO qO) (qV (zAG (v:=(I6 x0)) rfl zAm (E.cell (fun f=>f) (ac 0 x0 ab))) (qA (I6 x0) rfl (zAB (zAH (zAA (qA (I6 1) rfl (zAB (zAT (zAo (fun nn_ σ W2=>∃(k:Nat) (m:Int),(∃jj_,σ=zCT jj_ [(0,(.slice (some ⟨b,o,none⟩) l.length c)),(4,(I6 (k:Int))),(3,(I6 m))])∧Chg zAe w0 W2∧(1≤k∧k≤l.length)∧(m=(l.take k).foldl max (l.headD 0))∧nn_=l.length - k) (n:=l.length - 1) ?_ ?_))))))))))))))
 ·exact ⟨1,x0,zAs.out ⟨rfl,rfl,rfl,trivial⟩,E,⟨Nat.le_refl _,qO⟩,(by rw[zFc _ ab,hh];simp),rfl⟩
 ·clear E;rintro _ _ W2 ⟨k,m,⟨j2,rfl⟩,E,hk,hm,rfl⟩;refine zAH (zAA (qM (I6 (k:Int)) rfl (qM (.slice (some ⟨b,o,none⟩) l.length c) rfl (qV (zAK (ad:=some ⟨b,o,none⟩) (n:=l.length) (cap:=c) underlying22 rfl) (qV (zBA (k:=.i64) (a:=(k:Int)) (b:=(l.length:Int)) rfl rfl) (zAB (qC rfl (fun ae=>?_) (fun ae=>?_))))))))
  ·obtain ⟨x,hx⟩:=zAJ (l:=l) (i:=k) qO;refine zAO (zAC (zAH (zAT (zAF (qM (I6 m) rfl (qM (.slice (some ⟨b,o,none⟩) l.length c) rfl (qM (I6 (k:Int)) rfl (qV (zAD (b:=b) (o:=o) (len:=l.length) (cap:=c) (i:=k) (o':=o+k) rfl rfl rfl underlying22 zAv qO qO) (qV (zAG (v:=(I6 x)) rfl zAm (E.cell (fun f=>f) (ac k x hx))) (qV (zUn rfl rfl rfl) (qA (I6 (max m x)) rfl (zAB (zAS (zAC (zAF (qM (I6 (k:Int)) rfl (qV (zAw (k:=.i64) (a:=(k:Int)) (b:=1) (c:=(k:Int)+1) rfl rfl (zBf qO)) (qA (I6 ((k:Int)+1)) rfl (zAB (zAC ?_))))))))))))))))))));exact ⟨l.length - (k+1),qO,k+1,(max m x),zAs.out ⟨rfl,rfl,rfl,trivial⟩,E,⟨qO,qO⟩,(by rw[zFc _ hx,hm]),rfl⟩
  ·have ag:k=l.length:=qO
   refine zAl (zAV (zAV (zAf (zAC (zAA (qM (I6 m) rfl (qA (I6 m) rfl (zAB (zAW (zAZ results72 (v:=(.int .i64 m)) rfl (⟨zBM ?_,E⟩)))))))))));rw[hm,ag,List.take_length];rfl
def zDc (n:Int) (r:List Int):Bool:=decide (zOI r < -1) || decide (n≤zRA r)
def zSL (d:Dfa):Bool:=(decide (d.start<0) || decide ((d.next.length:Int)≤d.start)) || decide (zOI d.accept < -1)
def zGy (c:Nat) (r:List Int):Bool:=decide ((r.length:Int)=0) || decide ((r.length:Int)≠(c:Int))
def zNI (d:Dfa):Nat:=(d.next.headD []).length
def zEV (d:Dfa):Int:=
 if 200<d.next.length then 2 else if d.next.length=0∨d.accept.length≠d.next.length then 3 else if 16<zNI d then 2
 else if d.next.any (zGy (zNI d))=true then 3
 else if (zSL d || d.next.any (zDc d.next.length))=true then 1 else 0
theorem zTv (w0:World) (d:Dfa) (vs:List Value) (hd:zBV w0 d vs):Ret prog 36 #[.agg vs.toArray] w0 fun r w=>r=.int .i64 (zEV d)∧Ext w0 w:=by
 obtain ⟨aa,ac,na,nc,rfl,ha,hn⟩:=hd;have hal:d.accept.length≤9223372036854775807:=by simpa using zCQ.le ha
 obtain ⟨_,_,hv,bj,hle⟩:=hn.form;simp only[Value.slice.injEq] at hv;obtain ⟨rfl,_,rfl⟩:=hv;refine qR func36 rfl ntmps36 rfl (fun E=>(zAA (zBY (v:=(.agg #[(I6 d.start),(.slice aa d.accept.length ac),(.slice na d.next.length nc)])) (c:=#[(I6 d.start),(.slice aa d.accept.length ac),(.slice na d.next.length nc)]) qD rfl rfl ?_)));intro br wr Nr;replace E:=E.ext Nr.ext;have Br:=Nr.blk;refine qA _ rfl (zAB (zAA (qF br 0 2 rfl underlying34 rfl zBr rfl (qV (zAG rfl zBh (Br.cell rfl)) (qV (zAK underlying32 rfl) (qA _ rfl (zAB (zAH (zAT (zAA (qM _ rfl (qV (zEN rfl rfl) (qA _ rfl (zAB (qC rfl (fun h1=>?_) (fun h1=>?_))))))))))))))))
 ·refine zAA (qA _ rfl (zAB (zAW (zAh (zAX (zAZ results36 (v:=(.int .i64 2)) rfl ?_))))));exact ⟨zBM (by unfold zEV;rw[if_pos qO]),E⟩
 ·refine zAA (qM _ rfl ?_);obtain ⟨e2,bg⟩:∃e,(decide ((((d.next.length:Nat):Int):Int)=0))=e:=⟨_,rfl⟩;refine qV ((zAq rfl rfl).trans (by rw[bg];try rfl)) (qM _ rfl (qG (.bool e2) (nU e2 (P6 br 1)) (by cases e2<;>first|exact gA|exact gB|exact .inl ⟨rfl,zAY rfl underlying34 rfl zBE rfl⟩) (qG (.bool e2) (nU e2 (.slice aa d.accept.length ac)) (by cases e2<;>first|exact gA|exact gB|exact .inl ⟨rfl,zAG rfl zBI (Br.cell rfl)⟩) (qG (.bool e2) (nU e2 (I6 (d.accept.length:Int))) (by cases e2<;>first|exact gA|exact gB|exact .inl ⟨rfl,zAK underlying22 rfl⟩) (qG (.bool e2) (nU e2 (I6 (d.next.length:Int))) (by cases e2<;>first|exact gA|exact gB|exact .inl ⟨rfl,zAj rfl⟩) ?_)))));obtain ⟨e3,bc⟩:∃e,(decide ((((d.accept.length:Nat):Int):Int)≠((d.next.length:Nat):Int)))=e:=⟨_,rfl⟩;refine qG (.bool e2) (nU e2 (.bool e3)) (by cases e2<;>first|exact gA|exact gB|exact .inl ⟨rfl,(zEY rfl rfl).trans (by rw[bc];try rfl)⟩) ?_;obtain ⟨e4,bb⟩:∃e,(e2 || e3)=e:=⟨_,rfl⟩;refine qV (zAr (v:=.bool e4) rfl (by rw[←bb];cases e2<;>rfl)) (qA _ rfl (zAB ?_));subst bb;subst bc;subst bg;refine zAx rfl (fun h2=>?_) (fun h2=>?_)
  ·have bn:=h2;refine zAA (qA _ rfl (zAB (zAW (zAh (zAX (zAZ results36 (v:=(.int .i64 3)) rfl ?_))))));exact ⟨zBM (by unfold zEV;rw[if_neg qO,if_pos (by simp only[Bool.or_eq_true,decide_eq_true_eq] at h2;omega)]),E⟩
  ·have bn:=h2;simp only[Bool.or_eq_false_iff,decide_eq_false_iff_not] at h2;have ar:¬(d.next.length=0∨d.accept.length≠d.next.length):=qO
   obtain ⟨am,ai⟩:=zAJ (l:=d.next) (i:=0) qO;have ba:zNI d=am.length:=by unfold zNI;cases hq:d.next with|nil=>rw[hq] at ai;simp at ai|cons y l=>rw[hq] at ai;simp at ai;simp[ai]
   obtain ⟨nb,no,bk,ao⟩:=zBi hn qO;subst bk;obtain ⟨bi,bo,aq,a7⟩:=ao 0 am ai;refine zAA (qF br 0 2 rfl underlying34 rfl zBr rfl (qV (zAG rfl zBh (Br.cell rfl)) (qV (zAD (b:=nb) (o:=no) (len:=d.next.length) (cap:=nc) (i:=0) (o':=no+0) rfl rfl rfl underlying32 zBE qO qO) (qV (zAG rfl zBI (E.cell (fun f=>f) aq)) (qV (zAK underlying22 rfl) (qV (zEN rfl rfl) (qA _ rfl (zAB (qC rfl (fun h3=>?_) (fun h3=>?_))))))))))
   ·refine zAA (qA _ rfl (zAB (zAW (zAh (zAX (zAZ results36 (v:=(.int .i64 2)) rfl ?_))))));exact ⟨zBM (by unfold zEV;rw[if_neg qO,if_neg ar,if_pos qO]),E⟩
   ·refine zAO (zAS (zAC (zAH (zAA (qF br 0 2 rfl underlying34 rfl zBr rfl (qV (zAG rfl zBh (Br.cell rfl)) (qV (zAK underlying32 rfl) (qM _ rfl (zAB (zAT (zAo (fun nn_ σ W7=>∃(k:Nat),(∃jj_,σ=zCT jj_ [(1,(P6 br 0)),(3,(I6 (d.next.length:Int))),(33,(.slice (some ⟨nb,no,none⟩) d.next.length nc)),(34,(I6 (d.next.length:Int))),(35,(I6 (k:Int)))])∧Chg zAe w0 W7∧Blk W7 br #[(I6 d.start),(.slice aa d.accept.length ac),(.slice (some ⟨nb,no,none⟩) d.next.length nc)] 34∧(k≤d.next.length)∧((d.next.take k).any (zGy (zNI d))=false)∧nn_=d.next.length - k) (n:=d.next.length - 0) ?_ ?_)))))))))))
    ·exact ⟨0,zAs.out ⟨rfl,rfl,rfl,rfl,rfl,trivial⟩,E,Br,Nat.zero_le _,rfl,rfl⟩
    ·clear E Br;rintro _ _ W7 ⟨k,⟨j7,rfl⟩,E,Br,hk,au,rfl⟩;refine zAA (qV (zBA rfl rfl) (zAB (zAH (qC rfl (fun bm=>?_) (fun bm=>?_)))))
     ·obtain ⟨ab,af⟩:=zAJ (l:=d.next) (i:=k) qO;obtain ⟨ra,rc,ah,ae⟩:=ao k ab af;have hrl:ab.length≤9223372036854775807:=by simpa using zCQ.le ae
      refine zAO (zAC (zAH (zAT (zAA (qV (zAD (b:=nb) (o:=no) (len:=d.next.length) (cap:=nc) (i:=k) (o':=no+k) rfl rfl rfl underlying32 zBE qO qO) (qV (zAG rfl zBI (E.cell (fun f=>f) ah)) (qA _ rfl (zAB (zAA (qM _ rfl (qV (zAK underlying22 rfl) ?_)))))))))));obtain ⟨e9,a4⟩:∃e,(decide ((((ab.length:Nat):Int):Int)=0))=e:=⟨_,rfl⟩;refine qV ((zAq rfl rfl).trans (by rw[a4];try rfl)) (qM _ rfl (qG (.bool e9) (nU e9 (.slice ra ab.length rc)) (by cases e9<;>first|exact gA|exact gB|exact .inl ⟨rfl,zAj rfl⟩) (qG (.bool e9) (nU e9 (I6 (ab.length:Int))) (by cases e9<;>first|exact gA|exact gB|exact .inl ⟨rfl,zAK underlying22 rfl⟩) (qG (.bool e9) (nU e9 (P6 br 2)) (by cases e9<;>first|exact gA|exact gB|exact .inl ⟨rfl,zAY rfl underlying34 rfl zBr rfl⟩) (qG (.bool e9) (nU e9 (.slice (some ⟨nb,no,none⟩) d.next.length nc)) (by cases e9<;>first|exact gA|exact gB|exact .inl ⟨rfl,zAG rfl zBh (Br.cell rfl)⟩) (qG (.bool e9) (nU e9 (.pointer (some ⟨nb,no+0,none⟩))) (by cases e9<;>first|exact gA|exact gB|exact .inl ⟨rfl,zAD (i:=0) rfl rfl rfl underlying32 zBE (by have:=of_decide_eq_false a4;omega) qO⟩) (qG (.bool e9) (nU e9 (.slice bi am.length bo)) (by cases e9<;>first|exact gA|exact gB|exact .inl ⟨rfl,zAG rfl zBI (E.cell (fun f=>f) aq)⟩) (qG (.bool e9) (nU e9 (I6 (am.length:Int))) (by cases e9<;>first|exact gA|exact gB|exact .inl ⟨rfl,zAK underlying22 rfl⟩) ?_))))))));obtain ⟨bd,ax⟩:∃e,(decide ((((ab.length:Nat):Int):Int)≠((am.length:Nat):Int)))=e:=⟨_,rfl⟩;refine qG (.bool e9) (nU e9 (.bool bd)) (by cases e9<;>first|exact gA|exact gB|exact .inl ⟨rfl,(zEY rfl rfl).trans (by rw[ax];try rfl)⟩) ?_;obtain ⟨bh,ay⟩:∃e,(e9 || bd)=e:=⟨_,rfl⟩;refine qV (zAr (v:=.bool bh) rfl (by rw[←ay];cases e9<;>rfl)) (zAB ?_);subst ay;subst ax;subst a4;refine zAx rfl (fun hf=>?_) (fun hf=>?_)
      ·have bp:=hf;refine zAA (qA _ rfl (zAB (zAW (zAh (zAX (zAX (zAh (zAX (zAZ results36 (v:=(.int .i64 3)) rfl (⟨zBM ?_,E⟩))))))))));unfold zEV;rw[if_neg qO,if_neg ar,if_neg qO,if_pos];exact List.any_eq_true.2 ⟨ab,List.mem_of_getElem? af,by unfold zGy;rw[ba];simpa using hf⟩
      ·have bp:=hf;refine zAO (zAS (zAC (zAF (qV (zAw rfl rfl (zBf qO)) (qM _ rfl (zAB (zAC ?_)))))));exact ⟨d.next.length - (k+1),qO,k+1,zAs.out ⟨rfl,rfl,rfl,rfl,rfl,trivial⟩,E,Br,qO,(by rw[List.take_add_one,af,List.any_append,au];simp only[Option.toList_some,List.any_cons,List.any_nil,Bool.or_false,Bool.false_or];unfold zGy;rw[ba];simpa using hf),rfl⟩
     ·have bq:k=d.next.length:=qO
      rw[bq,List.take_length] at au;have an:∀ab∈d.next,ab≠[]:=fun ab hr he=>by have:=(List.any_eq_false.1 au) ab hr;simp[zGy,he] at this
      have a6:d.accept≠[]:=fun he=>by rw[he] at ar;simp at ar;omega
      refine zAl (zAV (zAV (zAf (zAC (zAA (qF br 0 0 rfl underlying34 rfl zAv rfl (qV (zAG rfl zAm (Br.cell rfl)) (qV (zBA rfl rfl) (qM _ rfl ?_)))))))));rcases Bool.eq_false_or_eq_true (decide ((d.start:Int)<0)) with g1|g1
      ·have a2:=g1;replace a2:=of_decide_eq_true a2;refine zAM rfl rfl qD (v:=.bool true) (cbk g1) (Or.inl rfl) (zAM rfl rfl qD (v:=.bool true) (cbk g1) (Or.inl rfl) (zAM rfl rfl qD (v:=.bool true) (cbk g1) (Or.inl rfl) (zAM rfl rfl qD (v:=.bool true) (cbk g1) (Or.inl rfl) (qV (zAr (v:=(.bool true)) rfl (by rw[g1];rfl)) (qM _ rfl (zAM rfl rfl qD (v:=.bool true) rfl (Or.inl rfl) (zAM rfl rfl qD (v:=.bool true) rfl (Or.inl rfl) (zAM rfl rfl qD (v:=.bool true) rfl (Or.inl rfl) (zAM rfl rfl qD (v:=.bool true) rfl (Or.inl rfl) (qV (zAr rfl rfl) (qA _ rfl (zAB (zAH (zAA (qF br 0 2 rfl underlying34 rfl zBr rfl (qV (zAG rfl zBh (Br.cell rfl)) ?_))))))))))))))));refine qV (zAK underlying32 rfl) (qM _ rfl (zAB (zAT (zAo (fun nn_ σ a9=>∃(q:Nat) (ak:Bool),(∃jj_,σ=zCT jj_ [(3,(I6 (d.next.length:Int))),(69,(.slice (some ⟨nb,no,none⟩) d.next.length nc)),(70,(I6 (d.next.length:Int))),(71,(I6 (q:Int))),(6,(.bool ak))])∧Chg zAe w0 a9∧Blk a9 br #[(I6 d.start),(.slice aa d.accept.length ac),(.slice (some ⟨nb,no,none⟩) d.next.length nc)] 34∧(q≤d.next.length)∧(ak=(zSL d || (d.next.take q).any (zDc d.next.length)))∧nn_=d.next.length - q) (n:=d.next.length - 0) ?_ ?_))))
       ·exact ⟨0,true,zAs.out ⟨rfl,rfl,rfl,rfl,rfl,trivial⟩,E,Br,Nat.zero_le _,(by simp only[List.take_zero,List.any_nil,Bool.or_false];unfold zSL;rw[g1];rfl),rfl⟩
       ·clear E Br;rintro _ _ a9 ⟨q,ak,⟨j14,rfl⟩,E,Br,hq,ag,rfl⟩;refine zAA (qV (zBA rfl rfl) (zAB (zAH (qC rfl (fun ap=>?_) (fun ap=>?_)))))
        ·obtain ⟨ab,af⟩:=zAJ (l:=d.next) (i:=q) qO;obtain ⟨ra,rc,ah,ae⟩:=ao q ab af;have al:ab≠[]:=an ab (List.mem_of_getElem? af);have ad:(zSL d || (d.next.take (q+1)).any (zDc d.next.length))=(ak || zDc d.next.length ab):=by rw[List.take_add_one,af,List.any_append,ag];simp[Bool.or_assoc]
         refine zAO (zAC (zAH (zAT (zAA (qV (zAD (b:=nb) (o:=no) (len:=d.next.length) (cap:=nc) (i:=q) (o':=no+q) rfl rfl rfl underlying32 zBE qO qO) (qV (zAG rfl zBI (E.cell (fun f=>f) ah)) (qA _ rfl (zAB (zAF (qM _ rfl (qM _ rfl ?_)))))))))));rcases Bool.eq_false_or_eq_true (ak) with g5|g5
         ·have a0:=g5;refine zAM rfl rfl qD (v:=.bool true) (cbk g5) (Or.inl rfl) (zAM rfl rfl qD (v:=.bool true) (cbk g5) (Or.inl rfl) (zAM rfl rfl qD (v:=.bool true) (cbk g5) (Or.inl rfl) (qV (zAr (v:=(.bool true)) rfl (by rw[g5];rfl)) (qM _ rfl (zAM rfl rfl qD (v:=.bool true) rfl (Or.inl rfl) (zAM rfl rfl qD (v:=.bool true) rfl (Or.inl rfl) (zAM rfl rfl qD (v:=.bool true) rfl (Or.inl rfl) (zAM rfl rfl qD (v:=.bool true) rfl (Or.inl rfl) (qV (zAr rfl rfl) (qA _ rfl (zAB (zAS (zAC (zAF (qV (zAw rfl rfl (zBf qO)) (qM _ rfl (zAB (zAC ?_))))))))))))))))));exact ⟨d.next.length - (q+1),qO,q+1,true,zAs.out ⟨rfl,rfl,rfl,rfl,rfl,trivial⟩,E,Br,qO,(by rw[ad,g5];rfl),rfl⟩
         ·have a0:=g5;refine zAL rfl rfl qD (cbk g5) (qM _ rfl (zAL rfl rfl qD (cbk g5) (qE rfl (zAU func71 kQ kQ rfl) (zTY _ _ ab (ae.ext E) al) ?_)));rintro _ bf ⟨rfl,aw⟩;replace Br:=aw.keep Br;replace E:=E.ext aw;refine zAL rfl rfl qD (cbk g5) (qV (zBA rfl rfl) (qV (zAr (v:=(.bool (decide ((zOI ab:Int)<(-1))))) rfl (by rw[g5];rfl)) (qM _ rfl ?_)));rcases Bool.eq_false_or_eq_true (decide ((zOI ab:Int)<(-1))) with g6|g6
          ·have aj:=g6;replace aj:=of_decide_eq_true aj;refine zAM rfl rfl qD (v:=.bool true) (cbk g6) (Or.inl rfl) (zAM rfl rfl qD (v:=.bool true) (cbk g6) (Or.inl rfl) (zAM rfl rfl qD (v:=.bool true) (cbk g6) (Or.inl rfl) (zAM rfl rfl qD (v:=.bool true) (cbk g6) (Or.inl rfl) (qV (zAr (v:=(.bool true)) rfl (by rw[g6];rfl)) (qA _ rfl (zAB (zAS (zAC (zAF (qV (zAw rfl rfl (zBf qO)) (qM _ rfl (zAB (zAC ?_)))))))))))));exact ⟨d.next.length - (q+1),qO,q+1,true,zAs.out ⟨rfl,rfl,rfl,rfl,rfl,trivial⟩,E,Br,qO,(by rw[ad,g5];unfold zDc;rw[g6];rfl),rfl⟩
          ·have aj:=g6;replace aj:=of_decide_eq_false aj;refine zAL rfl rfl qD (cbk g6) (qM _ rfl (zAL rfl rfl qD (cbk g6) (qE rfl (zAU func72 kQ kQ rfl) (zWN _ _ ab (ae.ext E) al) ?_)));rintro _ be ⟨rfl,av⟩;replace Br:=av.keep Br;replace E:=E.ext av;refine zAL rfl rfl qD (cbk g6) (qM _ rfl (zAL rfl rfl qD (cbk g6) (qV (zDF rfl rfl) (qV (zAr (v:=(.bool (decide (((d.next.length:Int):Int)≤zRA ab)))) rfl (by rw[g6];rfl)) (qA _ rfl (zAB (zAS (zAC (zAF (qV (zAw rfl rfl (zBf qO)) (qM _ rfl (zAB (zAC ?_)))))))))))));exact ⟨d.next.length - (q+1),qO,q+1,(decide ((((d.next.length:Nat):Int):Int)≤zRA ab)),zAs.out ⟨rfl,rfl,rfl,rfl,rfl,trivial⟩,E,Br,qO,(by rw[ad,g5];unfold zDc;rw[g6];rfl),rfl⟩
        ·have a3:q=d.next.length:=qO
         rw[a3,List.take_length] at ag;refine zAl (zAV (zAV (zAf (zAC (zAH (zAA (qM _ rfl (zAB (zAx rfl (fun hb=>?_) (fun hb=>?_))))))))))
         ·have a1:=hb;refine zAA (qA _ rfl (zAB (zAW (zAX (zAZ results36 (v:=(.int .i64 1)) rfl ?_)))));exact ⟨zBM (by unfold zEV;rw[if_neg qO,if_neg ar,if_neg qO,if_neg (by rw[au];simp),if_pos (by rw[←ag];exact hb)]),E⟩
         ·have a1:=hb;refine zAO (zAC (zAA (qA _ rfl (zAB (zAW (zAZ results36 (v:=(.int .i64 0)) rfl ?_))))));exact ⟨zBM (by unfold zEV;rw[if_neg qO,if_neg ar,if_neg qO,if_neg (by rw[au];simp),if_neg (by rw[←ag,hb];simp)]),E⟩
      ·have a2:=g1;replace a2:=of_decide_eq_false a2;refine zAL rfl rfl qD (cbk g1) (qF br 0 0 rfl underlying34 rfl zAv rfl (zAL rfl rfl qD (cbk g1) (qV (zAG rfl zAm (Br.cell rfl)) (zAL rfl rfl qD (cbk g1) (qM _ rfl (zAL rfl rfl qD (cbk g1) (qV (zDF rfl rfl) (qV (zAr (v:=(.bool (decide (((d.next.length:Int):Int)≤d.start)))) rfl (by rw[g1];rfl)) (qM _ rfl ?_)))))))));rcases Bool.eq_false_or_eq_true (decide ((((d.next.length:Nat):Int):Int)≤d.start)) with g2|g2
       ·have az:=g2;replace az:=of_decide_eq_true az;refine zAM rfl rfl qD (v:=.bool true) (cbk g2) (Or.inl rfl) (zAM rfl rfl qD (v:=.bool true) (cbk g2) (Or.inl rfl) (zAM rfl rfl qD (v:=.bool true) (cbk g2) (Or.inl rfl) (zAM rfl rfl qD (v:=.bool true) (cbk g2) (Or.inl rfl) (qV (zAr (v:=(.bool true)) rfl (by rw[g2];rfl)) (qA _ rfl (zAB (zAH (zAA (qF br 0 2 rfl underlying34 rfl zBr rfl (qV (zAG rfl zBh (Br.cell rfl)) (qV (zAK underlying32 rfl) (qM _ rfl (zAB (zAT (zAo (fun nn_ σ a5=>∃(q:Nat) (ak:Bool),(∃jj_,σ=zCT jj_ [(3,(I6 (d.next.length:Int))),(69,(.slice (some ⟨nb,no,none⟩) d.next.length nc)),(70,(I6 (d.next.length:Int))),(71,(I6 (q:Int))),(6,(.bool ak))])∧Chg zAe w0 a5∧Blk a5 br #[(I6 d.start),(.slice aa d.accept.length ac),(.slice (some ⟨nb,no,none⟩) d.next.length nc)] 34∧(q≤d.next.length)∧(ak=(zSL d || (d.next.take q).any (zDc d.next.length)))∧nn_=d.next.length - q) (n:=d.next.length - 0) ?_ ?_)))))))))))))))
        ·exact ⟨0,true,zAs.out ⟨rfl,rfl,rfl,rfl,rfl,trivial⟩,E,Br,Nat.zero_le _,(by simp only[List.take_zero,List.any_nil,Bool.or_false];unfold zSL;rw[g1,g2];rfl),rfl⟩
        ·clear E Br;rintro _ _ a5 ⟨q,ak,⟨j20,rfl⟩,E,Br,hq,ag,rfl⟩;refine zAA (qV (zBA rfl rfl) (zAB (zAH (qC rfl (fun ap=>?_) (fun ap=>?_)))))
         ·obtain ⟨ab,af⟩:=zAJ (l:=d.next) (i:=q) qO;obtain ⟨ra,rc,ah,ae⟩:=ao q ab af;have al:ab≠[]:=an ab (List.mem_of_getElem? af);have ad:(zSL d || (d.next.take (q+1)).any (zDc d.next.length))=(ak || zDc d.next.length ab):=by rw[List.take_add_one,af,List.any_append,ag];simp[Bool.or_assoc]
          refine zAO (zAC (zAH (zAT (zAA (qV (zAD (b:=nb) (o:=no) (len:=d.next.length) (cap:=nc) (i:=q) (o':=no+q) rfl rfl rfl underlying32 zBE qO qO) (qV (zAG rfl zBI (E.cell (fun f=>f) ah)) (qA _ rfl (zAB (zAF (qM _ rfl (qM _ rfl ?_)))))))))));rcases Bool.eq_false_or_eq_true (ak) with g5|g5
          ·have a0:=g5;refine zAM rfl rfl qD (v:=.bool true) (cbk g5) (Or.inl rfl) (zAM rfl rfl qD (v:=.bool true) (cbk g5) (Or.inl rfl) (zAM rfl rfl qD (v:=.bool true) (cbk g5) (Or.inl rfl) (qV (zAr (v:=(.bool true)) rfl (by rw[g5];rfl)) (qM _ rfl (zAM rfl rfl qD (v:=.bool true) rfl (Or.inl rfl) (zAM rfl rfl qD (v:=.bool true) rfl (Or.inl rfl) (zAM rfl rfl qD (v:=.bool true) rfl (Or.inl rfl) (zAM rfl rfl qD (v:=.bool true) rfl (Or.inl rfl) (qV (zAr rfl rfl) (qA _ rfl (zAB (zAS (zAC (zAF (qV (zAw rfl rfl (zBf qO)) (qM _ rfl (zAB (zAC ?_))))))))))))))))));exact ⟨d.next.length - (q+1),qO,q+1,true,zAs.out ⟨rfl,rfl,rfl,rfl,rfl,trivial⟩,E,Br,qO,(by rw[ad,g5];rfl),rfl⟩
          ·have a0:=g5;refine zAL rfl rfl qD (cbk g5) (qM _ rfl (zAL rfl rfl qD (cbk g5) (qE rfl (zAU func71 kQ kQ rfl) (zTY _ _ ab (ae.ext E) al) ?_)));rintro _ bf ⟨rfl,aw⟩;replace Br:=aw.keep Br;replace E:=E.ext aw;refine zAL rfl rfl qD (cbk g5) (qV (zBA rfl rfl) (qV (zAr (v:=(.bool (decide ((zOI ab:Int)<(-1))))) rfl (by rw[g5];rfl)) (qM _ rfl ?_)));rcases Bool.eq_false_or_eq_true (decide ((zOI ab:Int)<(-1))) with g6|g6
           ·have aj:=g6;replace aj:=of_decide_eq_true aj;refine zAM rfl rfl qD (v:=.bool true) (cbk g6) (Or.inl rfl) (zAM rfl rfl qD (v:=.bool true) (cbk g6) (Or.inl rfl) (zAM rfl rfl qD (v:=.bool true) (cbk g6) (Or.inl rfl) (zAM rfl rfl qD (v:=.bool true) (cbk g6) (Or.inl rfl) (qV (zAr (v:=(.bool true)) rfl (by rw[g6];rfl)) (qA _ rfl (zAB (zAS (zAC (zAF (qV (zAw rfl rfl (zBf qO)) (qM _ rfl (zAB (zAC ?_)))))))))))));exact ⟨d.next.length - (q+1),qO,q+1,true,zAs.out ⟨rfl,rfl,rfl,rfl,rfl,trivial⟩,E,Br,qO,(by rw[ad,g5];unfold zDc;rw[g6];rfl),rfl⟩
           ·have aj:=g6;replace aj:=of_decide_eq_false aj;refine zAL rfl rfl qD (cbk g6) (qM _ rfl (zAL rfl rfl qD (cbk g6) (qE rfl (zAU func72 kQ kQ rfl) (zWN _ _ ab (ae.ext E) al) ?_)));rintro _ be ⟨rfl,av⟩;replace Br:=av.keep Br;replace E:=E.ext av;refine zAL rfl rfl qD (cbk g6) (qM _ rfl (zAL rfl rfl qD (cbk g6) (qV (zDF rfl rfl) (qV (zAr (v:=(.bool (decide (((d.next.length:Int):Int)≤zRA ab)))) rfl (by rw[g6];rfl)) (qA _ rfl (zAB (zAS (zAC (zAF (qV (zAw rfl rfl (zBf qO)) (qM _ rfl (zAB (zAC ?_)))))))))))));exact ⟨d.next.length - (q+1),qO,q+1,(decide ((((d.next.length:Nat):Int):Int)≤zRA ab)),zAs.out ⟨rfl,rfl,rfl,rfl,rfl,trivial⟩,E,Br,qO,(by rw[ad,g5];unfold zDc;rw[g6];rfl),rfl⟩
         ·have a3:q=d.next.length:=qO
          rw[a3,List.take_length] at ag;refine zAl (zAV (zAV (zAf (zAC (zAH (zAA (qM _ rfl (zAB (zAx rfl (fun hb=>?_) (fun hb=>?_))))))))))
          ·have a1:=hb;refine zAA (qA _ rfl (zAB (zAW (zAX (zAZ results36 (v:=(.int .i64 1)) rfl ?_)))));exact ⟨zBM (by unfold zEV;rw[if_neg qO,if_neg ar,if_neg qO,if_neg (by rw[au];simp),if_pos (by rw[←ag];exact hb)]),E⟩
          ·have a1:=hb;refine zAO (zAC (zAA (qA _ rfl (zAB (zAW (zAZ results36 (v:=(.int .i64 0)) rfl ?_))))));exact ⟨zBM (by unfold zEV;rw[if_neg qO,if_neg ar,if_neg qO,if_neg (by rw[au];simp),if_neg (by rw[←ag,hb];simp)]),E⟩
       ·have az:=g2;replace az:=of_decide_eq_false az;refine zAL rfl rfl qD (cbk g2) (qF br 0 1 rfl underlying34 rfl zBE rfl (zAL rfl rfl qD (cbk g2) (qV (zAG rfl zBI (Br.cell rfl)) (zAL rfl rfl qD (cbk g2) (qE rfl (zAU func71 kQ kQ rfl) (zTY _ _ d.accept (ha.ext E) a6) ?_)))));rintro _ w9 ⟨rfl,X9⟩;replace Br:=X9.keep Br;replace E:=E.ext X9;refine zAL rfl rfl qD (cbk g2) (qV (zBA rfl rfl) (qV (zAr (v:=(.bool (decide ((zOI d.accept:Int)<(-1))))) rfl (by rw[g2];rfl)) (qA _ rfl (zAB (zAH (zAA (qF br 0 2 rfl underlying34 rfl zBr rfl (qV (zAG rfl zBh (Br.cell rfl)) (qV (zAK underlying32 rfl) (qM _ rfl (zAB (zAT (zAo (fun nn_ σ a8=>∃(q:Nat) (ak:Bool),(∃jj_,σ=zCT jj_ [(3,(I6 (d.next.length:Int))),(69,(.slice (some ⟨nb,no,none⟩) d.next.length nc)),(70,(I6 (d.next.length:Int))),(71,(I6 (q:Int))),(6,(.bool ak))])∧Chg zAe w0 a8∧Blk a8 br #[(I6 d.start),(.slice aa d.accept.length ac),(.slice (some ⟨nb,no,none⟩) d.next.length nc)] 34∧(q≤d.next.length)∧(ak=(zSL d || (d.next.take q).any (zDc d.next.length)))∧nn_=d.next.length - q) (n:=d.next.length - 0) ?_ ?_)))))))))))))
        ·exact ⟨0,(decide ((zOI d.accept:Int)<(-1))),zAs.out ⟨rfl,rfl,rfl,rfl,rfl,trivial⟩,E,Br,Nat.zero_le _,(by simp only[List.take_zero,List.any_nil,Bool.or_false];unfold zSL;rw[g1,g2];rfl),rfl⟩
        ·clear E Br;rintro _ _ a8 ⟨q,ak,⟨j25,rfl⟩,E,Br,hq,ag,rfl⟩;refine zAA (qV (zBA rfl rfl) (zAB (zAH (qC rfl (fun ap=>?_) (fun ap=>?_)))))
         ·obtain ⟨ab,af⟩:=zAJ (l:=d.next) (i:=q) qO;obtain ⟨ra,rc,ah,ae⟩:=ao q ab af;have al:ab≠[]:=an ab (List.mem_of_getElem? af);have ad:(zSL d || (d.next.take (q+1)).any (zDc d.next.length))=(ak || zDc d.next.length ab):=by rw[List.take_add_one,af,List.any_append,ag];simp[Bool.or_assoc]
          refine zAO (zAC (zAH (zAT (zAA (qV (zAD (b:=nb) (o:=no) (len:=d.next.length) (cap:=nc) (i:=q) (o':=no+q) rfl rfl rfl underlying32 zBE qO qO) (qV (zAG rfl zBI (E.cell (fun f=>f) ah)) (qA _ rfl (zAB (zAF (qM _ rfl (qM _ rfl ?_)))))))))));rcases Bool.eq_false_or_eq_true (ak) with g5|g5
          ·have a0:=g5;refine zAM rfl rfl qD (v:=.bool true) (cbk g5) (Or.inl rfl) (zAM rfl rfl qD (v:=.bool true) (cbk g5) (Or.inl rfl) (zAM rfl rfl qD (v:=.bool true) (cbk g5) (Or.inl rfl) (qV (zAr (v:=(.bool true)) rfl (by rw[g5];rfl)) (qM _ rfl (zAM rfl rfl qD (v:=.bool true) rfl (Or.inl rfl) (zAM rfl rfl qD (v:=.bool true) rfl (Or.inl rfl) (zAM rfl rfl qD (v:=.bool true) rfl (Or.inl rfl) (zAM rfl rfl qD (v:=.bool true) rfl (Or.inl rfl) (qV (zAr rfl rfl) (qA _ rfl (zAB (zAS (zAC (zAF (qV (zAw rfl rfl (zBf qO)) (qM _ rfl (zAB (zAC ?_))))))))))))))))));exact ⟨d.next.length - (q+1),qO,q+1,true,zAs.out ⟨rfl,rfl,rfl,rfl,rfl,trivial⟩,E,Br,qO,(by rw[ad,g5];rfl),rfl⟩
          ·have a0:=g5;refine zAL rfl rfl qD (cbk g5) (qM _ rfl (zAL rfl rfl qD (cbk g5) (qE rfl (zAU func71 kQ kQ rfl) (zTY _ _ ab (ae.ext E) al) ?_)));rintro _ bf ⟨rfl,aw⟩;replace Br:=aw.keep Br;replace E:=E.ext aw;refine zAL rfl rfl qD (cbk g5) (qV (zBA rfl rfl) (qV (zAr (v:=(.bool (decide ((zOI ab:Int)<(-1))))) rfl (by rw[g5];rfl)) (qM _ rfl ?_)));rcases Bool.eq_false_or_eq_true (decide ((zOI ab:Int)<(-1))) with g6|g6
           ·have aj:=g6;replace aj:=of_decide_eq_true aj;refine zAM rfl rfl qD (v:=.bool true) (cbk g6) (Or.inl rfl) (zAM rfl rfl qD (v:=.bool true) (cbk g6) (Or.inl rfl) (zAM rfl rfl qD (v:=.bool true) (cbk g6) (Or.inl rfl) (zAM rfl rfl qD (v:=.bool true) (cbk g6) (Or.inl rfl) (qV (zAr (v:=(.bool true)) rfl (by rw[g6];rfl)) (qA _ rfl (zAB (zAS (zAC (zAF (qV (zAw rfl rfl (zBf qO)) (qM _ rfl (zAB (zAC ?_)))))))))))));exact ⟨d.next.length - (q+1),qO,q+1,true,zAs.out ⟨rfl,rfl,rfl,rfl,rfl,trivial⟩,E,Br,qO,(by rw[ad,g5];unfold zDc;rw[g6];rfl),rfl⟩
           ·have aj:=g6;replace aj:=of_decide_eq_false aj;refine zAL rfl rfl qD (cbk g6) (qM _ rfl (zAL rfl rfl qD (cbk g6) (qE rfl (zAU func72 kQ kQ rfl) (zWN _ _ ab (ae.ext E) al) ?_)));rintro _ be ⟨rfl,av⟩;replace Br:=av.keep Br;replace E:=E.ext av;refine zAL rfl rfl qD (cbk g6) (qM _ rfl (zAL rfl rfl qD (cbk g6) (qV (zDF rfl rfl) (qV (zAr (v:=(.bool (decide (((d.next.length:Int):Int)≤zRA ab)))) rfl (by rw[g6];rfl)) (qA _ rfl (zAB (zAS (zAC (zAF (qV (zAw rfl rfl (zBf qO)) (qM _ rfl (zAB (zAC ?_)))))))))))));exact ⟨d.next.length - (q+1),qO,q+1,(decide ((((d.next.length:Nat):Int):Int)≤zRA ab)),zAs.out ⟨rfl,rfl,rfl,rfl,rfl,trivial⟩,E,Br,qO,(by rw[ad,g5];unfold zDc;rw[g6];rfl),rfl⟩
         ·have a3:q=d.next.length:=qO
          rw[a3,List.take_length] at ag;refine zAl (zAV (zAV (zAf (zAC (zAH (zAA (qM _ rfl (zAB (zAx rfl (fun hb=>?_) (fun hb=>?_))))))))))
          ·have a1:=hb;refine zAA (qA _ rfl (zAB (zAW (zAX (zAZ results36 (v:=(.int .i64 1)) rfl ?_)))));exact ⟨zBM (by unfold zEV;rw[if_neg qO,if_neg ar,if_neg qO,if_neg (by rw[au];simp),if_pos (by rw[←ag];exact hb)]),E⟩
          ·have a1:=hb;refine zAO (zAC (zAA (qA _ rfl (zAB (zAW (zAZ results36 (v:=(.int .i64 0)) rfl ?_))))));exact ⟨zBM (by unfold zEV;rw[if_neg qO,if_neg ar,if_neg qO,if_neg (by rw[au];simp),if_neg (by rw[←ag,hb];simp)]),E⟩
end Go.Proofs
