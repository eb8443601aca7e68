/- Contracts and plain lemmas, part 1. -/
import Derived.Tactics
import Derived.Deep.Quiet
import Derived.Laws.AppendOwn
import Derived.KernelRfl
import Derived.Laws.Entries
import Derived.Laws.Build
import Derived.Below
import Derived.RowKit3
import Derived.StillTail
import Derived.Sort.Grow
import Derived.Deep.Draws
import Derived.Test.YtdbomjjhpidajaaGreatDoorChecked
import Derived.Laws.StructEq
import Derived.MapKept
import Derived.Laws.BytesArg
import Derived.Laws.CopyRow
import Derived.DeepKeys3
import Derived.Lib.SlicesS
import Derived.Laws.Concat
import Derived.Defers
import Derived.Recover
import Derived.Shelf.SlSortCmp.WholeK
import Derived.Shelf.Sort.Plain
import Derived.Shelf.Slices.CompactI
import Derived.Test.YtdbomjjhpidajaaGreatDoorProg
import Derived.ChangeKeysEq
open Go.Proofs.Tryz
set_option maxHeartbeats 16000000
set_option linter.unusedVariables false
namespace Go
theorem qO {p : Prop} (h : p := by omega) : p := h
theorem qD {p : Prop} (h : p := by decide) : p := h
theorem qP {p : Prop} (h : p := by simp) : p := h
theorem qK {p : Prop} (h : p := by kernel_rfl) : p := h
end Go
theorem Go.Proofs.kQ {p:Prop} (h:p:=by kernel_rfl):p:=h
theorem Go.Proofs.kH {p:Prop} (h:¬p:=by intro h;first|omega|(dsimp only at h;omega)):¬p:=h
namespace Go.Eng
open Go
abbrev Env:=Nat→Value
abbrev zFN:=Exit→Env→World→Prop
def upd (σ:Env) (d:Nat) (v:Value):Env:=fun t=>bif Nat.beq t d then v else σ t
def ev (σ:Env):Operand→Value
  | .tmp t=>σ t
  | .const v=>v
  | .global g=>.pointer (some ⟨g,0,none⟩)
  | .func f=>.func (.func f) #[] #[]
def env (a:Act):Env:=fun t=>a.tmps.getD t undef
def lk (t:Nat):List (Nat×Value)→Value→Value
  | [],d=>d
  | (k,v)::r,d=>bif Nat.beq t k then v else lk t r d
def zCT (σ:Env) (l:List (Nat×Value)):Env:=fun t=>lk t l (σ t)
theorem zPD (σ:Env) (l:List (Nat×Value)) (h:∀p∈l,σ p.1=p.2):zCT σ l=σ:=by
  funext t;unfold zCT
  induction l with
  | nil=>rfl
  | cons p r ih=>
    obtain ⟨k,v⟩:=p;simp only[lk];cases hb:Nat.beq t k
    · simp only[cond_false];exact ih fun p hp=>h p (List.mem_cons_of_mem _ hp)
    · have:t=k:=Nat.eq_of_beq_eq_true hb;subst this;simp only[cond_true];exact (h (t,v) List.mem_cons_self).symm
def zAz (σ:Env):List (Nat×Value)→Prop
  | []=>True
  | (k,v)::r=>σ k=v∧zAz σ r
theorem zAz.all {σ:Env}:∀{l:List (Nat×Value)},zAz σ l→∀p∈l,σ p.1=p.2
  | [],_,_,hp=>by cases hp
  | (k,v)::r,h,p,hp=>by
    cases hp with
    | head=>exact h.1
    | tail _ hp=>exact zAz.all h.2 p hp
theorem zAz.out {σ:Env} {l:List (Nat×Value)} (h:zAz σ l):∃j,σ=zCT j l:=⟨σ,(zPD σ l h.all).symm⟩
theorem zCH (a:Act):a.eval=ev (env a):=by
  funext x;cases x<;>rfl
structure Ok (dz:List Deferred) (N:Nat) (a:Act):Prop where
  size:a.tmps.size=N
  defers:a.defers=dz
theorem zDQ {dz:List Deferred} {N:Nat} {a:Act} (h:Ok dz N a) {d:Nat} (hd:d<N) (v:Value):env (a.put (some d) v)=upd (env a) d v:=by
  funext t;have hs:=h.size;simp only[env,upd,Act.put];cases hb:Nat.beq t d
  · have aa:d≠t:=fun e=>by subst e;rw[Nat.beq_refl] at hb;cases hb
    simp[Array.getElem?_setIfInBounds_ne aa]
  · have:t=d:=Nat.eq_of_beq_eq_true hb;subst this;simp[hs,hd]
theorem Ok.put {dz:List Deferred} {N:Nat} {a:Act} (h:Ok dz N a) (d:Option Nat) (v:Value):Ok dz N (a.put d v):=by
  cases d with
  | none=>exact h
  | some d=>exact ⟨by simp[Act.put,h.size],h.defers⟩
def zFr (dz:List Deferred) (N:Nat) (Q:zFN):Exit→Act→World→Prop:=fun e a w=>Ok dz N a∧Q e (env a) w
def Wp (P:Program) (N:Nat) (c:Code) (Q:zFN) (σ:Env) (w:World):Prop:=
  ∀dz a,Ok dz N a→env a=σ→c.wp P (zFr dz N Q) a w
def thn (K:Env→World→Prop) (Q:zFN):zFN
  | .normal=>K
  | e=>Q e
def inB (id:Nat) (Q:zFN):zFN
  | .exit j=>if j=id then Q .normal else Q (.exit j)
  | e=>Q e
section
variable {P : Program} {N : Nat} {Q : zFN} {σ : Env} {w : World} {K : Env → World → Prop}
theorem zAC (h:K σ w):thn K Q .normal σ w:=h
theorem zAT {j:Nat} (h:Q (.exit j) σ w):thn K Q (.exit j) σ w:=h
theorem zAU (h:Q .ret σ w):thn K Q .ret σ w:=h
theorem zAR {id:Nat} (h:Q .normal σ w):inB id Q .normal σ w:=h
theorem zAi {id:Nat} (h:Q .ret σ w):inB id Q .ret σ w:=h
theorem zAg {id:Nat} (h:Q .normal σ w):inB id Q (.exit id) σ w:=by unfold inB;simp only[if_true];exact h
theorem zQO {id j:Nat} (hne:j≠id) (h:Q (.exit j) σ w):inB id Q (.exit j) σ w:=by unfold inB;simp only[hne,if_false];exact h
theorem zVC {c:Code} {Q':zFN} (h:Wp P N c Q σ w) (hq:∀e σ w,Q e σ w→Q' e σ w):Wp P N c Q' σ w:=
  fun dz a ha he=>Code.wp_mono (fun _ _ _ ⟨o,q⟩=>⟨o,hq _ _ _ q⟩) (h dz a ha he)
theorem zAH {x y:Code} (h:Wp P N x (thn (Wp P N y Q) Q) σ w):Wp P N (.seq x y) Q σ w:=by
  intro dz a ha he;refine wp_seq (Code.wp_mono ?_ (h dz a ha he));rintro e a w ⟨o,q⟩;cases e<;>first|exact q dz a o rfl|exact ⟨o,q⟩
theorem zAO (h:Q .normal σ w):Wp P N .skip Q σ w:=fun _ _ ha he=>wp_skip ⟨ha,he▸h⟩
theorem zAn {id:Nat} (h:Q (.exit id) σ w):Wp P N (.exit id) Q σ w:=fun _ _ ha he=>wp_exit ⟨ha,he▸h⟩
theorem zAV (h:Q .ret σ w):Wp P N .ret Q σ w:=fun _ _ ha he=>wp_ret ⟨ha,he▸h⟩
theorem zAS {id:Nat} {c:Code} (h:Wp P N c (inB id Q) σ w):Wp P N (.block id c) Q σ w:=by
  intro dz a ha he;refine wp_block (Code.wp_mono ?_ (h dz a ha he));rintro e a w ⟨o,q⟩;cases e with
  | exit j=>
    unfold Exit.inBlock;unfold inB at q;by_cases hj:j=id
    · simp only[hj,if_true] at q⊢;exact ⟨o,q⟩
    · simp only[hj,if_false] at q⊢;exact ⟨o,q⟩
  | normal=>exact ⟨o,q⟩
  | goto l=>exact ⟨o,q⟩
  | ret=>exact ⟨o,q⟩
  | panic c=>exact ⟨o,q⟩
  | outgrown=>exact ⟨o,q⟩
theorem zBD {c:Operand} {x y:Code} {b:Bool} (hc:ev σ c=.bool b) (ht:b=true→Wp P N x Q σ w) (hf:b=false→Wp P N y Q σ w) :
    Wp P N (.cond c x y) Q σ w:=by
  intro dz a ha he;refine wp_cond_split (t:=b) (by rw[zCH,he];exact hc) (fun h=>ht h dz a ha he) (fun h=>hf h dz a ha he)
theorem zAk {c:Operand} {x y:Code} (hc:ev σ c=.bool true) (h:Wp P N x Q σ w):Wp P N (.cond c x y) Q σ w:=
  zBD hc (fun _=>h) (fun h=>by cases h)
theorem zAP {c:Operand} {x y:Code} (hc:ev σ c=.bool false) (h:Wp P N y Q σ w):Wp P N (.cond c x y) Q σ w:=
  zBD hc (fun h=>by cases h) (fun _=>h)
theorem zAp {c:Code} (I:Nat→Env→World→Prop) {n:Nat} (h0:I n σ w)
    (round:∀n σ w,I n σ w→Wp P N c (thn (fun σ' w'=>∃m,m<n∧I m σ' w') Q) σ w):Wp P N (.loop c) Q σ w:=by
  intro dz a ha he b k cs;have ae:∀n a w,Ok dz N a→I n (env a) w→
      ∃e a' w',zFr dz N Q e a' w'∧Arrives P (lone (b.at a (.code c::.inLoop c::k)) cs w) b k cs e a' w':=by
    intro n
    induction n using Nat.strongRecOn with
    | _ n ih=>
      intro a w ha hI;obtain ⟨e,a1,w1,⟨ho,hq⟩,aa⟩:=round n _ w hI dz a ha rfl b (.inLoop c::k) cs;cases e with
      | normal=>
        obtain ⟨m,ad,ac⟩:=hq;obtain ⟨e2,a2,w2,af,ab⟩:=ih m ad a1 w1 ho ac;exact ⟨e2,a2,w2,af,.of_steps (Steps.trans aa (.one step_inLoop)) ab⟩
      | exit id=>exact ⟨_,a1,w1,⟨ho,hq⟩,.pass (x:=.inLoop c) rfl (fun _ _=>.inl qP) aa⟩
      | goto l=>exact ⟨_,a1,w1,⟨ho,hq⟩,.pass (x:=.inLoop c) rfl (fun _ _=>.inl qP) aa⟩
      | ret=>exact ⟨_,a1,w1,⟨ho,hq⟩,.pass (x:=.inLoop c) rfl (fun _ _=>.inl qP) aa⟩
      | panic ch=>exact ⟨_,a1,w1,⟨ho,hq⟩,.pass (x:=.inLoop c) rfl (fun _ _=>.inl qP) aa⟩
      | outgrown=>exact ⟨_,a1,w1,⟨ho,hq⟩,.pass (x:=.inLoop c) rfl (fun _ _=>.inl qP) aa⟩
  obtain ⟨e,a',w',hq,aa⟩:=ae n a w ha (he▸h0);exact ⟨e,a',w',hq,.of_steps (.one step_loop) aa⟩
end
def WpL (P:Program) (N:Nat) (ops:Array Oper) (K:Env→World→Prop) (Q:zFN) (l:List Oper) (σ:Env) (w:World):Prop:=
  ∀dz a,Ok dz N a→env a=σ→wpList P ops (zFr dz N (thn K Q)) l a w
section
variable {P : Program} {N : Nat} {Q : zFN} {σ : Env} {w : World} {K : Env → World → Prop} {ops : Array Oper} {rest : List Oper}
theorem zAF {id:Nat} {l:List Oper} (h:WpL P N l.toArray (Q .normal) Q l σ w):Wp P N (.region id l.toArray false) Q σ w:=by
  intro dz a ha he;refine wp_region_lit ?_;have:=h dz a ha he;have e:zFr dz N (thn (Q .normal) Q)=zFr dz N Q:=by funext e a w;cases e<;>rfl
  rwa [e] at this
theorem zAA {id:Nat} {l:List Oper} {y:Code} (h:WpL P N l.toArray (Wp P N y Q) Q l σ w):Wp P N (.seq (.region id l.toArray false) y) Q σ w:=by
  refine zAH ?_;intro dz a ha he;exact wp_region_lit (h dz a ha he)
theorem zAB (h:K σ w):WpL P N ops K Q [] σ w:=fun dz a ha he=>⟨ha,by subst he;exact h⟩
theorem zBo {o:Oper} (hg:o.guard=none) {d:Nat} (hd:o.dst=some d) (hN:d<N) {v:Value} {w':World}
    (hr:(execOp (ev σ) o).run P w=.ok (.value v) w') (k:WpL P N ops K Q rest (upd σ d v) w'):WpL P N ops K Q (o::rest) σ w:=by
  intro dz a ha he;refine wpList_plain hg fun K' hK=>?_;unfold Oper.wp;rw[zCH,he,hr];simp only[Oper.upon,hd];exact hK _ _ (k dz _ (ha.put _ _) (by rw[zDQ ha hN,he]))
theorem zGV {o:Oper} (hg:o.guard=none) (hd:o.dst=none) {w':World}
    (hr:(execOp (ev σ) o).run P w=.ok .skip w') (k:WpL P N ops K Q rest σ w'):WpL P N ops K Q (o::rest) σ w:=by
  intro dz a ha he;refine wpList_plain hg fun K' hK=>?_;unfold Oper.wp;rw[zCH,he,hr];simp only[Oper.upon,hd];exact hK _ _ (k dz a ha he)
def Ret (P:Program) (f:FuncId) (args:Array Value) (w:World) (R:Value→World→Prop):Prop:=
  Calls P f args w fun e w'=>∃v,e=.returned v∧R v w'
theorem Ret.mono {f:FuncId} {args:Array Value} {R R':Value→World→Prop} (h:Ret P f args w R) (hr:∀v w',R v w'→R' v w'):Ret P f args w R':=
  Calls.mono h fun _ _ ⟨v,e,r⟩=>⟨v,e,hr _ _ r⟩
theorem zEf {o:Oper} (hg:o.guard=none) {d:Nat} (hd:o.dst=some d) (hN:d<N) {f:FuncId} {args:Array Value} {R:Value→World→Prop}
    (hr:(execOp (ev σ) o).run P w=.ok (.enter f args) w) (hc:Ret P f args w R) (k:∀v w',R v w'→WpL P N ops K Q rest (upd σ d v) w'):WpL P N ops K Q (o::rest) σ w:=by
  intro dz a ha he;refine wpList_plain hg fun K' hK=>?_;unfold Oper.wp;rw[zCH,he,hr];simp only[Oper.upon,hd];refine Calls.mono hc ?_;rintro e w' ⟨v,rfl,r⟩;exact hK _ _ (k v w' r dz _ (ha.put _ _) (by rw[zDQ ha hN,he]))
def zRI (P:Program) (ch:List PanicEntry) (f:FuncId) (args:Array Value) (w:World) (R:Value→World→Prop) (X:World→Prop):Prop:=
  Calls P f args w fun e w'=>(∃v,e=.returned v∧R v w')∨(e=.panicked ch∧X w')
theorem zRI.mono {ch:List PanicEntry} {f:FuncId} {args:Array Value} {R R':Value→World→Prop} {X X':World→Prop} (h:zRI P ch f args w R X) (hr:∀v w',R v w'→R' v w') (hx:∀w',X w'→X' w'):zRI P ch f args w R' X':=
  Calls.mono h fun _ _ h=>h.imp (fun ⟨v,e,r⟩=>⟨v,e,hr _ _ r⟩) fun ⟨e,x⟩=>⟨e,hx _ x⟩
theorem zBd {o:Oper} (hg:o.guard=none) {d:Nat} (hd:o.dst=some d) (hN:d<N) {ch:List PanicEntry} {f:FuncId} {args:Array Value} {R:Value→World→Prop} {X:World→Prop}
    (hr:(execOp (ev σ) o).run P w=.ok (.enter f args) w) (hc:zRI P ch f args w R X) (hx:∀w',X w'→Q (.panic ch) σ w') (k:∀v w',R v w'→WpL P N ops K Q rest (upd σ d v) w'):WpL P N ops K Q (o::rest) σ w:=by
  intro dz a ha he;refine wpList_plain hg fun K' hK=>?_;unfold Oper.wp;rw[zCH,he,hr];simp only[Oper.upon,hd];refine Calls.mono hc ?_;rintro e w' (⟨v,rfl,r⟩|⟨rfl,x⟩)
  · exact hK _ _ (k v w' r dz _ (ha.put _ _) (by rw[zDQ ha hN,he]))
  · exact ⟨ha,by rw[he];exact hx _ x⟩
theorem zAG {dst:Option Tmp} {op:Op} {ty:TypeId} {pos:String} {af:Array Edge} {j:Nat} {b:Bool} {oj:Oper} {dj:Nat}
    (hj:ops[j]?=some oj) (hdj:oj.dst=some dj) (hN:dj<N) (hy:σ dj=.bool b)
    (k:WpL P N ops K Q (⟨dst,op,ty,pos,af,none⟩::rest) σ w):WpL P N ops K Q (⟨dst,op,ty,pos,af,some (j,b)⟩::rest) σ w:=by
  intro dz a ha he;have h1:=k dz a ha he;have hw:Region.wanted ⟨dst,op,ty,pos,af,some (j,b)⟩ (yielded ops a.tmps)=true:=by
    simp only[Region.wanted,yielded,hj,hdj,Option.bind_some];have:a.tmps[dj]?=some (Value.bool b):=by
      have h2:a.tmps.getD dj undef=.bool b:=by rw[←hy,←he];rfl
      have aa:dj<a.tmps.size:=by rw[ha.size];exact hN
      rw[Array.getElem?_eq_getElem aa];simpa[aa] using h2
    simp[this]
  unfold wpList at h1⊢;rw[if_pos hw];rw[if_pos (by rfl)] at h1;exact h1
theorem zAM {d:Nat} {op:Op} {ty:TypeId} {pos:String} {af:Array Edge} {j:Nat} {b:Bool} {oj:Oper} {dj:Nat} {v:Value}
    (hj:ops[j]?=some oj) (hdj:oj.dst=some dj) (hd:d<N) (hy:σ dj=v) (hv:v=.bool (!b)∨v=undef)
    (k:WpL P N ops K Q rest (upd σ d undef) w):WpL P N ops K Q (⟨some d,op,ty,pos,af,some (j,b)⟩::rest) σ w:=by
  intro dz a ha he;have hw:Region.wanted ⟨some d,op,ty,pos,af,some (j,b)⟩ (yielded ops a.tmps)=false:=by
    simp only[Region.wanted,yielded,hj,hdj,Option.bind_some];have h2:a.tmps.getD dj undef=v:=by rw[←hy,←he];rfl
    cases hx:a.tmps[dj]? with
    | none=>simp
    | some u=>
      have:u=v:=by simpa[hx] using h2
      subst this;rcases hv with rfl|rfl
      · cases b<;>simp
      · simp[undef]
  unfold wpList;rw[hw,if_neg qP];exact k dz _ (ha.put _ _) (by rw[zDQ ha hd,he])
theorem zKV {d:Nat} {op:Op} {ty:TypeId} {pos:String} {af:Array Edge} {j:Nat} {b:Bool} {oj:Oper} {dj:Nat} {gv u:Value}
    (hj:ops[j]?=some oj) (hdj:oj.dst=some dj) (hN:dj<N) (hd:d<N) (hy:σ dj=gv)
    (h:(gv=.bool b∧(execOp (ev σ) ⟨some d,op,ty,pos,af,none⟩).run P w=.ok (.value u) w)∨((gv=.bool (!b)∨gv=undef)∧u=undef))
    (k:WpL P N ops K Q rest (upd σ d u) w):WpL P N ops K Q (⟨some d,op,ty,pos,af,some (j,b)⟩::rest) σ w:=by
  rcases h with ⟨h1,h2⟩|⟨h1,rfl⟩
  · exact zAG hj hdj hN (hy.trans h1) (zBo rfl rfl hd h2 k)
  · exact zAM hj hdj hd hy h1 k
end
def fin (P:Program) (fn:Func) (R:Value→World→Prop):zFN
  | .normal,σ,w | .ret,σ,w=>∃v,(∀a:Act,env a=σ→(results fn a.tmps).run P w=.ok v w)∧R v w
  | _,_,_=>False
theorem zDc {P:Program} {f:FuncId} {fn:Func} {c:Code} {N:Nat} {args:Array Value} {w:World} {R:Value→World→Prop}
    (hf:P.funcs[f]?=some fn) (hb:fn.body=some c) (hn:fn.ntmps=N) (hsz:args.size≤N)
    (h:Wp P N c (fin P fn R) (fun t=>args.getD t undef) w):Ret P f args w R:=by
  refine calls_of_wp hf hb (Code.wp_mono ?_ (h [] _ ⟨?_,rfl⟩ ?_))
  · rintro e a w ⟨o,q⟩;cases e<;>simp only[fin] at q
    · obtain ⟨v,hv,r⟩:=q;exact ⟨o.defers,v,hv a rfl,v,rfl,r⟩
    · obtain ⟨v,hv,r⟩:=q;exact ⟨o.defers,v,hv a rfl,v,rfl,r⟩
  · simp[hn];omega
  · funext t;simp only[env,Array.getD_eq_getD_getElem?,Array.getElem?_append];split
    · rfl
    · rename_i hlt
      rw[Array.getElem?_replicate,Array.getElem?_eq_none (xs:=args) qO];split<;>rfl
def zXO (P:Program) (ch:List PanicEntry) (fn:Func) (R:Value→World→Prop) (X:World→Prop):zFN
  | .panic c,_,w=>c=ch∧X w
  | e,σ,w=>fin P fn R e σ w
theorem zDj {P:Program} {ch:List PanicEntry} {f:FuncId} {fn:Func} {c:Code} {N:Nat} {args:Array Value} {w:World} {R:Value→World→Prop} {X:World→Prop}
    (hf:P.funcs[f]?=some fn) (hb:fn.body=some c) (hn:fn.ntmps=N) (hsz:args.size≤N)
    (h:Wp P N c (zXO P ch fn R X) (fun t=>args.getD t undef) w):zRI P ch f args w R X:=by
  refine calls_of_wp hf hb (Code.wp_mono ?_ (h [] _ ⟨?_,rfl⟩ ?_))
  · rintro e a w ⟨o,q⟩;cases e<;>simp only[zXO,fin] at q
    · obtain ⟨v,hv,r⟩:=q;exact ⟨o.defers,v,hv a rfl,.inl ⟨v,rfl,r⟩⟩
    · obtain ⟨v,hv,r⟩:=q;exact ⟨o.defers,v,hv a rfl,.inl ⟨v,rfl,r⟩⟩
    · obtain ⟨rfl,x⟩:=q;exact ⟨o.defers,.inr ⟨rfl,x⟩⟩
  · simp[hn];omega
  · funext t;simp only[env,Array.getD_eq_getD_getElem?,Array.getElem?_append];split
    · rfl
    · rename_i hlt
      rw[Array.getElem?_replicate,Array.getElem?_eq_none (xs:=args) qO];split<;>rfl
theorem zAY {P:Program} {fn:Func} {R:Value→World→Prop} {t:Nat} (hr:fn.results=#[.tmp t]) {σ:Env} {w:World} {v:Value} (hv:σ t=v) (h:R v w):fin P fn R .ret σ w:=
  ⟨v,fun a ha=>by rw[results_tmp hr];subst ha;rw[←hv];rfl,h⟩
theorem zCO {P:Program} {fn:Func} {R:Value→World→Prop} {t u:Nat} (hr:fn.results=#[.tmp t,.tmp u]) {σ:Env} {w:World} {v v':Value} (hv:σ t=v) (hv':σ u=v') (h:R (.tuple #[v,v']) w):fin P fn R .ret σ w:=
  ⟨.tuple #[v,v'],fun a ha=>by rw[results_tmp2 hr];subst ha;rw[←hv,←hv'];rfl,h⟩
theorem zFW {P:Program} {fn:Func} {R:Value→World→Prop} (hr:fn.results=#[]) {σ:Env} {w:World} (h:R (.tuple #[]) w):fin P fn R .normal σ w:=
  ⟨.tuple #[],fun a ha=>by rw[results_none hr],h⟩
theorem zQe {P:Program} {fn:Func} {R:Value→World→Prop} (hr:fn.results=#[]) {σ:Env} {w:World} (h:R (.tuple #[]) w):fin P fn R .ret σ w:=
  ⟨.tuple #[],fun a ha=>by rw[results_none hr],h⟩
end Go.Eng
namespace Go.Eng
open Go
structure Chg (M:Nat→Prop) (w w':World):Prop where
  os:w'.os=w.os
  tape:w'.tape=w.tape
  output:w'.output=w.output
  drw:w.drawn≤w'.drawn
  size:w.heap.size≤w'.heap.size
  blk:∀b,b<w.heap.size→¬M b→w'.heap[b]?=w.heap[b]?
def zAh:Nat→Prop:=fun _=>False
def Ext (w w':World):Prop:=Chg zAh w w'
def Blk (w:World) (b:Nat) (c:Array Value) (t:TypeId):Prop:=w.heap[b]?=some (.cells c t (0,0))
theorem Chg.refl (M:Nat→Prop) (w:World):Chg M w w:=⟨rfl,rfl,rfl,Nat.le_refl _,Nat.le_refl _,fun _ _ _=>rfl⟩
theorem Ext.refl (w:World):Ext w w:=Chg.refl _ w
theorem Chg.step {M M':Nat→Prop} {a b c:World} (h:Chg M a b) (k:Chg M' b c) (hm:∀x,x<a.heap.size→M' x→M x):Chg M a c:=
  ⟨k.os.trans h.os,k.tape.trans h.tape,k.output.trans h.output,Nat.le_trans h.drw k.drw,Nat.le_trans h.size k.size,
    fun x hx hn=>(k.blk x (Nat.lt_of_lt_of_le hx h.size) (fun hm'=>hn (hm x hx hm'))).trans (h.blk x hx hn)⟩
theorem Chg.trans {M:Nat→Prop} {a b c:World} (h:Chg M a b) (k:Chg M b c):Chg M a c:=h.step k fun _ _ x=>x
theorem Chg.ext {M:Nat→Prop} {a b c:World} (h:Chg M a b) (k:Ext b c):Chg M a c:=h.step k fun _ _ x=>x.elim
theorem Ext.trans {a b c:World} (h:Ext a b) (k:Ext b c):Ext a c:=Chg.trans h k
theorem Ext.chg {M:Nat→Prop} {a b:World} (h:Ext a b):Chg M a b:=⟨h.os,h.tape,h.output,h.drw,h.size,fun x hx _=>h.blk x hx (fun f=>f)⟩
theorem Chg.mono {M M':Nat→Prop} {a b:World} (h:Chg M a b) (hm:∀x,x<a.heap.size→M x→M' x):Chg M' a b:=
  ⟨h.os,h.tape,h.output,h.drw,h.size,fun x hx hn=>h.blk x hx fun m=>hn (hm x hx m)⟩
theorem Blk.lt {w:World} {b:Nat} {c:Array Value} {t:TypeId} (h:Blk w b c t):b<w.heap.size:=(Array.getElem?_eq_some_iff.1 h).1
theorem Chg.keep {M:Nat→Prop} {w w':World} (h:Chg M w w') {b:Nat} {c:Array Value} {t:TypeId} (hm:¬M b) (hb:Blk w b c t):Blk w' b c t:=
  (h.blk b hb.lt hm).trans hb
theorem Ext.keep {w w':World} (h:Ext w w') {b:Nat} {c:Array Value} {t:TypeId} (hb:Blk w b c t):Blk w' b c t:=Chg.keep h (fun f=>f) hb
theorem Chg.cell {M:Nat→Prop} {w w':World} (h:Chg M w w') {a:Addr} {v:Value} (hm:¬M a.block) (hc:w.cell? a=some v):w'.cell? a=some v:=
  (World.cell?_of_block (w:=w) (h.blk a.block (World.block_lt_of_cell? w a hc) hm)).trans hc
theorem Ext.cell {w w':World} (h:Ext w w') {a:Addr} {v:Value} (hc:w.cell? a=some v):w'.cell? a=some v:=Chg.cell h (fun f=>f) hc
theorem Blk.cell {w:World} {b:Nat} {c:Array Value} {t:TypeId} (h:Blk w b c t) {o:Nat} {v:Value} (hv:c[o]?=some v):w.cell? ⟨b,o,none⟩=some v:=by
  unfold Blk at h;simp[World.cell?,h,hv]
theorem Ext.below {w w':World} (h:Ext w w'):RowKit.Below w.heap.size w w':=⟨h.os,h.tape,h.output,h.size,fun k hk=>h.blk k hk fun f=>f⟩
theorem Ext.grown {w w':World} (h:Ext w w'):∃q os,w'=Sort.grow (w.drewN q) os:=by
  refine ⟨w'.drawn - w.drawn,w'.heap.extract w.heap.size w'.heap.size,?_⟩;have h1:=h.os;have h2:=h.tape;have h3:=h.output;have h4:=h.drw;have h5:=h.size;have h6:=h.blk;obtain ⟨hp,tp,dr,o,ou⟩:=w';obtain ⟨aa,tp',dr',o',ou'⟩:=w;simp only at h1 h2 h3 h4 h5 h6;subst h1;subst h2;subst h3;simp only[Sort.grow,World.drewN,World.mk.injEq,and_true,true_and];refine ⟨?_,qO⟩;apply Array.ext_getElem?;intro i;rw[Array.getElem?_append];by_cases hi:i<aa.size
  · rw[if_pos hi];exact h6 i hi fun f=>f
  · rw[if_neg hi,Array.getElem?_extract];by_cases h7:i<hp.size
    · rw[if_pos qO];congr 1;omega
    · rw[if_neg qO,Array.getElem?_eq_none qO]
structure New (w w':World) (b:Nat) (c:Array Value) (t:TypeId):Prop where
  blk:Blk w' b c t
  ext:Ext w w'
  eq:b=w.heap.size
  size:w'.heap.size=w.heap.size+1
theorem New.mk' (w:World) (c:Array Value) (t:TypeId):New w {w with heap:=w.heap.push (.cells c t (0,0))} w.heap.size c t:=
  ⟨by unfold Blk;simp,⟨rfl,rfl,rfl,Nat.le_refl _,qP,fun x hx _=>by simp[Array.getElem?_push,Nat.ne_of_lt hx]⟩,rfl,qP⟩
theorem New.keep {w w':World} {b:Nat} {c:Array Value} {t:TypeId} (h:New w w' b c t) {b':Nat} {c':Array Value} {t':TypeId} (hb:Blk w b' c' t'):Blk w' b' c' t':=h.ext.keep hb
theorem New.lt {w w':World} {b:Nat} {c:Array Value} {t:TypeId} (h:New w w' b c t) {b':Nat} {c':Array Value} {t':TypeId} (hb:Blk w b' c' t'):b'<b:=by rw[h.eq];exact hb.lt
theorem New.ge {w0 w w':World} {b:Nat} {c:Array Value} {t:TypeId} (h:New w w' b c t) {M:Nat→Prop} (e:Chg M w0 w):w0.heap.size≤b:=by rw[h.eq];exact e.size
structure Put (w w':World) (b:Nat) (c:Array Value) (t:TypeId):Prop where
  blk:Blk w' b c t
  chg:Chg (fun x=>x=b) w w'
  size:w'.heap.size=w.heap.size
theorem Put.of_setRow {w:World} {b:Nat} {c:Array Value} {t:TypeId} (h:Blk w b c t) (c':Array Value):Put w (w.setRow b c') b c' t:=
  ⟨setRow_heap w b c c' t _ h,⟨rfl,rfl,rfl,Nat.le_refl _,by simp[World.setRow],fun x _ hn=>setRow_other w b x c' hn⟩,by simp[World.setRow]⟩
theorem Put.keep {w w':World} {b:Nat} {c:Array Value} {t:TypeId} (h:Put w w' b c t) {b':Nat} {c':Array Value} {t':TypeId} (hne:b'≠b) (hb:Blk w b' c' t'):Blk w' b' c' t':=h.chg.keep hne hb
theorem Put.ext {w0 w w':World} {b:Nat} {c:Array Value} {t:TypeId} (h:Put w w' b c t) {M:Nat→Prop} (e:Chg M w0 w) (hb:w0.heap.size≤b):Chg M w0 w':=
  e.step h.chg fun x hx hm=>by subst hm;omega
theorem Put.step {w0 w w':World} {b:Nat} {c:Array Value} {t:TypeId} (h:Put w w' b c t) {M:Nat→Prop} (e:Chg M w0 w) (hb:w0.heap.size≤b∨M b):Chg M w0 w':=
  e.step h.chg fun x hx hm=>by subst hm;rcases hb with hb|hb;omega;exact hb
def zBE (w:World) (b o:Nat) (vs:List Value):Prop:=∀i v,vs[i]?=some v→w.cell? ⟨b,o+i,none⟩=some v
theorem zBE.chg {M:Nat→Prop} {w w':World} {b o:Nat} {vs:List Value} (h:zBE w b o vs) (e:Chg M w w') (hm:¬M b):zBE w' b o vs:=
  fun i v hv=>e.cell hm (h i v hv)
theorem zBE.ext {w w':World} {b o:Nat} {vs:List Value} (h:zBE w b o vs) (e:Ext w w'):zBE w' b o vs:=h.chg e fun f=>f
theorem Blk.cells {w:World} {b:Nat} {c:Array Value} {t:TypeId} (h:Blk w b c t) {o:Nat} {vs:List Value} (hv:(c.toList.drop o).take vs.length=vs):zBE w b o vs:=by
  intro i v hi;refine h.cell ?_;have aa:i<vs.length:=by
    rcases Nat.lt_or_ge i vs.length with h|h
    · exact h
    · simp[List.getElem?_eq_none h] at hi
  rw[←hv,List.getElem?_take_of_lt aa,List.getElem?_drop] at hi;simpa using hi
def Siz (P:Program) (t:TypeId) (n:Nat):Prop:=(P.info? t).map (fun i=>i.size)=some n
def Byt (P:Program) (t:TypeId) (n:Nat):Prop:=(P.info? t).map (fun i=>i.bytes)=some n
def Zer (P:Program) (t:TypeId) (z:Value):Prop:=(P.info? t).bind (fun i=>i.zero)=some z
def zDF (P:Program) (t:TypeId):Bool:=match P.underlying t with
  | some (.struct _)|some (.array _ _)|none=>false
  | some _=>true
def zLq (P:Program) (t:TypeId):Bool:=match P.underlying t with
  | some (.struct _)|some (.array _ _)=>true
  | _=>false
theorem Siz.run {P:Program} {t:TypeId} {n:Nat} (h:Siz P t n) (w:World):(sizeOf t).run P w=.ok n w:=by
  unfold Siz at h;cases hi:P.info? t with
  | none=>simp[hi] at h
  | some i=>simp[hi] at h;simp[sizeOf,typeInfo,hi,h]
theorem Zer.run {P:Program} {t:TypeId} {z:Value} (h:Zer P t z) (w:World):(zeroValue t).run P w=.ok z w:=by
  unfold Zer at h;cases hi:P.info? t with
  | none=>simp[hi] at h
  | some i=>simp[hi] at h;simp[zeroValue,typeInfo,hi,h]
theorem zDF.run {P:Program} {t:TypeId} (h:zDF P t=true) (w:World):(isAgg t).run P w=.ok false w:=by
  unfold zDF at h;cases hi:P.underlying t with
  | none=>simp[hi] at h
  | some d=>cases d<;>simp[hi] at h<;>simp[isAgg,run_underlying hi]
theorem zLq.run {P:Program} {t:TypeId} (h:zLq P t=true) (w:World):(isAgg t).run P w=.ok true w:=by
  unfold zLq at h;cases hi:P.underlying t with
  | none=>simp[hi] at h
  | some d=>cases d<;>simp[hi] at h<;>simp[isAgg,run_underlying hi]
section
variable {P : Program} {σ : Env} {w : World} {dst : Option Tmp} {ty : TypeId} {pos : String} {af : Array Edge} {g : Option (Nat × Bool)}
theorem zAl {x:Operand} {v:Value} (hx:ev σ x=v):(execOp (ev σ) ⟨dst,.move x,ty,pos,af,g⟩).run P w=.ok (.value v) w:=by subst hx;rfl
theorem zEp {x:Operand} {v:Value} (hx:ev σ x=v):(execOp (ev σ) ⟨dst,.assign x,ty,pos,af,g⟩).run P w=.ok (.value v) w:=by subst hx;rfl
theorem zAr {c x y:Operand} {b:Bool} {v:Value} (hc:ev σ c=.bool b) (hv:(if b then ev σ x else ev σ y)=v):(execOp (ev σ) ⟨dst,.pick c x y,ty,pos,af,g⟩).run P w=.ok (.value v) w:=by
  subst hv;simp only[execOp,hc,asBool];cases b<;>rfl
theorem zBh {x:Operand} {a:Addr} (hx:ev σ x=.pointer (some a)):(execOp (ev σ) ⟨dst,.nilCheck x,ty,pos,af,g⟩).run P w=.ok (.value (.pointer (some a))) w:=by
  simp only[execOp,hx];rfl
theorem zCa {t:TypeId} {x:Operand} {b:Bool} (hx:ev σ x=.bool b):(execOp (ev σ) ⟨dst,.unOp .not t x,ty,pos,af,g⟩).run P w=.ok (.value (.bool (!b))) w:=by
  simp only[execOp,hx];rfl
theorem zDW {s t:TypeId} {x:Operand} {k k':IntKind} {n c:Int} (hs:∃d,P.underlying s=some d) (ht:P.underlying t=some (.int k')) (hx:ev σ x=.int k n) (hw:k'.wrap n=c) :
    (execOp (ev σ) ⟨dst,.convert s t x,ty,pos,af,g⟩).run P w=.ok (.value (.int k' c)) w:=by
  obtain ⟨d,hd⟩:=hs;subst hw;simp only[execOp,hx,convert,Sem.run_bind,run_underlying hd,run_underlying ht,Result.andThen_ok];rfl
variable {t t' : TypeId} {x y : Operand} {k : IntKind} {a b c : Int}
theorem zAv (hx:ev σ x=.int k a) (hy:ev σ y=.int k b) (hw:k.wrap (a+b)=c):(execOp (ev σ) ⟨dst,.binOp .add t x y t',ty,pos,af,g⟩).run P w=.ok (.value (.int k c)) w:=by
  subst hw;simp only[execOp,hx,hy,eqGuard,binOp];simp[Op.intArith]
theorem zEJ (hx:ev σ x=.int k a) (hy:ev σ y=.int k b) (hw:k.wrap (a - b)=c):(execOp (ev σ) ⟨dst,.binOp .sub t x y t',ty,pos,af,g⟩).run P w=.ok (.value (.int k c)) w:=by
  subst hw;simp only[execOp,hx,hy,eqGuard,binOp];simp[Op.intArith]
theorem zPf (hx:ev σ x=.int k a) (hy:ev σ y=.int k b) (hw:k.wrap (a*b)=c):(execOp (ev σ) ⟨dst,.binOp .mul t x y t',ty,pos,af,g⟩).run P w=.ok (.value (.int k c)) w:=by
  subst hw;simp only[execOp,hx,hy,eqGuard,binOp];simp[Op.intArith]
theorem zUD (hx:ev σ x=.int k a) (hy:ev σ y=.int k b) (h0:b≠0) (hw:a.tmod b=c):(execOp (ev σ) ⟨dst,.binOp .rem t x y t',ty,pos,af,g⟩).run P w=.ok (.value (.int k c)) w:=by
  subst hw;simp only[execOp,hx,hy,eqGuard,binOp];simp[Op.intDiv,h0]
theorem zUE (hx:ev σ x=.int k a) (hy:ev σ y=.int k b) (h0:b≠0) (hw:k.wrap (a.tdiv b)=c):(execOp (ev σ) ⟨dst,.binOp .quo t x y t',ty,pos,af,g⟩).run P w=.ok (.value (.int k c)) w:=by
  subst hw;simp only[execOp,hx,hy,eqGuard,binOp];simp[Op.intDiv,h0]
theorem zBF (hx:ev σ x=.int k a) (hy:ev σ y=.int k b):(execOp (ev σ) ⟨dst,.binOp .lss t x y t',ty,pos,af,g⟩).run P w=.ok (.value (.bool (decide (a<b)))) w:=by
  simp only[execOp,hx,hy,eqGuard,binOp];simp[Op.intCmp]
theorem zKs (hx:ev σ x=.int k a) (hy:ev σ y=.int k b):(execOp (ev σ) ⟨dst,.binOp .leq t x y t',ty,pos,af,g⟩).run P w=.ok (.value (.bool (decide (a≤b)))) w:=by
  simp only[execOp,hx,hy,eqGuard,binOp];simp[Op.intCmp]
theorem zDB (hx:ev σ x=.int k a) (hy:ev σ y=.int k b):(execOp (ev σ) ⟨dst,.binOp .gtr t x y t',ty,pos,af,g⟩).run P w=.ok (.value (.bool (decide (b<a)))) w:=by
  simp only[execOp,hx,hy,eqGuard,binOp];simp[Op.intCmp]
theorem zDK (hx:ev σ x=.int k a) (hy:ev σ y=.int k b):(execOp (ev σ) ⟨dst,.binOp .geq t x y t',ty,pos,af,g⟩).run P w=.ok (.value (.bool (decide (b≤a)))) w:=by
  simp only[execOp,hx,hy,eqGuard,binOp];simp[Op.intCmp]
theorem zAs (hx:ev σ x=.int k a) (hy:ev σ y=.int k b):(execOp (ev σ) ⟨dst,.binOp .eql t x y t',ty,pos,af,g⟩).run P w=.ok (.value (.bool (decide (a=b)))) w:=by
  have:(a == b)=decide (a=b):=by rw[Bool.eq_iff_iff];simp
  rw[←this];simp only[execOp,hx,hy,eqGuard,binOp];simp[Op.intCmp]
theorem zDA (hx:ev σ x=.int k a) (hy:ev σ y=.int k b):(execOp (ev σ) ⟨dst,.binOp .neq t x y t',ty,pos,af,g⟩).run P w=.ok (.value (.bool (decide (a≠b)))) w:=by
  have:(a != b)=decide (a≠b):=by rw[Bool.eq_iff_iff];simp
  rw[←this];simp only[execOp,hx,hy,eqGuard,binOp];simp[Op.intCmp]
theorem zJF {op:BinOp} {v:Value} (hx:ev σ x=.int k a) (hy:ev σ y=.int k b) (ho:op=.and∨op=.or∨op=.xor∨op=.andNot) (hv:(Op.intBits op k a b).run P w=.ok v w) :
    (execOp (ev σ) ⟨dst,.binOp op t x y t',ty,pos,af,g⟩).run P w=.ok (.value v) w:=by
  rcases ho with rfl|rfl|rfl|rfl<;>(simp only[execOp,hx,hy,eqGuard,binOp];simp[hv])
theorem zVm {k':IntKind} (hx:ev σ x=.int k a) (hy:ev σ y=.int k' b) (h0:0≤b) (hw:k.wrap (a*2 ^ (min b.toNat k.bits))=c) :
    (execOp (ev σ) ⟨dst,.binOp .shl t x y t',ty,pos,af,g⟩).run P w=.ok (.value (.int k c)) w:=by
  subst hw;simp only[execOp,hx,hy,eqGuard,binOp];simp[Op.shift,Int.not_lt.2 h0]
theorem zIg {k':IntKind} (hx:ev σ x=.int k a) (hy:ev σ y=.int k' b) (h0:0≤b) (hw:a.fdiv (2 ^ (min b.toNat k.bits))=c) :
    (execOp (ev σ) ⟨dst,.binOp .shr t x y t',ty,pos,af,g⟩).run P w=.ok (.value (.int k c)) w:=by
  subst hw;simp only[execOp,hx,hy,eqGuard,binOp];simp[Op.shift,Int.not_lt.2 h0]
theorem zAJ {e:TypeId} {ad:Option Addr} {n cap:Nat} (hu:P.underlying t=some (.slice e)) (hx:ev σ x=.slice ad n cap) :
    (execOp (ev σ) ⟨dst,.call ⟨.builtin .len,#[x],#[t]⟩,ty,pos,af,g⟩).run P w=.ok (.value (.int .i64 n)) w:=by
  simp only[execOp,resolve,List.map_toArray,List.map_cons,List.map_nil,hx];simp[invoke,builtin,Builtin.len_,run_underlying hu,goInt]
theorem zAZ {fs:Array Field} {f:Field} {i n b o o':Nat} (hx:ev σ x=.pointer (some ⟨b,o,none⟩)) (hu:P.underlying t=some (.struct fs)) (hf:fs[i]?=some f) (hs:Siz P f.type (n+1)) (ho:o+f.offset=o') :
    (execOp (ev σ) ⟨dst,.fieldAddr t x i,ty,pos,af,g⟩).run P w=.ok (.value (.pointer (some ⟨b,o',none⟩))) w:=by
  subst ho;simp[execOp,hx,Instr.fieldAt,run_underlying hu,hf,Instr.sureAddr,fieldPlace,hs.run,Addr.add_lit]
theorem zAD {e:TypeId} {n b o o' len cap i:Nat} {k:IntKind} {a:Int} (hx:ev σ x=.slice (some ⟨b,o,none⟩) len cap) (hy:ev σ y=.int k a) (ha:a=(i:Int)) (hu:P.underlying t=some (.slice e)) (hs:Siz P e n) (hi:i<len) (ho:o+i*n=o') :
    (execOp (ev σ) ⟨dst,.indexAddr t x y,ty,pos,af,g⟩).run P w=.ok (.value (.pointer (some ⟨b,o',none⟩))) w:=by
  subst ho;subst ha;have h1:(0:Int)≤(i:Int)∧(i:Int)<(len:Int):=qO
  simp[execOp,hx,hy,Instr.indexAt,asIntOf,run_underlying hu,hs.run,Addr.add_lit,hi]
theorem zCB {e:TypeId} {n b o o' len i:Nat} {k:IntKind} {a:Int} (hx:ev σ x=.pointer (some ⟨b,o,none⟩)) (hy:ev σ y=.int k a) (ha:a=(i:Int)) (hu:P.underlying t=some (.array len e)) (hs:Siz P e n) (hi:i<len) (ho:o+i*n=o') :
    (execOp (ev σ) ⟨dst,.indexAddr t x y,ty,pos,af,g⟩).run P w=.ok (.value (.pointer (some ⟨b,o',none⟩))) w:=by
  subst ho;subst ha;simp[execOp,hx,hy,Instr.indexAt,Instr.sureAddr,asIntOf,run_underlying hu,hs.run,Addr.add_lit,hi]
theorem zFC {e:TypeId} {a a':Option Addr} {n len cap lo n' c':Nat} {k:IntKind} {l:Int} (hu:P.underlying t=some (.slice e)) (hs:Siz P e n) (hx:ev σ x=.slice a len cap) (hy:ev σ y=.int k l) (hl:l=(lo:Int)) (h1:lo≤len) (ha:(if cap=lo then a else a.map (·.add (lo*n)))=a') (hn:len - lo=n') (hc:cap - lo=c') :
    (execOp (ev σ) ⟨dst,.slice t x (some y) none none,ty,pos,af,g⟩).run P w=.ok (.value (.slice a' n' c')) w:=by
  subst ha;subst hn;subst hc;subst hl;have h2:(0:Int)≤(lo:Int)∧(lo:Int)≤(len:Int):=qO
  simp[execOp,hx,hy,Instr.sliceAt,Instr.slice,run_underlying hu,Instr.sliceBounds,Instr.sliceBound,asIntOf,h1,hs.run]
theorem zGD {e:TypeId} {a a':Option Addr} {n len cap hi:Nat} {k:IntKind} {l:Int} (hu:P.underlying t=some (.slice e)) (hs:Siz P e n) (hx:ev σ x=.slice a len cap) (hy:ev σ y=.int k l) (hl:l=(hi:Int)) (h1:hi≤cap) (ha:(if cap=0 then a else a.map (·.add (0*n)))=a') :
    (execOp (ev σ) ⟨dst,.slice t x none (some y) none,ty,pos,af,g⟩).run P w=.ok (.value (.slice a' hi cap)) w:=by
  subst ha;subst hl;simp[execOp,hx,hy,Instr.sliceAt,Instr.slice,run_underlying hu,Instr.sliceBounds,Instr.sliceBound,asIntOf,h1,hs.run]
theorem zAI {ad:Addr} {v:Value} (hx:ev σ x=.pointer (some ad)) (hf:zDF P t=true) (hc:w.cell? ad=some v) :
    (execOp (ev σ) ⟨dst,.load t x,ty,pos,af,g⟩).run P w=.ok (.value v) w:=by
  simp[execOp,hx,Instr.loadAt,Instr.sureAddr,loadVar,zDF.run hf,hc]
theorem zAK {b o n:Nat} {vs:List Value} (hx:ev σ x=.pointer (some ⟨b,o,none⟩)) (hf:zLq P t=true) (hs:Siz P t n) (hn:vs.length=n) (hc:zBE w b o vs) :
    (execOp (ev σ) ⟨dst,.load t x,ty,pos,af,g⟩).run P w=.ok (.value (.agg vs.toArray)) w:=by
  subst hn;have h1:=run_loadCells_list (P:=P) w ⟨b,o,none⟩ vs (fun j v hj=>by rw[Addr.add_lit];exact hc j v hj);simp[execOp,hx,Instr.loadAt,Instr.sureAddr,loadVar,zLq.run hf,hs.run,h1]
theorem zBV {fn:Fn} {first captured:List Operand} {vs us:List Value} (h1:first.map (ev σ)=vs) (h2:captured.map (ev σ)=us) :
    (execOp (ev σ) ⟨dst,.makeFunc fn first.toArray captured.toArray,ty,pos,af,g⟩).run P w=.ok (.value (.func fn vs.toArray us.toArray)) w:=by
  subst h1;subst h2;simp[execOp,Instr.makeFunc]
theorem zAa {i:Nat} {vs:Array Value} {v:Value} (hx:ev σ x=.tuple vs) (hv:vs[i]?=some v) :
    (execOp (ev σ) ⟨dst,.extract x i,ty,pos,af,g⟩).run P w=.ok (.value v) w:=by
  simp[execOp,hx,Instr.extract,hv]
theorem zBA {parts:List (Nat×Operand)} {ps:List (Nat×Value)} {v:Value} (hp:(parts.map fun (i,x)=>(i,ev σ x))=ps) (hb:(Instr.build t ps.toArray).run P w=.ok v w) :
    (execOp (ev σ) ⟨dst,.build t parts.toArray,ty,pos,af,g⟩).run P w=.ok (.value v) w:=by
  subst hp;simp[execOp,hb]
theorem zFz {f : FuncId} {fn : Func} {vs : Array Value} (hf : P.funcs[f]? = some fn) (hn : (fn.name == "runtime.NumGoroutine") = false) (hb : fn.body.isNone = false) :
    (callFunc f vs).run P w=.ok (.enter f vs) w:=by
  simp only[callFunc,Sem.run_bind,run_program,Result.andThen_ok,hf,hn,hb,Bool.false_eq_true,if_false];rfl
theorem zAQ {f : FuncId} {fn : Func} {args : List Operand} {tys : Array TypeId} {vs : List Value} (hf : P.funcs[f]? = some fn) (hn : (fn.name == "runtime.NumGoroutine") = false) (hb : fn.body.isNone = false) (ha : args.map (ev σ) = vs) :
    (execOp (ev σ) ⟨dst,.call ⟨.value (.func f),args.toArray,tys⟩,ty,pos,af,g⟩).run P w=.ok (.enter f vs.toArray) w:=by
  subst ha;simp[execOp,resolve,ev,Deferred.ofValue,invoke,zFz hf hn hb]
theorem zDL {f : FuncId} {fn : Func} {z : Operand} {args : List Operand} {tys : Array TypeId} {first cap ws : Array Value} {vs : List Value} (hz : ev σ z = .func (.func f) first cap) (hf : P.funcs[f]? = some fn) (hn : (fn.name == "runtime.NumGoroutine") = false) (hb : fn.body.isNone = false) (ha : args.map (ev σ) = vs) (hws : first ++ vs.toArray ++ cap = ws) :
    (execOp (ev σ) ⟨dst,.call ⟨.value z,args.toArray,tys⟩,ty,pos,af,g⟩).run P w=.ok (.enter f ws) w:=by
  subst ha;subst hws;simp[execOp,resolve,hz,Deferred.ofValue,invoke,zFz hf hn hb]
end
section
variable {P : Program} {N : Nat} {Q : zFN} {σ : Env} {w : World} {K : Env → World → Prop} {ops : Array Oper} {rest : List Oper} {d : Nat} {ty : TypeId} {pos : String} {af : Array Edge} {t : TypeId} {x y : Operand}
theorem zBQ {v:Value} {c:Array Value} (hN:d<N) (hx:ev σ x=v) (hc:v.cells=c) (k:∀b w',New w w' b c t→WpL P N ops K Q rest (upd σ d (.pointer (some ⟨b,0,none⟩))) w') :
    WpL P N ops K Q (⟨some d,.box t x,ty,pos,af,none⟩::rest) σ w:=by
  subst hc;refine zBo (v:=.pointer (some ⟨w.heap.size,0,none⟩)) (w':={w with heap:=w.heap.push (.cells v.cells t (0,0))}) rfl rfl hN ?_ (k _ _ (New.mk' w v.cells t));simp[execOp,hx,Instr.box,newVar,newRow]
theorem zBH {z:Value} {c:Array Value} (hN:d<N) (hz:Zer P t z) (hc:z.cells=c) (k:∀b w',New w w' b c t→WpL P N ops K Q rest (upd σ d (.pointer (some ⟨b,0,none⟩))) w') :
    WpL P N ops K Q (⟨some d,.alloc t,ty,pos,af,none⟩::rest) σ w:=by
  subst hc;refine zBo (v:=.pointer (some ⟨w.heap.size,0,none⟩)) (w':={w with heap:=w.heap.push (.cells z.cells t (0,0))}) rfl rfl hN ?_ (k _ _ (New.mk' w z.cells t));simp[execOp,Instr.alloc,hz.run,newVar,newRow]
theorem zBC {b o:Nat} {v:Value} {c c':Array Value} {e:TypeId} (hx:ev σ x=.pointer (some ⟨b,o,none⟩)) (hy:ev σ y=v) (h1:v.oneCell'=true) (hs:Siz P t 1) (hB:Blk w b c e) (ho:o<c.size) (hc:c.setIfInBounds o v=c')
    (k:∀w',Put w w' b c' e→WpL P N ops K Q rest σ w'):WpL P N ops K Q (⟨none,.store t x y,ty,pos,af,none⟩::rest) σ w:=by
  subst hc;refine zGV (w':=w.setRow b (c.setIfInBounds o v)) rfl rfl ?_ (k _ (Put.of_setRow hB _));have ab:v.cells=#[v]:=by cases v<;>first|rfl|(simp[Value.oneCell'] at h1;done)
  have aa:=run_storeCells_at P b o e [v] 0 c w hB (by simp;omega) (by simpa using h1);have he:(c.toList.take (o+0)++[v]++c.toList.drop (o+0+[v].length)).toArray=c.setIfInBounds o v:=by
    apply Array.ext';simp only[Nat.add_zero,List.length_singleton,Array.toList_setIfInBounds];rw[List.set_eq_take_append_cons_drop,if_pos (by simpa using ho)];simp
  rw[he] at aa;simp[execOp,hx,hy,Instr.storeAt,Instr.sureAddr,storeVar,hs.run,ab,aa]
theorem zAb {b o n:Nat} {vs c c':Array Value} {e:TypeId} (hx:ev σ x=.pointer (some ⟨b,o,none⟩)) (hy:ev σ y=.agg vs) (h1:∀v∈vs.toList,v.oneCell'=true) (hs:Siz P t n) (hn:vs.size=n) (hB:Blk w b c e) (ho:o+n≤c.size) (hc:(c.toList.take o++vs.toList++c.toList.drop (o+n)).toArray=c')
    (k:∀w',Put w w' b c' e→WpL P N ops K Q rest σ w'):WpL P N ops K Q (⟨none,.store t x y,ty,pos,af,none⟩::rest) σ w:=by
  subst hc;subst hn;refine zGV (w':=w.setRow b _) rfl rfl ?_ (k _ (Put.of_setRow hB _));have aa:=run_storeCells_at P b o e vs.toList 0 c w hB (by simpa using ho) h1;simp only[Nat.add_zero,Array.length_toList] at aa;simp[execOp,hx,hy,Instr.storeAt,Instr.sureAddr,storeVar,hs.run,Value.cells,aa]
theorem zAd {z v:Value} {n:Nat} {c:Array Value} {ty':TypeId} {pos':String} {af':Array Edge} (hN:d<N) (hz:Zer P t z) (hzs:z.cells.size=n) (hs:Siz P t n) (hy:ev (upd σ d (.pointer (some ⟨w.heap.size,0,none⟩))) y=v) (hc:v.cells=c) (hn:c.size=n) (h1:∀u∈c.toList,u.oneCell'=true)
    (k:∀b w',New w w' b c t→WpL P N ops K Q rest (upd σ d (.pointer (some ⟨b,0,none⟩))) w') :
    WpL P N ops K Q (⟨some d,.alloc t,ty,pos,af,none⟩::⟨none,.store t (.tmp d) y,ty',pos',af',none⟩::rest) σ w:=by
  subst hc;refine zBo (v:=.pointer (some ⟨w.heap.size,0,none⟩)) (w':={w with heap:=w.heap.push (.cells z.cells t (0,0))}) rfl rfl hN ?_ ?_
  · simp[execOp,Instr.alloc,hz.run,newVar,newRow]
  · refine zGV (w':={w with heap:=w.heap.push (.cells v.cells t (0,0))}) rfl rfl ?_ (k _ _ (New.mk' w v.cells t));have hB:Blk {w with heap:=w.heap.push (.cells z.cells t (0,0))} w.heap.size z.cells t:=(New.mk' w z.cells t).blk;have ab:=run_storeCells_at P w.heap.size 0 t v.cells.toList 0 z.cells _ hB (by simp[hn,hzs]) h1;have hd:ev (upd σ d (.pointer (some ⟨w.heap.size,0,none⟩))) (.tmp d)=.pointer (some ⟨w.heap.size,0,none⟩):=by simp[ev,upd]
    have hw:World.setRow {w with heap:=w.heap.push (.cells z.cells t (0,0))} w.heap.size (z.cells.toList.take (0+0)++v.cells.toList++z.cells.toList.drop (0+0+v.cells.toList.length)).toArray={w with heap:=w.heap.push (.cells v.cells t (0,0))}:=by
      have e:(z.cells.toList.take (0+0)++v.cells.toList++z.cells.toList.drop (0+0+v.cells.toList.length)).toArray=v.cells:=by
        apply Array.ext';simp[hn,←hzs]
      rw[e];simp only[World.setRow];congr 1;apply Array.ext
      · simp
      · intro i h1 h2;simp only[Array.getElem_modify,Array.getElem_push];by_cases hi:i<w.heap.size
        · simp[hi,Nat.ne_of_gt hi]
        · have:i=w.heap.size:=by simp at h2;omega
          simp[this]
    rw[hw] at ab;have aa:(storeCells ⟨w.heap.size,0,none⟩ v.cells.toList).run P (w.alloc (.cells z.cells t))=.ok () (w.alloc (.cells v.cells t)):=ab;simp[execOp,hd,hy,Instr.storeAt,Instr.sureAddr,storeVar,hs.run,hn,aa]
theorem zAc {e:TypeId} {len n:Nat} {z:Value} {parts:List (Nat×Operand)} {ps:List (Nat×Value)} {c:Array Value} (hN:d<N) (hp:(parts.map fun (i,x)=>(i,ev σ x))=ps) (hu:P.underlying t=some (.slice e)) (hs:Siz P e n) (hz:Zer P e z) (hl:¬(len*n > 2 ^ 24)) (h0:len*n≠0)
    (hc:Instr.fill (fun i=>some (i*n,n)) ((Array.range (len*n)).map (z.cells[· % z.cells.size]!)) ps=some c)
    (k:∀b w',New w w' b c e→WpL P N ops K Q rest (upd σ d (.slice (some ⟨b,0,none⟩) len len)) w'):WpL P N ops K Q (⟨some d,.buildSlice t len parts.toArray,ty,pos,af,none⟩::rest) σ w:=by
  subst hp;refine zBo (v:=.slice (some ⟨w.heap.size,0,none⟩) len len) (w':={w with heap:=w.heap.push (.cells c e (0,0))}) rfl rfl hN ?_ (k _ _ (New.mk' w c e));simp only[execOp,Instr.buildSlice,List.map_toArray,Sem.run_bind,run_underlying hu,Result.andThen_ok,hs.run,hl,h0,if_false,Sem.run_pure,hz.run,hc];simp[newRow]
end
theorem zEL {P:Program} {ops:Array Oper} {w:World} {R R':Act→Prop} (h:∀a,R a→R' a):∀(l:List Oper) (a:Act),wpStill P ops w R l a→wpStill P ops w R' l a
  | [],a,hr=>h a hr
  | o::rest,a,hr=>by
    unfold wpStill at hr⊢;split
    · rename_i hw
      rw[if_pos hw] at hr;exact Oper.still_mono (fun a'=>zEL h rest a') hr
    · rename_i hw
      rw[if_neg hw] at hr;exact zEL h rest _ hr
def WpS (P:Program) (N:Nat) (ops:Array Oper) (w:World) (K:Env→Prop) (l:List Oper) (σ:Env):Prop:=
  ∀dz a,Ok dz N a→env a=σ→wpStill P ops w (fun a'=>Ok dz N a'∧K (env a')) l a
def WpT (P:Program) (N:Nat) (ops:Array Oper) (w:World) (K:Env→World→Prop) (Q:zFN):Nat→List Oper→Env→Prop
  | n,l,σ=>WpS P N ops w (fun σ'=>WpL P N ops K Q (l.drop n) σ' w) (l.take n) σ
section
variable {P : Program} {N : Nat} {Q : zFN} {σ : Env} {w : World} {K : Env → World → Prop} {ops : Array Oper} {rest : List Oper} {n : Nat}
theorem zCq {l:List Oper} (h:WpL P N ops K Q l σ w):WpT P N ops w K Q 0 l σ:=fun dz a ha he=>by
  simp only[List.take_zero,List.drop_zero];exact ⟨ha,he▸h⟩
theorem zVE {o:Oper} (hg:o.guard=none) {d:Nat} (hd:o.dst=some d) (hN:d<N) {v:Value}
    (hr:(execOp (ev σ) o).run P w=.ok (.value v) w) (k:WpT P N ops w K Q n rest (upd σ d v)):WpT P N ops w K Q (n+1) (o::rest) σ:=by
  intro dz a ha he;simp only[List.take_succ_cons,List.drop_succ_cons];unfold wpStill;rw[if_pos (by simp[Region.wanted,hg])];unfold Oper.still;rw[zCH,he,hr];refine ⟨rfl,?_⟩;rw[hd];exact k dz _ (ha.put _ _) (by rw[zDQ ha hN,he])
theorem zBn {d:Nat} {op:Op} {ty:TypeId} {pos:String} {af:Array Edge} {j:Nat} {b:Bool} {oj:Oper} {dj:Nat} {gv u:Value}
    (hj:ops[j]?=some oj) (hdj:oj.dst=some dj) (hN:dj<N) (hd:d<N) (hy:σ dj=gv)
    (h:(gv=.bool b∧(execOp (ev σ) ⟨some d,op,ty,pos,af,none⟩).run P w=.ok (.value u) w)∨((gv=.bool (!b)∨gv=undef)∧u=undef))
    (k:WpT P N ops w K Q n rest (upd σ d u)):WpT P N ops w K Q (n+1) (⟨some d,op,ty,pos,af,some (j,b)⟩::rest) σ:=by
  intro dz a ha he;simp only[List.take_succ_cons,List.drop_succ_cons];have hk:=k dz _ (ha.put (some d) u) (by rw[zDQ ha hd,he]);have h2:a.tmps.getD dj undef=gv:=by rw[←hy,←he];rfl
  have aa:dj<a.tmps.size:=by rw[ha.size];exact hN
  have h3:a.tmps[dj]?=some gv:=by rw[Array.getElem?_eq_getElem aa];simpa[aa] using h2
  unfold wpStill;rcases h with ⟨h1,h4⟩|⟨h1,rfl⟩
  · subst h1;rw[if_pos (by simp[Region.wanted,yielded,hj,hdj,h3])];unfold Oper.still;have h5:(execOp a.eval ⟨some d,op,ty,pos,af,some (j,b)⟩).run P w=.ok (.value u) w:=by rw[zCH,he];exact h4
    rw[h5];exact ⟨rfl,hk⟩
  · rw[if_neg]
    · exact hk
    · rcases h1 with rfl|rfl
      · cases b<;>simp[Region.wanted,yielded,hj,hdj,h3]
      · simp[Region.wanted,yielded,hj,hdj,h3,undef]
theorem zAm {dst:Option Tmp} {op:Op} {ty:TypeId} {pos:String} {af:Array Edge} {j:Nat} {b:Bool} {oj:Oper} {dj:Nat}
    (hj:ops[j]?=some oj) (hdj:oj.dst=some dj) (hN:dj<N) (hy:σ dj=.bool b)
    (k:WpT P N ops w K Q (n+1) (⟨dst,op,ty,pos,af,none⟩::rest) σ):WpT P N ops w K Q (n+1) (⟨dst,op,ty,pos,af,some (j,b)⟩::rest) σ:=by
  intro dz a ha he;have h1:=k dz a ha he;simp only[List.take_succ_cons,List.drop_succ_cons] at h1⊢;have h2:a.tmps.getD dj undef=.bool b:=by rw[←hy,←he];rfl
  have aa:dj<a.tmps.size:=by rw[ha.size];exact hN
  have h3:a.tmps[dj]?=some (.bool b):=by rw[Array.getElem?_eq_getElem aa];simpa[aa] using h2
  unfold wpStill at h1⊢;rw[if_pos (by simp[Region.wanted,yielded,hj,hdj,h3])];rw[if_pos (by rfl)] at h1;exact h1
theorem zAf {d:Nat} {op:Op} {ty:TypeId} {pos:String} {af:Array Edge} {j:Nat} {b:Bool} {oj:Oper} {dj:Nat} {v:Value}
    (hj:ops[j]?=some oj) (hdj:oj.dst=some dj) (hd:d<N∧dj<N) (hy:σ dj=v) (hv:v=.bool (!b)∨v=undef)
    (k:WpT P N ops w K Q n rest (upd σ d undef)):WpT P N ops w K Q (n+1) (⟨some d,op,ty,pos,af,some (j,b)⟩::rest) σ:=
  zBn hj hdj hd.2 hd.1 hy (.inr ⟨hv,rfl⟩) k
theorem zFX (w:World):Ext w {w with drawn:=w.drawn+1}:=⟨rfl,rfl,rfl,Nat.le_succ _,Nat.le_refl _,fun _ _ _=>rfl⟩
theorem zKU {id:Nat} {l:List Oper} (n:Nat) (hm:P.follows .mixedOrders=true) (hB:Region.lexTailB .any l.toArray n=true)
    (h:∀w',Ext w w'→w'.heap=w.heap→WpT P N l.toArray w' (Q .normal) Q n l σ):Wp P N (.region id l.toArray true) Q σ w:=by
  intro dz a ha he;have e:zFr dz N (thn (Q .normal) Q)=zFr dz N Q:=by funext e a w;cases e<;>rfl
  refine wp_region_still_tail n hm hB ?_;have h1:=h _ (zFX w) rfl dz a ha he;have:(fun a'=>Ok dz N a'∧WpL P N l.toArray (Q .normal) Q (l.drop n) (env a') {w with drawn:=w.drawn+1})=(fun a'=>Ok dz N a'∧WpL P N l.toArray (Q .normal) Q (l.drop n) (env a') {w with drawn:=w.drawn+1}):=rfl;refine zEL ?_ _ _ h1;rintro a' ⟨aa,hk⟩;have:=hk dz a' aa rfl
  rwa [e] at this
theorem zCs {id:Nat} {l:List Oper} {y:Code} (n:Nat) (hm:P.follows .mixedOrders=true) (hB:Region.lexTailB .any l.toArray n=true)
    (h:∀w',Ext w w'→w'.heap=w.heap→WpT P N l.toArray w' (Wp P N y Q) Q n l σ):Wp P N (.seq (.region id l.toArray true) y) Q σ w:=by
  refine zAH (zKU n hm hB fun w' e he=>?_);have:thn (Wp P N y Q) Q .normal=Wp P N y Q:=rfl;intro dz a ha ab;have h1:=h w' e he dz a ha ab;refine zEL ?_ _ _ h1;rintro a' ⟨ac,hk⟩;refine ⟨ac,fun aa a2 h2 h3=>?_⟩;have h4:=hk aa a2 h2 h3;have e2:zFr aa N (thn (thn (Wp P N y Q) Q .normal) (thn (Wp P N y Q) Q))=zFr aa N (thn (Wp P N y Q) Q):=by funext e a w;cases e<;>rfl
  rw[e2];exact h4
end
theorem zBb {n:Int} (h : -9223372036854775808≤n∧n≤9223372036854775807):IntKind.i64.wrap n=n:=by
  simp only[IntKind.wrap,IntKind.bits,IntKind.signed,Bool.true_and,decide_eq_true_eq,ge_iff_le,Int.reducePow,Nat.reduceSub];split<;>omega
theorem zVV {n:Int} (h:0≤n∧n≤18446744073709551615):IntKind.u64.wrap n=n:=by
  simp only[IntKind.wrap,IntKind.bits,IntKind.signed,Bool.false_and,ge_iff_le,Int.reducePow,Nat.reduceSub,Bool.false_eq_true,if_false];omega
theorem zXb {n:Int} (h:0≤n∧n≤4294967295):IntKind.u32.wrap n=n:=by
  simp only[IntKind.wrap,IntKind.bits,IntKind.signed,Bool.false_and,ge_iff_le,Int.reducePow,Nat.reduceSub,Bool.false_eq_true,if_false];omega
theorem zGU {P:Program} {N:Nat} {Q:zFN} {σ:Env} {w:World} {x y:Code} (J:Env→World→Prop) (h:Wp P N x (thn J Q) σ w) (k:∀σ' w',J σ' w'→Wp P N y Q σ' w'):Wp P N (.seq x y) Q σ w:=
  zAH (zVC h fun e σ' w' q=>by cases e<;>first|exact k _ _ q|exact q)
theorem zEo {P:Program} {w:World} {b o n:Nat} {t:TypeId} {vs:List Value} (hf:zLq P t=true) (hs:Siz P t n) (hn:vs.length=n) (hc:zBE w b o vs):(loadVar t ⟨b,o,none⟩).run P w=.ok (.agg vs.toArray) w:=by
  subst hn;have h1:=run_loadCells_list (P:=P) w ⟨b,o,none⟩ vs (fun j v hj=>by rw[Addr.add_lit];exact hc j v hj);simp[loadVar,zLq.run hf,hs.run,h1]
theorem zBm {P:Program} {fn:Func} {R:Value→World→Prop} {a0 t b n:Nat} (hr:fn.results=#[.cell a0 t]) {σ:Env} {w:World} {vs:List Value} (hv:σ a0=.pointer (some ⟨b,0,none⟩)) (hf:zLq P t=true) (hs:Siz P t n) (hn:vs.length=n) (hc:zBE w b 0 vs) (h:R (.agg vs.toArray) w):fin P fn R .ret σ w:=
  ⟨.agg vs.toArray,fun a ha=>by
    subst ha;have hv':a.tmps.getD a0 undef=.pointer (some ⟨b,0,none⟩):=hv;simp only[Array.getD_eq_getD_getElem?] at hv';simp[results,hr,hv',asAddr,zEo hf hs hn hc],h⟩
theorem zAu {P:Program} {fn:Func} {R:Value→World→Prop} {a0 t b n u:Nat} (hr:fn.results=#[.cell a0 t,.tmp u]) {σ:Env} {w:World} {vs:List Value} {v':Value} (hv:σ a0=.pointer (some ⟨b,0,none⟩)) (hf:zLq P t=true) (hs:Siz P t n) (hn:vs.length=n) (hc:zBE w b 0 vs) (hv':σ u=v') (h:R (.tuple #[.agg vs.toArray,v']) w):fin P fn R .ret σ w:=
  ⟨.tuple #[.agg vs.toArray,v'],fun a ha=>by
    subst ha;have h0:a.tmps.getD a0 undef=.pointer (some ⟨b,0,none⟩):=hv;have h1:a.tmps.getD u undef=v':=hv';simp only[Array.getD_eq_getD_getElem?] at h0 h1;simp[results,hr,h0,h1,asAddr,zEo hf hs hn hc],h⟩
theorem zDZ {P:Program} {fn:Func} {R:Value→World→Prop} {a0 t b n u s:Nat} (hr:fn.results=#[.cell a0 t,.tmp u,.tmp s]) {σ:Env} {w:World} {vs:List Value} {v' v'':Value} (hv:σ a0=.pointer (some ⟨b,0,none⟩)) (hf:zLq P t=true) (hs:Siz P t n) (hn:vs.length=n) (hc:zBE w b 0 vs) (hv':σ u=v') (hv'':σ s=v'') (h:R (.tuple #[.agg vs.toArray,v',v'']) w):fin P fn R .ret σ w:=
  ⟨.tuple #[.agg vs.toArray,v',v''],fun a ha=>by
    subst ha;have h0:a.tmps.getD a0 undef=.pointer (some ⟨b,0,none⟩):=hv;have h1:a.tmps.getD u undef=v':=hv';have h2:a.tmps.getD s undef=v'':=hv'';simp only[Array.getD_eq_getD_getElem?] at h0 h1 h2;simp[results,hr,h0,h1,h2,asAddr,zEo hf hs hn hc],h⟩
abbrev I6 (x:Int):Value:=.int .i64 x
abbrev P6 (b o:Nat):Value:=.pointer (some ⟨b,o,none⟩)
abbrev nU (b:Bool) (v:Value):Value:=bif b then undef else v
abbrev yU (b:Bool) (v:Value):Value:=bif b then v else undef
section
variable {P : Program} {N : Nat} {Q : zFN} {σ : Env} {w : World} {K : Env → World → Prop} {ops : Array Oper} {rest : List Oper} {n d : Nat} {op : Op} {ty : TypeId} {pos : String} {af : Array Edge} {v : Value} {x : Operand}
theorem qV {w':World} (hr:(execOp (ev σ) ⟨some d,op,ty,pos,af,none⟩).run P w=.ok (.value v) w') (k:WpL P N ops K Q rest (upd σ d v) w') (hN:d<N:=by decide):WpL P N ops K Q (⟨some d,op,ty,pos,af,none⟩::rest) σ w:=zBo rfl rfl hN hr k
theorem qT (hr:(execOp (ev σ) ⟨some d,op,ty,pos,af,none⟩).run P w=.ok (.value v) w) (k:WpT P N ops w K Q n rest (upd σ d v)) (hN:d<N:=by decide):WpT P N ops w K Q (n+1) (⟨some d,op,ty,pos,af,none⟩::rest) σ:=zVE rfl rfl hN hr k
theorem qM (v:Value) (hx:ev σ x=v) (k:WpL P N ops K Q rest (upd σ d v) w) (hN:d<N:=by decide):WpL P N ops K Q (⟨some d,.move x,ty,pos,af,none⟩::rest) σ w:=qV (zAl hx) k hN
theorem qA (v:Value) (hx:ev σ x=v) (k:WpL P N ops K Q rest (upd σ d v) w) (hN:d<N:=by decide):WpL P N ops K Q (⟨some d,.assign x,ty,pos,af,none⟩::rest) σ w:=qV (zEp hx) k hN
theorem gA {A:Prop} {v:Value}:A∨((v=v∨v=undef)∧undef=undef):=.inr ⟨.inl rfl,rfl⟩
theorem gB {A:Prop} {u:Value}:A∨((undef=u∨undef=undef)∧undef=undef):=.inr ⟨.inr rfl,rfl⟩
theorem qG {j:Nat} {b:Bool} {oj:Oper} {dj:Nat} (gv u:Value)
    (h:(gv=.bool b∧(execOp (ev σ) ⟨some d,op,ty,pos,af,none⟩).run P w=.ok (.value u) w)∨((gv=.bool (!b)∨gv=undef)∧u=undef))
    (k:WpL P N ops K Q rest (upd σ d u) w) (hj:ops[j]?=some oj:=by rfl) (hdj:oj.dst=some dj:=by rfl) (hN:dj<N:=by decide) (hd:d<N:=by decide) (hy:σ dj=gv:=by rfl):WpL P N ops K Q (⟨some d,op,ty,pos,af,some (j,b)⟩::rest) σ w:=zKV hj hdj hN hd hy h k
theorem qF {t:TypeId} {fs:Array Field} {f:Field} {i m:Nat} (b o o':Nat) (hx:ev σ x=.pointer (some ⟨b,o,none⟩)) (hu:P.underlying t=some (.struct fs)) (hf:fs[i]?=some f) (hs:Siz P f.type (m+1)) (ho:o+f.offset=o')
    (k:WpL P N ops K Q rest (upd σ d (.pointer (some ⟨b,o',none⟩))) w) (hN:d<N:=by decide):WpL P N ops K Q (⟨some d,.fieldAddr t x i,ty,pos,af,none⟩::rest) σ w:=qV (zAZ hx hu hf hs ho) k hN
end
end Go.Eng
namespace Go.Eng
open Go
theorem qC {P : Program} {N : Nat} {Q : zFN} {σ : Env} {w : World} {c : Operand} {x y : Code} {p : Prop} [Decidable p] (hc : ev σ c = .bool (decide p)) (ht : p → Wp P N x Q σ w) (hf : ¬ p → Wp P N y Q σ w) : Wp P N (.cond c x y) Q σ w := zBD hc (fun h => ht (of_decide_eq_true h)) fun h => hf (of_decide_eq_false h)
theorem leT {a b : Nat} (h : Nat.ble a b = true) : a ≤ b := Nat.le_of_ble_eq_true h
theorem qR {P : Program} {f : FuncId} {fn : Func} {c : Code} {N : Nat} {args : Array Value} {w : World} {R : Value → World → Prop} (hf : P.funcs[f]? = some fn) (hb : fn.body = some c) (hn : fn.ntmps = N) (hsz : Nat.ble args.size N = true) (h : Chg zAh w w → Wp P N c (fin P fn R) (fun t => args.getD t undef) w) : Ret P f args w R := zDc hf hb hn (leT hsz) (h (Chg.refl _ _))
theorem qE {P : Program} {N : Nat} {Q : zFN} {σ : Env} {w : World} {K : Env → World → Prop} {ops : Array Oper} {rest : List Oper} {d : Nat} {op : Op} {ty : TypeId} {pos : String} {af : Array Edge} {f : FuncId} {args : Array Value} {R : Value → World → Prop} (hN : Nat.ble (d + 1) N = true) (hr : (execOp (ev σ) ⟨some d, op, ty, pos, af, none⟩).run P w = .ok (.enter f args) w) (hc : Ret P f args w R) (k : ∀ v w', R v w' → WpL P N ops K Q rest (upd σ d v) w') : WpL P N ops K Q (⟨some d, op, ty, pos, af, none⟩ :: rest) σ w := zEf rfl rfl (leT hN) hr hc k
theorem cbk {a b : Bool} (h : a = b) : Value.bool a = Value.bool b := congrArg Value.bool h
theorem qQ {p : Prop} (h : p := by first | exact Or.inl (by omega) | exact Or.inr rfl | exact Or.inr (by assumption) | exact Or.inr (by simp) | exact Or.inr (by omega) | exact Or.inr (by dsimp only; omega)) : p := h
theorem qS {p : Prop} (h : p := by simp [Value.oneCell']) : p := h
theorem qL {p : Prop} (h : p := by first | (simp; done) | exact Nat.le_of_ble_eq_true rfl) : p := h
end Go.Eng
namespace Go.Eng
open Go
inductive Re where
  | mk (kind:Int) (set:List (Int×Int)) (args:List Re) (mn mx:Int) (neg:Bool)
namespace Re
def kind:Re→Int | .mk k _ _ _ _ _=>k
def set:Re→List (Int×Int) | .mk _ s _ _ _ _=>s
def args:Re→List Re | .mk _ _ a _ _ _=>a
def mn:Re→Int | .mk _ _ _ m _ _=>m
def mx:Re→Int | .mk _ _ _ _ m _=>m
def neg:Re→Bool | .mk _ _ _ _ _ n=>n
mutual
def size:Re→Nat
  | .mk _ _ a _ _ _=>sizes a+1
def sizes:List Re→Nat
  | []=>0
  | t::ts=>size t+sizes ts
end
theorem size_pos (t:Re):0<t.size:=by cases t;simp[size]
theorem size_eq (t:Re):t.size=sizes t.args+1:=by cases t;rfl
theorem zPP {ts:List Re} {i:Nat} {t:Re} (h:ts[i]?=some t):t.size≤sizes ts:=by
  induction ts generalizing i with
  | nil=>simp at h
  | cons a r ih=>
    cases i with
    | zero=>simp at h;subst h;simp[sizes]
    | succ i=>simp at h;have:=ih h;simp[sizes];omega
theorem size_arg {t:Re} {i:Nat} {x:Re} (h:t.args[i]?=some x):x.size<t.size:=by
 have:=zPP h;rw[size_eq t];omega
end Re
abbrev R6 (t:Re) (sa:Option Addr) (sc:Nat) (aa:Option Addr) (ac:Nat):Array Value:=#[.int .i64 t.kind,.slice sa t.set.length sc,.slice aa t.args.length ac,.int .i64 t.mn,.int .i64 t.mx,.bool t.neg]
theorem zAE {α:Type} {l:List α} {i:Nat} {y:α} (h:l[i]?=some y):i<l.length:=by
 rcases Nat.lt_or_ge i l.length with h'|h'
 ·exact h'
 ·simp[List.getElem?_eq_none h'] at h
def zCI (w:World) (k:Nat) (v:Value) (rows:List (List Value)):Prop:=
 ∃a cap,v=.slice a rows.length cap∧rows.length≤9223372036854775807∧rows.length≤cap∧(rows=[]∨∃b o,a=some ⟨b,o,none⟩∧∀i r,rows[i]?=some r→zBE w b (o+i*k) r)
theorem zCI.ext {w w':World} {k:Nat} {v:Value} {rows:List (List Value)} (h:zCI w k v rows) (e:Ext w w'):zCI w' k v rows:=by
 obtain ⟨a,aa,hv,hl,hc,h⟩:=h;refine ⟨a,aa,hv,hl,hc,?_⟩;rcases h with h|⟨b,o,ha,hc⟩
 ·exact .inl h
 ·exact .inr ⟨b,o,ha,fun i r hr=>(hc i r hr).ext e⟩
theorem zCI.nil (w:World) (k:Nat) (a:Option Addr) (cap:Nat):zCI w k (.slice a 0 cap) []:=⟨a,cap,rfl,qP,qP,.inl rfl⟩
theorem zCI.at {w:World} {k:Nat} {a:Option Addr} {n cap:Nat} {rows:List (List Value)} (h:zCI w k (.slice a n cap) rows) (hn:0<n) :
  ∃b o,a=some ⟨b,o,none⟩∧∀i r,rows[i]?=some r→zBE w b (o+i*k) r:=by
 obtain ⟨a',aa,hv,_,_,h⟩:=h;simp only[Value.slice.injEq] at hv;obtain ⟨rfl,rfl,rfl⟩:=hv;rcases h with rfl|h
 ·simp at hn
 ·exact h
theorem zCI.le {w:World} {k:Nat} {v:Value} {rows:List (List Value)} (h:zCI w k v rows):rows.length≤9223372036854775807:=let ⟨_,_,_,h,_⟩:=h;h
theorem zCI.cap {w:World} {k:Nat} {a:Option Addr} {n c:Nat} {rows:List (List Value)} (h:zCI w k (.slice a n c) rows):n≤c∧rows.length=n:=by
 obtain ⟨a',aa,hv,_,hc,_⟩:=h;simp only[Value.slice.injEq] at hv;obtain ⟨rfl,rfl,rfl⟩:=hv;exact ⟨hc,rfl⟩
theorem zCI.cut {w:World} {k:Nat} {a a':Option Addr} {n c lo hi n' c':Nat} {rows:List (List Value)} (h:zCI w k (.slice a n c) rows) (h1:lo≤hi) (h2:hi≤n) (ha:(if c=lo then a else a.map (·.add (lo*k)))=a') (hn:hi - lo=n') (hc:c - lo=c') :
  zCI w k (.slice a' n' c') ((rows.drop lo).take n'):=by
 obtain ⟨h3,h4⟩:=h.cap;have hl:=h.le;have aa:((rows.drop lo).take n').length=n':=by simp;omega
 refine ⟨a',c',by rw[aa],by rw[aa];omega,by rw[aa];omega,?_⟩;rcases Nat.eq_zero_or_pos n' with h0|h0
 ·left;subst h0;simp
 ·obtain ⟨b,o,rfl,ab⟩:=h.at qO;rw[if_neg qO] at ha;refine .inr ⟨b,o+lo*k,?_,fun i r hr=>?_⟩
  ·rw[←ha];simp[Addr.add_lit]
  ·have ac:=zAE hr;rw[aa] at ac;rw[List.getElem?_take_of_lt ac,List.getElem?_drop] at hr;have:=ab (lo+i) r hr
   rwa [show o+(lo+i)*k=o+lo*k+i*k from by rw[Nat.add_mul];omega] at this
theorem zCI.form {w:World} {k:Nat} {v:Value} {rows:List (List Value)} (h:zCI w k v rows):∃a cap,v=.slice a rows.length cap:=let ⟨a,c,h,_⟩:=h;⟨a,c,h⟩
def zMa (x:Int):List Value:=[.int .i64 x]
def zBl (s:Int×Int):List Value:=[.int .i64 s.1,.int .i64 s.2]
def zBZ (w:World) (v:Value) (l:List Int):Prop:=zCI w 1 v (l.map zMa)
def zBK (w:World) (v:Value) (l:List (Int×Int)):Prop:=zCI w 2 v (l.map zBl)
theorem zBZ.ext {w w':World} {v:Value} {l:List Int} (h:zBZ w v l) (e:Ext w w'):zBZ w' v l:=zCI.ext h e
theorem zBK.ext {w w':World} {v:Value} {l:List (Int×Int)} (h:zBK w v l) (e:Ext w w'):zBK w' v l:=zCI.ext h e
theorem zBE.at1 {w:World} {b o:Nat} {x y:Value} (h:zBE w b o [x,y]):w.cell? ⟨b,o+1,none⟩=some y:=h 1 y rfl
theorem zBE.at0 {w:World} {b o:Nat} {x:Value} {r:List Value} (h:zBE w b o (x::r)):w.cell? ⟨b,o,none⟩=some x:=h 0 x rfl
theorem zBa {w:World} {a:Option Addr} {n c:Nat} {l:List (Int×Int)} (h:zBK w (.slice a n c) l) (hn:0<n) :
  ∃b o,a=some ⟨b,o,none⟩∧∀i s,l[i]?=some s→zBE w b (o+i*2) [.int .i64 s.1,.int .i64 s.2]:=by
 obtain ⟨b,o,ha,h⟩:=zCI.at h hn;exact ⟨b,o,ha,fun i s hs=>h i (zBl s) (by simp[hs])⟩
mutual
def zBB (w:World):Re→List Value→Prop
  | .mk k set args mn mx ng,vs=>∃sa sc aa ac,vs=[.int .i64 k,.slice sa set.length sc,.slice aa args.length ac,.int .i64 mn,.int .i64 mx,.bool ng]∧zBK w (.slice sa set.length sc) set∧(args.length≤ac∧ac≤9223372036854775807)∧
      (args=[]∨∃b o,aa=some ⟨b,o,none⟩∧zCx w b o args)
def zCx (w:World) (b:Nat):Nat→List Re→Prop
  | _,[]=>True
  | o,t::ts=>(∃vs,zBE w b o vs∧zBB w t vs)∧zCx w b (o+6) ts
end
mutual
theorem zBB.ext {w w':World} (e:Ext w w'):∀(t:Re) {vs:List Value},zBB w t vs→zBB w' t vs
  | .mk k set args mn mx ng,vs,h=>by
    simp only[zBB] at h⊢;obtain ⟨sa,sc,aa,ac,hv,hs,hl,ha⟩:=h;refine ⟨sa,sc,aa,ac,hv,hs.ext e,hl,?_⟩;rcases ha with h|⟨b,o,h1,h2⟩
    · exact .inl h
    · exact .inr ⟨b,o,h1,zCx.ext e args h2⟩
theorem zCx.ext {w w':World} (e:Ext w w') {b:Nat}:∀(ts:List Re) {o:Nat},zCx w b o ts→zCx w' b o ts
  | [],_,_=>by simp only[zCx]
  | t::ts,o,h=>by
    simp only[zCx] at h⊢;obtain ⟨⟨vs,h1,h2⟩,h3⟩:=h;exact ⟨⟨vs,h1.ext e,zBB.ext e t h2⟩,zCx.ext e ts h3⟩
end
theorem zCx.get {w:World} {b:Nat}:∀{ts:List Re} {o i:Nat} {t:Re},zCx w b o ts→ts[i]?=some t→∃vs,zBE w b (o+i*6) vs∧zBB w t vs
  | [],_,_,_,_,h=>by simp at h
  | x::ts,o,0,t,h,hi=>by
    simp only[zCx] at h;simp at hi;subst hi;simpa using h.1
  | x::ts,o,i+1,t,h,hi=>by
    simp only[zCx] at h;have:=zCx.get h.2 (i:=i) (by simpa using hi)
    rwa [show o+(i+1)*6=o+6+i*6 from qO]
theorem zBB.form {w:World} {t:Re} {vs:List Value} (h:zBB w t vs):∃sa sc aa ac,vs=[.int .i64 t.kind,.slice sa t.set.length sc,.slice aa t.args.length ac,.int .i64 t.mn,.int .i64 t.mx,.bool t.neg]∧zBK w (.slice sa t.set.length sc) t.set∧(t.args.length≤ac∧ac≤9223372036854775807)∧
  (t.args=[]∨∃b o,aa=some ⟨b,o,none⟩∧zCx w b o t.args):=by
 cases t;simp only[zBB] at h;exact h
theorem zBB.of {w:World} {k:Int} {set:List (Int×Int)} {args:List Re} {mn mx:Int} {ng:Bool} {sa aa:Option Addr} {sc ac:Nat} (hs:zBK w (.slice sa set.length sc) set) (hl:(args.length≤ac∧ac≤9223372036854775807)) (ha:args=[]∨∃b o,aa=some ⟨b,o,none⟩∧zCx w b o args) :
  zBB w (.mk k set args mn mx ng) [.int .i64 k,.slice sa set.length sc,.slice aa args.length ac,.int .i64 mn,.int .i64 mx,.bool ng]:=by
 simp only[zBB];exact ⟨sa,sc,aa,ac,rfl,hs,hl,ha⟩
theorem zBB.len {w:World} {t:Re} {vs:List Value} (h:zBB w t vs):vs.length=6:=by
 obtain ⟨_,_,_,_,rfl,_⟩:=h.form;rfl
def zCG (P:Program) (fv:Value) (args:Array Value) (w:World) (R:Value→World→Prop):Prop:=
 ∃ f fn first cap, fv = .func (.func f) first cap ∧ P.funcs[f]? = some fn ∧ (fn.name == "runtime.NumGoroutine") = false ∧ fn.body.isNone = false ∧ Ret P f (first ++ args ++ cap) w R
theorem zCG.mk {P : Program} {f : FuncId} {fn : Func} {first cap args ws : Array Value} {w : World} {R : Value → World → Prop} (hf : P.funcs[f]? = some fn) (hn : (fn.name == "runtime.NumGoroutine") = false) (hb : fn.body.isNone = false) (hw : first ++ args ++ cap = ws) (h : Ret P f ws w R) :
  zCG P (.func (.func f) first cap) args w R:=⟨f,fn,first,cap,rfl,hf,hn,hb,hw▸h⟩
theorem zCG.mono {P:Program} {fv:Value} {args:Array Value} {w:World} {R R':Value→World→Prop} (h:zCG P fv args w R) (hr:∀v w',R v w'→R' v w'):zCG P fv args w R':=
 let ⟨f,fn,first,cap,h1,h2,h3,h4,h5⟩:=h;⟨f,fn,first,cap,h1,h2,h3,h4,h5.mono hr⟩
theorem zDD {P:Program} {N:Nat} {Q:zFN} {σ:Env} {w:World} {K:Env→World→Prop} {ops:Array Oper} {rest:List Oper} {d:Nat} {z:Operand} {args:List Operand} {tys:Array TypeId} {ty:TypeId} {pos:String} {af:Array Edge} {fv:Value} {vs:List Value} {R:Value→World→Prop}
  (hN:d<N) (hz:ev σ z=fv) (ha:args.map (ev σ)=vs) (hc:zCG P fv vs.toArray w R) (k:∀v w',R v w'→WpL P N ops K Q rest (upd σ d v) w') :
  WpL P N ops K Q (⟨some d,.call ⟨.value z,args.toArray,tys⟩,ty,pos,af,none⟩::rest) σ w:=by
 obtain ⟨f,fn,aa,cap,rfl,hf,hn,hb,hr⟩:=hc;exact zEf rfl rfl hN (zDL hz hf hn hb ha rfl) hr k
section
variable {S : Type} (F : S → Re → Bool × S)
mutual
def zCc:Re→S→Bool×S
  | .mk k set args mn mx ng,s=>match F s (.mk k set args mn mx ng) with
    | (false,s')=>(false,s')
    | (true,s')=>zCS args s'
def zCS:List Re→S→Bool×S
  | [],s=>(true,s)
  | t::ts,s=>match zCc t s with
    | (false,s')=>(false,s')
    | (true,s')=>zCS ts s'
end
theorem zEM (t:Re) (s:S):zCc F t s=if (F s t).1 then zCS F t.args (F s t).2 else (false,(F s t).2):=by
 cases t;simp only[zCc,Re.args];split<;>rename_i h<;>simp[h]
theorem zCb (t:Re) (ts:List Re) (s:S):zCS F (t::ts) s=if (zCc F t s).1 then zCS F ts (zCc F t s).2 else (false,(zCc F t s).2):=by
 simp only[zCS];split<;>rename_i h<;>simp[h]
end
def idx {α:Type} (p:α→Bool) (l:List α):Int:=match l.findIdx? p with
  | some i=>i
  | none=>-1
theorem zKA {α:Type} (p:α→Bool) (l:List α):decide (0≤idx p l)=l.any p:=by
  unfold idx;cases h:l.findIdx? p with
  | none=>
    have h':l.any p=false:=by
      rw[List.findIdx?_eq_none_iff] at h;rw[List.any_eq_false];intro x hx;simp[h x hx]
    rw[h'];decide
  | some i=>
    have h':l.any p=true:=by
      rw[List.findIdx?_eq_some_iff_getElem] at h;obtain ⟨hi,hp,_⟩:=h;rw[List.any_eq_true];exact ⟨_,List.getElem_mem hi,hp⟩
    rw[h'];simp
theorem zJz {α:Type} {p:α→Bool} {l:List α} {k:Nat} {x:α} (hk:l[k]?=some x) (hp:p x=true) (hb:∀i y,i<k→l[i]?=some y→p y=false):idx p l=k:=by
 unfold idx;have aa:k<l.length:=by
  rcases Nat.lt_or_ge k l.length with h|h
  ·exact h
  ·simp[List.getElem?_eq_none h] at hk
 have:l.findIdx? p=some k:=by
  rw[List.findIdx?_eq_some_iff_getElem];refine ⟨aa,?_,fun j hj=>?_⟩
  ·rw[List.getElem?_eq_getElem aa] at hk;cases hk;exact hp
  ·have:=hb j l[j] hj (List.getElem?_eq_getElem qO);simp[this]
 rw[this]
theorem zHW {α:Type} {p:α→Bool} {l:List α} (hb:∀(i:Nat) (y:α),l[i]?=some y→p y=false):idx p l = -1:=by
 unfold idx;have:l.findIdx? p=none:=by
  rw[List.findIdx?_eq_none_iff];intro x hx;obtain ⟨i,hi⟩:=List.mem_iff_getElem?.1 hx;simp[hb i x hi]
 rw[this]
theorem zBJ {a b:Int} (h:a=b):Value.int .i64 a=.int .i64 b:=by rw[h]
theorem zBy {a b:Bool} (h:a=b):Value.bool a=.bool b:=by rw[h]
theorem zBG {w:World} {a:Option Addr} {n c:Nat} {l:List Int} (h:zBZ w (.slice a n c) l) (hn:0<n) :
  ∃b o,a=some ⟨b,o,none⟩∧∀i x,l[i]?=some x→w.cell? ⟨b,o+i,none⟩=some (.int .i64 x):=by
 obtain ⟨b,o,ha,h⟩:=zCI.at h hn;refine ⟨b,o,ha,fun i x hx=>?_⟩;have:=h i (zMa x) (by simp[hx]) 0 _ rfl;simpa using this
theorem zAN {α:Type} {l:List α} {i:Nat} (h:i<l.length):∃x,l[i]?=some x:=⟨_,List.getElem?_eq_getElem h⟩
theorem zEd {α:Type} {l:List α} {k:Nat} {x:α} (h:l[k]?=some x):l.drop k=x::l.drop (k+1):=by
 have aa:=zAE h;rw[List.drop_eq_getElem_cons aa];rw[List.getElem?_eq_getElem aa] at h;cases h;rfl
theorem zFZ {α:Type} {p:α→Bool} {l:List α} {k:Nat} {x:α} (hx:l[k]?=some x) (hp:p x=false) (hno:∀(i:Nat) (y:α),i<k→l[i]?=some y→p y=false):∀(i:Nat) (y:α),i<k+1→l[i]?=some y→p y=false:=by
 intro i y hi hy;rcases Nat.lt_or_ge i k with h|h
 ·exact hno i y h hy
 ·obtain rfl:i=k:=qO
  rw[hx] at hy;cases hy;exact hp
theorem zFk {w:World} {b t k cap:Nat} {rows:List (List Value)} (h:Blk w b rows.flatten.toArray t) (hk:∀r∈rows,r.length=k) (hl:rows.length≤9223372036854775807) (hcap:rows.length≤cap):zCI w k (.slice (some ⟨b,0,none⟩) rows.length cap) rows:=by
  refine ⟨_,cap,rfl,hl,hcap,.inr ⟨b,0,rfl,fun i r hr j u hu=>?_⟩⟩;have hc:(rows.flatten)[i*k+j]?=some u:=by
    clear h hl hcap
    induction rows generalizing i with
    | nil=>simp at hr
    | cons x rs ih=>
      have hx:x.length=k:=hk x qP;cases i with
      | zero=>
        simp at hr;subst hr;have hj:=zAE hu;simp only[List.flatten_cons,Nat.zero_mul,Nat.zero_add];rw[List.getElem?_append_left hj];exact hu
      | succ i=>
        simp at hr;simp only[List.flatten_cons];rw[List.getElem?_append_right (by rw[hx,Nat.succ_mul];omega)];rw[show (i+1)*k+j - x.length=i*k+j from by rw[hx,Nat.succ_mul];omega];exact ih (fun r hr=>hk r (by simp[hr])) _ hr
  rw[Nat.zero_add];exact h.cell (by simpa using hc)
theorem zFl {w:World} {b t cap:Nat} (l:List Int) (h:Blk w b (l.map zMa).flatten.toArray t) (hl:l.length≤9223372036854775807) (hcap:l.length≤cap):zBZ w (.slice (some ⟨b,0,none⟩) l.length cap) l:=by
 have:=zFk (k:=1) (cap:=cap) h (by intro r hr;simp only[List.mem_map] at hr;obtain ⟨x,_,rfl⟩:=hr;rfl) (by simpa using hl) (by simpa using hcap);simpa[zBZ] using this
theorem zGy {w:World} {b t cap:Nat} (l:List (Int×Int)) (h:Blk w b (l.map zBl).flatten.toArray t) (hl:l.length≤9223372036854775807) (hcap:l.length≤cap):zBK w (.slice (some ⟨b,0,none⟩) l.length cap) l:=by
 have:=zFk (k:=2) (cap:=cap) h (by intro r hr;simp only[List.mem_map] at hr;obtain ⟨x,_,rfl⟩:=hr;rfl) (by simpa using hl) (by simpa using hcap);simpa[zBK] using this
theorem zBB.one {w:World} {t:Re} {vs:List Value} (h:zBB w t vs):∀u∈vs,u.oneCell'=true:=by
 obtain ⟨_,_,_,_,rfl,_⟩:=h.form;simp[Value.oneCell']
end Go.Eng
namespace Go.Proofs
open Go Go.Eng
structure Dfa where
 start:Int
 accept:List Int
 next:List (List Int)
end Go.Proofs
namespace Go.Proofs
open Go Go.Eng
--BEGIN
def toD (d:Dfa) (s:Int) (x:Nat):Int:=if s<0 then -1 else (d.next.getD s.toNat []).getD x (-1)
def atD (d:Dfa) (s:Int):Int:=if s<0 then -1 else d.accept.getD s.toNat (-1)
def beh (d:Dfa) (s:Int):List Nat→Int
  | []=>atD d s
  | x::w=>beh d (toD d s x) w
def inW (c:Nat) (w:List Nat):Prop:=∀x∈w,x<c
theorem inW.tail {c x:Nat} {w:List Nat} (h:inW c (x::w)):inW c w:=fun y hy=>h y (List.mem_cons_of_mem _ hy)
theorem inW.head {c x:Nat} {w:List Nat} (h:inW c (x::w)):x<c:=h x List.mem_cons_self
theorem inW.cons {c x:Nat} {w:List Nat} (hx:x<c) (h:inW c w):inW c (x::w):=fun y hy=>by
 rcases List.mem_cons.1 hy with rfl|h1
 ·exact hx
 ·exact h y h1
theorem inW.nil (c:Nat):inW c []:=fun x h=>by cases h
structure OkD (n c:Nat) (d:Dfa):Prop where
 nl:d.next.length=n
 al:d.accept.length=n
 st:0≤d.start∧d.start<n
 acc:∀x∈d.accept,-1≤x
 row:∀r∈d.next,r.length=c∧∀x∈r,-1≤x∧x<n
def zBX (c:Nat) (d:Dfa) (s:Int):Prop:=∃w,inW c w∧0≤beh d s w
def zLy (c:Nat) (d:Dfa) (s t:Int):Prop:=∀w,inW c w→beh d s w=beh d t w
theorem zES {d:Dfa} {s:Int} (h:s<0) (x:Nat):toD d s x = -1:=by unfold toD;rw[if_pos h]
theorem zDi {d:Dfa}:∀{w:List Nat} {s:Int},s<0→beh d s w = -1
  | [],s,h=>by unfold beh atD;rw[if_pos h]
  | x::w,s,h=>by unfold beh;rw[zES h];exact zDi qD
theorem zEl {d:Dfa} {s x:Nat} {r:List Int} {t:Int} (h:d.next[s]?=some r) (ht:r[x]?=some t):toD d ((s:Nat):Int) x=t:=by
 unfold toD;rw[if_neg qO,Int.toNat_natCast,List.getD_eq_getElem?_getD,List.getD_eq_getElem?_getD,h,Option.getD_some,ht,Option.getD_some]
theorem zEC {d:Dfa} {s:Nat} {t:Int} (h:d.accept[s]?=some t):atD d ((s:Nat):Int)=t:=by
 unfold atD;rw[if_neg qO,Int.toNat_natCast,List.getD_eq_getElem?_getD,h,Option.getD_some]
theorem OkD.to {n c:Nat} {d:Dfa} (h:OkD n c d) {s:Int} {x:Nat} : -1≤toD d s x∧toD d s x<n:=by
  have hn:=h.st;unfold toD;split
  · omega
  · rw[List.getD_eq_getElem?_getD,List.getD_eq_getElem?_getD];cases h1:d.next[s.toNat]? with
    | none=>simp;omega
    | some r=>
      simp only[Option.getD_some];cases h2:r[x]? with
      | none=>simp;omega
      | some t=>exact (h.row r (List.mem_of_getElem? h1)).2 t (List.mem_of_getElem? h2)
theorem OkD.at' {n c:Nat} {d:Dfa} (h:OkD n c d) {s:Int} : -1≤atD d s:=by
  unfold atD;split
  · omega
  · rw[List.getD_eq_getElem?_getD];cases h1:d.accept[s.toNat]? with
    | none=>simp
    | some t=>exact h.acc t (List.mem_of_getElem? h1)
theorem OkD.beh {n c:Nat} {d:Dfa} (h:OkD n c d):∀{w:List Nat} {s:Int},-1≤beh d s w
  | [],_=>h.at'
  | _::w,_=>OkD.beh h (w:=w)
theorem OkD.dead {n c:Nat} {d:Dfa} (h:OkD n c d) {s:Int} (hl:¬zBX c d s) {w:List Nat} (hw:inW c w):Go.Proofs.beh d s w = -1:=by
 have h1:=h.beh (w:=w) (s:=s);rcases Int.lt_or_le (Go.Proofs.beh d s w) 0 with h2|h2
 ·omega
 ·exact absurd ⟨w,hw,h2⟩ hl
theorem zUZ {c x:Nat} {d:Dfa} {s:Int} (h:zBX c d (toD d s x)) (hx:x<c):zBX c d s:=by
 obtain ⟨w,hw,h1⟩:=h;exact ⟨x::w,inW.cons hx hw,h1⟩
theorem zBx {c:Nat} {d:Dfa} {s:Int} (h:s<0):¬zBX c d s:=fun ⟨w,_,h1⟩=>by rw[zDi h] at h1;omega
theorem zLy.to {c x:Nat} {d:Dfa} {s t:Int} (h:zLy c d s t) (hx:x<c):zLy c d (toD d s x) (toD d t x):=fun w hw=>h (x::w) (inW.cons hx hw)
theorem zLy.live {c:Nat} {d:Dfa} {s t:Int} (h:zLy c d s t) (hl:zBX c d s):zBX c d t:=by
 obtain ⟨w,hw,h1⟩:=hl;exact ⟨w,hw,by rw[←h w hw];exact h1⟩
theorem zNh {c:Nat}:∀{L:List (List Int)} {i x:Nat} {r:List Int},(∀r∈L,r.length=c)→L[i]?=some r→x<c→L.flatten[i*c+x]?=r[x]?
  | [],_,_,_,_,h,_=>by simp at h
  | q::L,0,x,r,h,hi,hx=>by
    simp at hi;subst hi;rw[List.flatten_cons,Nat.zero_mul,Nat.zero_add,List.getElem?_append_left (by rw[h q List.mem_cons_self];exact hx)]
  | q::L,i+1,x,r,h,hi,hx=>by
    have hq:=h q List.mem_cons_self;rw[List.flatten_cons,List.getElem?_append_right (by rw[hq,Nat.add_mul];omega),hq,show (i+1)*c+x - c=i*c+x by rw[Nat.add_mul];omega];exact zNh (fun r hr=>h r (List.mem_cons_of_mem _ hr)) (by simpa using hi) hx
theorem zIF {c:Nat}:∀{L:List (List Int)},(∀r∈L,r.length=c)→L.flatten.length=L.length*c
  | [],_=>qP
  | q::L,h=>by
    rw[List.flatten_cons,List.length_append,h q List.mem_cons_self,zIF fun r hr=>h r (List.mem_cons_of_mem _ hr),List.length_cons,Nat.add_mul];omega
def mxL (l:List Int):Int:=l.foldl max 0
theorem zHT (l:List Int) (x:Int):mxL (l++[x])=max (mxL l) x:=by unfold mxL;rw[List.foldl_append];rfl
theorem zTM:∀(m:List Int) (z:Int),z≤m.foldl max z
  | [],_=>Int.le_refl _
  | x::m,z=>by
    have:=zTM m (max z x);simp only[List.foldl_cons];omega
theorem zNR {l:List Int} (m:List Int):mxL l≤mxL (l++m):=by
 unfold mxL;rw[List.foldl_append];exact zTM m _
theorem zTL (l:List Int):0≤mxL l:=by
 have:=zNR (l:=[]) l;simpa[mxL] using this
theorem zJv {l:List Int} {i j:Nat} (h:i≤j):mxL (l.take i)≤mxL (l.take j):=by
 have e:l.take j=l.take i++(l.take j).drop i:=by
  have:=List.take_append_drop i (l.take j);rw[List.take_take,Nat.min_eq_left h] at this;exact this.symm
 rw[e];exact zNR _
structure Bfs (n c:Nat) (C:Dfa):Prop where
 ok:OkD n c C
 st:C.start=0
 ord:∀(k:Nat) (x:Int),C.next.flatten[k]?=some x→x≤mxL (C.next.flatten.take k)+1
 rch:∀i:Nat,i<n→((i:Nat):Int)≤mxL (C.next.flatten.take (i*c))
 fin:mxL C.next.flatten=n - 1
def zDf (c:Nat) (f:List Nat→Int) (C:Dfa):Prop:=∃m,Bfs m c C∧(∀w,inW c w→beh C 0 w=f w)∧(∀s t:Int,0≤s→s<m→0≤t→t<m→zLy c C s t→s=t)∧∀(s:Int) (x:Nat),x<c→0≤toD C s x→zBX c C (toD C s x)
theorem zTS {n c i x:Nat} {C:Dfa} (h:OkD n c C) (hi:i<n) (hx:x<c):C.next.flatten[i*c+x]?=some (toD C ((i:Nat):Int) x):=by
 have hr:C.next[i]?=some (C.next[i]'(by rw[h.nl];exact hi)):=List.getElem?_eq_getElem _;have aa:=h.row _ (List.mem_of_getElem? hr);rw[zNh (fun r hr=>(h.row r hr).1) hr hx];have ht:(C.next[i]'(by rw[h.nl];exact hi))[x]?=some ((C.next[i]'(by rw[h.nl];exact hi))[x]'(by rw[aa.1];exact hx)):=List.getElem?_eq_getElem _;rw[ht,zEl hr ht]
theorem zEn {l:List Int} {k:Nat} {x:Int} (h:l[k]?=some x):l.take (k+1)=l.take k++[x]:=by rw[List.take_add_one,h];rfl
theorem zDf.steps {c n m:Nat} {A B:Dfa} (hA:Bfs n c A) (hB:Bfs m c B) (h0:∀w,inW c w→beh A 0 w=beh B 0 w)
    (rA:∀s t:Int,0≤s→s<n→0≤t→t<n→zLy c A s t→s=t) (rB:∀s t:Int,0≤s→s<m→0≤t→t<m→zLy c B s t→s=t)
    (lA:∀(s:Int) (x:Nat),x<c→0≤toD A s x→zBX c A (toD A s x)) (lB:∀(s:Int) (x:Nat),x<c→0≤toD B s x→zBX c B (toD B s x)) :
    ∀k,k≤n*c→k≤m*c→A.next.flatten.take k=B.next.flatten.take k∧∀j:Int,0≤j→j≤mxL (A.next.flatten.take k)→∀w,inW c w→beh A j w=beh B j w:=by
  intro k
  induction k with
  | zero=>
    intro _ _;refine ⟨qP,fun j h1 h2 w hw=>?_⟩;have:j=0:=by simp[mxL] at h2;omega
    rw[this];exact h0 w hw
  | succ k ih=>
    intro hn hm;obtain ⟨e1,e2⟩:=ih qO qO;have hc:0<c:=by
      rcases Nat.eq_zero_or_pos c with h|h
      · subst h;omega
      · exact h
    obtain ⟨i,x,rfl,hx⟩:∃i x,k=i*c+x∧x<c:=⟨k / c,k % c,by rw[Nat.mul_comm];exact (Nat.div_add_mod k c).symm,Nat.mod_lt _ hc⟩;have ac:i<n:=by
      apply Classical.byContradiction;intro h;have:n*c≤i*c:=Nat.mul_le_mul_right c qO;omega
    have af:i<m:=by
      apply Classical.byContradiction;intro h;have:m*c≤i*c:=Nat.mul_le_mul_right c qO;omega
    have hi:=hA.rch i ac;have ab:mxL (A.next.flatten.take (i*c))≤mxL (A.next.flatten.take (i*c+x)):=zJv qO;have ae:=e2 ((i:Nat):Int) qO qO;have a1:=zTS hA.ok ac hx;have b1:=zTS hB.ok af hx;obtain ⟨s,hs⟩:∃s,toD A ((i:Nat):Int) x=s:=⟨_,rfl⟩;obtain ⟨t,ht⟩:∃t,toD B ((i:Nat):Int) x=t:=⟨_,rfl⟩;rw[hs] at a1;rw[ht] at b1;have aa:∀w,inW c w→beh A s w=beh B t w:=fun w hw=>by
      have:=ae (x::w) (inW.cons hx hw);simp only[beh,hs,ht] at this;exact this
    have oA:=hA.ord _ _ a1;have oB:=hB.ord _ _ b1;rw[←e1] at oB;have bA:=hA.ok.to (s:=((i:Nat):Int)) (x:=x);have bB:=hB.ok.to (s:=((i:Nat):Int)) (x:=x);rw[hs] at bA;rw[ht] at bB;have ad:s=t:=by
      rcases Int.lt_or_le s 0 with h1|h1
      · rcases Int.lt_or_le t 0 with h2|h2
        · omega
        · exfalso;have:=lB ((i:Nat):Int) x hx (by rw[ht];exact h2);rw[ht] at this;obtain ⟨w,hw,h3⟩:=this;rw[←aa w hw,zDi h1] at h3;omega
      · rcases Int.lt_or_le t 0 with h2|h2
        · exfalso;have:=lA ((i:Nat):Int) x hx (by rw[hs];exact h1);rw[hs] at this;obtain ⟨w,hw,h3⟩:=this;rw[aa w hw,zDi h2] at h3;omega
        · rcases Int.lt_or_le (mxL (A.next.flatten.take (i*c+x))) s with h3|h3
          · rcases Int.lt_or_le (mxL (A.next.flatten.take (i*c+x))) t with h4|h4
            · omega
            · -- B's is old: then A's is the same old one
              have h5:∀w,inW c w→beh A s w=beh A t w:=fun w hw=>(aa w hw).trans (e2 t h2 h4 w hw).symm;have h6:mxL (A.next.flatten.take (i*c+x))≤n - 1:=by
                rw[←hA.fin];have:=zJv (l:=A.next.flatten) (i:=i*c+x) (j:=max (i*c+x) A.next.flatten.length) qO
                rwa [List.take_of_length_le (show A.next.flatten.length≤max (i*c+x) A.next.flatten.length by omega)] at this
              exact rA s t h1 bA.2 h2 qO h5
          · have h5:∀w,inW c w→beh B t w=beh B s w:=fun w hw=>(aa w hw).symm.trans (e2 s h1 h3 w hw);have h6:mxL (A.next.flatten.take (i*c+x))≤m - 1:=by
              rw[←hB.fin,e1];have:=zJv (l:=B.next.flatten) (i:=i*c+x) (j:=max (i*c+x) B.next.flatten.length) qO
              rwa [List.take_of_length_le (show B.next.flatten.length≤max (i*c+x) B.next.flatten.length by omega)] at this
            exact (rB t s h2 bB.2 h1 qO h5).symm
    subst ad;refine ⟨by rw[zEn a1,zEn b1,e1],fun j h1 h2 w hw=>?_⟩;rw[zEn a1,zHT] at h2;rcases Int.lt_or_le (mxL (A.next.flatten.take (i*c+x))) j with h3|h3
    · have:j=s:=qO
      rw[this];exact aa w hw
    · exact e2 j h1 h3 w hw
theorem zPZ {c:Nat}:∀{L M:List (List Int)},(∀r∈L,r.length=c)→(∀r∈M,r.length=c)→L.length=M.length→L.flatten=M.flatten→L=M
  | [],[],_,_,_,_=>rfl
  | [],_::_,_,_,h,_=>by cases h
  | _::_,[],_,_,h,_=>by cases h
  | q::L,r::M,h1,h2,h3,h4=>by
    rw[List.flatten_cons,List.flatten_cons] at h4;obtain ⟨e1,e2⟩:=List.append_inj h4 (by rw[h1 q List.mem_cons_self,h2 r List.mem_cons_self]);rw[e1,zPZ (fun x hx=>h1 x (List.mem_cons_of_mem _ hx)) (fun x hx=>h2 x (List.mem_cons_of_mem _ hx)) (by simpa using h3) e2]
theorem zDf.uniq {c:Nat} {f g:List Nat→Int} {A B:Dfa} (hA:zDf c f A) (hB:zDf c g B) (hfg:∀w,inW c w→f w=g w):A=B:=by
 obtain ⟨n,bA,fA,rA,lA⟩:=hA;obtain ⟨m,bB,fB,rB,lB⟩:=hB;have h0:∀w,inW c w→beh A 0 w=beh B 0 w:=fun w hw=>by rw[fA w hw,fB w hw,hfg w hw]
 have ab:=zDf.steps bA bB h0 rA rB lA lB;have aa:=zIF (L:=A.next) (c:=c) fun r hr=>(bA.ok.row r hr).1;have ac:=zIF (L:=B.next) (c:=c) fun r hr=>(bB.ok.row r hr).1;rw[bA.ok.nl] at aa;rw[bB.ok.nl] at ac;have nA:=bA.ok.st;have nB:=bB.ok.st;have ad:n=m:=by
  rcases Nat.lt_trichotomy n m with h|h|h
  ·exfalso;have h1:=(ab (n*c) (Nat.le_refl _) (Nat.mul_le_mul_right c qO)).1;have h2:=bB.rch n h;rw[←h1,List.take_of_length_le qO,bA.fin] at h2;omega
  ·exact h
  ·exfalso;have h1:=(ab (m*c) (Nat.mul_le_mul_right c qO) (Nat.le_refl _)).1;have h2:=bA.rch m h;rw[h1,List.take_of_length_le qO,bB.fin] at h2;omega
 subst ad;obtain ⟨e1,e2⟩:=ab (n*c) (Nat.le_refl _) (Nat.le_refl _);rw[List.take_of_length_le qO,List.take_of_length_le qO] at e1;rw[List.take_of_length_le qO,bA.fin] at e2;have e3:=zPZ (c:=c) (fun r hr=>(bA.ok.row r hr).1) (fun r hr=>(bB.ok.row r hr).1) (by rw[bA.ok.nl,bB.ok.nl]) e1;have e4:A.accept=B.accept:=by
  apply List.ext_getElem (by rw[bA.ok.al,bB.ok.al]);intro i h1 h2;have h3:=e2 ((i:Nat):Int) qO (by have:=bA.ok.al;omega) [] (inW.nil c);simp only[beh] at h3
  rwa [zEC (List.getElem?_eq_getElem h1),zEC (List.getElem?_eq_getElem h2)] at h3
 have e5:A.start=B.start:=by rw[bA.st,bB.st]
 cases A;cases B;simp only at e3 e4 e5;rw[e3,e4,e5]
theorem zLl {n m c:Nat} {d C:Dfa} {st:List Int} (ok:OkD n c d) (b:Bfs m c C) (hl:st.length=m) (h0:st[0]?=some d.start)
    (hinj:∀(i j:Nat) s t,st[i]?=some s→st[j]?=some t→zLy c d s t→i=j)
    (hacc:∀(i:Nat) s,st[i]?=some s→atD C ((i:Nat):Int)=atD d s)
    (hnext:∀(i x:Nat) s,st[i]?=some s→x<c→(toD C ((i:Nat):Int) x = -1∧¬zBX c d (toD d s x))∨∃(j:Nat) (t:Int),toD C ((i:Nat):Int) x=((j:Nat):Int)∧st[j]?=some t∧zLy c d t (toD d s x)∧zBX c d t):zDf c (beh d d.start) C:=by
  have hb:∀(w:List Nat) (i:Nat) s,inW c w→st[i]?=some s→beh C ((i:Nat):Int) w=beh d s w:=by
    intro w
    induction w with
    | nil=>exact fun i s _ hs=>hacc i s hs
    | cons x w ih=>
      intro i s hw hs;simp only[beh];rcases hnext i x s hs hw.head with ⟨h1,h2⟩|⟨j,t,h1,h2,h3,_⟩
      · rw[h1,zDi qD,ok.dead h2 hw.tail]
      · rw[h1,ih j t hw.tail h2,h3 w hw.tail]
  have aa:∀s:Int,0≤s→s<m→∃(i:Nat) (t:Int),s=((i:Nat):Int)∧st[i]?=some t:=fun s h1 h2=>by
    obtain ⟨i,rfl⟩:=Int.eq_ofNat_of_zero_le h1;exact ⟨i,st[i]'(by omega),rfl,List.getElem?_eq_getElem _⟩
  refine ⟨m,b,fun w hw=>hb w 0 d.start hw h0,?_,?_⟩
  · intro s t s0 s1 t0 t1 he;obtain ⟨i,p,rfl,hp⟩:=aa s s0 s1;obtain ⟨j,q,rfl,hq⟩:=aa t t0 t1;have:=hinj i j p q hp hq fun w hw=>by rw[←hb w i p hw hp,←hb w j q hw hq];exact he w hw
    omega
  · intro s x hx h1;rcases Int.lt_or_le s 0 with h2|h2
    · rw[zES h2] at h1;omega
    · rcases Int.lt_or_le s m with h3|h3
      · obtain ⟨i,p,rfl,hp⟩:=aa s h2 h3;rcases hnext i x p hp hx with ⟨h4,_⟩|⟨j,t,h4,h5,_,w,hw,h7⟩
        · omega
        · exact ⟨w,hw,by rw[h4,hb w j t hw h5];exact h7⟩
      · exfalso;unfold toD at h1;have e:C.next[s.toNat]?=none:=List.getElem?_eq_none (by rw[b.ok.nl];omega);rw[if_neg qO] at h1;simp[List.getD_eq_getElem?_getD,e] at h1
--END
end Go.Proofs
namespace Go.Proofs
open Go Go.Eng Go.Sort
--BEGIN
theorem zFF:∀{l m:List Nat},l.Nodup→(∀x∈l,x∈m)→l.length≤m.length
  | [],_,_,_=>Nat.zero_le _
  | x::l,m,hd,h=>by
    have hd':=List.nodup_cons.1 hd;have hx:=h x List.mem_cons_self;have h1:=zFF (l:=l) (m:=m.erase x) hd'.2 fun y hy=>(List.mem_erase_of_ne (show y≠x from fun e=>hd'.1 (by rw[←e];exact hy))).2 (h y (List.mem_cons_of_mem _ hy));rw[List.length_erase_of_mem hx] at h1;have:=List.length_pos_of_mem hx;simp only[List.length_cons];omega
structure Num (keys:List (Option (List Int))) (ks:List (List Int)) (out:List Int):Prop where
 len:out.length=keys.length
 nd:ks.Nodup
 non:∀(s:Nat),keys[s]?=some none→out[s]?=some (-1)
 som:∀(s:Nat) k,keys[s]?=some (some k)→∃j:Nat,out[s]?=some ((j:Nat):Int)∧ks[j]?=some k
 all:∀k∈ks,some k∈keys
theorem Num.start:Num [] [] []:=⟨rfl,List.nodup_nil,fun s h=>by simp at h,fun s k h=>by simp at h,fun k h=>by cases h⟩
theorem zBz {α:Type} {l:List α} {a x:α} {i:Nat} (h:(l++[a])[i]?=some x):l[i]?=some x∨(i=l.length∧x=a):=by
 rcases Nat.lt_or_ge i l.length with h1|h1
 ·left;rwa [List.getElem?_append_left h1] at h
 ·right;rw[List.getElem?_append_right h1] at h;have h2:=zAE h;simp at h2;rw[show i - l.length=0 by omega] at h;simp at h;exact ⟨qO,h.symm⟩
theorem Num.none {keys:List (Option (List Int))} {ks:List (List Int)} {out:List Int} (h:Num keys ks out):Num (keys++[Option.none]) ks (out++[-1]):=by
 refine ⟨by simp[h.len],h.nd,fun s hs=>?_,fun s k hs=>?_,fun k hk=>List.mem_append_left _ (h.all k hk)⟩
 ·rcases zBz hs with h1|⟨h1,_⟩
  ·have:=h.non s h1
   rwa [List.getElem?_append_left (zAE this)]
  ·rw[h1,List.getElem?_append_right (by rw[h.len];exact Nat.le_refl _),h.len,Nat.sub_self];rfl
 ·rcases zBz hs with h1|⟨_,h2⟩
  ·obtain ⟨j,h3,h4⟩:=h.som s k h1;exact ⟨j,by rw[List.getElem?_append_left (zAE h3)];exact h3,h4⟩
  ·cases h2
theorem Num.hit {keys:List (Option (List Int))} {ks:List (List Int)} {out:List Int} {k:List Int} {j:Nat} (h:Num keys ks out) (hj:ks[j]?=some k):Num (keys++[some k]) ks (out++[((j:Nat):Int)]):=by
 refine ⟨by simp[h.len],h.nd,fun s hs=>?_,fun s q hs=>?_,fun q hq=>List.mem_append_left _ (h.all q hq)⟩
 ·rcases zBz hs with h1|⟨_,h2⟩
  ·have:=h.non s h1
   rwa [List.getElem?_append_left (zAE this)]
  ·cases h2
 ·rcases zBz hs with h1|⟨h1,h2⟩
  ·obtain ⟨i,h3,h4⟩:=h.som s q h1;exact ⟨i,by rw[List.getElem?_append_left (zAE h3)];exact h3,h4⟩
  ·cases h2;exact ⟨j,by rw[h1,List.getElem?_append_right (by rw[h.len];exact Nat.le_refl _),h.len,Nat.sub_self];rfl,hj⟩
theorem Num.new {keys:List (Option (List Int))} {ks:List (List Int)} {out:List Int} {k:List Int} (h:Num keys ks out) (hk:k∉ks):Num (keys++[some k]) (ks++[k]) (out++[((ks.length:Nat):Int)]):=by
 refine ⟨by simp[h.len],?_,fun s hs=>?_,fun s q hs=>?_,fun q hq=>?_⟩
 ·rw[List.nodup_append];exact ⟨h.nd,qP,fun a ha b hb=>by rw[List.mem_singleton] at hb;subst hb;exact fun e=>hk (e▸ha)⟩
 ·rcases zBz hs with h1|⟨_,h2⟩
  ·have:=h.non s h1
   rwa [List.getElem?_append_left (zAE this)]
  ·cases h2
 ·rcases zBz hs with h1|⟨h1,h2⟩
  ·obtain ⟨i,h3,h4⟩:=h.som s q h1;exact ⟨i,by rw[List.getElem?_append_left (zAE h3)];exact h3,by rw[List.getElem?_append_left (zAE h4)];exact h4⟩
  ·cases h2;exact ⟨ks.length,by rw[h1,List.getElem?_append_right (by rw[h.len];exact Nat.le_refl _),h.len,Nat.sub_self];rfl,qP⟩
 ·rcases List.mem_append.1 hq with h1|h1
  ·exact List.mem_append_left _ (h.all q h1)
  ·rw[List.mem_singleton] at h1;subst h1;simp
theorem Num.eq_iff {keys:List (Option (List Int))} {ks:List (List Int)} {out:List Int} (h:Num keys ks out) {s t:Nat} {k q:List Int} (hs:keys[s]?=some (some k)) (ht:keys[t]?=some (some q)):out[s]?=out[t]?↔k=q:=by
 obtain ⟨i,h1,h2⟩:=h.som s k hs;obtain ⟨j,h3,h4⟩:=h.som t q ht;rw[h1,h3];constructor
 ·intro e;have:i=j:=by simp at e;omega
  subst this;rw[h2] at h4;exact Option.some.inj h4
 ·intro e;subst e;have hi:=zAE h2;have hj:=zAE h4;rw[List.getElem?_eq_getElem hi] at h2;rw[List.getElem?_eq_getElem hj] at h4;have e2:=(Option.some.inj h2).trans (Option.some.inj h4).symm;have:i=j:=by
   rcases Nat.lt_trichotomy i j with h5|h5|h5
   ·exact absurd e2 (List.pairwise_iff_getElem.1 h.nd i j hi hj h5)
   ·exact h5
   ·exact absurd e2.symm (List.pairwise_iff_getElem.1 h.nd j i hj hi h5)
  rw[this]
def ptD (p:List Int) (s:Int):Int:=if s<0 then -1 else p.getD s.toNat (-1)
theorem zCN {p:List Int} {s:Nat} {x:Int} (h:p[s]?=some x):ptD p ((s:Nat):Int)=x:=by
 unfold ptD;rw[if_neg qO,Int.toNat_natCast,List.getD_eq_getElem?_getD,h,Option.getD_some]
theorem zMN {p:List Int} {s:Int} (h:s<0):ptD p s = -1:=by unfold ptD;rw[if_pos h]
structure Refd (n c:Nat) (d:Dfa) (p:List Int) (cnt:Nat):Prop where
 len:p.length=n
 dead:∀s:Nat,s<n→¬zBX c d s→p[s]?=some (-1)
 liv:∀s:Nat,s<n→zBX c d s→∃j:Nat,p[s]?=some ((j:Nat):Int)∧j<cnt
 onto:∀j:Nat,j<cnt→∃s:Nat,s<n∧zBX c d s∧p[s]?=some ((j:Nat):Int)
 acc:∀s t:Nat,s<n→t<n→zBX c d s→zBX c d t→p[s]?=p[t]?→atD d s=atD d t
 eqv:∀s t:Nat,s<n→t<n→zBX c d s→zBX c d t→zLy c d s t→p[s]?=p[t]?
theorem Refd.cnt_le {n c cnt:Nat} {d:Dfa} {p:List Int} (h:Refd n c d p cnt):cnt≤n:=by
  -- each number has a state
  have ab:∀k,k≤cnt→∃l:List Nat,l.length=k∧l.Nodup∧(∀s∈l,s<n∧∃j:Nat,j<k∧p[s]?=some ((j:Nat):Int)):=by
    intro k
    induction k with
    | zero=>exact fun _=>⟨[],rfl,List.nodup_nil,fun s h=>by cases h⟩
    | succ k ih=>
      intro hk;obtain ⟨l,h1,h2,h3⟩:=ih qO;obtain ⟨s,hs,_,hp⟩:=h.onto k qO;refine ⟨s::l,by simp[h1],List.nodup_cons.2 ⟨fun hm=>?_,h2⟩,fun t ht=>?_⟩
      · obtain ⟨_,j,hj,aa⟩:=h3 s hm;rw[hp] at aa;simp at aa;omega
      · rcases List.mem_cons.1 ht with rfl|h4
        · exact ⟨hs,k,qO,hp⟩
        · obtain ⟨h5,j,h6,h7⟩:=h3 t h4;exact ⟨h5,j,qO,h7⟩
  obtain ⟨l,h1,h2,h3⟩:=ab cnt (Nat.le_refl _);have:=zFF (m:=List.range n) h2 fun s hs=>List.mem_range.2 (h3 s hs).1;simpa[h1] using this
theorem Refd.ptLive {n c cnt:Nat} {d:Dfa} {p:List Int} (h:Refd n c d p cnt) {s:Int} (hs : -1≤s∧s<n):(0≤ptD p s↔zBX c d s)∧-1≤ptD p s:=by
 rcases Int.lt_or_le s 0 with h1|h1
 ·rw[zMN h1];exact ⟨⟨fun h=>absurd h qD,fun h=>absurd h (zBx h1)⟩,Int.le_refl _⟩
 ·obtain ⟨k,rfl⟩:=Int.eq_ofNat_of_zero_le h1;by_cases hl:zBX c d ((k:Nat):Int)
  ·obtain ⟨j,h2,_⟩:=h.liv k qO hl;rw[zCN h2];exact ⟨⟨fun _=>hl,fun _=>qO⟩,qO⟩
  ·rw[zCN (h.dead k qO hl)];exact ⟨⟨fun h=>absurd h qD,fun h=>absurd h hl⟩,Int.le_refl _⟩
theorem Refd.ptEqv {n c cnt:Nat} {d:Dfa} {p:List Int} (h:Refd n c d p cnt) {s t:Int} (hs : -1≤s∧s<n) (ht : -1≤t∧t<n) (he:zLy c d s t):ptD p s=ptD p t:=by
 obtain ⟨a1,a2⟩:=h.ptLive hs;obtain ⟨b1,b2⟩:=h.ptLive ht;by_cases hl:zBX c d s
 ·have aa:=he.live hl;have s0:0≤s:=by rcases Int.lt_or_le s 0 with h1|h1;exact absurd hl (zBx h1);exact h1
  have t0:0≤t:=by rcases Int.lt_or_le t 0 with h1|h1;exact absurd aa (zBx h1);exact h1
  obtain ⟨i,rfl⟩:=Int.eq_ofNat_of_zero_le s0;obtain ⟨j,rfl⟩:=Int.eq_ofNat_of_zero_le t0;have h3:=h.eqv i j qO qO hl aa he;obtain ⟨a,h4,_⟩:=h.liv i qO hl;rw[zCN h4,zCN (h3▸h4)]
 ·have aa:¬zBX c d t:=fun h2=>hl (zLy.live (fun w hw=>(he w hw).symm) h2);have h3:¬0≤ptD p s:=fun h=>hl (a1.1 h);have h4:¬0≤ptD p t:=fun h=>aa (b1.1 h);omega
def zDM (c:Nat) (d:Dfa) (p:List Int) (s:Nat):List Int:=ptD p s::(List.range c).map fun x=>ptD p (toD d s x)
theorem zEa {c:Nat} {d:Dfa} {p:List Int} {s t:Nat}:zDM c d p s=zDM c d p t↔ptD p s=ptD p t∧∀x,x<c→ptD p (toD d s x)=ptD p (toD d t x):=by
 unfold zDM;rw[List.cons.injEq];constructor
 ·rintro ⟨h1,h2⟩;refine ⟨h1,fun x hx=>?_⟩;have:=congrArg (fun l=>l[x]?) h2;simpa[hx] using this
 ·rintro ⟨h1,h2⟩;exact ⟨h1,List.map_congr_left fun x hx=>h2 x (List.mem_range.1 hx)⟩
theorem Refd.of_num {n c:Nat} {d:Dfa} {keys:List (Option (List Int))} {ks:List (List Int)} {q:List Int} (hN:Num keys ks q) (hl:keys.length=n) (hd:∀s:Nat,s<n→¬zBX c d s→keys[s]?=some none) {key:Nat→List Int} (hk:∀s:Nat,s<n→zBX c d s→keys[s]?=some (some (key s)))
  (ha:∀s t:Nat,s<n→t<n→zBX c d s→zBX c d t→key s=key t→atD d s=atD d t) (he:∀s t:Nat,s<n→t<n→zBX c d s→zBX c d t→zLy c d s t→key s=key t):Refd n c d q ks.length:=by
 refine ⟨by rw[hN.len,hl],fun s hs h=>hN.non s (hd s hs h),fun s hs h=>?_,fun j hj=>?_,fun s t hs ht l1 l2 h=>?_,fun s t hs ht l1 l2 h=>?_⟩
 ·obtain ⟨j,h1,h2⟩:=hN.som s _ (hk s hs h);exact ⟨j,h1,zAE h2⟩
 ·obtain ⟨k,aa⟩:=zAN hj;obtain ⟨s,hs⟩:=List.getElem?_of_mem (hN.all k (List.mem_of_getElem? aa));have ab:s<n:=by rw[←hl];exact zAE hs
  have ac:zBX c d s:=Classical.byContradiction fun h=>by rw[hd s ab h] at hs;cases hs
  obtain ⟨i,h1,h2⟩:=hN.som s k hs;refine ⟨s,ab,ac,?_⟩;have hi:=zAE h2;rw[List.getElem?_eq_getElem hi] at h2;rw[List.getElem?_eq_getElem hj] at aa;have e2:=(Option.some.inj h2).trans (Option.some.inj aa).symm;have:i=j:=by
   rcases Nat.lt_trichotomy i j with h5|h5|h5
   ·exact absurd e2 (List.pairwise_iff_getElem.1 hN.nd i j hi hj h5)
   ·exact h5
   ·exact absurd e2.symm (List.pairwise_iff_getElem.1 hN.nd j i hj hi h5)
  rw[←this];exact h1
 ·exact ha s t hs ht l1 l2 ((hN.eq_iff (hk s hs l1) (hk t ht l2)).1 h)
 ·exact (hN.eq_iff (hk s hs l1) (hk t ht l2)).2 (he s t hs ht l1 l2 h)
structure PartsOf (n c:Nat) (d:Dfa) (q:List Int):Prop where
 len:q.length=n
 live:∀s:Int,-1≤s∧s<n→(0≤ptD q s↔zBX c d s)∧-1≤ptD q s∧ptD q s<n
 iff:∀s t:Int,-1≤s∧s<n→-1≤t∧t<n→(ptD q s=ptD q t↔zLy c d s t)
theorem Refd.same {n c cnt:Nat} {d:Dfa} {p q:List Int} (hp:Refd n c d p cnt) (hq:Refd n c d q cnt) (hf:∀s t:Nat,s<n→t<n→zBX c d s→zBX c d t→q[s]?=q[t]?→p[s]?=p[t]?) :
  ∀s t:Nat,s<n→t<n→zBX c d s→zBX c d t→p[s]?=p[t]?→q[s]?=q[t]?:=by
 intro s t hs ht l1 l2 ah;apply Classical.byContradiction;intro an;obtain ⟨a,ha,ad⟩:=hq.liv s hs l1;obtain ⟨b,hb,ag⟩:=hq.liv t ht l2;have aj:a≠b:=fun e=>an (by rw[ha,hb,e])
 -- each number of q other than b goes to a number of p; all are met
 have ab:∀j:Nat,∃i:Nat,j<cnt→(i<cnt∧∀u:Nat,u<n→zBX c d u→q[u]?=some ((j:Nat):Int)→p[u]?=some ((i:Nat):Int)):=by
  intro j;by_cases hj:j<cnt
  ·obtain ⟨u,hu,lu,ai⟩:=hq.onto j hj;obtain ⟨i,hi,al⟩:=hp.liv u hu lu;refine ⟨i,fun _=>⟨al,fun v hv lv am=>?_⟩⟩;rw[←hf u v hu hv lu lv (by rw[ai,am])];exact hi
  ·exact ⟨0,fun h=>absurd h hj⟩
 obtain ⟨f,aa⟩:=Classical.axiomOfChoice ab;have ak:=zFF (l:=List.range cnt) (m:=((List.range cnt).erase b).map f) List.nodup_range fun i hi=>by
  rw[List.mem_range] at hi;obtain ⟨u,hu,lu,af⟩:=hp.onto i hi;obtain ⟨j,hj,ac⟩:=hq.liv u hu lu;have h1:=(aa j ac).2 u hu lu hj;rw[af] at h1;have ae:f j=i:=by simp at h1;omega
  by_cases hjb:j=b
  ·-- then a serves
   subst hjb;have h2:=(aa a ad).2 s hs l1 ha;have h3:=(aa j ac).2 t ht l2 hb;have h4:f a=f j:=by rw[ah,h3] at h2;simp at h2;omega
   refine List.mem_map.2 ⟨a,(List.mem_erase_of_ne aj).2 (List.mem_range.2 ad),by rw[h4,ae]⟩
  ·exact List.mem_map.2 ⟨j,(List.mem_erase_of_ne hjb).2 (List.mem_range.2 ac),ae⟩
 rw[List.length_map,List.length_erase_of_mem (List.mem_range.2 ag),List.length_range] at ak;omega
theorem Refd.final {n c cnt:Nat} {d:Dfa} {p q:List Int} (ok:OkD n c d) (hp:Refd n c d p cnt) (hq:Refd n c d q cnt)
    (hk:∀s t:Nat,s<n→t<n→zBX c d s→zBX c d t→(q[s]?=q[t]?↔zDM c d p s=zDM c d p t)):PartsOf n c d q:=by
  have ae:∀s:Nat,s<n→zBX c d s→∃a:Nat,p[s]?=some ((a:Nat):Int)∧ptD p s=((a:Nat):Int):=fun s hs l=>by
    obtain ⟨a,h1,_⟩:=hp.liv s hs l;exact ⟨a,h1,zCN h1⟩
  have ad:∀s t:Nat,s<n→t<n→zBX c d s→zBX c d t→(p[s]?=p[t]?↔ptD p s=ptD p t):=fun s t hs ht l1 l2=>by
    obtain ⟨a,h1,h2⟩:=ae s hs l1;obtain ⟨b,h3,h4⟩:=ae t ht l2;rw[h1,h2,h3,h4];simp
  have ac:=hp.same hq fun s t hs ht l1 l2 h=>(ad s t hs ht l1 l2).2 (zEa.1 ((hk s t hs ht l1 l2).1 h)).1;have af:∀w,inW c w→∀s t:Int,-1≤s∧s<n→-1≤t∧t<n→ptD q s=ptD q t→beh d s w=beh d t w:=by
    intro w
    induction w with
    | nil=>
      intro hw s t hs ht h;obtain ⟨a1,a2⟩:=hq.ptLive hs;obtain ⟨b1,b2⟩:=hq.ptLive ht;by_cases hl:zBX c d s
      · have ab:zBX c d t:=b1.1 (by rw[←h];exact a1.2 hl);have s0:0≤s:=by rcases Int.lt_or_le s 0 with h1|h1;exact absurd hl (zBx h1);exact h1
        have t0:0≤t:=by rcases Int.lt_or_le t 0 with h1|h1;exact absurd ab (zBx h1);exact h1
        obtain ⟨i,rfl⟩:=Int.eq_ofNat_of_zero_le s0;obtain ⟨j,rfl⟩:=Int.eq_ofNat_of_zero_le t0;obtain ⟨a,h1,_⟩:=hq.liv i qO hl;obtain ⟨b,h2,_⟩:=hq.liv j qO ab;rw[zCN h1,zCN h2] at h;exact hq.acc i j qO qO hl ab (by rw[h1,h2,h])
      · have ab:¬zBX c d t:=fun h2=>hl (a1.1 (by rw[h];exact b1.2 h2));rw[ok.dead hl hw,ok.dead ab hw]
    | cons x w ih=>
      intro hw s t hs ht h;obtain ⟨a1,a2⟩:=hq.ptLive hs;obtain ⟨b1,b2⟩:=hq.ptLive ht;by_cases hl:zBX c d s
      · have ab:zBX c d t:=b1.1 (by rw[←h];exact a1.2 hl);have s0:0≤s:=by rcases Int.lt_or_le s 0 with h1|h1;exact absurd hl (zBx h1);exact h1
        have t0:0≤t:=by rcases Int.lt_or_le t 0 with h1|h1;exact absurd ab (zBx h1);exact h1
        obtain ⟨i,rfl⟩:=Int.eq_ofNat_of_zero_le s0;obtain ⟨j,rfl⟩:=Int.eq_ofNat_of_zero_le t0;obtain ⟨a,h1,_⟩:=hq.liv i qO hl;obtain ⟨b,h2,_⟩:=hq.liv j qO ab;rw[zCN h1,zCN h2] at h;have h3:=(zEa.1 ((hk i j qO qO hl ab).1 (by rw[h1,h2,h]))).2 x hw.head;have ti:=ok.to (s:=((i:Nat):Int)) (x:=x);have tj:=ok.to (s:=((j:Nat):Int)) (x:=x);simp only[beh];refine ih hw.tail _ _ ti tj ?_;obtain ⟨c1,c2⟩:=hp.ptLive ti;obtain ⟨d1,d2⟩:=hp.ptLive tj;obtain ⟨e1,e2⟩:=hq.ptLive ti;obtain ⟨f1,f2⟩:=hq.ptLive tj;by_cases hlt:zBX c d (toD d ((i:Nat):Int) x)
        · have aa:zBX c d (toD d ((j:Nat):Int) x):=d1.1 (by rw[←h3];exact c1.2 hlt);obtain ⟨u,hu⟩:=Int.eq_ofNat_of_zero_le (show 0≤toD d ((i:Nat):Int) x by rcases Int.lt_or_le (toD d ((i:Nat):Int) x) 0 with h1|h1;exact absurd hlt (zBx h1);exact h1);obtain ⟨v,hv⟩:=Int.eq_ofNat_of_zero_le (show 0≤toD d ((j:Nat):Int) x by rcases Int.lt_or_le (toD d ((j:Nat):Int) x) 0 with h1|h1;exact absurd aa (zBx h1);exact h1);rw[hu] at hlt h3 ti⊢;rw[hv] at aa h3 tj⊢;have h4:=ac u v qO qO hlt aa ((ad u v qO qO hlt aa).2 h3);obtain ⟨a',h5,_⟩:=hq.liv u qO hlt;rw[zCN h5,zCN (h4▸h5)]
        · have aa:¬zBX c d (toD d ((j:Nat):Int) x):=fun h2=>hlt (c1.1 (by rw[h3];exact d1.2 h2));have h5:¬0≤ptD q (toD d ((i:Nat):Int) x):=fun h=>hlt (e1.1 h);have h6:¬0≤ptD q (toD d ((j:Nat):Int) x):=fun h=>aa (f1.1 h);omega
      · have ab:¬zBX c d t:=fun h2=>hl (a1.1 (by rw[h];exact b1.2 h2));rw[ok.dead hl hw,ok.dead ab hw]
  refine ⟨hq.len,fun s hs=>⟨(hq.ptLive hs).1,(hq.ptLive hs).2,?_⟩,fun s t hs ht=>⟨fun h w hw=>af w hw s t hs ht h,fun h=>hq.ptEqv hs ht h⟩⟩;have hcn:=hq.cnt_le;by_cases hl:zBX c d s
  · have s0:0≤s:=by rcases Int.lt_or_le s 0 with h1|h1;exact absurd hl (zBx h1);exact h1
    obtain ⟨i,rfl⟩:=Int.eq_ofNat_of_zero_le s0;obtain ⟨a,h1,h2⟩:=hq.liv i qO hl;rw[zCN h1];omega
  · have:=(hq.ptLive hs).1;have h5:¬0≤ptD q s:=fun h=>hl (this.1 h);have:=hs.1;have hst:=ok.st;omega
--END
end Go.Proofs
namespace Go.Proofs
open Go Go.Eng Go.Sort
--BEGIN
structure IntoP (n c:Nat) (d:Dfa) (into:List (List Int)) (s k:Nat):Prop where
 len:into.length=n
 snd:∀(t:Nat) l,into[t]?=some l→∀x∈l,0≤x∧x<n∧∃y,y<c∧toD d x y=((t:Nat):Int)
 cmp:∀s' y:Nat,y<c→(s'<s∨(s'=s∧y<k))→0≤toD d ((s':Nat):Int) y→∃l,into[(toD d ((s':Nat):Int) y).toNat]?=some l∧((s':Nat):Int)∈l
 sht:∀l∈into,l.length≤s*c+k
theorem IntoP.start (n c:Nat) (d:Dfa):IntoP n c d (List.replicate n []) 0 0:=by
 have hv:∀(t:Nat) l,(List.replicate n ([]:List Int))[t]?=some l→l=[]:=fun t l h=>(List.mem_replicate.1 (List.mem_of_getElem? h)).2;exact ⟨qP,fun t l h x hx=>(by rw[hv t l h] at hx;cases hx),fun s' y _ h=>qO,fun l hl=>by rw[(List.mem_replicate.1 hl).2];exact Nat.zero_le _⟩
theorem IntoP.row {n c s k:Nat} {d:Dfa} {into:List (List Int)} (h:IntoP n c d into s k) (hk:k=c):IntoP n c d into (s+1) 0:=by
 subst hk;exact ⟨h.len,h.snd,fun s' y hy h1 h2=>h.cmp s' y hy qO h2,fun l hl=>by have:=h.sht l hl;rw[Nat.add_mul];omega⟩
theorem IntoP.skip {n c s k:Nat} {d:Dfa} {into:List (List Int)} (h:IntoP n c d into s k) (ht:toD d ((s:Nat):Int) k<0):IntoP n c d into s (k+1):=by
 refine ⟨h.len,h.snd,fun s' y hy h1 h2=>?_,fun l hl=>by have:=h.sht l hl;omega⟩;by_cases he:s'=s∧y=k
 ·obtain ⟨rfl,rfl⟩:=he;omega
 ·exact h.cmp s' y hy qO h2
theorem IntoP.add {n c s k t:Nat} {d:Dfa} {into:List (List Int)} {l:List Int} (h:IntoP n c d into s k) (hs:s<n) (hk:k<c) (ht:toD d ((s:Nat):Int) k=((t:Nat):Int)) (hl:into[t]?=some l):IntoP n c d (into.set t (l++[((s:Nat):Int)])) s (k+1):=by
 have ac:=zAE hl;have aa:∀(i:Nat) q,(into.set t (l++[((s:Nat):Int)]))[i]?=some q→(i=t∧q=l++[((s:Nat):Int)])∨(i≠t∧into[i]?=some q):=by
  intro i q hq;rw[List.getElem?_set] at hq;split at hq
  ·rename_i he
   exact .inl ⟨he.symm,(Option.some.inj hq).symm⟩
  ·rename_i he
   exact .inr ⟨fun e=>he e.symm,hq⟩
 refine ⟨by simp[h.len],fun i q hq x hx=>?_,fun s' y hy h1 h2=>?_,fun q hq=>?_⟩
 ·rcases aa i q hq with ⟨rfl,rfl⟩|⟨_,h3⟩
  ·rcases List.mem_append.1 hx with h4|h4
   ·exact h.snd i l hl x h4
   ·rw[List.mem_singleton] at h4;subst h4;exact ⟨qO,qO,k,hk,ht⟩
  ·exact h.snd i q h3 x hx
 ·have ab:(∃q,into[(toD d ((s':Nat):Int) y).toNat]?=some q∧((s':Nat):Int)∈q)→∃q,(into.set t (l++[((s:Nat):Int)]))[(toD d ((s':Nat):Int) y).toNat]?=some q∧((s':Nat):Int)∈q:=by
   rintro ⟨q,h3,h4⟩;by_cases he:(toD d ((s':Nat):Int) y).toNat=t
   ·rw[he] at h3⊢;rw[hl] at h3;cases h3;exact ⟨_,by rw[List.getElem?_set,if_pos rfl,if_pos ac],List.mem_append_left _ h4⟩
   ·exact ⟨q,by rw[List.getElem?_set,if_neg (fun e=>he e.symm)];exact h3,h4⟩
  by_cases he:s'=s∧y=k
  ·obtain ⟨rfl,rfl⟩:=he;rw[ht,Int.toNat_natCast];exact ⟨_,by rw[List.getElem?_set,if_pos rfl,if_pos ac],qP⟩
  ·exact ab (h.cmp s' y hy qO h2)
 ·obtain ⟨i,hi⟩:=List.getElem?_of_mem hq;rcases aa i q hi with ⟨_,rfl⟩|⟨_,h3⟩
  ·have:=h.sht l (List.mem_of_getElem? hl);simp;omega
  ·have:=h.sht q (List.mem_of_getElem? h3);omega
structure LiveP (n c:Nat) (d:Dfa) (M:List Bool) (work:List Int) (k:Nat):Prop where
 len:M.length=n
 wrk:∀x∈work,∃i:Nat,x=((i:Nat):Int)∧M[i]?=some true
 snd:∀i:Nat,M[i]?=some true→zBX c d ((i:Nat):Int)
 acc:∀i:Nat,i<k→0≤atD d ((i:Nat):Int)→M[i]?=some true
 cnt:work.length+M.countP (fun b=>!b)≤n
theorem LiveP.start (n c:Nat) (d:Dfa):LiveP n c d (List.replicate n false) [] 0:=by
 refine ⟨qP,fun x h=>(by cases h),fun i h=>?_,fun i h=>qO,?_⟩
 ·have:=(List.mem_replicate.1 (List.mem_of_getElem? h)).2;cases this
 ·simp[List.countP_replicate]
theorem count_set {M:List Bool} {i:Nat} (h:M[i]?=some false):(M.set i true).countP (fun b=>!b)+1=M.countP fun b=>!b:=by
 have hi:=zAE h;have e:M=M.take i++false::M.drop (i+1):=by
  have h1:M.drop i=false::M.drop (i+1):=by
   rw[List.drop_eq_getElem_cons hi];rw[List.getElem?_eq_getElem hi] at h;rw[Option.some.inj h]
  rw[←h1,List.take_append_drop]
 have e2:M.set i true=M.take i++true::M.drop (i+1):=by rw[List.set_eq_take_append_cons_drop,if_pos hi]
 rw[e2]
 conv=>rhs;rw[e]
 rw[List.countP_append,List.countP_append,List.countP_cons,List.countP_cons];simp;omega
theorem zFP {M:List Bool} {i j:Nat} (h:M[j]?=some true):(M.set i true)[j]?=some true:=by
 rw[List.getElem?_set];split
 ·rename_i he
  subst he;rw[if_pos (zAE h)]
 ·exact h
theorem zMG {M:List Bool} {i j:Nat} (h:(M.set i true)[j]?=some true):j=i∨M[j]?=some true:=by
 rw[List.getElem?_set] at h;split at h
 ·rename_i he;exact .inl he.symm
 ·exact .inr h
theorem LiveP.mark {n c k i:Nat} {d:Dfa} {M:List Bool} {work:List Int} (h:LiveP n c d M work k) (hM:M[i]?=some false) (hl:zBX c d ((i:Nat):Int)):LiveP n c d (M.set i true) (work++[((i:Nat):Int)]) k:=by
 have hi:=zAE hM;refine ⟨by simp[h.len],fun x hx=>?_,fun j hj=>?_,fun j hj ha=>zFP (h.acc j hj ha),?_⟩
 ·rcases List.mem_append.1 hx with h1|h1
  ·obtain ⟨j,h2,h3⟩:=h.wrk x h1;exact ⟨j,h2,zFP h3⟩
  ·rw[List.mem_singleton] at h1;exact ⟨i,h1,by rw[List.getElem?_set,if_pos rfl,if_pos hi]⟩
 ·rcases zMG hj with h1|h1
  ·rw[h1];exact hl
  ·exact h.snd j h1
 ·have:=count_set hM;have:=h.cnt;simp;omega
theorem LiveP.next {n c k:Nat} {d:Dfa} {M:List Bool} {work:List Int} (h:LiveP n c d M work k) (ha:0≤atD d ((k:Nat):Int)→M[k]?=some true):LiveP n c d M work (k+1):=
 ⟨h.len,h.wrk,h.snd,fun i hi h1=>by rcases Nat.lt_or_ge i k with h2|h2;exact h.acc i h2 h1;obtain rfl:i=k:=qO;exact ha h1,h.cnt⟩
def zId (into:List (List Int)) (M:List Bool) (work:List Int):Prop:=∀t:Nat,M[t]?=some true→((t:Nat):Int)∈work∨∀l,into[t]?=some l→∀x∈l,M[x.toNat]?=some true
theorem zId.mark {into:List (List Int)} {M:List Bool} {work:List Int} {i:Nat} (h:zId into M work):zId into (M.set i true) (work++[((i:Nat):Int)]):=by
 intro t ht;rcases zMG ht with h1|h1
 ·left;rw[h1];simp
 ·rcases h t h1 with h2|h2
  ·exact .inl (List.mem_append_left _ h2)
  ·exact .inr fun l hl x hx=>zFP (h2 l hl x hx)
def zIp (into:List (List Int)) (M:List Bool) (work:List Int) (u:Nat) (lu:List Int) (k:Nat):Prop:=
 (∀t:Nat,M[t]?=some true→t≠u→((t:Nat):Int)∈work∨∀l,into[t]?=some l→∀x∈l,M[x.toNat]?=some true)∧∀x∈lu.take k,M[x.toNat]?=some true
theorem zId.open {into:List (List Int)} {M:List Bool} {work:List Int} {u:Nat} (h:zId into M (work++[((u:Nat):Int)])) (lu:List Int):zIp into M work u lu 0:=by
 refine ⟨fun t ht hne=>?_,fun x hx=>by simp at hx⟩;rcases h t ht with h1|h1
 ·rcases List.mem_append.1 h1 with h2|h2
  ·exact .inl h2
  ·rw[List.mem_singleton] at h2;omega
 ·exact .inr h1
theorem zIp.seen {into:List (List Int)} {M:List Bool} {work:List Int} {u k:Nat} {lu:List Int} {x:Int} (h:zIp into M work u lu k) (hx:lu[k]?=some x) (hM:M[x.toNat]?=some true):zIp into M work u lu (k+1):=by
 refine ⟨h.1,fun y hy=>?_⟩;rw[List.take_add_one,hx] at hy;rcases List.mem_append.1 hy with h1|h1
 ·exact h.2 y h1
 ·simp at h1;subst h1;exact hM
theorem zIp.mark {into:List (List Int)} {M:List Bool} {work:List Int} {u k i:Nat} {lu:List Int} (h:zIp into M work u lu k) (hx:lu[k]?=some ((i:Nat):Int)) (hM:M[i]?=some false):zIp into (M.set i true) (work++[((i:Nat):Int)]) u lu (k+1):=by
 have hi:=zAE hM;refine ⟨fun t ht aa=>?_,fun y hy=>?_⟩
 ·rcases zMG ht with h1|h1
  ·left;rw[h1];simp
  ·rcases h.1 t h1 aa with h2|h2
   ·exact .inl (List.mem_append_left _ h2)
   ·exact .inr fun l hl x hx=>zFP (h2 l hl x hx)
 ·rw[List.take_add_one,hx] at hy;rcases List.mem_append.1 hy with h1|h1
  ·exact zFP (h.2 y h1)
  ·simp at h1;subst h1;rw[Int.toNat_natCast,List.getElem?_set,if_pos rfl,if_pos hi]
theorem zIp.done {into:List (List Int)} {M:List Bool} {work:List Int} {u k:Nat} {lu:List Int} (h:zIp into M work u lu k) (hl:into[u]?=some lu) (hk:k=lu.length):zId into M work:=by
 intro t ht;by_cases he:t=u
 ·subst he;right;intro l aa x hx;rw[hl] at aa;cases aa;exact h.2 x (by rw[hk,List.take_length];exact hx)
 ·exact h.1 t ht he
structure LiveOf (n c:Nat) (d:Dfa) (M:List Bool):Prop where
 len:M.length=n
 iff:∀s:Nat,s<n→(M[s]?=some true↔zBX c d ((s:Nat):Int))
theorem zOP {n c:Nat} {d:Dfa} {M:List Bool} {into:List (List Int)} (ok:OkD n c d) (hI:IntoP n c d into n 0) (hL:LiveP n c d M [] n) (hC:zId into M []):LiveOf n c d M:=by
  refine ⟨hL.len,fun s hs=>⟨hL.snd s,?_⟩⟩;rintro ⟨w,hw,h⟩;have aa:∀(w:List Nat) (s:Nat),s<n→inW c w→0≤beh d ((s:Nat):Int) w→M[s]?=some true:=by
    intro w
    induction w with
    | nil=>exact fun s hs _ h=>hL.acc s hs h
    | cons x w ih=>
      intro s hs hw h;simp only[beh] at h;have ht:=ok.to (s:=((s:Nat):Int)) (x:=x);rcases Int.lt_or_le (toD d ((s:Nat):Int) x) 0 with h1|h1
      · rw[zDi h1] at h;omega
      · obtain ⟨t,he⟩:=Int.eq_ofNat_of_zero_le h1;rw[he] at h ht;have hm:=ih t qO hw.tail h;obtain ⟨l,h2,h3⟩:=hI.cmp s x hw.head (.inl hs) h1;rw[he,Int.toNat_natCast] at h2;rcases hC t hm with h4|h4
        · cases h4
        · have:=h4 l h2 _ h3
          rwa [Int.toNat_natCast] at this
  exact aa w s hs hw h
--END
end Go.Proofs
namespace Go.Proofs
open Go Go.Eng
set_option maxRecDepth 100000
theorem zAy:Siz prog 3 1:=by unfold Siz;kernel_rfl
theorem zJU:Byt prog 3 8:=by unfold Byt;kernel_rfl
theorem zDI:Zer prog 3 (.int .i64 0):=by unfold Zer;kernel_rfl
theorem zAo:zDF prog 3=true:=by kernel_rfl
theorem zTB:Siz prog 4 1:=by unfold Siz;kernel_rfl
theorem byt4:Byt prog 4 1:=by unfold Byt;kernel_rfl
theorem zer4:Zer prog 4 (.bool false):=by unfold Zer;kernel_rfl
theorem zKE:zDF prog 4=true:=by kernel_rfl
theorem zRR:Siz prog 5 1:=by unfold Siz;kernel_rfl
theorem zXX:Byt prog 5 1:=by unfold Byt;kernel_rfl
theorem zWh:Zer prog 5 (.int .u8 0):=by unfold Zer;kernel_rfl
theorem zXN:zDF prog 5=true:=by kernel_rfl
theorem zVI:Siz prog 9 1:=by unfold Siz;kernel_rfl
theorem byt9:Byt prog 9 16:=by unfold Byt;kernel_rfl
theorem zWg:Zer prog 9 (.string ByteArray.empty):=by unfold Zer;kernel_rfl
theorem zQX:zDF prog 9=true:=by kernel_rfl
theorem zBL:Siz prog 22 1:=by unfold Siz;kernel_rfl
theorem zMk:Byt prog 22 24:=by unfold Byt;kernel_rfl
theorem zEg:Zer prog 22 (.slice none 0 0):=by unfold Zer;kernel_rfl
theorem zBP:zDF prog 22=true:=by kernel_rfl
theorem zCd:Siz prog 23 1:=by unfold Siz;kernel_rfl
theorem zWW:Byt prog 23 24:=by unfold Byt;kernel_rfl
theorem zOx:Zer prog 23 (.slice none 0 0):=by unfold Zer;kernel_rfl
theorem zCZ:zDF prog 23=true:=by kernel_rfl
theorem zFw:Siz prog 24 1:=by unfold Siz;kernel_rfl
theorem zEQ:zDF prog 24=true:=by kernel_rfl
theorem zAw:Siz prog 26 6:=by unfold Siz;kernel_rfl
theorem zEH:Zer prog 26 (.agg #[(.int .i64 0),(.slice none 0 0),(.slice none 0 0),(.int .i64 0),(.int .i64 0),(.bool false)]):=by unfold Zer;kernel_rfl
theorem zBc:zLq prog 26=true:=by kernel_rfl
theorem zPQ:Siz prog 29 1:=by unfold Siz;kernel_rfl
theorem zVO:Zer prog 29 (.int .i64 0):=by unfold Zer;kernel_rfl
theorem zLW:zDF prog 29=true:=by kernel_rfl
theorem zBu:Siz prog 32 1:=by unfold Siz;kernel_rfl
theorem zBi:zDF prog 32=true:=by kernel_rfl
theorem zAe:Siz prog 34 3:=by unfold Siz;kernel_rfl
theorem zUw:Byt prog 34 56:=by unfold Byt;kernel_rfl
theorem zBf:Zer prog 34 (.agg #[(.int .i64 0),(.slice none 0 0),(.slice none 0 0)]):=by unfold Zer;kernel_rfl
theorem zAx:zLq prog 34=true:=by kernel_rfl
theorem zHK:Siz prog 35 1:=by unfold Siz;kernel_rfl
theorem zWs:Zer prog 35 (.slice none 0 0):=by unfold Zer;kernel_rfl
theorem zDY:zDF prog 35=true:=by kernel_rfl
theorem zBq:Siz prog 44 2:=by unfold Siz;kernel_rfl
theorem zKP:Byt prog 44 16:=by unfold Byt;kernel_rfl
theorem zEG:Zer prog 44 (.agg #[(.int .i64 0),(.int .i64 0)]):=by unfold Zer;kernel_rfl
theorem zGs:zLq prog 44=true:=by kernel_rfl
theorem zXB:Siz prog 69 1:=by unfold Siz;kernel_rfl
theorem zWr:Zer prog 69 (.slice none 0 0):=by unfold Zer;kernel_rfl
theorem zQY:zDF prog 69=true:=by kernel_rfl
theorem zUA:Siz prog 96 1:=by unfold Siz;kernel_rfl
theorem zWN:zDF prog 96=true:=by kernel_rfl
theorem zVh:Siz prog 139 1:=by unfold Siz;kernel_rfl
theorem zVS:Zer prog 139 (.slice none 0 0):=by unfold Zer;kernel_rfl
theorem zUc:zDF prog 139=true:=by kernel_rfl
theorem zVg:Siz prog 143 1:=by unfold Siz;kernel_rfl
theorem zVR:Zer prog 143 .nilFunc:=by unfold Zer;kernel_rfl
theorem zKF:zDF prog 143=true:=by kernel_rfl
theorem zCL:Siz prog 163 2:=by unfold Siz;kernel_rfl
theorem zWY:Byt prog 163 16:=by unfold Byt;kernel_rfl
theorem zIs:Zer prog 163 (.agg #[(.int .i64 0),(.int .i64 0)]):=by unfold Zer;kernel_rfl
theorem zED:zLq prog 163=true:=by kernel_rfl
theorem zTC:Siz prog 203 1:=by unfold Siz;kernel_rfl
theorem zQb:zDF prog 203=true:=by kernel_rfl
theorem zCz:Siz prog 205 2:=by unfold Siz;kernel_rfl
theorem zWX:Byt prog 205 24:=by unfold Byt;kernel_rfl
theorem zIr:Zer prog 205 (.agg #[(.int .i64 0),(.string ByteArray.empty)]):=by unfold Zer;kernel_rfl
theorem zFh:zLq prog 205=true:=by kernel_rfl
theorem zVf:Siz prog 207 1:=by unfold Siz;kernel_rfl
theorem zVQ:Zer prog 207 .nilFunc:=by unfold Zer;kernel_rfl
theorem zQa:zDF prog 207=true:=by kernel_rfl
theorem zVe:Siz prog 215 1:=by unfold Siz;kernel_rfl
theorem zVP:Zer prog 215 .nilFunc:=by unfold Zer;kernel_rfl
theorem zQZ:zDF prog 215=true:=by kernel_rfl
theorem mixed:prog.follows .mixedOrders=true:=by kernel_rfl
end Go.Proofs
namespace Go.Eng
open Go
def inS (l:List (Int×Int)) (r:Int):Bool:=l.any fun s=>decide (s.1≤r) && decide (r≤s.2)
theorem zBO {w:World} {base e size n:Nat} {v:Value} {xs:List Value} (h:w.ownsRow base e size v n xs):∃a c,v=.slice a n c:=by
 rcases h.2 with ⟨rfl,rfl⟩|⟨g,cap,cur,rfl,_⟩
 ·exact ⟨_,_,rfl⟩
 ·exact ⟨_,_,rfl⟩
theorem zAq {M:Nat→Prop} {w w':World} {base e size n:Nat} {v:Value} {xs:List Value} (h:w.ownsRow base e size v n xs) (c:Chg M w w') (hm:∀k,v.ownBlock=some k→¬M k):w'.ownsRow base e size v n xs:=by
 refine ⟨h.1,?_⟩;rcases h.2 with hn|⟨g,ad,ac,rfl,hb,ab,aa⟩
 ·exact .inl hn
 ·refine .inr ⟨g,ad,ac,rfl,hb,?_,aa⟩;rw[c.blk g (Array.getElem?_eq_some_iff.1 ab).1 (hm g rfl)];exact ab
theorem zUJ {w:World} {base e size n m cap:Nat} {a:Option Addr} {xs:List Value} (h:w.ownsRow base e size (.slice a n cap) n xs) (hm:m≤n) (h0:0<n):w.ownsRow base e size (.slice a m cap) m (xs.take (m*size)):=by
 rcases h.2 with ⟨h1,rfl⟩|⟨g,ad,ac,hv,hb,ab,hnc,ae,af,aa⟩
 ·omega
 ·simp only[Value.slice.injEq] at hv;obtain ⟨rfl,_,rfl⟩:=hv;have ag:m*size≤n*size:=Nat.mul_le_mul_right _ hm;refine ⟨by rw[List.length_take,h.1];omega,.inr ⟨g,cap,ac,rfl,hb,ab,qO,ae,af,?_⟩⟩;rw[←aa,List.take_take,Nat.min_eq_left ag]
theorem zAj {w w':World} {base e size n:Nat} {v:Value} {xs:List Value} (h:w.ownsRow base e size v n xs) (c:Ext w w'):w'.ownsRow base e size v n xs:=zAq h c fun _ _ f=>f
theorem zBe {w:World} {base e size n:Nat} {a:Option Addr} {c:Nat} {xs:List Value} (h:w.ownsRow base e size (.slice a n c) n xs) (hn:0<n) :
  ∃g,a=some ⟨g,0,none⟩∧base≤g∧zBE w g 0 xs:=by
 rcases h.2 with ⟨h1,rfl⟩|⟨g,cap,cur,hv,hb,hgg,_,_,_,aa⟩
 ·omega
 ·simp only[Value.slice.injEq] at hv;obtain ⟨rfl,_,rfl⟩:=hv;refine ⟨g,rfl,hb,fun i v hv=>?_⟩;have:=h.cells (g:=g) rfl i v hv
  rwa [Addr.add_lit] at this
theorem zDS {w:World} {base e k n:Nat} {v:Value} {rows:List (List Value)} (h:w.ownsRow base e k v n rows.flatten) (hk:∀r∈rows,r.length=k) (hn:rows.length=n) (hpos:0<k):zCI w k v rows:=by
  obtain ⟨h1,h2⟩:=h;rcases h2 with ⟨rfl,rfl⟩|⟨g,ad,cur,rfl,hb,ab,hnc,ae,hcs,aa⟩
  · have:rows=[]:=List.eq_nil_of_length_eq_zero hn;subst this;exact zCI.nil w k _ _
  · refine ⟨_,ad,by rw[hn],by simp only[maxLen] at ae;omega,qO,.inr ⟨g,0,rfl,fun i r hr j u hu=>?_⟩⟩;have hc:(rows.flatten)[i*k+j]?=some u:=by
      clear aa ab h1 hn
      induction rows generalizing i with
      | nil=>simp at hr
      | cons x rs ih=>
        have hx:x.length=k:=hk x qP;cases i with
        | zero=>
          simp at hr;subst hr;have hj:=zAE hu;simp only[List.flatten_cons,Nat.zero_mul,Nat.zero_add];rw[List.getElem?_append_left hj];exact hu
        | succ i=>
          simp at hr;simp only[List.flatten_cons];rw[List.getElem?_append_right (by rw[hx,Nat.succ_mul];omega)];rw[show (i+1)*k+j - x.length=i*k+j from by rw[hx,Nat.succ_mul];omega];exact ih (fun r hr=>hk r (by simp[hr])) _ hr
    rw[←aa] at hc;have ac:i*k+j<n*k:=by
      have:=zAE hc;simp at this;omega
    rw[List.getElem?_take_of_lt ac] at hc;show w.cell? ⟨g,0+i*k+j,none⟩=some u;rw[Nat.zero_add];simp only[World.cell?,ab];simpa using hc
theorem zHI {P:Program} {w w':World} {base t ty e size bytes n m c:Nat} {i:TypeInfo} {z v v':Value} {xs news:List Value} {a:Addr} (ht:P.underlying t=some (.slice e)) (hi:P.info? e=some i) (hz:i.zero=some z) (hsize:i.size=size) (hby:i.bytes=bytes) (hzs:z.cells.size=size) (hsz:0<size)
  (hown:w.ownsRow base e size v n xs) (hl:news.length=m*size) (hnews:∀j u,news[j]?=some u→w.cell? (a.add j)=some u) (h1:∀u∈news,u.oneCell'=true) (h63:n+m≤maxLen) (hbytes:(n+m)*bytes≤140737488355328)
  (hr:(Builtin.append_ #[t,t] ty #[v,.slice (some a) m c]).run P w=.ok v' w'):∀k,v'.ownBlock=some k→v.ownBlock=some k∨w.heap.size≤k:=by
 rcases hown.2 with ⟨rfl,rfl⟩|⟨g,ac,af,rfl,hbg,hg,hnc,hcm,ai,ag⟩
 ·have hx:xs=[]:=List.eq_nil_of_length_eq_zero (by simpa using hown.1);subst hx;obtain ⟨v2,w2,ab,ah,_⟩:=run_append_own (P:=P) w w.heap.size t ty e i z size bytes ht hi hz hsize hby hzs hsz (.slice none 0 0) 0 [] (World.ownsRow_nil w w.heap.size e size) a m c news hl hnews h1 h63 hbytes (Nat.le_refl _);rw[ab] at hr;cases hr;intro k hk;exact .inr (ah.lt k hk).1
 ·have ae:n+m≤9223372036854775807:=by simp only[maxLen] at h63;omega
  subst hsize;subst hby
  by_cases hroom:n+m≤ac
  ·have ad:n*i.size+news.length≤af.size:=by rw[hl,ai,←Nat.add_mul];exact Nat.mul_le_mul_right _ hroom
   have ab:=run_append_room (P:=P) w t ty e i ht hi g n ac af hg a m c news hl hnews h1 hroom ad;rw[ab] at hr;cases hr;intro k hk;exact .inl hk
  ·have aa:∀j u,xs[j]?=some u→w.cell? ((⟨g,0,none⟩:Addr).add j)=some u:=hown.cells (g:=g) rfl;have ab:=run_append_grow (P:=P) w t ty e i z ht hi hz ⟨g,0,none⟩ n ac xs hown.1 aa a m c news hl hnews qO qO (growslice_fits qO hbytes);rw[ab] at hr;cases hr;intro k hk;simp only[Value.ownBlock,Option.some.injEq] at hk;exact .inr qO
theorem zHJ {P:Program} {w w':World} {base t ty e size bytes n m c:Nat} {i:TypeInfo} {z v v':Value} {xs news:List Value} {a:Addr} (ht:P.underlying t=some (.slice e)) (hi:P.info? e=some i) (hz:i.zero=some z) (hsize:i.size=size) (hby:i.bytes=bytes)
  (hown:w.ownsRow base e size v n xs) (hl:news.length=m*size) (hnews:∀j u,news[j]?=some u→w.cell? (a.add j)=some u) (h1:∀u∈news,u.oneCell'=true) (h63:n+m≤maxLen) (hbytes:(n+m)*bytes≤140737488355328)
  (hr:(Builtin.append_ #[t,t] ty #[v,.slice (some a) m c]).run P w=.ok v' w'):w.drawn≤w'.drawn:=by
 have ac:n+m≤9223372036854775807:=by simp only[maxLen] at h63;omega
 subst hsize;subst hby
 rcases hown.2 with ⟨rfl,rfl⟩|⟨g,ad,ag,rfl,hbg,hg,hnc,hcm,ah,af⟩
 ·by_cases hm:m=0
  ·subst hm;have h2:(Builtin.append_ #[t,t] ty #[.slice none 0 0,.slice (some a) 0 c]).run P w=.ok (.slice none 0 0) w:=by
    simp[Builtin.append_,run_underlying ht,sizeOf,typeInfo,hi,Builtin.lenOf,Builtin.firstCells,loadCells,loadCellsFrom]
   rw[h2] at hr;cases hr;exact Nat.le_refl _
  ·have aa:=run_append_nil (P:=P) w t ty e i z ht hi hz a m c news hl hnews qO qO (by have hb:=hbytes;simp only[Nat.zero_add] at hb;omega);rw[aa] at hr;cases hr;exact Nat.le_succ _
 ·by_cases hroom:n+m≤ad
  ·have ae:n*i.size+news.length≤ag.size:=by rw[hl,ah,←Nat.add_mul];exact Nat.mul_le_mul_right _ hroom
   have aa:=run_append_room (P:=P) w t ty e i ht hi g n ad ag hg a m c news hl hnews h1 hroom ae;rw[aa] at hr;cases hr;exact Nat.le_refl _
  ·have ab:∀j u,xs[j]?=some u→w.cell? ((⟨g,0,none⟩:Addr).add j)=some u:=hown.cells (g:=g) rfl;have aa:=run_append_grow (P:=P) w t ty e i z ht hi hz ⟨g,0,none⟩ n ad xs hown.1 ab a m c news hl hnews qO qO (growslice_fits qO hbytes);rw[aa] at hr;cases hr;exact Nat.le_succ _
theorem zBp {P:Program} {N:Nat} {Q:zFN} {σ:Env} {w:World} {K:Env→World→Prop} {ops:Array Oper} {rest:List Oper} {d:Nat} {ty:TypeId} {pos:String} {af:Array Edge} {t:TypeId} {s x:Operand}
    {base e size bytes n m c bx ox:Nat} {z v:Value} {xs news:List Value} (hN:d<N) (hu:P.underlying t=some (.slice e)) (hsz:Siz P e size) (hby:Byt P e bytes) (hz:Zer P e z) (hzs:z.cells.size=size) (h0:0<size)
    (hs:ev σ s=v) (hown:w.ownsRow base e size v n xs) (hx:ev σ x=.slice (some ⟨bx,ox,none⟩) m c) (hl:news.length=m*size) (hnews:zBE w bx ox news) (h1:∀u∈news,u.oneCell'=true)
    (h63:n+m≤maxLen) (hbytes:(n+m)*bytes≤140737488355328) (hbase:base≤w.heap.size)
    (k:∀v' w',w'.ownsRow base e size v' (n+m) (xs++news)→Chg (fun x=>v.ownBlock=some x) w w'→(∀k,v'.ownBlock=some k→v.ownBlock=some k∨w.heap.size≤k)→WpL P N ops K Q rest (upd σ d v') w') :
    WpL P N ops K Q (⟨some d,.call ⟨.builtin .append,#[s,x],#[t,t]⟩,ty,pos,af,none⟩::rest) σ w:=by
  unfold Siz at hsz;unfold Byt at hby;unfold Zer at hz;cases hi:P.info? e with
  | none=>rw[hi] at hsz;simp at hsz
  | some i=>
  rw[hi] at hsz hby hz;simp at hsz hby hz;obtain ⟨v',w',hr,h2,h3,_⟩:=run_append_own (P:=P) w base t ty e i z size bytes hu hi hz hsz hby hzs h0 v n xs hown ⟨bx,ox,none⟩ m c news hl (fun j u hj=>by rw[Addr.add_lit];exact hnews j u hj) h1 h63 hbytes hbase;refine zBo (v:=v') (w':=w') rfl rfl hN ?_ (k v' w' h2 ⟨h3.os,h3.tape,h3.output,zHJ (P:=P) hu hi hz hsz hby hown hl (fun j u hj=>by rw[Addr.add_lit];exact hnews j u hj) h1 h63 hbytes hr,h3.size,fun b hb hn=>h3.block b hb (fun h=>hn h.symm)⟩ (zHI (P:=P) hu hi hz hsz hby hzs h0 hown hl (fun j u hj=>by rw[Addr.add_lit];exact hnews j u hj) h1 h63 hbytes hr));simp[execOp,resolve,invoke,builtin,hs,hx,hr]
end Go.Eng
namespace Go.Eng
open Go
abbrev Fct:=Value→World→Prop
def zLv (F:Fct):Prop:=∀v w w',Ext w w'→F v w→F v w'
inductive Fact where
  | eq (v:Value)
  | re (t:Re)
  | res (ts:List Re)
  | gen (F:Fct) (h:zLv F)
def Fact.In:Fact→Fct
  | .eq u,v,_=>v=u
  | .re t,v,w=>∃vs,v=.agg vs.toArray∧zBB w t vs
  | .res ts,v,w=>∃b,v=.slice (some ⟨b,0,none⟩) ts.length ts.length∧zCx w b 0 ts
  | .gen F _,v,w=>F v w
theorem Fact.ext {F:Fact} {v:Value} {w w':World} (h:F.In v w) (e:Ext w w'):F.In v w':=by
  cases F with
  | eq u=>exact h
  | re t=>obtain ⟨vs,h1,h2⟩:=h;exact ⟨vs,h1,zBB.ext e t h2⟩
  | res ts=>obtain ⟨b,h1,h2⟩:=h;exact ⟨b,h1,zCx.ext e ts h2⟩
  | gen F hF=>exact hF _ _ _ e h
def zWo (P:Program) (N:Nat) (o:Oper) (R:Fct) (σ:Env) (w:World):Prop:=
 ∀dz a,Ok dz N a→env a=σ→∀(Q:Exit→Act→World→Prop) (K:Act→World→Prop),(∀v w',Ext w w'→R v w'→K (a.put o.dst v) w')→o.wp P a w K Q
def Holds (ds:List Nat) (Fs:List Fact) (j:Nat) (σ:Env) (w:World):Prop:=∀d F,ds[j]?=some d→Fs[j]?=some F→F.In (σ d) w
def zIa (ds:List Nat) (o:Oper) (σ:Env):Prop:=∀j b,o.guard=some (j,b)→∃d,ds[j]?=some d∧σ d=.bool b
def zSw (ds:List Nat) (o:Oper) (σ:Env):Prop:=∃j b d,o.guard=some (j,b)∧ds[j]?=some d∧(σ d=.bool (!b)∨σ d=undef)
theorem zFb {ds:List Nat} {o:Oper} {σ:Env} {j:Nat} {b:Bool} {d:Nat} (h:o.guard=some (j,b)) (hd:ds[j]?=some d) (hv:σ d=.bool (!b)∨σ d=undef):zSw ds o σ:=⟨j,b,d,h,hd,hv⟩
section
variable {P : Program} {N : Nat} {o : Oper} {R : Fct} {σ : Env} {w : World}
theorem zAt {v:Value} {w':World} (hr:(execOp (ev σ) o).run P w=.ok (.value v) w') (hx:Ext w w') (h:R v w'):zWo P N o R σ w:=by
 intro dz a ha he Q K hK;unfold Oper.wp;rw[zCH,he,hr];simp only[Oper.upon];exact hK _ _ hx h
theorem zCg {f:FuncId} {args:Array Value} (hr:(execOp (ev σ) o).run P w=.ok (.enter f args) w) (hc:Ret P f args w fun v w'=>R v w'∧Ext w w'):zWo P N o R σ w:=by
 intro dz a ha he Q K hK;unfold Oper.wp;rw[zCH,he,hr];simp only[Oper.upon];refine Calls.mono hc ?_;rintro e w' ⟨v,rfl,r,x⟩;exact hK _ _ x r
theorem zAL {ds:List Nat} (h:o.guard=none):zIa ds o σ:=fun j b hj=>by rw[h] at hj;cases hj
theorem zCw {ds:List Nat} {j:Nat} {b:Bool} {d:Nat} (h:o.guard=some (j,b)) (hd:ds[j]?=some d) (hv:σ d=.bool b):zIa ds o σ:=fun j' b' hj=>by
 rw[h] at hj;cases hj;exact ⟨d,hd,hv⟩
end
def zFK (N i:Nat) (o:Oper) (d:Nat) (ws:List Nat):Bool:=
 (match o.dst with|some d'=>Nat.beq d' d|none=>false) && Nat.blt d N && (o.after.all fun e=>!Region.binds .any e || Nat.blt e.on i) && ws.all fun j=>o.after.any fun e=>Region.binds .any e && Nat.beq e.on j
def zOw (N:Nat):Nat→List Oper→List Nat→List (List Nat)→Bool
  | _,[],[],[]=>true
  | i,o::l,d::ds,ws::wss=>zFK N i o d ws && zOw N (i+1) l ds wss
  | _,_,_,_=>false
def zGH:List Nat→Bool
  | []=>true
  | d::ds=>!ds.contains d && zGH ds
theorem zCJ:∀{ds:List Nat},zGH ds=true→∀{i j d:Nat},ds[i]?=some d→ds[j]?=some d→i=j
  | [],_,i,_,_,h,_=>by simp at h
  | x::ds,hn,i,j,d,hi,hj=>by
    simp only[zGH,Bool.and_eq_true,Bool.not_eq_true',List.contains_eq_mem,decide_eq_false_iff_not] at hn;cases i with
    | zero=>
      cases j with
      | zero=>rfl
      | succ j=>simp at hi hj;subst hi;exact absurd (List.mem_of_getElem? hj) hn.1
    | succ i=>
      cases j with
      | zero=>simp at hi hj;subst hj;exact absurd (List.mem_of_getElem? hi) hn.1
      | succ j=>simp at hi hj;rw[zCJ hn.2 hi hj]
theorem zGO {N:Nat}:∀{i:Nat} {l:List Oper} {ds:List Nat} {wss:List (List Nat)},zOw N i l ds wss=true→∀{j:Nat} {o:Oper},l[j]?=some o→∃d ws,ds[j]?=some d∧wss[j]?=some ws∧zFK N (i+j) o d ws=true
  | _,[],_,_,_,j,o,h=>by simp at h
  | i,x::l,[],_,hB,_,_,_=>by simp[zOw] at hB
  | i,x::l,d::ds,[],hB,_,_,_=>by simp[zOw] at hB
  | i,x::l,d::ds,ws::wss,hB,j,o,h=>by
    simp only[zOw,Bool.and_eq_true] at hB;cases j with
    | zero=>simp at h;subst h;exact ⟨d,ws,rfl,rfl,hB.1⟩
    | succ j=>
      simp at h;obtain ⟨d',ws',h1,h2,h3⟩:=zGO hB.2 h;exact ⟨d',ws',by simpa using h1,by simpa using h2,by rw[show i+(j+1)=i+1+j from qO];exact h3⟩
theorem zNl {N:Nat}:∀{i:Nat} {l:List Oper} {ds:List Nat} {wss:List (List Nat)},zOw N i l ds wss=true→ds.length=l.length
  | _,[],[],[],_=>rfl
  | _,[],[],_::_,hB=>by simp[zOw] at hB
  | _,[],_::_,_,hB=>by simp[zOw] at hB
  | i,x::l,[],_,hB=>by simp[zOw] at hB
  | i,x::l,d::ds,[],hB=>by simp[zOw] at hB
  | i,x::l,d::ds,ws::wss,hB=>by
    simp only[zOw,Bool.and_eq_true] at hB;simp[zNl hB.2]
def zKY (P:Program) (N:Nat) (ds:List Nat) (Fs:List Fact) (σ:Env) (w:World) (o:Oper) (ws:List Nat) (F:Fact):Prop:=
 ∀σ' w',Ext w w'→(∀t,ds.contains t=false→σ' t=σ t)→(∀j,ws.contains j=true→Holds ds Fs j σ' w')→(zIa ds o σ'∧zWo P N o F.In σ' w')∨(zSw ds o σ'∧F.In undef w')
inductive DagSteps (P:Program) (N:Nat) (ds:List Nat) (Fs:List Fact) (σ:Env) (w:World):List Oper→List (List Nat)→List Fact→Prop where
  | nil:DagSteps P N ds Fs σ w [] [] []
  | cons {o:Oper} {ws:List Nat} {F:Fact} {l:List Oper} {wss:List (List Nat)} {Gs:List Fact}:zKY P N ds Fs σ w o ws F→DagSteps P N ds Fs σ w l wss Gs→DagSteps P N ds Fs σ w (o::l) (ws::wss) (F::Gs)
theorem DagSteps.get {P:Program} {N:Nat} {ds:List Nat} {Fs:List Fact} {σ:Env} {w:World}:∀{l:List Oper} {wss:List (List Nat)} {Gs:List Fact},DagSteps P N ds Fs σ w l wss Gs→∀{j:Nat} {o:Oper},l[j]?=some o→∃ws F,wss[j]?=some ws∧Gs[j]?=some F∧zKY P N ds Fs σ w o ws F
  | _,_,_,.nil,j,o,h=>by simp at h
  | _,_,_,.cons h1 h2,0,o,h=>by simp at h;subst h;exact ⟨_,_,rfl,rfl,h1⟩
  | _,_,_,.cons h1 h2,j+1,o,h=>by
    obtain ⟨ws,F,a,b,c⟩:=h2.get (j:=j) (by simpa using h);exact ⟨ws,F,by simpa using a,by simpa using b,c⟩
theorem zLt {P:Program} {N:Nat} {Q:zFN} {σ:Env} {w:World} {id:Nat} {l:List Oper} (ds:List Nat) (wss:List (List Nat)) (Fs:List Fact) {Gs:List Fact} (hG:Fs=Gs) (hm:P.follows .mixedOrders=true) (hB:zOw N 0 l ds wss=true) (hn:zGH ds=true)
    (steps:∀w1,Ext w w1→DagSteps P N ds Fs σ w1 l wss Gs)
    (k:∀σ' w',Ext w w'→(∀t,ds.contains t=false→σ' t=σ t)→(∀j,Holds ds Fs j σ' w')→Q .normal σ' w'):Wp P N (.region id l.toArray true) Q σ w:=by
  intro dz a ha he;refine wp_region_any hm ?_;obtain ⟨w1,a2⟩:∃w1:World,w1={w with drawn:=w.drawn+1}:=⟨_,rfl⟩;have a3:Ext w w1:=by rw[a2];exact zFX w
  rw[←a2];have a0:=steps w1 a3;rw[←hG] at a0;have a4:=zNl hB;have bb:∀(ad:Nat) (aa:Array Bool) (a:Act) (w':World),aa.size=l.length→aa.toList.count false≤ad→Ok dz N a→Ext w1 w'→(∀t,ds.contains t=false→env a t=σ t)→(∀j,aa.getD j false=true→Holds ds Fs j (env a) w')→
      wpAny P .any l.toArray (zFr dz N Q) ad aa a w':=by
    intro ad;have az:∀(aa:Array Bool) (a:Act) (w':World),aa.size=l.length→Ok dz N a→Ext w1 w'→(∀t,ds.contains t=false→env a t=σ t)→(∀j,aa.getD j false=true→Holds ds Fs j (env a) w')→aa.toList.count false=0→zFr dz N Q .normal a w':=by
      intro aa a w' hs ha hx hu hh hc;refine ⟨ha,k _ _ (a3.trans hx) hu fun j=>?_⟩;intro d F hd hF;have hj:j<aa.size:=by have:=zAE hd;omega
      refine hh j ?_ d F hd hF;rw[List.count_eq_zero] at hc;have:aa[j]≠false:=fun h=>hc (by rw[←h];exact Array.getElem_mem_toList hj);simp only[Array.getD_eq_getD_getElem?,Array.getElem?_eq_getElem hj,Option.getD_some];simpa using this
    induction ad with
    | zero=>
      intro aa a w' hs hc ha hx hu hh;have ar:aa.toList.count false=0:=qO
      refine ⟨?_,az aa a w' hs ha hx hu hh ar⟩;rw[List.eq_nil_iff_forall_not_mem];intro i hi;obtain ⟨h1,o,h2,_⟩:=mem_ready.1 hi;have hj:i<aa.size:=by have:=(Array.getElem?_eq_some_iff.1 h2).1;simp at this;omega
      simp only[Array.getD_eq_getD_getElem?,Array.getElem?_eq_getElem hj,Option.getD_some] at h1;rw[List.count_eq_zero] at ar;exact ar (by rw[←h1];exact Array.getElem_mem_toList hj)
    | succ ad ih=>
      intro aa a w' hs hc ha hx hu hh;refine ⟨fun hr=>az aa a w' hs ha hx hu hh ?_,fun i hi=>?_⟩
      · -- none is ready: az are aa
        have ax:∀i,i<aa.size→aa.getD i true=true:=by
          intro i
          induction i using Nat.strongRecOn with
          | _ i ihi=>
            intro hi;cases hv:aa.getD i true with
            | true=>rfl
            | false=>
              exfalso;obtain ⟨o,ho⟩:=zAN (l:=l) (i:=i) qO;obtain ⟨d,ws,_,_,h3⟩:=zGO hB ho;have:i∈Region.ready .any l.toArray aa:=by
                refine mem_ready.2 ⟨hv,o,by simpa using ho,fun e he hb=>?_⟩;simp only[zFK,Bool.and_eq_true,Array.all_eq_true_iff_forall_mem,Bool.or_eq_true,Bool.not_eq_true',Nat.zero_add] at h3;have:=(h3.1.2 e he).resolve_left (by simp[hb]);have ag:e.on<i:=by simpa[Nat.blt_eq] using this
                have h4:=ihi e.on ag qO;have hj:e.on<aa.size:=qO
                simpa only[Array.getD_eq_getD_getElem?,Array.getElem?_eq_getElem hj,Option.getD_some] using h4
              rw[hr] at this;cases this
        rw[List.count_eq_zero];intro au;obtain ⟨i,hi,he⟩:=List.getElem_of_mem au;have hj:i<aa.size:=by simpa using hi
        have:=ax i hj;simp only[Array.getD_eq_getD_getElem?,Array.getElem?_eq_getElem hj,Option.getD_some] at this;simp at he;rw[this] at he;cases he
      · obtain ⟨h1,o,h2,h3⟩:=mem_ready.1 hi;have ho:l[i]?=some o:=by simpa using h2
        have hil:i<l.length:=zAE ho;obtain ⟨d,ws,hd,a5,h4⟩:=zGO hB ho;obtain ⟨ws',F,ap,hF,al⟩:=a0.get ho;rw[a5] at ap;cases ap;simp only[zFK,Bool.and_eq_true,List.all_eq_true,Array.any_eq_true',Array.all_eq_true_iff_forall_mem,Bool.or_eq_true,Bool.not_eq_true',Nat.zero_add] at h4;obtain ⟨⟨⟨af,av⟩,_⟩,ao⟩:=h4;have af:o.dst=some d:=by
          split at af
          · rename_i d' h;rw[h,Nat.eq_of_beq_eq_true af]
          · cases af
        have av:d<N:=by simpa[Nat.blt_eq] using av
        have hH:∀j,ws.contains j=true→Holds ds Fs j (env a) w':=by
          intro j hj;have a6:j∈ws:=by simpa using hj
          obtain ⟨e,he,hb⟩:=ao j a6;obtain ⟨a9,ba⟩:=hb;have:e.on=j:=Nat.eq_of_beq_eq_true ba;exact hh j (this▸h3 e he a9)
        have am:∀v w2,Ext w' w2→F.In v w2→wpAny P .any l.toArray (zFr dz N Q) ad (aa.setIfInBounds i true) (a.put o.dst v) w2:=by
          intro v w2 a1 hv;have ak:env (a.put o.dst v)=upd (env a) d v:=by rw[af];exact zDQ ha av v
          refine ih _ _ _ (by simpa using hs) ?_ (ha.put _ _) (hx.trans a1) ?_ ?_
          · have a8:i<aa.toList.length:=by simp;omega
            have hl:aa.toList[i]=false:=by
              have hj:i<aa.size:=qO
              simp only[Array.getD_eq_getD_getElem?,Array.getElem?_eq_getElem hj,Option.getD_some] at h1;simpa using h1
            rw[Array.toList_setIfInBounds,List.count_set a8,hl,if_pos (by rfl),if_neg qD];omega
          · intro t ht;rw[ak,←hu t ht];simp only[upd];cases hb:Nat.beq t d
            · rfl
            · exfalso;have:t=d:=Nat.eq_of_beq_eq_true hb;subst this;have:=List.mem_of_getElem? hd;simp[this] at ht
          · intro j hj d' F' aq ay;rw[ak];by_cases hij:j=i
            · subst hij;rw[hd] at aq;cases aq;rw[hF] at ay;cases ay;simp only[upd,Nat.beq_refl,cond_true];exact hv
            · have a7:Nat.beq d' d=false:=by
                cases hb:Nat.beq d' d
                · rfl
                · exfalso;have:d'=d:=Nat.eq_of_beq_eq_true hb;subst this;exact hij (zCJ hn aq hd)
              simp only[upd,a7,cond_false];rw[getD_set_ne _ (Ne.symm hij)] at hj;exact Fact.ext (hh j hj d' F' aq ay) a1
        rcases al (env a) w' hx hu hH with ⟨hg,bc⟩|⟨⟨j,b,dj,ai,an,ah⟩,aw⟩
        · have hw:Region.wanted o (yielded l.toArray a.tmps)=true:=by
            cases ai:o.guard with
            | none=>simp[Region.wanted,ai]
            | some p=>
              obtain ⟨j,b⟩:=p;obtain ⟨dj,an,ah⟩:=hg j b ai;obtain ⟨oj,aj⟩:=zAN (l:=l) (i:=j) (by have:=zAE an;omega);obtain ⟨bd,_,ae,_,h5⟩:=zGO hB aj;rw[an] at ae;cases ae;simp only[zFK,Bool.and_eq_true] at h5;obtain ⟨⟨⟨ab,ac⟩,_⟩,_⟩:=h5;have ab:oj.dst=some dj:=by
                split at ab
                · rename_i d' h;rw[h,Nat.eq_of_beq_eq_true ab]
                · cases ab
              have ac:dj<N:=by simpa[Nat.blt_eq] using ac
              have h6:a.tmps[dj]?=some (Value.bool b):=by
                have h2:a.tmps.getD dj undef=.bool b:=ah;have ag:dj<a.tmps.size:=by rw[ha.size];exact ac
                rw[Array.getElem?_eq_getElem ag];simpa[ag] using h2
              simp[Region.wanted,ai,yielded,aj,ab,h6]
          unfold wpOp;simp only[h2,hw,if_true];exact Or.inl (bc _ a ha rfl _ _ am)
        · have hw:Region.wanted o (yielded l.toArray a.tmps)=false:=by
            obtain ⟨oj,aj⟩:=zAN (l:=l) (i:=j) (by have:=zAE an;omega);obtain ⟨bd,_,ae,_,h5⟩:=zGO hB aj;rw[an] at ae;cases ae;simp only[zFK,Bool.and_eq_true] at h5;obtain ⟨⟨⟨ab,ac⟩,_⟩,_⟩:=h5;have ab:oj.dst=some dj:=by
              split at ab
              · rename_i d' h;rw[h,Nat.eq_of_beq_eq_true ab]
              · cases ab
            have ac:dj<N:=by simpa[Nat.blt_eq] using ac
            have ag:dj<a.tmps.size:=by rw[ha.size];exact ac
            have h6:a.tmps[dj]?=some (env a dj):=by
              rw[Array.getElem?_eq_getElem ag];simp[env,ag]
            rcases ah with ah|ah
            · rw[ah] at h6;cases b<;>simp[Region.wanted,ai,yielded,aj,ab,h6]
            · rw[ah] at h6;simp[Region.wanted,ai,yielded,aj,ab,h6,undef]
          unfold wpOp;simp only[h2,hw,Bool.false_eq_true,if_false];exact am undef w' (Ext.refl _) aw
  refine bb _ _ _ _ qP qP ha (Ext.refl _) (fun t _=>by rw[he]) ?_;intro j hj;exfalso;simp only[Array.getD_eq_getD_getElem?,Array.getElem?_replicate] at hj;split at hj<;>simp at hj
theorem zOv {x a:Value} (h:x=a):[x]=[a]:=by rw[h]
theorem zOu {x y a b:Value} (h:x=a) (h':y=b):[x,y]=[a,b]:=by rw[h,h']
theorem zVK {x y z a b c:Value} (h:x=a) (h':y=b) (h'':z=c):[x,y,z]=[a,b,c]:=by rw[h,h',h'']
theorem lst4 {x y z u a b c d:Value} (h:x=a) (h':y=b) (h'':z=c) (h3:u=d):[x,y,z,u]=[a,b,c,d]:=by rw[h,h',h'',h3]
section
variable {P : Program} {N : Nat} {σ : Env} {w : World} {dst : Option Tmp} {ty : TypeId} {pos : String} {af : Array Edge} {g : Option (Nat × Bool)} {t : TypeId} {x y : Operand}
theorem zET {e:TypeId} {len n:Nat} {z:Value} {parts:List (Nat×Operand)} {ps:List (Nat×Value)} {c:Array Value} (hp:(parts.map fun (i,x)=>(i,ev σ x))=ps) (hu:P.underlying t=some (.slice e)) (hs:Siz P e n) (hz:Zer P e z) (hl:¬(len*n > 2 ^ 24)) (h0:len*n≠0)
  (hc:Instr.fill (fun i=>some (i*n,n)) ((Array.range (len*n)).map (z.cells[· % z.cells.size]!)) ps=some c) :
  (execOp (ev σ) ⟨dst,.buildSlice t len parts.toArray,ty,pos,af,g⟩).run P w=.ok (.value (.slice (some ⟨w.heap.size,0,none⟩) len len)) {w with heap:=w.heap.push (.cells c e (0,0))}:=by
 subst hp;simp only[execOp,Instr.buildSlice,List.map_toArray,Sem.run_bind,run_underlying hu,Result.andThen_ok,hs.run,hl,h0,if_false,Sem.run_pure,hz.run,hc];simp[newRow]
end
end Go.Eng
namespace Go.Eng
open Go
inductive FactT (M:Nat→Prop) where
  | eq (v:Value)
  | gen (F:Fct) (h:∀v w w',Chg M w w'→F v w→F v w')
  | own (F:Fct) (h:∀v w w',Ext w w'→F v w→F v w')
  | till (F:Fct) (h:∀v w w',Ext w w'→F v w→F v w')
def FactT.In {M:Nat→Prop}:FactT M→Fct
  | .eq u,v,_=>v=u
  | .gen F _,v,w=>F v w
  | .own F _,v,w=>F v w
  | .till F _,v,w=>F v w
def FactT.At {M:Nat→Prop} (done:Bool):FactT M→Fct
  | .till F _,v,w=>done=false→F v w
  | F,v,w=>F.In v w
theorem FactT.at_in {M:Nat→Prop} {F:FactT M} {v:Value} {w:World} (h:F.In v w) (done:Bool):F.At done v w:=by
 cases F<;>first|exact h|exact fun _=>h
theorem FactT.at_false {M:Nat→Prop} {F:FactT M} {v:Value} {w:World} (h:F.At false v w):F.In v w:=by
 cases F<;>first|exact h|exact h rfl
def FactT.isOwn {M:Nat→Prop}:FactT M→Bool
  | .own _ _=>true
  | _=>false
theorem FactT.chg {M:Nat→Prop} {F:FactT M} {v:Value} {w w':World} {done:Bool} (h:F.At done v w) (e:Chg M w w') (ho:F.isOwn=false):F.At true v w':=by
  cases F with
  | eq u=>exact h
  | gen F hF=>exact hF _ _ _ e h
  | own F hF=>cases ho
  | till F hF=>intro hd;cases hd
theorem FactT.ext {M:Nat→Prop} {F:FactT M} {v:Value} {w w':World} {done:Bool} (h:F.At done v w) (e:Ext w w'):F.At done v w':=by
  cases F with
  | eq u=>exact h
  | gen F hF=>exact hF _ _ _ (Ext.chg e) h
  | own F hF=>exact hF _ _ _ e h
  | till F hF=>exact fun hd=>hF _ _ _ e (h hd)
def zVt {M:Nat→Prop} (c:Nat):Nat→List (FactT M)→Bool
  | _,[]=>true
  | i,F::l=>(!F.isOwn || Nat.beq i c) && zVt c (i+1) l
theorem zNK {M:Nat→Prop} {c:Nat}:∀{i:Nat} {l:List (FactT M)},zVt c i l=true→∀{j:Nat} {F:FactT M},l[j]?=some F→i+j≠c→F.isOwn=false
  | _,[],_,_,_,h,_=>by simp at h
  | i,G::l,hB,0,F,h,hne=>by
    simp at h;subst h;simp only[zVt,Bool.and_eq_true,Bool.or_eq_true,Bool.not_eq_true'] at hB;rcases hB.1 with h|h
    · exact h
    · exact absurd (Nat.eq_of_beq_eq_true h) hne
  | i,G::l,hB,j+1,F,h,hne=>by
    simp only[zVt,Bool.and_eq_true] at hB;simp at h;exact zNK hB.2 h qO
def zCj (M:Nat→Prop) (P:Program) (N:Nat) (o:Oper) (R:Fct) (σ:Env) (w:World):Prop:=
 ∀dz a,Ok dz N a→env a=σ→∀(Q:Exit→Act→World→Prop) (K:Act→World→Prop),(∀v w',Chg M w w'→R v w'→K (a.put o.dst v) w')→o.wp P a w K Q
def zNv {M:Nat→Prop} (ds:List Nat) (Fs:List (FactT M)) (done:Bool) (j:Nat) (σ:Env) (w:World):Prop:=∀d F,ds[j]?=some d→Fs[j]?=some F→F.At done (σ d) w
section
variable {M : Nat → Prop} {P : Program} {N : Nat} {o : Oper} {R : Fct} {σ : Env} {w : World}
theorem zAX {v:Value} {w':World} (hr:(execOp (ev σ) o).run P w=.ok (.value v) w') (hx:Chg M w w') (h:R v w'):zCj M P N o R σ w:=by
 intro dz a ha he Q K hK;unfold Oper.wp;rw[zCH,he,hr];simp only[Oper.upon];exact hK _ _ hx h
theorem zOo {w':World} (hr:(execOp (ev σ) o).run P w=.ok .skip w') (hx:Chg M w w') (h:R undef w'):zCj M P N o R σ w:=by
 intro dz a ha he Q K hK;unfold Oper.wp;rw[zCH,he,hr];simp only[Oper.upon];exact hK _ _ hx h
theorem zCt {f:FuncId} {args:Array Value} (hr:(execOp (ev σ) o).run P w=.ok (.enter f args) w) (hc:Ret P f args w fun v w'=>R v w'∧Chg M w w'):zCj M P N o R σ w:=by
 intro dz a ha he Q K hK;unfold Oper.wp;rw[zCH,he,hr];simp only[Oper.upon];refine Calls.mono hc ?_;rintro e w' ⟨v,rfl,r,x⟩;exact hK _ _ x r
end
def zFJ (N i:Nat) (o:Oper) (d:Nat) (ws:List Nat):Bool:=
 (match o.dst with|some d'=>Nat.beq d' d && Nat.blt d N|none=>Nat.ble N d) && (o.after.all fun e=>!Region.binds .any e || Nat.blt e.on i) && (ws.all fun j=>o.after.any fun e=>Region.binds .any e && Nat.beq e.on j) && o.guard.isNone
def zGo (N:Nat):Nat→List Oper→List Nat→List (List Nat)→Bool
  | _,[],[],[]=>true
  | i,o::l,d::ds,ws::wss=>zFJ N i o d ws && zGo N (i+1) l ds wss
  | _,_,_,_=>false
theorem zDa {N:Nat}:∀{i:Nat} {l:List Oper} {ds:List Nat} {wss:List (List Nat)},zGo N i l ds wss=true→∀{j:Nat} {o:Oper},l[j]?=some o→∃d ws,ds[j]?=some d∧wss[j]?=some ws∧zFJ N (i+j) o d ws=true
  | _,[],_,_,_,j,o,h=>by simp at h
  | i,x::l,[],_,hB,_,_,_=>by simp[zGo] at hB
  | i,x::l,d::ds,[],hB,_,_,_=>by simp[zGo] at hB
  | i,x::l,d::ds,ws::wss,hB,j,o,h=>by
    simp only[zGo,Bool.and_eq_true] at hB;cases j with
    | zero=>simp at h;subst h;exact ⟨d,ws,rfl,rfl,hB.1⟩
    | succ j=>
      simp at h;obtain ⟨d',ws',h1,h2,h3⟩:=zDa hB.2 h;exact ⟨d',ws',by simpa using h1,by simpa using h2,by rw[show i+(j+1)=i+1+j from qO];exact h3⟩
theorem zIL {N:Nat}:∀{i:Nat} {l:List Oper} {ds:List Nat} {wss:List (List Nat)},zGo N i l ds wss=true→ds.length=l.length
  | _,[],[],[],_=>rfl
  | _,[],[],_::_,hB=>by simp[zGo] at hB
  | _,[],_::_,_,hB=>by simp[zGo] at hB
  | i,x::l,[],_,hB=>by simp[zGo] at hB
  | i,x::l,d::ds,[],hB=>by simp[zGo] at hB
  | i,x::l,d::ds,ws::wss,hB=>by
    simp only[zGo,Bool.and_eq_true] at hB;simp[zIL hB.2]
def zLm (c:Nat) (wss:List (List Nat)) (i:Nat):Bool:=Nat.beq i c || (wss.getD c []).contains i
def valOf (o:Oper) (v:Value):Value:=match o.dst with
  | some _=>v
  | none=>undef
def zNx {M:Nat→Prop} (P:Program) (N:Nat) (ds:List Nat) (Fs:List (FactT M)) (σ:Env) (w:World) (own calm:Bool) (o:Oper) (ws:List Nat) (F:FactT M):Prop:=
 ∀σ' w',Chg (bif calm then zAh else M) w w'→(∀t,ds.contains t=false→σ' t=σ t)→(∀j,ws.contains j=true→zNv ds Fs (!calm) j σ' w')→zCj (bif own then M else zAh) P N o (fun v w=>F.In (Go.Eng.valOf o v) w) σ' w'
inductive DagStepsT {M:Nat→Prop} (P:Program) (N:Nat) (ds:List Nat) (Fs:List (FactT M)) (σ:Env) (w:World) (c:Nat) (all:List (List Nat)):Nat→List Oper→List (List Nat)→List (FactT M)→Prop where
  | nil {i:Nat}:DagStepsT P N ds Fs σ w c all i [] [] []
  | cons {i:Nat} {o:Oper} {ws:List Nat} {F:FactT M} {l:List Oper} {wss:List (List Nat)} {Gs:List (FactT M)}:zNx P N ds Fs σ w (Nat.beq i c) (zLm c all i) o ws F→DagStepsT P N ds Fs σ w c all (i+1) l wss Gs→DagStepsT P N ds Fs σ w c all i (o::l) (ws::wss) (F::Gs)
theorem DagStepsT.get {M:Nat→Prop} {P:Program} {N:Nat} {ds:List Nat} {Fs:List (FactT M)} {σ:Env} {w:World} {c:Nat} {all:List (List Nat)}:∀{i:Nat} {l:List Oper} {wss:List (List Nat)} {Gs:List (FactT M)},DagStepsT P N ds Fs σ w c all i l wss Gs→∀{j:Nat} {o:Oper},l[j]?=some o→∃ws F,wss[j]?=some ws∧Gs[j]?=some F∧zNx P N ds Fs σ w (Nat.beq (i+j) c) (zLm c all (i+j)) o ws F
  | _,_,_,_,.nil,j,o,h=>by simp at h
  | _,_,_,_,.cons h1 h2,0,o,h=>by simp at h;subst h;exact ⟨_,_,rfl,rfl,h1⟩
  | i,_,_,_,.cons h1 h2,j+1,o,h=>by
    obtain ⟨ws,F,a,b,c⟩:=h2.get (j:=j) (by simpa using h);exact ⟨ws,F,by simpa using a,by simpa using b,by rw[show i+(j+1)=i+1+j from qO];exact c⟩
def zEP (n m:Nat):Array Bool:=(List.replicate n true++List.replicate (m - n) false).toArray
theorem zFg {l:List Bool} {n i:Nat} (hi:i<n) (hl:n≤l.length) (hf:l[i]?=some false):((l.set i true).take n).count false+1=(l.take n).count false:=by
 have aa:i<(l.take n).length:=by simp;omega
 rw[List.take_set,List.count_set aa];have:(l.take n)[i]=false:=by
  have h2:(l.take n)[i]?=some false:=by rw[List.getElem?_take_of_lt hi];exact hf
  rw[List.getElem?_eq_getElem aa] at h2;simpa using h2
 rw[this,if_pos (by rfl),if_neg qD];have:0<(l.take n).count false:=by
  rw[List.count_pos_iff];rw[←this];exact List.getElem_mem aa
 omega
theorem zNb {l:List Bool} {n:Nat} (hl:n≤l.length) (h0:(l.take n).count false=0) (ht:∀t,n≤t→t<l.length→l[t]?=some false):l=List.replicate n true++List.replicate (l.length - n) false:=by
  apply List.ext_getElem?;intro i;rcases Nat.lt_or_ge i n with h|h
  · rw[List.getElem?_append_left (by simpa using h),List.getElem?_replicate,if_pos h];have hi:i<l.length:=qO
    rw[List.getElem?_eq_getElem hi];cases hv:l[i] with
    | true=>rfl
    | false=>
      exfalso;rw[List.count_eq_zero] at h0;apply h0;have:(l.take n)[i]?=some false:=by rw[List.getElem?_take_of_lt h,List.getElem?_eq_getElem hi,hv]
      exact List.mem_of_getElem? this
  · rw[List.getElem?_append_right (by simpa using h),List.getElem?_replicate,List.length_replicate];rcases Nat.lt_or_ge i l.length with h2|h2
    · rw[if_pos qO,ht i h h2]
    · rw[if_neg qO,List.getElem?_eq_none h2]
theorem zIV {P:Program} {N:Nat} {Q:zFN} {σ:Env} {w:World} {id:Nat} {l:List Oper} (M:Nat→Prop) (n c:Nat) (ds:List Nat) (wss:List (List Nat)) (Fs:List (FactT M)) {Gs:List (FactT M)} (hG:Fs=Gs) (hO:zVt c 0 Gs=true) (hm:P.follows .mixedOrders=true) (hB:zGo N 0 (l.take n) ds wss=true) (hn:zGH ds=true)
    (hT:(decide (n<l.length) && Region.sinkB .any l.toArray n && Region.chainB .any l.toArray n && Region.seqB .any l.toArray (l.length - n) n (zEP n l.length))=true)
    (steps:∀w1,Ext w w1→DagStepsT P N ds Fs σ w1 c wss 0 (l.take n) wss Gs)
    (k:∀σ' w1 w',Ext w w1→Chg M w1 w'→(∀t,ds.contains t=false→σ' t=σ t)→(∀j,zNv ds Fs true j σ' w')→WpL P N l.toArray (Q .normal) Q (l.drop n) σ' w'):Wp P N (.region id l.toArray true) Q σ w:=by
  intro dz a ha he;have eQ:zFr dz N (thn (Q .normal) Q)=zFr dz N Q:=by funext e a w;cases e<;>rfl
  refine wp_region_any hm ?_;obtain ⟨w1,a8⟩:∃w1:World,w1={w with drawn:=w.drawn+1}:=⟨_,rfl⟩;have a9:Ext w w1:=by rw[a8];exact zFX w
  rw[←a8];have a6:=steps w1 a9;rw[←hG] at a6;simp only[Bool.and_eq_true,decide_eq_true_eq] at hT;obtain ⟨⟨⟨bh,hs⟩,hc⟩,a3⟩:=hT;have ar:∀{q:Bool} {u u':World},Chg (bif q then M else zAh) u u'→Chg M u u':=fun {q u u'} h=>by cases q with|true=>exact h|false=>exact Ext.chg h
  have bb:ds.length=n:=by rw[zIL hB];simp;omega
  have bn:∀(m:Nat) (aa:Array Bool) (a:Act) (w':World),(aa.toList.take n).count false=m→HeadInv .any l.toArray n aa→Ok dz N a→Chg (bif aa.getD c false then M else zAh) w1 w'→(∀t,ds.contains t=false→env a t=σ t)→(∀j,aa.getD j false=true→zNv ds Fs (aa.getD c false) j (env a) w')→
      wpAny P .any l.toArray (zFr dz N Q) (m+(l.length - n)) aa a w':=by
    intro m
    induction m with
    | zero=>
      intro aa a w' bc af ha hx hu hh;have a5:aa.size=l.length:=by simpa using af.size
      have hl:aa=zEP n l.length:=by
        apply Array.ext';rw[zEP];have:=zNb (l:=aa.toList) (n:=n) (by simp;omega) bc (by
          intro t h1 h2;have a1:t<aa.size:=by simpa using h2
          have:=af.tail t h1 (by simpa[a5] using a1);simp only[Array.getD_eq_getD_getElem?,Array.getElem?_eq_getElem a1,Option.getD_some] at this;simp[a1,this])
        rw[this];simp[a5]
      rw[Nat.zero_add];have h1:=k (env a) w1 w' a9 (ar hx) hu (fun j d F hd hF=>by
        have hj:j<n:=by have:=zAE hd;omega
        have h2:=hh j (by
          rw[hl,zEP];simp[Array.getD_eq_getD_getElem?,List.getElem?_append_left,hj]) d F hd hF
        cases F with
        | till F hF=>intro hd;cases hd
        | eq u=>exact h2
        | gen F hF=>exact h2
        | own F hF=>exact h2) dz a ha rfl
      rw[eQ] at h1;have:=wpAny_of_seq (P:=P) (md:=.any) (ops:=l.toArray) (Q':=zFr dz N Q) (l.drop n) n aa a w' (fun j=>by simp[List.getElem?_drop]) (by rw[List.length_drop,hl];exact a3) h1
      rwa [List.length_drop] at this
    | succ m ih=>
      intro aa a w' hcm af ha hx hu hh;have a5:aa.size=l.length:=by simpa using af.size
      obtain ⟨i0,an,ax⟩:∃i,i<n∧aa.getD i true=false:=by
        have:0<(aa.toList.take n).count false:=qO
        rw[List.count_pos_iff] at this;obtain ⟨i,hi,he⟩:=List.getElem_of_mem this;have am:i<n:=by simp at hi;omega
        refine ⟨i,am,?_⟩;have ak:i<aa.size:=by simp at hi;omega
        simp only[Array.getD_eq_getD_getElem?,Array.getElem?_eq_getElem ak,Option.getD_some];simpa using he
      rw[show m+1+(l.length - n)=(m+(l.length - n))+1 by omega];refine ⟨fun hr=>?_,fun i hi=>?_⟩
      · exfalso;have ay:∀i,i<n→aa.getD i true=true:=by
          intro i
          induction i using Nat.strongRecOn with
          | _ i ihi=>
            intro hi;cases hv:aa.getD i true with
            | true=>rfl
            | false=>
              exfalso;obtain ⟨o,ho⟩:=zAN (l:=l) (i:=i) qO;have aq:(l.take n)[i]?=some o:=by rw[List.getElem?_take_of_lt hi];exact ho
              obtain ⟨d,ws,_,_,h3⟩:=zDa hB aq;have:i∈Region.ready .any l.toArray aa:=by
                refine mem_ready.2 ⟨hv,o,by simpa using ho,fun e he hb=>?_⟩;simp only[zFJ,Bool.and_eq_true,Array.all_eq_true_iff_forall_mem,Bool.or_eq_true,Bool.not_eq_true',Nat.zero_add] at h3;have:=(h3.1.1.2 e he).resolve_left (by simp[hb]);have bf:e.on<i:=by simpa[Nat.blt_eq] using this
                have h4:=ihi e.on bf qO;have hj:e.on<aa.size:=qO
                simpa only[Array.getD_eq_getD_getElem?,Array.getElem?_eq_getElem hj,Option.getD_some] using h4
              rw[hr] at this;cases this
        rw[ay i0 an] at ax;cases ax
      · have am:i<n:=by
          rcases Nat.lt_or_ge i n with h|h
          · exact h
          · exact absurd hi (tail_waits hs hc (by simpa using bh) af _ i0 rfl an ax i h)
        obtain ⟨h1,o,h2,h3⟩:=mem_ready.1 hi;have ak:i<aa.size:=qO
        have ho:l[i]?=some o:=by simpa using h2
        have aq:(l.take n)[i]?=some o:=by rw[List.getElem?_take_of_lt am];exact ho
        obtain ⟨d,ws,hd,bd,h4⟩:=zDa hB aq;obtain ⟨ws',F,ap,hF,ae⟩:=a6.get aq;rw[bd] at ap;cases ap;simp only[Nat.zero_add] at ae;simp only[zFJ,Bool.and_eq_true,List.all_eq_true,Array.any_eq_true',Array.all_eq_true_iff_forall_mem,Bool.or_eq_true,Bool.not_eq_true',Nat.zero_add] at h4;obtain ⟨⟨⟨ab,_⟩,ao⟩,au⟩:=h4;have au:o.guard=none:=by simpa using au
        -- what is sure to come ahead of the change
        have ag:zLm c wss i=true→aa.getD c false=false:=by
          intro ac;simp only[zLm,Bool.or_eq_true] at ac;rcases ac with ac|ac
          · have:i=c:=Nat.eq_of_beq_eq_true ac;subst this;exact getD_both h1
          · cases hlc:aa.getD c false with
            | false=>rfl
            | true=>
              exfalso;have ba:c<n:=by
                rcases Nat.lt_or_ge c n with h|h
                · exact h
                · rcases Nat.lt_or_ge c l.length with h'|h'
                  · have:=getD_both (af.tail c h (by simpa using h'));rw[this] at hlc;cases hlc
                  · simp[Array.getElem?_eq_none (show aa.size≤c by omega)] at hlc
              obtain ⟨oc,a7⟩:=zAN (l:=l) (i:=c) qO;have aw:(l.take n)[c]?=some oc:=by rw[List.getElem?_take_of_lt ba];exact a7
              obtain ⟨dc,bk,_,a2,h5⟩:=zDa hB aw;have bm:wss.getD c []=bk:=by simp[a2]
              rw[bm] at ac;simp only[zFJ,Bool.and_eq_true,List.all_eq_true,Array.any_eq_true',Nat.zero_add] at h5;obtain ⟨e,he,az,a0⟩:=h5.1.2 i (by simpa using ac);have br:e.on=i:=Nat.eq_of_beq_eq_true a0;have:=af.closed c oc (by simpa using a7) hlc e he az;rw[br,getD_both h1] at this;cases this
        have hH:∀j,ws.contains j=true→zNv ds Fs (!zLm c wss i) j (env a) w':=by
          intro j hj d' F' aj al;have bg:j∈ws:=by simpa using hj
          obtain ⟨e,he,hb⟩:=ao j bg;obtain ⟨az,a0⟩:=hb;have:e.on=j:=Nat.eq_of_beq_eq_true a0;have h5:=hh j (this▸h3 e he az) d' F' aj al;cases ac:zLm c wss i with
          | true=>rw[ag ac] at h5;exact h5
          | false=>
            cases F' with
            | till F hF=>intro hd;cases hd
            | eq u=>exact h5
            | gen F hF=>exact h5
            | own F hF=>exact h5
        have ai:(∀w2,Chg (bif Nat.beq i c then M else zAh) w' w2→Chg (bif (aa.setIfInBounds i true).getD c false then M else zAh) w1 w2):=by
          intro w2 ad;by_cases hic:i=c
          · subst hic;rw[Nat.beq_refl] at ad;have hg:(aa.setIfInBounds i true).getD i false=true:=by simp[Array.getD_eq_getD_getElem?,ak]
            rw[hg];exact (ar hx).trans ad
          · have hb:Nat.beq i c=false:=by cases hb:Nat.beq i c;rfl;exact absurd (Nat.eq_of_beq_eq_true hb) hic
            rw[hb] at ad;rw[getD_set_ne _ hic];exact hx.ext ad
        have av:∀v w2,Chg (bif Nat.beq i c then M else zAh) w' w2→F.In (Go.Eng.valOf o v) w2→wpAny P .any l.toArray (zFr dz N Q) (m+(l.length - n)) (aa.setIfInBounds i true) (a.put o.dst v) w2:=by
          intro v w2 ad hv;have ah:(∀t,t≠d→env (a.put o.dst v) t=env a t)∧env (a.put o.dst v) d=Go.Eng.valOf o v:=by
            cases hod:o.dst with
            | none=>
              rw[hod] at ab;have bq:N≤d:=Nat.le_of_ble_eq_true ab;refine ⟨fun t _=>rfl,?_⟩;simp only[Go.Eng.valOf,hod];show a.tmps.getD d undef=undef;have:a.tmps.size≤d:=by rw[ha.size];exact bq
              simp[Array.getElem?_eq_none this]
            | some d'=>
              rw[hod] at ab;simp only[Bool.and_eq_true] at ab;have bi:d'=d:=Nat.eq_of_beq_eq_true ab.1;have bp:d<N:=by simpa[Nat.blt_eq] using ab.2
              subst bi;rw[zDQ ha bp v];refine ⟨fun t ht=>?_,?_⟩
              · have:Nat.beq t d'=false:=by cases hb:Nat.beq t d';rfl;exact absurd (Nat.eq_of_beq_eq_true hb) ht
                simp[upd,this]
              · simp[upd,Go.Eng.valOf,hod]
          refine ih _ _ _ ?_ (af.set hi am) (ha.put _ _) (ai w2 ad) ?_ ?_
          · have hl:aa.toList[i]?=some false:=by
              simp only[Array.getD_eq_getD_getElem?,Array.getElem?_eq_getElem ak,Option.getD_some] at h1;simp[ak,h1]
            have:=zFg (l:=aa.toList) am (by simp;omega) hl;rw[Array.toList_setIfInBounds];omega
          · intro t ht;rw[ah.1 t (fun h=>by
              subst h;have:=List.mem_of_getElem? hd;simp[this] at ht),hu t ht]
          · intro j hj d' F' aj al;by_cases hij:j=i
            · subst hij;rw[hd] at aj;cases aj;rw[hF] at al;cases al;rw[ah.2];exact FactT.at_in hv _
            · have bj:d'≠d:=by
                intro h;subst h;exact hij (zCJ hn aj hd)
              rw[ah.1 d' bj];rw[getD_set_ne _ (Ne.symm hij)] at hj;have h6:=hh j hj d' F' aj al;by_cases hic:i=c
              · have hg:(aa.setIfInBounds i true).getD c false=true:=by rw[←hic];simp[Array.getD_eq_getD_getElem?,ak]
                rw[hg];exact FactT.chg h6 (ar ad) (zNK hO (by rw[←hG];exact al) qO)
              · have hb:Nat.beq i c=false:=by
                  cases hb:Nat.beq i c
                  · rfl
                  · exact absurd (Nat.eq_of_beq_eq_true hb) hic
                rw[hb] at ad;rw[getD_set_ne _ hic];exact FactT.ext h6 ad
        have be:Chg (bif zLm c wss i then zAh else M) w1 w':=by
          cases ac:zLm c wss i with
          | true=>rw[ag ac] at hx;exact hx
          | false=>exact ar hx
        have bo:=ae (env a) w' be hu hH;have hw:Region.wanted o (yielded l.toArray a.tmps)=true:=by simp[Region.wanted,au]
        unfold wpOp;simp only[h2,hw,if_true];exact Or.inl (bo _ a ha rfl _ _ av)
  have a4:HeadInv .any l.toArray n (Array.replicate l.toArray.size false):=
    ⟨qP,fun j oj _ hl=>(by rw[getD_replicate_false] at hl;cases hl),fun t _ ht=>getD_in (by simpa using ht) (getD_replicate_false _ _)⟩
  have h1:=bn n (Array.replicate l.toArray.size false) a w1 (by simp;omega) a4 ha (by rw[getD_replicate_false];exact Chg.refl _ _) (fun t _=>by rw[he]) (fun j hj=>by rw[getD_replicate_false] at hj;cases hj);have e3:n+(l.length - n)=l.toArray.size:=by simp;omega
  rw[e3] at h1;exact h1
section
variable {M : Nat → Prop} {P : Program} {N : Nat} {σ : Env} {w : World} {ty : TypeId} {pos : String} {af : Array Edge} {g : Option (Nat × Bool)} {t : TypeId} {x y : Operand} {R : Fct}
theorem zCn {b o n:Nat} {vs c:Array Value} {e:TypeId} (hx:ev σ x=.pointer (some ⟨b,o,none⟩)) (hy:ev σ y=.agg vs) (h1:∀v∈vs.toList,v.oneCell'=true) (hs:Siz P t n) (hn:vs.size=n) (hB:Blk w b c e) (ho:o+n≤c.size) (hM:M b) (hR:∀w',Put w w' b (c.toList.take o++vs.toList++c.toList.drop (o+n)).toArray e→R undef w') :
  zCj M P N ⟨none,.store t x y,ty,pos,af,g⟩ R σ w:=by
 subst hn;have hp:=Put.of_setRow hB (c.toList.take o++vs.toList++c.toList.drop (o+vs.size)).toArray;refine zOo (w':=w.setRow b _) ?_ (hp.chg.mono fun z _ h=>by subst h;exact hM) (hR _ hp);have aa:=run_storeCells_at P b o e vs.toList 0 c w hB (by simpa using ho) h1;simp only[Nat.add_zero,Array.length_toList] at aa;simp[execOp,hx,hy,Instr.storeAt,Instr.sureAddr,storeVar,hs.run,Value.cells,aa]
end
end Go.Eng
namespace Go.Proofs
open Go Go.Eng
set_option maxRecDepth 100000
section
variable {P : Program} {σ : Env} {w : World} {dst : Option Tmp} {ty : TypeId} {pos : String} {af : Array Edge} {g : Option (Nat × Bool)} {t t' e : TypeId} {x y : Operand}
theorem zND {a:Option Addr} {n c n' c':Nat} (hu:P.underlying t=some (.slice e)) (hx:ev σ x=.slice a n c) (hy:ev σ y=.slice none n' c') :
  (execOp (ev σ) ⟨dst,.binOp .eql t x y t',ty,pos,af,g⟩).run P w=.ok (.value (.bool a.isNone)) w:=by
 have h:(Op.equalIn 10000 t (.slice a n c) (.slice none n' c')).run P w=.ok a.isNone w:=by
  rw[Op.equalIn];cases a<;>simp[run_underlying hu]
 cases a<;>simp_all[execOp,eqGuard,binOp,Op.equal,Op.maxDepth]
theorem zHg {s:Operand} {a a':Option Addr} {n c c' size:Nat} (hu:P.underlying t=some (.slice e)) (hs:Siz P e size) (hx:ev σ s=.slice a n c) (hn:n≤c) (hy:ev σ x=.slice a' 0 c') :
  (execOp (ev σ) ⟨dst,.call ⟨.builtin .append,#[s,x],#[t,t]⟩,ty,pos,af,g⟩).run P w=.ok (.value (.slice a n c)) w:=by
 have hz:size*0=0:=Nat.mul_zero _;cases a<;>cases a'<;>simp[execOp,resolve,invoke,builtin,Builtin.append_,hx,hy,run_underlying hu,hs.run,Builtin.lenOf,Builtin.firstCells,loadCells,loadCellsFrom,storeCells,hn]
theorem zJf {N:Nat} {Q:zFN} {K:Env→World→Prop} {ops:Array Oper} {rest:List Oper} {d size:Nat} (hN:d<N) (hu:P.underlying t=some (.slice e)) (hs:Siz P e size)
  (k:∀b w',New w w' b #[] e→WpL P N ops K Q rest (upd σ d (.slice (some ⟨b,0,none⟩) 0 0)) w'):WpL P N ops K Q (⟨some d,.buildSlice t 0 #[],ty,pos,af,none⟩::rest) σ w:=by
 refine zBo (v:=.slice (some ⟨w.heap.size,0,none⟩) 0 0) (w':={w with heap:=w.heap.push (.cells #[] e (0,0))}) rfl rfl hN ?_ (k _ _ (New.mk' w #[] e));have h0:Array.range 0=#[]:=rfl;simp[execOp,Instr.buildSlice,run_underlying hu,hs.run,Instr.fill,newRow,h0]
end
theorem zHl {w:World} {b e base size:Nat} (h:Blk w b #[] e) (hb:base≤b):w.ownsRow base e size (.slice (some ⟨b,0,none⟩) 0 0) 0 []:=
 ⟨qP,.inr ⟨b,0,#[],rfl,hb,h,Nat.le_refl _,by simp[maxLen],qP,qP⟩⟩
theorem zRz {l:List Int} {rest:List Value} {i:Nat} (hi:i<l.length) (y:Int):(l.map (Value.int .i64)++rest).toArray.setIfInBounds i (.int .i64 y)=((l.set i y).map (Value.int .i64)++rest).toArray:=by
 apply Array.ext';rw[Array.toList_setIfInBounds,List.map_set];simp only;rw[List.set_append,if_pos (by simpa using hi)]
theorem zSA {w:World} {b T:Nat} {l:List Int} {rest:List Value} (h:Blk w b (l.map (Value.int .i64)++rest).toArray T) {i:Nat} {x:Int} (hx:l[i]?=some x):w.cell? ⟨b,i,none⟩=some (.int .i64 x):=by
 refine h.cell ?_;have:=zAE hx;simp only[List.getElem?_toArray];rw[List.getElem?_append_left (by simpa using this)];simp[hx]
theorem zWI (w0:World) (v:Value) (x:Int) (l:List Int) (hs:zBZ w0 v l) :
  Ret prog 104 #[v,.int .i64 x] w0 fun r w=>r=.int .i64 (idx (fun y=>decide (x=y)) l)∧Ext w0 w:=by
 obtain ⟨a,c,rfl⟩:=zCI.form hs;have ac:l.length≤9223372036854775807:=by simpa using zCI.le hs
 simp only[List.length_map] at hs⊢;refine qR func104 rfl ntmps104 rfl (fun E=>(zAA (qA _ rfl (zAB (zAH (zAA (qM _ rfl (qV (zAJ underlying22 rfl) (qM _ rfl (zAB (zAS (zAp (fun nn_ σ W1=>∃(k:Nat),(∃jj_,σ=zCT jj_ [(0,(.slice a l.length c)),(1,(I6 x)),(7,(I6 (l.length:Int))),(8,(I6 (k:Int)))])∧Chg zAh w0 W1∧(k≤l.length)∧(∀(i:Nat) (y:Int),i<k→l[i]?=some y→decide (x=y)=false)∧nn_=l.length - k) (n:=l.length - 0) ?_ ?_))))))))))))
 ·exact ⟨0,zAz.out ⟨rfl,rfl,rfl,rfl,trivial⟩,E,Nat.zero_le _,(fun i y h=>absurd h (Nat.not_lt_zero _)),rfl⟩
 ·clear E;rintro _ _ W1 ⟨k,⟨j1,rfl⟩,E,hk,ab,rfl⟩;refine zAA (qV (zBF rfl rfl) (zAB (zAH (qC rfl (fun ad=>?_) (fun ad=>?_)))))
  ·obtain ⟨y,hy⟩:=zAN (l:=l) (i:=k) qO;obtain ⟨b,o,rfl,aa⟩:=zBG hs qO;refine zAO (zAC (zAH (zAS (zAA (qM _ rfl (qA _ rfl (zAB (zAA (qM _ rfl (qM _ rfl (qM _ rfl (qV (zAD (b:=b) (o:=o) (len:=l.length) (cap:=c) (i:=k) (o':=o+k) rfl rfl rfl underlying22 zAy qO qO) (qV (zAI rfl zAo (E.cell (fun f=>f) (aa k y hy))) (qV (zAs rfl rfl) (zAB (qC rfl (fun hp=>?_) (fun hp=>?_)))))))))))))))))
   ·refine zAA (qM _ rfl (qA _ rfl (zAB (zAV (zAi (zAU (zAU (zAi (zAU (zAY results104 (v:=(.int .i64 ((k:Nat):Int))) rfl ?_))))))))));exact ⟨zBJ (zJz hy (by simpa using hp) ab).symm,E⟩
   ·refine zAO (zAR (zAC (zAF (qV (zAv rfl rfl (zBb qO)) (qM _ rfl (zAB (zAC ?_)))))));exact ⟨l.length - (k+1),qO,k+1,zAz.out ⟨rfl,rfl,rfl,rfl,trivial⟩,E,qO,zFZ hy (by simpa using hp) ab,rfl⟩
  ·have hkk:k=l.length:=qO
   refine zAn (zAT (zAT (zAg (zAC (zAA (qA _ rfl (zAB (zAV (zAY results104 (v:=(.int .i64 (-1))) rfl ?_)))))))));exact ⟨zBJ (zHW fun i y hy=>ab i y (by have:=zAE hy;omega) hy).symm,E⟩
theorem zWK (w0:World) (v:Value) (x:Int) (l:List Int) (hs:zBZ w0 v l) :
  Ret prog 64 #[v,.int .i64 x] w0 fun r w=>r=.bool (l.contains x)∧Ext w0 w:=by
 refine qR func64 rfl ntmps64 rfl (fun E=>(zAA (qA _ rfl (zAB (zAA (qM v rfl (qM _ rfl (qE rfl (zAQ func104 kQ kQ rfl) (zWI _ v x l hs) ?_))))))));rintro _ w9 ⟨rfl,X9⟩;replace E:=E.ext X9;refine qV (zDK rfl rfl) (qA _ rfl (zAB (zAV (zAY results64 (v:=(.bool (decide ((0:Int)≤idx (fun y=>decide (x=y)) l)))) rfl ?_))));exact ⟨zBy ((zKA _ l).trans (by rw[List.contains_eq_any_beq];congr 1)),E⟩
end Go.Proofs
namespace Go.Proofs
open Go Go.Eng
set_option maxRecDepth 100000
theorem zNH {P:Program} {w:World} {e:TypeId} {cs:Array Value} {o:Nat} {v:Value} (hf:zDF P e=true) (hv:cs[o]?=some v):(part e cs o).run P w=.ok v w:=by
 simp[part,zDF.run hf,hv]
theorem zQT {α:Type} {l m:List α} (hl:l.length=m.length) (h:∀i,i<l.length→l[i]?=m[i]?):l=m:=by
 apply List.ext_getElem?;intro i;rcases Nat.lt_or_ge i l.length with h'|h'
 ·exact h i h'
 ·rw[List.getElem?_eq_none h',List.getElem?_eq_none qO]
section
variable {P : Program} {σ : Env} {w : World} {dst : Option Tmp} {ty : TypeId} {pos : String} {af : Array Edge} {g : Option (Nat × Bool)} {t t' e : TypeId} {x y : Operand}
theorem zLb {f0 f1 : Field} (d : Nat) (a b c f : Int) (hp : P.stoodInHeld t = false) (ht : P.underlying t = some (.struct #[f0, f1])) (hn0 : f0.name ≠ "_") (hn1 : f1.name ≠ "_") (ho0 : f0.offset = 0) (ho1 : f1.offset = 1) (h0 : f0.type = e) (h1 : f1.type = e) (he : P.underlying e = some (.int .i64)) (hf : zDF P e = true) :
  (Op.equalIn (d+2) t (.agg #[.int .i64 a,.int .i64 b]) (.agg #[.int .i64 c,.int .i64 f])).run P w=.ok (decide (a=c) && decide (b=f)) w:=by
 have q1:∀x y:Int,(Op.equalIn (d+1) e (.int .i64 x) (.int .i64 y)).run P w=.ok (x == y) w:=fun x y=>run_equalIn_int w d e .i64 .i64 x y he;have p0:∀x y:Int,(part e #[.int .i64 x,.int .i64 y] 0).run P w=.ok (.int .i64 x) w:=fun x y=>zNH hf rfl;have p1:∀x y:Int,(part e #[.int .i64 x,.int .i64 y] 1).run P w=.ok (.int .i64 y) w:=fun x y=>zNH hf rfl;have aa:(program).run P w=.ok P w:=rfl;rw[Op.equalIn];simp only[Sem.run_bind,run_underlying ht,Result.andThen_ok,aa,hp];by_cases hac:a=c
 ·by_cases hbf:b=f
  ·simp[hn0,hn1,ho0,ho1,h0,h1,p0,p1,q1,hac,hbf]
  ·simp[hn0,hn1,ho0,ho1,h0,h1,p0,p1,q1,hac,hbf]
 ·simp[hn0,hn1,ho0,ho1,h0,h1,p0,q1,hac]
theorem zPe {f0 f1 : Field} {a b c f : Int} (hp : P.stoodInHeld t = false) (ht : P.underlying t = some (.struct #[f0, f1])) (hn0 : f0.name ≠ "_") (hn1 : f1.name ≠ "_") (ho0 : f0.offset = 0) (ho1 : f1.offset = 1) (h0 : f0.type = e) (h1 : f1.type = e) (he : P.underlying e = some (.int .i64)) (hf : zDF P e = true) (hm : P.eqGuardType P.depth t = false)
  (hx:ev σ x=.agg #[.int .i64 a,.int .i64 b]) (hy:ev σ y=.agg #[.int .i64 c,.int .i64 f]) :
  (execOp (ev σ) ⟨dst,.binOp .neq t x y t',ty,pos,af,g⟩).run P w=.ok (.value (.bool (!(decide (a=c) && decide (b=f))))) w:=by
 have h:=zLb (P:=P) (w:=w) 9998 a b c f hp ht hn0 hn1 ho0 ho1 h0 h1 he hf;simp only[execOp,hx,hy,Sem.run_bind,run_eqGuard_agg w .neq t x y _ _ hm,Result.andThen_ok,run_neq_struct,h];rfl
end
theorem zUj:prog.eqGuardType prog.depth 44=false:=by kernel_rfl
theorem zPH:prog.stoodInHeld 44=false:=by kernel_rfl
theorem zSz (w0:World) (v1 v2:Value) (l1 l2:List (Int×Int)) (h1:zBK w0 v1 l1) (h2:zBK w0 v2 l2) :
  Ret prog 14 #[v1,v2] w0 fun v w=>v=.bool (decide (l1=l2))∧Ext w0 w:=by
 obtain ⟨a1,c1,rfl⟩:=zCI.form h1;obtain ⟨a2,c2,rfl⟩:=zCI.form h2;have hb1:l1.length≤9223372036854775807:=by simpa using zCI.le h1
 simp only[List.length_map] at h1 h2⊢;refine qR func14 rfl ntmps14 rfl (fun E=>(zAA (qA _ rfl (zAB (zAH (zAA (qM _ rfl (qV (zAJ underlying23 rfl) (qM _ rfl (qV (zAJ underlying23 rfl) (qV (zDA rfl rfl) (zAB (qC rfl (fun hl=>?_) (fun hl=>?_))))))))))))))
 ·refine zAA (qA _ rfl (zAB (zAV (zAU (zAY results14 (v:=(.bool false)) rfl ?_)))));exact ⟨zBy (by symm;rw[decide_eq_false_iff_not];intro h;rw[h] at hl;exact hl rfl),E⟩
 ·refine zAO (zAC (zAH (zAA (qM _ rfl (qV (zAJ underlying23 rfl) (qM _ rfl (zAB (zAS (zAp (fun nn_ σ W2=>∃(k:Nat),(∃jj_,σ=zCT jj_ [(0,(.slice a1 l1.length c1)),(1,(.slice a2 l2.length c2)),(12,(I6 (l1.length:Int))),(13,(I6 (k:Int)))])∧Chg zAh w0 W2∧(k≤l1.length)∧(∀(i:Nat),i<k→l1[i]?=l2[i]?)∧nn_=l1.length - k) (n:=l1.length - 0) ?_ ?_)))))))))
  ·exact ⟨0,zAz.out ⟨rfl,rfl,rfl,rfl,trivial⟩,E,Nat.zero_le _,(fun i h=>absurd h (Nat.not_lt_zero _)),rfl⟩
  ·clear E;rintro _ _ W2 ⟨k,⟨j2,rfl⟩,E,hk,ad,rfl⟩;refine zAA (qV (zBF rfl rfl) (zAB (zAH (qC rfl (fun af=>?_) (fun af=>?_)))))
   ·obtain ⟨p,hp⟩:=zAN (l:=l1) (i:=k) qO;obtain ⟨q,hq⟩:=zAN (l:=l2) (i:=k) qO;obtain ⟨b1,o1,rfl,ag⟩:=zBa h1 qO;obtain ⟨b2,o2,rfl,ae⟩:=zBa h2 qO;refine zAO (zAC (zAH (zAS (zAA (qM _ rfl (qA _ rfl (zAB (zCs 8 mixed qK ?_))))))));intro w4 X4 _;replace E:=E.ext X4;refine qT (zAl rfl) (qT (zAl rfl) (qT (zAD (b:=b1) (o:=o1) (len:=l1.length) (cap:=c1) (i:=k) (o':=o1+k*2) rfl rfl rfl underlying23 zBq qO qO) (qT (zAK rfl zGs zBq rfl ((ag k p hp).ext E)) (qT (zAl rfl) (qT (zAl rfl) (qT (zAD (b:=b2) (o:=o2) (len:=l2.length) (cap:=c2) (i:=k) (o':=o2+k*2) rfl rfl rfl underlying23 zBq qO qO) (qT (zAK rfl zGs zBq rfl ((ae k q hq).ext E)) (zCq (zBo (v:=(.bool (!(decide (p.1=q.1) && decide (p.2=q.2))))) rfl rfl qD (zPe zPH underlying44 qD qD rfl rfl rfl rfl underlying3 zAo zUj rfl rfl) (zAB (zBD rfl (fun aa=>?_) (fun aa=>?_))))))))))))
    ·have ab:=aa;replace aa:=by simpa using aa
     refine zAA (qA _ rfl (zAB (zAV (zAi (zAU (zAU (zAi (zAU (zAY results14 (v:=(.bool false)) rfl ?_)))))))));exact ⟨zBy (by symm;rw[decide_eq_false_iff_not];intro h;subst h;rw[hp] at hq;cases hq;simp at aa),E⟩
    ·have ab:=aa;replace aa:=by simpa using aa
     have ac:p=q:=by obtain ⟨p1,p2⟩:=p;obtain ⟨q1,q2⟩:=q;simp at aa;simp;exact aa
     refine zAO (zAR (zAC (zAF (qV (zAv rfl rfl (zBb qO)) (qM _ rfl (zAB (zAC ?_)))))));exact ⟨l1.length - (k+1),qO,k+1,zAz.out ⟨rfl,rfl,rfl,rfl,trivial⟩,E,qO,(fun i hi=>by rcases Nat.lt_or_ge i k with h|h;exact ad i h;obtain rfl:i=k:=qO;rw[hp,hq,ac]),rfl⟩
   ·have hkk:k=l1.length:=qO
    refine zAn (zAT (zAT (zAg (zAC (zAA (qA _ rfl (zAB (zAV (zAY results14 (v:=(.bool true)) rfl ?_)))))))));exact ⟨zBy (by symm;rw[decide_eq_true_eq];exact zQT qO (fun i hi=>ad i qO)),E⟩
theorem zGZ {w:World} {b o:Nat} {l:List (Int×Int)} (h:∀i s,l[i]?=some s→zBE w b (o+i*2) [.int .i64 s.1,.int .i64 s.2]):zBE w b o (l.map zBl).flatten:=by
  induction l generalizing o with
  | nil=>intro i v hv;simp at hv
  | cons s l ih=>
    have h0:=h 0 s rfl;have h1:=ih (o:=o+2) (fun i u hu=>by have:=h (i+1) u (by simpa using hu);rwa [show o+(i+1)*2=o+2+i*2 from qO] at this);intro i v hv;simp only[List.map_cons,List.flatten_cons] at hv;have hl:(zBl s).length=2:=rfl;rcases Nat.lt_or_ge i 2 with hi|hi
    · rw[List.getElem?_append_left qO] at hv;have:=h0 i v hv;simpa using this
    · rw[List.getElem?_append_right qO] at hv;have:=h1 (i - 2) v (by rw[hl] at hv;exact hv)
      rwa [show o+2+(i - 2)=o+i from qO] at this
theorem zDt (l:List (Int×Int)):(l.map zBl).flatten.length=l.length*2:=by
  induction l with
  | nil=>rfl
  | cons s l ih=>simp only[List.map_cons,List.flatten_cons,List.length_append,ih,List.length_cons];have:(zBl s).length=2:=rfl;omega
theorem zHb (l:List (Int×Int)):∀u∈(l.map zBl).flatten,u.oneCell'=true:=by
 intro u hu;simp only[List.mem_flatten,List.mem_map] at hu;obtain ⟨r,⟨s,_,rfl⟩,hu⟩:=hu;simp[zBl] at hu;rcases hu with rfl|rfl<;>rfl
def zHX (x y:Int):Int:=if x<y then -1 else if y<x then 1 else 0
theorem zWC (w0:World) (x:Int):Ret prog 126 #[.int .i64 x] w0 fun v w=>v=.bool false∧Ext w0 w:=by
 refine qR func126 rfl ntmps126 rfl (fun E=>(zAA (qA _ rfl (zAB (zAA (qM _ rfl (qM _ rfl (qV (zDA rfl rfl) (qA _ rfl (zAB (zAV (zAY results126 (v:=(.bool (decide ((x:Int)≠x)))) rfl ?_))))))))))));exact ⟨zBy qP,E⟩
theorem zIM (w0:World) (x y:Int):Ret prog 83 #[.int .i64 x,.int .i64 y] w0 fun v w=>v=.int .i64 (zHX x y)∧Ext w0 w:=by
 refine qR func83 rfl ntmps83 rfl (fun E=>(zAA (qA _ rfl (zAB (zAA (qM _ rfl (qE rfl (zAQ func126 kQ kQ rfl) (zWC _ x) ?_)))))));rintro _ w9 ⟨rfl,X9⟩;replace E:=E.ext X9;refine qA _ rfl (zAB (zAA (qM _ rfl (qE rfl (zAQ func126 kQ kQ rfl) (zWC _ y) ?_))));rintro _ w19 ⟨rfl,aa⟩;replace E:=E.ext aa;refine qA _ rfl (zAB (zAH (zAA (qM _ rfl (zAB (zAP rfl (zAO (zAC (zAH (zAA (qM _ rfl (zAB (zAP rfl (zAO (zAC (zAH (zAA (qM _ rfl (qM _ rfl (qV (zBF rfl rfl) (zAB (qC rfl (fun h1=>?_) (fun h1=>?_)))))))))))))))))))))))
 ·refine zAA (qA _ rfl (zAB (zAV (zAU (zAY results83 (v:=(.int .i64 (-1))) rfl ?_)))));exact ⟨zBJ (by unfold zHX;rw[if_pos h1]),E⟩
 ·refine zAO (zAC (zAH (zAA (qM _ rfl (qM _ rfl (qV (zDB rfl rfl) (zAB (qC rfl (fun h2=>?_) (fun h2=>?_)))))))))
  ·refine zAA (qA _ rfl (zAB (zAV (zAU (zAY results83 (v:=(.int .i64 1)) rfl ?_)))));exact ⟨zBJ (by unfold zHX;rw[if_neg h1,if_pos h2]),E⟩
  ·refine zAO (zAC (zAA (qA _ rfl (zAB (zAV (zAY results83 (v:=(.int .i64 0)) rfl ?_))))));exact ⟨zBJ (by unfold zHX;rw[if_neg h1,if_neg h2]),E⟩
section
variable {P : Program} {σ : Env} {w : World} {dst : Option Tmp} {ty : TypeId} {pos : String} {af : Array Edge} {g : Option (Nat × Bool)} {tys : Array TypeId} {x y : Operand} {k : IntKind} {a b c : Int}
theorem zVn (hx:ev σ x=.int k a) (hy:ev σ y=.int k b) (hc:min a b=c) :
  (execOp (ev σ) ⟨dst,.call ⟨.builtin .min,#[x,y],tys⟩,ty,pos,af,g⟩).run P w=.ok (.value (.int k c)) w:=by
 subst hc;have:(if b<a then b else a)=min a b:=by split<;>omega
 simp[execOp,resolve,invoke,builtin,Builtin.min_,Builtin.min2,hx,hy,this]
theorem zTF (hx:ev σ x=.int k a) (hy:ev σ y=.int k b) (hc:max a b=c) :
  (execOp (ev σ) ⟨dst,.call ⟨.builtin .max,#[x,y],tys⟩,ty,pos,af,g⟩).run P w=.ok (.value (.int k c)) w:=by
 subst hc;have:(if a<b then b else a)=max a b:=by split<;>omega
 simp[execOp,resolve,invoke,builtin,Builtin.max_,Builtin.max2,hx,hy,this]
end
end Go.Proofs
namespace Go.Proofs
open Go Go.Eng
set_option maxRecDepth 100000
def zFB (s:Int×Int):Bool:=(decide (0≤s.1) && decide (s.1≤s.2)) && decide (s.2≤1114111)
theorem zTa (s:Int×Int) (w0:World) :
  Ret prog 75 #[.agg #[.int .i64 s.1,.int .i64 s.2]] w0 fun v w=>v=.bool (zFB s)∧Ext w0 w:=by
 refine qR func75 rfl ntmps75 rfl (fun E=>(zAA (zBQ (v:=(.agg #[(I6 s.1),(I6 s.2)])) (c:=#[(I6 s.1),(I6 s.2)]) qD rfl rfl ?_)));intro b1 w1 N1;replace E:=E.ext N1.ext;have B1:=N1.blk;refine qA _ rfl (zAB (zAA (qF b1 0 0 rfl underlying44 rfl zAy rfl (qV (zAI rfl zAo (B1.cell rfl)) ?_))));obtain ⟨e2,ae⟩:∃e,(decide ((0:Int)≤s.1))=e:=⟨_,rfl⟩;refine qV ((zDK rfl rfl).trans (by rw[ae];try rfl)) (qM _ rfl (qG (.bool e2) (yU e2 (P6 b1 0)) (by cases e2<;>first|exact gA|exact gB|exact .inl ⟨rfl,zAZ rfl underlying44 rfl zAy rfl⟩) (qG (.bool e2) (yU e2 (I6 s.1)) (by cases e2<;>first|exact gA|exact gB|exact .inl ⟨rfl,zAI rfl zAo (B1.cell rfl)⟩) (qG (.bool e2) (yU e2 (P6 b1 1)) (by cases e2<;>first|exact gA|exact gB|exact .inl ⟨rfl,zAZ rfl underlying44 rfl zAy rfl⟩) (qG (.bool e2) (yU e2 (I6 s.2)) (by cases e2<;>first|exact gA|exact gB|exact .inl ⟨rfl,zAI rfl zAo (B1.cell rfl)⟩) ?_)))));obtain ⟨e3,ac⟩:∃e,(decide ((s.1:Int)≤s.2))=e:=⟨_,rfl⟩;refine qG (.bool e2) (yU e2 (.bool e3)) (by cases e2<;>first|exact gA|exact gB|exact .inl ⟨rfl,(zKs rfl rfl).trans (by rw[ac];try rfl)⟩) ?_;obtain ⟨e4,aa⟩:∃e,(e2 && e3)=e:=⟨_,rfl⟩;refine qV (zAr (v:=.bool e4) rfl (by rw[←aa];cases e2<;>rfl)) (qM _ rfl (qG (.bool e4) (yU e4 (P6 b1 1)) (by cases e4<;>first|exact gA|exact gB|exact .inl ⟨rfl,zAZ rfl underlying44 rfl zAy rfl⟩) (qG (.bool e4) (yU e4 (I6 s.2)) (by cases e4<;>first|exact gA|exact gB|exact .inl ⟨rfl,zAI rfl zAo (B1.cell rfl)⟩) ?_)));obtain ⟨e5,ab⟩:∃e,(decide ((s.2:Int)≤1114111))=e:=⟨_,rfl⟩;refine qG (.bool e4) (yU e4 (.bool e5)) (by cases e4<;>first|exact gA|exact gB|exact .inl ⟨rfl,(zKs rfl rfl).trans (by rw[ab];try rfl)⟩) ?_;obtain ⟨e6,ad⟩:∃e,(e4 && e5)=e:=⟨_,rfl⟩;refine qV (zAr (v:=.bool e6) rfl (by rw[←ad];cases e4<;>rfl)) (qA _ rfl (zAB ?_));subst ad;subst ab;subst aa;subst ac;subst ae;refine zAV (zAY results75 (v:=(.bool (((decide ((0:Int)≤s.1)) && (decide ((s.1:Int)≤s.2))) && (decide ((s.2:Int)≤1114111))))) rfl ?_);exact ⟨rfl,E⟩
def okB (k n:Int):Bool:=if k=3∨k=4∨k=7 then decide (2≤n) else if k=5∨k=6∨k=8∨k=9∨k=10 then decide (n=1) else decide (n=0)
def zFd (t:Re):Bool:=
 (((okB t.kind t.args.length && (decide (t.kind=2) || decide ((t.set.length:Int)=0))) && ((decide (t.kind=6) || decide (t.kind=9)) || decide (t.mn=0))) && (decide (t.kind=6) || decide (t.mx=0))) && (decide (t.kind=10) || !t.neg)
theorem zWM (wb w0:World) (t:Re) (vs:List Value) (ht:zBB wb t vs) :
  Ret prog 151 #[.agg vs.toArray] w0 fun v w=>v=.bool (zFd t)∧Ext w0 w:=by
 obtain ⟨sa,sc,aa,ac,rfl,bu,bw,bq⟩:=ht.form;refine qR func151 rfl ntmps151 rfl (fun E=>(zAA (zBQ (v:=(.agg (R6 t sa sc aa ac))) (c:=(R6 t sa sc aa ac)) qD rfl rfl ?_)));intro b1 w1 N1;replace E:=E.ext N1.ext;have B1:=N1.blk;refine qA _ rfl (zAB (zAA (qF b1 0 2 rfl underlying26 rfl zFw rfl (qV (zAI rfl zEQ (B1.cell rfl)) (qV (zAJ underlying24 rfl) (qA _ rfl (zAB (zAA (qM _ rfl (qV (zAs rfl rfl) (qA _ rfl (zAB (zGU (fun σ W2=>∃(ok:Bool),(∃jj_,σ=zCT jj_ [(1,(P6 b1 0)),(4,(.bool ok))])∧Chg zAh w0 W2∧Blk W2 b1 (R6 t sa sc aa ac) 26∧(ok=okB t.kind t.args.length)) ?_ ?_)))))))))))))
 ·skip
  refine zAA (qF b1 0 0 rfl underlying26 rfl zAy rfl (qV (zAI rfl zAo (B1.cell rfl)) (zAB (zAS (zAH (zAA (qV (zAs rfl rfl) (qA _ rfl (zAB (qC rfl (fun bb=>?_) (fun bb=>?_)))))))))))
  ·have a9:=decide_eq_true bb;refine zAO (zAC (zAk (cbk a9) (zAF (qM _ rfl (qV (zDK rfl rfl) (qA _ rfl (zAB (zAR (zAC ?_)))))))));exact ⟨(decide ((2:Int)≤((t.args.length:Nat):Int))),zAz.out ⟨rfl,rfl,trivial⟩,E,B1,(by unfold okB;(repeat' split)<;>first|rfl|omega)⟩
  ·have a9:=decide_eq_false bb;refine zAA (qV (zAs rfl rfl) (qA _ rfl (zAB (qC rfl (fun bg=>?_) (fun bg=>?_)))))
   ·have al:=decide_eq_true bg;refine zAO (zAC (zAk (cbk al) (zAF (qM _ rfl (qV (zDK rfl rfl) (qA _ rfl (zAB (zAR (zAC ?_)))))))));exact ⟨(decide ((2:Int)≤((t.args.length:Nat):Int))),zAz.out ⟨rfl,rfl,trivial⟩,E,B1,(by unfold okB;(repeat' split)<;>first|rfl|omega)⟩
   ·have al:=decide_eq_false bg;refine zAF (qV (zAs rfl rfl) (qA _ rfl (zAB (zAC (qC rfl (fun bv=>?_) (fun bv=>?_))))))
    ·refine zAF (qM _ rfl (qV (zDK rfl rfl) (qA _ rfl (zAB (zAR (zAC ?_))))));exact ⟨(decide ((2:Int)≤((t.args.length:Nat):Int))),zAz.out ⟨rfl,rfl,trivial⟩,E,B1,(by unfold okB;(repeat' split)<;>first|rfl|omega)⟩
    ·refine zAH (zAA (qV (zAs rfl rfl) (qA _ rfl (zAB (qC rfl (fun bc=>?_) (fun bc=>?_))))))
     ·have a2:=decide_eq_true bc;refine zAO (zAC (zAk (cbk a2) (zAF (qM _ rfl (qV (zAs rfl rfl) (qA _ rfl (zAB (zAR (zAC ?_)))))))));exact ⟨(decide ((((t.args.length:Nat):Int):Int)=1)),zAz.out ⟨rfl,rfl,trivial⟩,E,B1,(by unfold okB;(repeat' split)<;>first|rfl|omega)⟩
     ·have a2:=decide_eq_false bc;refine zAA (qV (zAs rfl rfl) (qA _ rfl (zAB (qC rfl (fun bf=>?_) (fun bf=>?_)))))
      ·have au:=decide_eq_true bf;refine zAO (zAC (zAk (cbk au) (zAF (qM _ rfl (qV (zAs rfl rfl) (qA _ rfl (zAB (zAR (zAC ?_)))))))));exact ⟨(decide ((((t.args.length:Nat):Int):Int)=1)),zAz.out ⟨rfl,rfl,trivial⟩,E,B1,(by unfold okB;(repeat' split)<;>first|rfl|omega)⟩
      ·have au:=decide_eq_false bf;refine zAA (qV (zAs rfl rfl) (qA _ rfl (zAB (qC rfl (fun bd=>?_) (fun bd=>?_)))))
       ·have aq:=decide_eq_true bd;refine zAO (zAC (zAk (cbk aq) (zAF (qM _ rfl (qV (zAs rfl rfl) (qA _ rfl (zAB (zAR (zAC ?_)))))))));exact ⟨(decide ((((t.args.length:Nat):Int):Int)=1)),zAz.out ⟨rfl,rfl,trivial⟩,E,B1,(by unfold okB;(repeat' split)<;>first|rfl|omega)⟩
       ·have aq:=decide_eq_false bd;refine zAA (qV (zAs rfl rfl) (qA _ rfl (zAB (qC rfl (fun bh=>?_) (fun bh=>?_)))))
        ·have a3:=decide_eq_true bh;refine zAO (zAC (zAk (cbk a3) (zAF (qM _ rfl (qV (zAs rfl rfl) (qA _ rfl (zAB (zAR (zAC ?_)))))))));exact ⟨(decide ((((t.args.length:Nat):Int):Int)=1)),zAz.out ⟨rfl,rfl,trivial⟩,E,B1,(by unfold okB;(repeat' split)<;>first|rfl|omega)⟩
        ·have a3:=decide_eq_false bh;refine zAF (qV (zAs rfl rfl) (qA _ rfl (zAB (zAC (qC rfl (fun bk=>?_) (fun bk=>?_))))))
         ·refine zAF (qM _ rfl (qV (zAs rfl rfl) (qA _ rfl (zAB (zAR (zAC ?_))))));exact ⟨(decide ((((t.args.length:Nat):Int):Int)=1)),zAz.out ⟨rfl,rfl,trivial⟩,E,B1,(by unfold okB;(repeat' split)<;>first|rfl|omega)⟩
         ·refine zAO (zAR (zAC ?_));exact ⟨(decide ((((t.args.length:Nat):Int):Int)=0)),zAz.out ⟨rfl,rfl,trivial⟩,E,B1,(by unfold okB;(repeat' split)<;>first|rfl|omega)⟩
 ·clear E B1;rintro _ W2 ⟨ok,⟨j2,rfl⟩,E,B1,bs⟩;refine zAA (qM _ rfl (qM _ rfl (qG (.bool ok) (yU ok (P6 b1 0)) (by cases ok<;>first|exact gA|exact gB|exact .inl ⟨rfl,zAZ rfl underlying26 rfl zAy rfl⟩) (qG (.bool ok) (yU ok (I6 t.kind)) (by cases ok<;>first|exact gA|exact gB|exact .inl ⟨rfl,zAI rfl zAo (B1.cell rfl)⟩) ?_))));obtain ⟨af,ao⟩:∃e,(decide ((t.kind:Int)=2))=e:=⟨_,rfl⟩;refine qG (.bool ok) (yU ok (.bool af)) (by cases ok<;>first|exact gA|exact gB|exact .inl ⟨rfl,(zAs rfl rfl).trans (by rw[ao];try rfl)⟩) (qG (.bool ok) (yU ok (.bool af)) (by cases ok<;>first|exact gA|exact gB|exact .inl ⟨rfl,zAl rfl⟩) (qG (yU ok (.bool af)) (yU ok (nU af (P6 b1 1))) (by cases ok<;>cases af<;>first|exact gA|exact gB|exact .inl ⟨rfl,zAZ rfl underlying26 rfl zCd rfl⟩) (qG (yU ok (.bool af)) (yU ok (nU af (.slice sa t.set.length sc))) (by cases ok<;>cases af<;>first|exact gA|exact gB|exact .inl ⟨rfl,zAI rfl zCZ (B1.cell rfl)⟩) (qG (yU ok (.bool af)) (yU ok (nU af (I6 (t.set.length:Int)))) (by cases ok<;>cases af<;>first|exact gA|exact gB|exact .inl ⟨rfl,zAJ underlying23 rfl⟩) ?_))));obtain ⟨bn,an⟩:∃e,(decide ((((t.set.length:Nat):Int):Int)=0))=e:=⟨_,rfl⟩;refine qG (yU ok (.bool af)) (yU ok (nU af (.bool bn))) (by cases ok<;>cases af<;>first|exact gA|exact gB|exact .inl ⟨rfl,(zAs rfl rfl).trans (by rw[an];try rfl)⟩) ?_;obtain ⟨bi,a4⟩:∃e,(af || bn)=e:=⟨_,rfl⟩;refine qG (.bool ok) (yU ok (.bool bi)) (by cases ok<;>first|exact gA|exact gB|exact .inl ⟨rfl,zAr (v:=.bool bi) rfl (by rw[←a4];cases af<;>rfl)⟩) ?_;obtain ⟨ab,ak⟩:∃e,(ok && bi)=e:=⟨_,rfl⟩;refine qV (zAr (v:=.bool ab) rfl (by rw[←ak];cases ok<;>rfl)) (qM _ rfl (qG (.bool ab) (yU ab (P6 b1 0)) (by cases ab<;>first|exact gA|exact gB|exact .inl ⟨rfl,zAZ rfl underlying26 rfl zAy rfl⟩) (qG (.bool ab) (yU ab (I6 t.kind)) (by cases ab<;>first|exact gA|exact gB|exact .inl ⟨rfl,zAI rfl zAo (B1.cell rfl)⟩) ?_)));obtain ⟨aj,az⟩:∃e,(decide ((t.kind:Int)=6))=e:=⟨_,rfl⟩;refine qG (.bool ab) (yU ab (.bool aj)) (by cases ab<;>first|exact gA|exact gB|exact .inl ⟨rfl,(zAs rfl rfl).trans (by rw[az];try rfl)⟩) (qG (.bool ab) (yU ab (.bool aj)) (by cases ab<;>first|exact gA|exact gB|exact .inl ⟨rfl,zAl rfl⟩) (qG (yU ab (.bool aj)) (yU ab (nU aj (P6 b1 0))) (by cases ab<;>cases aj<;>first|exact gA|exact gB|exact .inl ⟨rfl,zAZ rfl underlying26 rfl zAy rfl⟩) (qG (yU ab (.bool aj)) (yU ab (nU aj (I6 t.kind))) (by cases ab<;>cases aj<;>first|exact gA|exact gB|exact .inl ⟨rfl,zAI rfl zAo (B1.cell rfl)⟩) ?_)));obtain ⟨bp,ap⟩:∃e,(decide ((t.kind:Int)=9))=e:=⟨_,rfl⟩;refine qG (yU ab (.bool aj)) (yU ab (nU aj (.bool bp))) (by cases ab<;>cases aj<;>first|exact gA|exact gB|exact .inl ⟨rfl,(zAs rfl rfl).trans (by rw[ap];try rfl)⟩) ?_;obtain ⟨ag,aw⟩:∃e,(aj || bp)=e:=⟨_,rfl⟩;refine qG (.bool ab) (yU ab (.bool ag)) (by cases ab<;>first|exact gA|exact gB|exact .inl ⟨rfl,zAr (v:=.bool ag) rfl (by rw[←aw];cases aj<;>rfl)⟩) (qG (.bool ab) (yU ab (.bool ag)) (by cases ab<;>first|exact gA|exact gB|exact .inl ⟨rfl,zAl rfl⟩) (qG (yU ab (.bool ag)) (yU ab (nU ag (P6 b1 3))) (by cases ab<;>cases ag<;>first|exact gA|exact gB|exact .inl ⟨rfl,zAZ rfl underlying26 rfl zAy rfl⟩) (qG (yU ab (.bool ag)) (yU ab (nU ag (I6 t.mn))) (by cases ab<;>cases ag<;>first|exact gA|exact gB|exact .inl ⟨rfl,zAI rfl zAo (B1.cell rfl)⟩) ?_)));obtain ⟨bm,ar⟩:∃e,(decide ((t.mn:Int)=0))=e:=⟨_,rfl⟩;refine qG (yU ab (.bool ag)) (yU ab (nU ag (.bool bm))) (by cases ab<;>cases ag<;>first|exact gA|exact gB|exact .inl ⟨rfl,(zAs rfl rfl).trans (by rw[ar];try rfl)⟩) ?_;obtain ⟨ba,a5⟩:∃e,(ag || bm)=e:=⟨_,rfl⟩;refine qG (.bool ab) (yU ab (.bool ba)) (by cases ab<;>first|exact gA|exact gB|exact .inl ⟨rfl,zAr (v:=.bool ba) rfl (by rw[←a5];cases ag<;>rfl)⟩) ?_;obtain ⟨ad,ay⟩:∃e,(ab && ba)=e:=⟨_,rfl⟩;refine qV (zAr (v:=.bool ad) rfl (by rw[←ay];cases ab<;>rfl)) (qM _ rfl (qG (.bool ad) (yU ad (P6 b1 0)) (by cases ad<;>first|exact gA|exact gB|exact .inl ⟨rfl,zAZ rfl underlying26 rfl zAy rfl⟩) (qG (.bool ad) (yU ad (I6 t.kind)) (by cases ad<;>first|exact gA|exact gB|exact .inl ⟨rfl,zAI rfl zAo (B1.cell rfl)⟩) ?_)));obtain ⟨ai,a8⟩:∃e,(decide ((t.kind:Int)=6))=e:=⟨_,rfl⟩;refine qG (.bool ad) (yU ad (.bool ai)) (by cases ad<;>first|exact gA|exact gB|exact .inl ⟨rfl,(zAs rfl rfl).trans (by rw[a8];try rfl)⟩) (qG (.bool ad) (yU ad (.bool ai)) (by cases ad<;>first|exact gA|exact gB|exact .inl ⟨rfl,zAl rfl⟩) (qG (yU ad (.bool ai)) (yU ad (nU ai (P6 b1 4))) (by cases ad<;>cases ai<;>first|exact gA|exact gB|exact .inl ⟨rfl,zAZ rfl underlying26 rfl zAy rfl⟩) (qG (yU ad (.bool ai)) (yU ad (nU ai (I6 t.mx))) (by cases ad<;>cases ai<;>first|exact gA|exact gB|exact .inl ⟨rfl,zAI rfl zAo (B1.cell rfl)⟩) ?_)));obtain ⟨bo,a7⟩:∃e,(decide ((t.mx:Int)=0))=e:=⟨_,rfl⟩;refine qG (yU ad (.bool ai)) (yU ad (nU ai (.bool bo))) (by cases ad<;>cases ai<;>first|exact gA|exact gB|exact .inl ⟨rfl,(zAs rfl rfl).trans (by rw[a7];try rfl)⟩) ?_;obtain ⟨be,av⟩:∃e,(ai || bo)=e:=⟨_,rfl⟩;refine qG (.bool ad) (yU ad (.bool be)) (by cases ad<;>first|exact gA|exact gB|exact .inl ⟨rfl,zAr (v:=.bool be) rfl (by rw[←av];cases ai<;>rfl)⟩) ?_;obtain ⟨ae,a6⟩:∃e,(ad && be)=e:=⟨_,rfl⟩;refine qV (zAr (v:=.bool ae) rfl (by rw[←a6];cases ad<;>rfl)) (qM _ rfl (qG (.bool ae) (yU ae (P6 b1 0)) (by cases ae<;>first|exact gA|exact gB|exact .inl ⟨rfl,zAZ rfl underlying26 rfl zAy rfl⟩) (qG (.bool ae) (yU ae (I6 t.kind)) (by cases ae<;>first|exact gA|exact gB|exact .inl ⟨rfl,zAI rfl zAo (B1.cell rfl)⟩) ?_)));obtain ⟨ah,a1⟩:∃e,(decide ((t.kind:Int)=10))=e:=⟨_,rfl⟩;refine qG (.bool ae) (yU ae (.bool ah)) (by cases ae<;>first|exact gA|exact gB|exact .inl ⟨rfl,(zAs rfl rfl).trans (by rw[a1];try rfl)⟩) (qG (.bool ae) (yU ae (.bool ah)) (by cases ae<;>first|exact gA|exact gB|exact .inl ⟨rfl,zAl rfl⟩) (qG (yU ae (.bool ah)) (yU ae (nU ah (P6 b1 5))) (by cases ae<;>cases ah<;>first|exact gA|exact gB|exact .inl ⟨rfl,zAZ rfl underlying26 rfl zTB rfl⟩) (qG (yU ae (.bool ah)) (yU ae (nU ah (.bool t.neg))) (by cases ae<;>cases ah<;>first|exact gA|exact gB|exact .inl ⟨rfl,zAI rfl zKE (B1.cell rfl)⟩) ?_)));obtain ⟨br,a0⟩:∃e,(!t.neg)=e:=⟨_,rfl⟩;refine qG (yU ae (.bool ah)) (yU ae (nU ah (.bool br))) (by cases ae<;>cases ah<;>first|exact gA|exact gB|exact .inl ⟨rfl,(zCa rfl).trans (by rw[a0];try rfl)⟩) ?_;obtain ⟨bj,am⟩:∃e,(ah || br)=e:=⟨_,rfl⟩;refine qG (.bool ae) (yU ae (.bool bj)) (by cases ae<;>first|exact gA|exact gB|exact .inl ⟨rfl,zAr (v:=.bool bj) rfl (by rw[←am];cases ah<;>rfl)⟩) ?_;obtain ⟨bt,ax⟩:∃e,(ae && bj)=e:=⟨_,rfl⟩;refine qV (zAr (v:=.bool bt) rfl (by rw[←ax];cases ae<;>rfl)) (qA _ rfl (zAB ?_));subst ax;subst am;subst a0;subst a1;subst a6;subst av;subst a7;subst a8;subst ay;subst a5;subst ar;subst aw;subst ap;subst az;subst ak;subst a4;subst an;subst ao;refine zAV (zAY results151 (v:=(.bool ((((ok && ((decide ((t.kind:Int)=2)) || (decide ((((t.set.length:Nat):Int):Int)=0)))) && (((decide ((t.kind:Int)=6)) || (decide ((t.kind:Int)=9))) || (decide ((t.mn:Int)=0)))) && ((decide ((t.kind:Int)=6)) || (decide ((t.mx:Int)=0)))) && ((decide ((t.kind:Int)=10)) || (!t.neg))))) rfl ?_);subst bs;exact ⟨rfl,E⟩
def zER:Option Int→List (Int×Int)→Int
  | _,[]=>0
  | p,s::r=>if zFB s=false then 1 else if (match p with|some h=>decide (s.1<h+2)|none=>false)=true then 3 else zER (some s.2) r
theorem zDR (p:Option Int) (s:Int×Int) (r:List (Int×Int)):zER p (s::r)=if zFB s=false then 1 else if (match p with|some h=>decide (s.1<h+2)|none=>false)=true then 3 else zER (some s.2) r:=rfl
def zBR (l:List (Int×Int)):Int:=if 16<l.length then 2 else zER none l
def zDv (l:List (Int×Int)) (k:Nat):Option Int:=if k=0 then none else (l[k - 1]?).map (·.2)
theorem zTK {l:List (Int×Int)} {k:Nat} {s:Int×Int} (h:l[k]?=some s):zDv l (k+1)=some s.2:=by
 unfold zDv;simp[h]
theorem zXF {l:List (Int×Int)} {k:Nat} {s:Int×Int} {p:Int} (hpq:0<k→∃q,l[k - 1]?=some q∧q.2=p∧zDv l k=some p)
  (hf:(decide ((0:Int)<((k:Nat):Int)) && decide (s.1<p+2))=false):¬(match zDv l k with|some h=>decide (s.1<h+2)|none=>false)=true:=by
 by_cases h0:0<k
 ·obtain ⟨q,_,_,h3⟩:=hpq h0;rw[h3];simp at hf⊢;exact hf h0
 ·have:zDv l k=none:=by unfold zDv;rw[if_pos qO]
  rw[this];simp
theorem zJh (w0:World) (v:Value) (l:List (Int×Int)) (hs:zBK w0 v l) :
  Ret prog 44 #[v] w0 fun v w=>v=.int .i64 (zBR l)∧Ext w0 w:=by
 obtain ⟨a,c,rfl⟩:=zCI.form hs;have ar:l.length≤9223372036854775807:=by simpa using zCI.le hs
 simp only[List.length_map] at hs⊢;refine qR func44 rfl ntmps44 rfl (fun E=>(zAA (qA _ rfl (zAB (zAH (zAA (qM _ rfl (qV (zAJ underlying23 rfl) (qV (zDB rfl rfl) (zAB (qC rfl (fun ap=>?_) (fun ap=>?_))))))))))))
 ·refine zAA (qA _ rfl (zAB (zAV (zAU (zAY results44 (v:=(.int .i64 2)) rfl ?_)))));exact ⟨by unfold zBR;rw[if_pos qO],E⟩
 ·have am:zBR l=zER none l:=by unfold zBR;rw[if_neg qO]
  rw[am];refine zAO (zAC (zAH (zAA (qM _ rfl (qV (zAJ underlying23 rfl) (qM _ rfl (zAB (zAS (zAp (fun nn_ σ W2=>∃(k:Nat),(∃jj_,σ=zCT jj_ [(0,(.slice a l.length c)),(8,(.slice a l.length c)),(9,(I6 (l.length:Int))),(10,(I6 (k:Int)))])∧Chg zAh w0 W2∧(k≤l.length)∧(zER none l=zER (zDv l k) (l.drop k))∧(∀h,zDv l k=some h→0≤h∧h≤1114111)∧nn_=l.length - k) (n:=l.length - 0) ?_ ?_)))))))))
  ·exact ⟨0,zAz.out ⟨rfl,rfl,rfl,rfl,trivial⟩,E,Nat.zero_le _,rfl,(by intro h hh;simp[zDv] at hh),rfl⟩
  ·clear E;rintro _ _ W2 ⟨k,⟨j2,rfl⟩,E,hk,aa,an,rfl⟩;refine zAA (qV (zBF rfl rfl) (zAB (zAH (qC rfl (fun ao=>?_) (fun ao=>?_)))))
   ·have ad:k<l.length:=qO
    obtain ⟨s,ag⟩:∃s,l[k]?=some s:=⟨_,List.getElem?_eq_getElem ad⟩;obtain ⟨b,o,rfl,ab⟩:=zBa hs qO;have av:l.drop k=s::l.drop (k+1):=by rw[List.drop_eq_getElem_cons ad];rw[List.getElem?_eq_getElem ad] at ag;cases ag;rfl
    rw[av] at aa;refine zAO (zAC (zAH (zAS (zAA (qM _ rfl (qV (zAD (b:=b) (o:=o) (len:=l.length) (cap:=c) (i:=k) (o':=o+k*2) rfl rfl rfl underlying23 zBq qO qO) (qV (zAK rfl zGs zBq rfl ((ab k s ag).ext E)) (zBH (c:=#[(I6 0),(I6 0)]) qD zEG rfl ?_))))))));intro b4 w4 N4;have F4:=N4.ge E;replace E:=E.ext N4.ext;have B4:=N4.blk;refine qA _ rfl (zAb (b:=b4) (o:=0) (c':=#[(I6 s.1),(I6 s.2)]) rfl rfl qS zBq rfl B4 qL rfl ?_);intro w5 S5;replace E:=S5.step E qQ;replace B4:=S5.blk;refine zAB (zAH (zAA (qV (zAK (vs:=[(I6 s.1),(I6 s.2)]) rfl zGs zBq rfl (B4.cells rfl)) (qE rfl (zAQ func75 kQ kQ rfl) (zTa s _) ?_))));rintro _ w9 ⟨rfl,X9⟩;replace B4:=X9.keep B4;replace E:=E.ext X9;refine qV (zCa rfl) (zAB (zBD rfl (fun hv=>?_) (fun hv=>?_)))
    ·have aw:=hv;replace hv:=by simpa using hv
     refine zAA (qA _ rfl (zAB (zAV (zAU (zAi (zAU (zAU (zAi (zAU (zAY results44 (v:=(.int .i64 1)) rfl ?_))))))))));exact ⟨by rw[aa];rw[zDR,if_pos hv],E⟩
    ·have aw:=hv;replace hv:=by simpa using hv
     have ah:zFB s=true:=by simpa using hv
     have al:0≤s.2∧s.2≤1114111:=by unfold zFB at ah;simp at ah;omega
     obtain ⟨p,ae⟩:∃p,(zDv l k).getD 0=p:=⟨_,rfl⟩;have ai:0<k→∃q,l[k - 1]?=some q∧q.2=p∧zDv l k=some p:=by
      intro h0;have h1:k - 1<l.length:=qO
      have h2:zDv l k=some (l[k - 1]).2:=by unfold zDv;rw[if_neg qO,List.getElem?_eq_getElem h1];rfl
      rw[h2] at ae;simp at ae;exact ⟨_,List.getElem?_eq_getElem h1,ae,by rw[h2,ae]⟩
     have hpb:0≤p∧p≤1114111:=by
      by_cases h0:0<k
      ·obtain ⟨q,_,_,h3⟩:=ai h0;exact an p h3
      ·have:zDv l k=none:=by unfold zDv;rw[if_pos qO]
       rw[this] at ae;simp at ae;omega
     refine zAO (zAC (zCs 13 mixed qK ?_));intro w7 X7 _;replace B4:=X7.keep B4;replace E:=E.ext X7;refine qT (zAl rfl) ?_;obtain ⟨e8,ac⟩:∃e,(decide ((0:Int)<((k:Nat):Int)))=e:=⟨_,rfl⟩;refine qT ((zDB rfl rfl).trans (by rw[ac];try rfl)) (qT (zAl rfl) (zBn (oj:=_) (gv:=(.bool e8)) (u:=(yU e8 (P6 b4 0))) rfl rfl qD qD rfl (by cases e8<;>first|exact gA|exact gB|exact .inl ⟨rfl,zAZ rfl underlying44 rfl zAy rfl⟩) (zBn (oj:=_) (gv:=(.bool e8)) (u:=(yU e8 (I6 s.1))) rfl rfl qD qD rfl (by cases e8<;>first|exact gA|exact gB|exact .inl ⟨rfl,zAI rfl zAo (B4.cell rfl)⟩) (zBn (oj:=_) (gv:=(.bool e8)) (u:=(yU e8 (.slice (some ⟨b,o,none⟩) l.length c))) rfl rfl qD qD rfl (by cases e8<;>first|exact gA|exact gB|exact .inl ⟨rfl,zAl rfl⟩) (zBn (oj:=_) (gv:=(.bool e8)) (u:=(yU e8 (I6 (k:Int)))) rfl rfl qD qD rfl (by cases e8<;>first|exact gA|exact gB|exact .inl ⟨rfl,zAl rfl⟩) (zBn (oj:=_) (gv:=(.bool e8)) (u:=(yU e8 (I6 ((k:Int) - 1)))) rfl rfl qD qD rfl (by cases e8<;>first|exact gA|exact gB|exact .inl ⟨rfl,zEJ (c:=(k:Int) - 1) rfl rfl (zBb (by have:=of_decide_eq_true ac;omega))⟩) (zBn (oj:=_) (gv:=(.bool e8)) (u:=(yU e8 (.pointer (some ⟨b,o+(k - 1)*2,none⟩)))) rfl rfl qD qD rfl (by cases e8<;>first|exact gA|exact gB|exact .inl ⟨rfl,zAD (i:=k - 1) rfl rfl (by have:=of_decide_eq_true ac;omega) underlying23 zBq (by have:=of_decide_eq_true ac;omega) qO⟩) (zBn (oj:=_) (gv:=(.bool e8)) (u:=(yU e8 (.pointer (some ⟨b,o+(k - 1)*2+1,none⟩)))) rfl rfl qD qD rfl (by cases e8<;>first|exact gA|exact gB|exact .inl ⟨rfl,zAZ rfl underlying44 rfl zAy rfl⟩) (zBn (oj:=_) (gv:=(.bool e8)) (u:=(yU e8 (I6 p))) rfl rfl qD qD rfl (by cases e8<;>first|exact gA|exact gB|exact .inl ⟨rfl,zAI rfl zAo ((by have:=of_decide_eq_true ac;obtain ⟨q,hq,rfl,_⟩:=ai qO;exact ((ab (k - 1) q hq).ext E).at1))⟩) (zBn (oj:=_) (gv:=(.bool e8)) (u:=(yU e8 (I6 (p+2)))) rfl rfl qD qD rfl (by cases e8<;>first|exact gA|exact gB|exact .inl ⟨rfl,zAv (c:=p+2) rfl rfl (zBb (by have:=of_decide_eq_true ac;omega))⟩) ?_))))))))));obtain ⟨e9,aj⟩:∃e,(decide ((s.1:Int)<p+2))=e:=⟨_,rfl⟩;refine zBn (oj:=_) (gv:=(.bool e8)) (u:=(yU e8 (.bool e9))) rfl rfl qD qD rfl (by cases e8<;>first|exact gA|exact gB|exact .inl ⟨rfl,(zBF rfl rfl).trans (by rw[aj];try rfl)⟩) (zCq ?_);obtain ⟨ax,af⟩:∃e,(e8 && e9)=e:=⟨_,rfl⟩;refine qV (zAr (v:=.bool ax) rfl (by rw[←af];cases e8<;>rfl)) (zAB ?_);subst af;subst aj;subst ac;refine zBD rfl (fun hf=>?_) (fun hf=>?_)
     ·have au:=hf;have ak:0<k∧s.1<p+2:=by simpa using hf
      obtain ⟨q,_,_,h3⟩:=ai ak.1;refine zAA (qA _ rfl (zAB (zAV (zAi (zAU (zAU (zAi (zAU (zAY results44 (v:=(.int .i64 3)) rfl ?_)))))))));exact ⟨by rw[aa];rw[zDR,if_neg (by simp[ah]),h3,if_pos (by simp[ak.2])],E⟩
     ·have au:=hf;refine zAO (zAR (zAC (zAF (qV (zAv rfl rfl (zBb qO)) (qM _ rfl (zAB (zAC ?_)))))));exact ⟨l.length - (k+1),qO,k+1,zAz.out ⟨rfl,rfl,rfl,rfl,trivial⟩,E,qO,(by rw[aa];rw[zDR,if_neg (by simp[ah]),if_neg ?_,zTK ag];exact zXF ai hf),(by intro h hh;rw[zTK ag] at hh;cases hh;exact al),rfl⟩
   ·have aq:k=l.length:=qO
    rw[aq,List.drop_length] at aa;refine zAn (zAT (zAT (zAg (zAC (zAA (qA _ rfl (zAB (zAV (zAY results44 (v:=(.int .i64 0)) rfl ?_)))))))));exact ⟨by rw[aa];rfl,E⟩
end Go.Proofs
namespace Go.Proofs
open Go Go.Eng
set_option maxRecDepth 100000
theorem zOV (w0:World) (v fv:Value) (l:List (Int)) (p:Int→Bool) (hs:zBZ w0 v l) (hf:∀(w:World) (x:Int),Ext w0 w→x∈l→zCG prog fv #[.int .i64 x] w fun r w'=>r=.bool (p x)∧Ext w w') :
  Ret prog 176 #[v,fv] w0 fun r w=>r=.int .i64 (idx p l)∧Ext w0 w:=by
 obtain ⟨a,c,rfl⟩:=zCI.form hs;have ac:l.length≤9223372036854775807:=by simpa using zCI.le hs
 simp only[List.length_map] at hs⊢;refine qR func176 rfl ntmps176 rfl (fun E=>(zAA (qA _ rfl (zAB (zAH (zAA (qM _ rfl (qV (zAJ underlying22 rfl) (qM _ rfl (zAB (zAS (zAp (fun nn_ σ W1=>∃(k:Nat),(∃jj_,σ=zCT jj_ [(0,(.slice a l.length c)),(1,fv),(7,(I6 (l.length:Int))),(8,(I6 (k:Int)))])∧Chg zAh w0 W1∧(k≤l.length)∧(∀(i:Nat) (y:Int),i<k→l[i]?=some y→p y=false)∧nn_=l.length - k) (n:=l.length - 0) ?_ ?_))))))))))))
 ·exact ⟨0,zAz.out ⟨rfl,rfl,rfl,rfl,trivial⟩,E,Nat.zero_le _,(fun i y h=>absurd h (Nat.not_lt_zero _)),rfl⟩
 ·clear E;rintro _ _ W1 ⟨k,⟨j1,rfl⟩,E,hk,ab,rfl⟩;refine zAA (qV (zBF rfl rfl) (zAB (zAH (qC rfl (fun ad=>?_) (fun ad=>?_)))))
  ·obtain ⟨x,hx⟩:=zAN (l:=l) (i:=k) qO;obtain ⟨b,o,rfl,aa⟩:=zBG hs qO;refine zAO (zAC (zAH (zAS (zAA (qM _ rfl (qA _ rfl (zAB (zAA (qM _ rfl (qM _ rfl (qM _ rfl (qV (zAD (b:=b) (o:=o) (len:=l.length) (cap:=c) (i:=k) (o':=o+k) rfl rfl rfl underlying22 zAy qO qO) (qV (zAI rfl zAo (E.cell (fun f=>f) (aa k x hx))) (zDD qD rfl rfl (hf _ x E (List.mem_of_getElem? hx)) ?_))))))))))))));rintro _ w9 ⟨rfl,X9⟩;replace E:=E.ext X9;refine zAB (zBD rfl (fun hp=>?_) (fun hp=>?_))
   ·have ae:=hp;refine zAA (qM _ rfl (qA _ rfl (zAB (zAV (zAi (zAU (zAU (zAi (zAU (zAY results176 (v:=(.int .i64 ((k:Nat):Int))) rfl ?_))))))))));exact ⟨zBJ (zJz hx hp ab).symm,E⟩
   ·have ae:=hp;refine zAO (zAR (zAC (zAF (qV (zAv rfl rfl (zBb qO)) (qM _ rfl (zAB (zAC ?_)))))));exact ⟨l.length - (k+1),qO,k+1,zAz.out ⟨rfl,rfl,rfl,rfl,trivial⟩,E,qO,zFZ hx hp ab,rfl⟩
  ·have hkk:k=l.length:=qO
   refine zAn (zAT (zAT (zAg (zAC (zAA (qA _ rfl (zAB (zAV (zAY results176 (v:=(.int .i64 (-1))) rfl ?_)))))))));exact ⟨zBJ (zHW fun i y hy=>ab i y (by have:=zAE hy;omega) hy).symm,E⟩
theorem zOW (w0:World) (v fv:Value) (l:List (Int)) (p:Int→Bool) (hs:zBZ w0 v l) (hf:∀(w:World) (x:Int),Ext w0 w→x∈l→zCG prog fv #[.int .i64 x] w fun r w'=>r=.bool (p x)∧Ext w w') :
  Ret prog 140 #[v,fv] w0 fun r w=>r=.bool (l.any p)∧Ext w0 w:=by
 refine qR func140 rfl ntmps140 rfl (fun E=>(zAA (qA _ rfl (zAB (zAA (qM v rfl (qM _ rfl (qE rfl (zAQ func176 kQ kQ rfl) (zOV _ v fv l p hs hf) ?_))))))));rintro _ w9 ⟨rfl,X9⟩;replace E:=E.ext X9;refine qV (zDK rfl rfl) (qA _ rfl (zAB (zAV (zAY results140 (v:=(.bool (decide ((0:Int)≤idx p l)))) rfl ?_))));exact ⟨zBy (zKA p l),E⟩
theorem zMD (w0:World) (v fv:Value) (l:List (Int×Int)) (p:Int×Int→Bool) (hs:zBK w0 v l) (hf:∀(w:World) (x:Int×Int),Ext w0 w→x∈l→zCG prog fv #[.agg #[.int .i64 x.1,.int .i64 x.2]] w fun r w'=>r=.bool (p x)∧Ext w w') :
  Ret prog 123 #[v,fv] w0 fun r w=>r=.int .i64 (idx p l)∧Ext w0 w:=by
 obtain ⟨a,c,rfl⟩:=zCI.form hs;have ac:l.length≤9223372036854775807:=by simpa using zCI.le hs
 simp only[List.length_map] at hs⊢;refine qR func123 rfl ntmps123 rfl (fun E=>(zAA (qA _ rfl (zAB (zAH (zAA (qM _ rfl (qV (zAJ underlying23 rfl) (qM _ rfl (zAB (zAS (zAp (fun nn_ σ W1=>∃(k:Nat),(∃jj_,σ=zCT jj_ [(0,(.slice a l.length c)),(1,fv),(7,(I6 (l.length:Int))),(8,(I6 (k:Int)))])∧Chg zAh w0 W1∧(k≤l.length)∧(∀(i:Nat) (y:Int×Int),i<k→l[i]?=some y→p y=false)∧nn_=l.length - k) (n:=l.length - 0) ?_ ?_))))))))))))
 ·exact ⟨0,zAz.out ⟨rfl,rfl,rfl,rfl,trivial⟩,E,Nat.zero_le _,(fun i y h=>absurd h (Nat.not_lt_zero _)),rfl⟩
 ·clear E;rintro _ _ W1 ⟨k,⟨j1,rfl⟩,E,hk,ab,rfl⟩;refine zAA (qV (zBF rfl rfl) (zAB (zAH (qC rfl (fun ad=>?_) (fun ad=>?_)))))
  ·obtain ⟨x,hx⟩:=zAN (l:=l) (i:=k) qO;obtain ⟨b,o,rfl,aa⟩:=zBa hs qO;refine zAO (zAC (zAH (zAS (zAA (qM _ rfl (qA _ rfl (zAB (zAA (qM _ rfl (qM _ rfl (qM _ rfl (qV (zAD (b:=b) (o:=o) (len:=l.length) (cap:=c) (i:=k) (o':=o+k*2) rfl rfl rfl underlying23 zBq qO qO) (qV (zAK rfl zGs zBq rfl ((aa k x hx).ext E)) (zDD qD rfl rfl (hf _ x E (List.mem_of_getElem? hx)) ?_))))))))))))));rintro _ w9 ⟨rfl,X9⟩;replace E:=E.ext X9;refine zAB (zBD rfl (fun hp=>?_) (fun hp=>?_))
   ·have ae:=hp;refine zAA (qM _ rfl (qA _ rfl (zAB (zAV (zAi (zAU (zAU (zAi (zAU (zAY results123 (v:=(.int .i64 ((k:Nat):Int))) rfl ?_))))))))));exact ⟨zBJ (zJz hx hp ab).symm,E⟩
   ·have ae:=hp;refine zAO (zAR (zAC (zAF (qV (zAv rfl rfl (zBb qO)) (qM _ rfl (zAB (zAC ?_)))))));exact ⟨l.length - (k+1),qO,k+1,zAz.out ⟨rfl,rfl,rfl,rfl,trivial⟩,E,qO,zFZ hx hp ab,rfl⟩
  ·have hkk:k=l.length:=qO
   refine zAn (zAT (zAT (zAg (zAC (zAA (qA _ rfl (zAB (zAV (zAY results123 (v:=(.int .i64 (-1))) rfl ?_)))))))));exact ⟨zBJ (zHW fun i y hy=>ab i y (by have:=zAE hy;omega) hy).symm,E⟩
theorem zME (w0:World) (v fv:Value) (l:List (Int×Int)) (p:Int×Int→Bool) (hs:zBK w0 v l) (hf:∀(w:World) (x:Int×Int),Ext w0 w→x∈l→zCG prog fv #[.agg #[.int .i64 x.1,.int .i64 x.2]] w fun r w'=>r=.bool (p x)∧Ext w w') :
  Ret prog 78 #[v,fv] w0 fun r w=>r=.bool (l.any p)∧Ext w0 w:=by
 refine qR func78 rfl ntmps78 rfl (fun E=>(zAA (qA _ rfl (zAB (zAA (qM v rfl (qM _ rfl (qE rfl (zAQ func123 kQ kQ rfl) (zMD _ v fv l p hs hf) ?_))))))));rintro _ w9 ⟨rfl,X9⟩;replace E:=E.ext X9;refine qV (zDK rfl rfl) (qA _ rfl (zAB (zAV (zAY results78 (v:=(.bool (decide ((0:Int)≤idx p l)))) rfl ?_))));exact ⟨zBy (zKA p l),E⟩
theorem zXL (w0:World) (s:Int×Int) (r:Int) (b:Nat) (hB:Blk w0 b #[.int .i64 r] 3) :
  Ret prog 79 #[.agg #[.int .i64 s.1,.int .i64 s.2],.pointer (some ⟨b,0,none⟩)] w0 fun v w=>v=.bool (decide (s.1≤r) && decide (r≤s.2))∧Ext w0 w:=by
 refine qR func79 rfl ntmps79 rfl (fun E=>(zAA (zBQ (v:=(.agg #[(I6 s.1),(I6 s.2)])) (c:=#[(I6 s.1),(I6 s.2)]) qD rfl rfl ?_)));intro b1 w1 N1;replace hB:=N1.keep hB;replace E:=E.ext N1.ext;have B1:=N1.blk;refine qA _ rfl (zAB (zAA (qF b1 0 0 rfl underlying44 rfl zAy rfl (qV (zAI rfl zAo (B1.cell rfl)) (qV (zAI rfl zAo (hB.cell rfl)) ?_)))));obtain ⟨e2,ac⟩:∃e,(decide ((s.1:Int)≤r))=e:=⟨_,rfl⟩;refine qV ((zKs rfl rfl).trans (by rw[ac];try rfl)) (qM _ rfl (qG (.bool e2) (yU e2 (I6 r)) (by cases e2<;>first|exact gA|exact gB|exact .inl ⟨rfl,zAI rfl zAo (hB.cell rfl)⟩) (qG (.bool e2) (yU e2 (P6 b1 1)) (by cases e2<;>first|exact gA|exact gB|exact .inl ⟨rfl,zAZ rfl underlying44 rfl zAy rfl⟩) (qG (.bool e2) (yU e2 (I6 s.2)) (by cases e2<;>first|exact gA|exact gB|exact .inl ⟨rfl,zAI rfl zAo (B1.cell rfl)⟩) ?_))));obtain ⟨e3,ab⟩:∃e,(decide ((r:Int)≤s.2))=e:=⟨_,rfl⟩;refine qG (.bool e2) (yU e2 (.bool e3)) (by cases e2<;>first|exact gA|exact gB|exact .inl ⟨rfl,(zKs rfl rfl).trans (by rw[ab];try rfl)⟩) ?_;obtain ⟨e4,aa⟩:∃e,(e2 && e3)=e:=⟨_,rfl⟩;refine qV (zAr (v:=.bool e4) rfl (by rw[←aa];cases e2<;>rfl)) (qA _ rfl (zAB ?_));subst aa;subst ab;subst ac;refine zAV (zAY results79 (v:=(.bool ((decide ((s.1:Int)≤r)) && (decide ((r:Int)≤s.2))))) rfl ?_);exact ⟨rfl,E⟩
theorem zXK (w0:World) (v:Value) (l:List (Int×Int)) (r:Int) (hs:zBK w0 v l) :
  Ret prog 47 #[v,.int .i64 r] w0 fun u w=>u=.bool (inS l r)∧Ext w0 w:=by
 refine qR func47 rfl ntmps47 rfl (fun E=>(zAA (zBQ (v:=(I6 r)) (c:=#[(I6 r)]) qD rfl rfl ?_)));intro b1 w1 N1;replace E:=E.ext N1.ext;have B1:=N1.blk;refine qA _ rfl (zAB (zAA (qM v rfl (qV (zBV rfl rfl) (qE rfl (zAQ func78 kQ kQ rfl) (zME _ v _ l (fun s=>decide (s.1≤r) && decide (r≤s.2)) (hs.ext E) (fun w x hE _=>zCG.mk (first:=#[]) (cap:=#[.pointer (some ⟨b1,0,none⟩)]) func79 kQ kQ rfl (zXL w x r b1 (hE.keep B1)))) ?_)))));rintro _ w9 ⟨rfl,X9⟩;replace B1:=X9.keep B1;replace E:=E.ext X9;refine qA _ rfl (zAB (zAV (zAY results47 (v:=(.bool (inS l r))) rfl ?_)));exact ⟨rfl,E⟩
def zHL (r:Int):Bool:=decide (0≤r) && decide (r≤1114111)
theorem zVk (r:Int) (w0:World):Ret prog 142 #[.int .i64 r] w0 fun u w=>u=.bool (zHL r)∧Ext w0 w:=by
 refine qR func142 rfl ntmps142 rfl (fun E=>(zAA (qA _ rfl (zAB (zAA (qM _ rfl ?_))))));obtain ⟨e1,aa⟩:∃e,(decide ((0:Int)≤r))=e:=⟨_,rfl⟩;refine qV ((zDK rfl rfl).trans (by rw[aa];try rfl)) (qM _ rfl (qG (.bool e1) (yU e1 (I6 r)) (by cases e1<;>first|exact gA|exact gB|exact .inl ⟨rfl,zAl rfl⟩) ?_));obtain ⟨e2,ab⟩:∃e,(decide ((r:Int)≤1114111))=e:=⟨_,rfl⟩;refine qG (.bool e1) (yU e1 (.bool e2)) (by cases e1<;>first|exact gA|exact gB|exact .inl ⟨rfl,(zKs rfl rfl).trans (by rw[ab];try rfl)⟩) ?_;obtain ⟨e3,ac⟩:∃e,(e1 && e2)=e:=⟨_,rfl⟩;refine qV (zAr (v:=.bool e3) rfl (by rw[←ac];cases e1<;>rfl)) (qA _ rfl (zAB ?_));subst ac;subst ab;subst aa;refine zAV (zAY results142 (v:=(.bool ((decide ((0:Int)≤r)) && (decide ((r:Int)≤1114111))))) rfl ?_);exact ⟨rfl,E⟩
theorem zRV (r:Int) (w0:World):Ret prog 141 #[.int .i64 r] w0 fun u w=>u=.bool (!zHL r)∧Ext w0 w:=by
 refine qR func141 rfl ntmps141 rfl (fun E=>(zAA (qA _ rfl (zAB (zAA (qM _ rfl (qE rfl (zAQ func142 kQ kQ rfl) (zVk r _) ?_)))))));rintro _ w9 ⟨rfl,X9⟩;replace E:=E.ext X9;refine qV (zCa rfl) (qA _ rfl (zAB (zAV (zAY results141 (v:=(.bool (!(zHL r)))) rfl ?_))));exact ⟨rfl,E⟩
theorem zUB (w0:World) (v:Value) (l:List Int) (hs:zBZ w0 v l) :
  Ret prog 96 #[v] w0 fun u w=>u=.bool (!(l.any fun r=>!zHL r))∧Ext w0 w:=by
 refine qR func96 rfl ntmps96 rfl (fun E=>(zAA (qA _ rfl (zAB (zAA (qM v rfl (qE rfl (zAQ func140 kQ kQ rfl) (zOW _ v _ l (fun r=>!zHL r) hs (fun w x hE _=>zCG.mk (first:=#[]) (cap:=#[]) func141 kQ kQ rfl (zRV x w))) ?_)))))));rintro _ w9 ⟨rfl,X9⟩;replace E:=E.ext X9;refine qV (zCa rfl) (qA _ rfl (zAB (zAV (zAY results96 (v:=(.bool (!(l.any fun r=>!zHL r)))) rfl ?_))));exact ⟨rfl,E⟩
end Go.Proofs
namespace Go.Proofs
open Go Go.Eng
set_option maxRecDepth 100000
abbrev Sp:=Int×Int
def vSp (s:Sp):Prop:=0≤s.1∧s.1≤s.2∧s.2≤1114111
structure Canon (l:List Sp):Prop where
 ok:∀s∈l,vSp s
 gap:l.Pairwise fun s t=>s.2+2≤t.1
theorem leLt (a b:Int):a≤b∨b<a:=qO
theorem zON (a b:Int):a<b∨b≤a:=qO
theorem zEV {l:List Sp} {r:Int}:inS l r=true↔∃s∈l,s.1≤r∧r≤s.2:=by
 unfold inS;simp[List.any_eq_true]
theorem zCA (s:Sp) (l:List Sp) (r:Int):inS (s::l) r=((decide (s.1≤r) && decide (r≤s.2)) || inS l r):=rfl
theorem zDO (a b:List Sp) (r:Int):inS (a++b) r=(inS a r || inS b r):=by
 unfold inS;rw[List.any_append]
theorem zFG (r:Int):inS [] r=false:=rfl
theorem zSD {a b:List Sp} (h:a.Perm b) (r:Int):inS a r=inS b r:=by
 rw[Bool.eq_iff_iff,zEV,zEV];exact ⟨fun ⟨s,hs,q⟩=>⟨s,h.mem_iff.1 hs,q⟩,fun ⟨s,hs,q⟩=>⟨s,h.mem_iff.2 hs,q⟩⟩
theorem Canon.nil:Canon []:=⟨fun _ h=>(by cases h),List.Pairwise.nil⟩
theorem Canon.one {s:Sp} (h:vSp s):Canon [s]:=⟨fun t ht=>by rw[List.mem_singleton] at ht;subst ht;exact h,List.pairwise_singleton _ _⟩
theorem Canon.tail {s:Sp} {l:List Sp} (h:Canon (s::l)):Canon l:=⟨fun t ht=>h.ok t (List.mem_cons_of_mem _ ht),(List.pairwise_cons.1 h.gap).2⟩
theorem Canon.head {s:Sp} {l:List Sp} (h:Canon (s::l)):vSp s:=h.ok s List.mem_cons_self
theorem Canon.far {s:Sp} {l:List Sp} (h:Canon (s::l)):∀t∈l,s.2+2≤t.1:=(List.pairwise_cons.1 h.gap).1
theorem Canon.cons {s:Sp} {l:List Sp} (h1:vSp s) (h2:∀t∈l,s.2+2≤t.1) (h3:Canon l):Canon (s::l):=
 ⟨fun t ht=>by rcases List.mem_cons.1 ht with rfl|ht;exact h1;exact h3.ok t ht,List.pairwise_cons.2 ⟨h2,h3.gap⟩⟩
theorem zEe {s:Sp} {l:List Sp} (h:Canon (s::l)) {r:Int} (hr:r≤s.2+1):inS l r=false:=by
  cases e:inS l r with
  | false=>rfl
  | true=>
    obtain ⟨t,ht,h1,_⟩:=zEV.1 e;have:=h.far t ht;omega
theorem zEu {s:Sp} {l:List Sp} (h:Canon (s::l)) {r:Int} (hr:r<s.1):inS (s::l) r=false:=by
 have hv:=h.head;rw[zCA,zEe h (by unfold vSp at hv;omega),Bool.or_false,decide_eq_false qO];rfl
theorem zHH:∀{a b:List Sp},Canon a→Canon b→(∀r,inS a r=inS b r)→a=b
  | [],[],_,_,_=>rfl
  | [],t::b,_,hb,h=>by
    have hv:=hb.head;unfold vSp at hv;have:=h t.1;rw[zFG,zCA,decide_eq_true (Int.le_refl _),decide_eq_true qO] at this;simp at this
  | s::a,[],ha,_,h=>by
    have hv:=ha.head;unfold vSp at hv;have:=h s.1;rw[zFG,zCA,decide_eq_true (Int.le_refl _),decide_eq_true qO] at this;simp at this
  | s::a,t::b,ha,hb,h=>by
    have hv:=ha.head;have hu:=hb.head;unfold vSp at hv hu;have self:∀{s:Sp} {l:List Sp} {r:Int},s.1≤r→r≤s.2→inS (s::l) r=true:=fun h1 h2=>by
      rw[zCA,decide_eq_true h1,decide_eq_true h2];rfl
    have e1:s.1=t.1:=by
      rcases Int.lt_trichotomy s.1 t.1 with h1|h1|h1
      · have h2:=h s.1;rw[self (Int.le_refl _) qO,zEu hb h1] at h2;cases h2
      · exact h1
      · have h2:=h t.1;rw[self (s:=t) (Int.le_refl _) qO,zEu ha h1] at h2;cases h2
    have e2:s.2=t.2:=by
      rcases Int.lt_trichotomy s.2 t.2 with h1|h1|h1
      · have h2:=h (s.2+1);rw[self (s:=t) qO qO,zCA,zEe ha (Int.le_refl _),decide_eq_false (p:=s.2+1≤s.2) qO] at h2;simp at h2
      · exact h1
      · have h2:=h (t.2+1);rw[self (s:=s) qO qO,zCA,zEe hb (Int.le_refl _),decide_eq_false (p:=t.2+1≤t.2) qO] at h2;simp at h2
    have e3:s=t:=Prod.ext e1 e2;subst e3;have e4:a=b:=zHH ha.tail hb.tail fun r=>by
      rcases leLt r (s.2+1) with h1|h1
      · rw[zEe ha h1,zEe hb h1]
      · have h2:=h r;rw[zCA,zCA,decide_eq_false (p:=r≤s.2) qO] at h2;simpa using h2
    rw[e4]
def zMY (out:List Sp) (s:Sp):List Sp:=match out.getLast? with
  | some c=>if s.1≤c.2+1 then out.dropLast++[(c.1,max c.2 s.2)] else out++[s]
  | none=>[s]
def zOU (l:List Sp):List Sp:=l.foldl zMY []
theorem zGf (o:List Sp) (c s:Sp):zMY (o++[c]) s=if s.1≤c.2+1 then o++[(c.1,max c.2 s.2)] else o++[c]++[s]:=by
 unfold zMY;simp
theorem zLN (s:Sp):zMY [] s=[s]:=rfl
structure JInv (out l:List Sp) (m:Int):Prop where
 can:Canon out
 low:∀s∈out,s.1≤m
 mem:∀r,inS out r=inS l r
 len:out.length≤l.length
theorem zIy {α:Type} (l:List α):l=[]∨∃o c,l=o++[c]:=by
 rcases List.eq_nil_or_concat l with h|⟨o,c,h⟩
 ·exact .inl h
 ·exact .inr ⟨o,c,by simpa using h⟩
theorem zGp {o:List Sp} {c:Sp}:Canon (o++[c])↔Canon o∧vSp c∧∀t∈o,t.2+2≤c.1:=by
 constructor
 ·intro h;have h1:=List.pairwise_append.1 h.gap;exact ⟨⟨fun t ht=>h.ok t (by simp[ht]),h1.1⟩,h.ok c qP,fun t ht=>h1.2.2 t ht c qP⟩
 ·rintro ⟨h1,h2,h3⟩;refine ⟨fun t ht=>?_,List.pairwise_append.2 ⟨h1.gap,List.pairwise_singleton _ _,fun t ht u hu=>?_⟩⟩
  ·rcases List.mem_append.1 ht with ht|ht
   ·exact h1.ok t ht
   ·rw[List.mem_singleton] at ht;subst ht;exact h2
  ·rw[List.mem_singleton] at hu;subst hu;exact h3 t ht
theorem zQK {out l:List Sp} {m:Int} {s:Sp} (h:JInv out l m) (hs:vSp s) (hm:m≤s.1):JInv (zMY out s) (l++[s]) s.1:=by
 rcases zIy out with rfl|⟨o,c,rfl⟩
 ·rw[zLN];refine ⟨Canon.one hs,fun t ht=>by rw[List.mem_singleton] at ht;subst ht;exact Int.le_refl _,fun r=>?_,qP⟩;rw[zDO,←h.mem r];rfl
 ·obtain ⟨h1,h2,h3⟩:=zGp.1 h.can;have hc:=h.low c qP;unfold vSp at h2 hs;rw[zGf];split
  ·rename_i h4
   have hmx:max c.2 s.2=c.2∨max c.2 s.2=s.2:=qO
   have hge:c.2≤max c.2 s.2∧s.2≤max c.2 s.2:=qO
   refine ⟨zGp.2 ⟨h1,⟨h2.1,by simp only;omega,by simp only;omega⟩,h3⟩,fun t ht=>?_,fun r=>?_,?_⟩
   ·rcases List.mem_append.1 ht with ht|ht
    ·have:=h.low t (by simp[ht]);omega
    ·rw[List.mem_singleton] at ht;subst ht;simp only;omega
   ·have hr:=h.mem r;rw[zDO] at hr;rw[zDO,zDO,←hr];have e:inS [(c.1,max c.2 s.2)] r=(inS [c] r || inS [s] r):=by
     rw[Bool.eq_iff_iff];simp only[zCA,zFG,Bool.or_false,Bool.or_eq_true,Bool.and_eq_true,decide_eq_true_eq];constructor
     ·intro ⟨q1,q2⟩;omega
     ·rintro (⟨q1,q2⟩|⟨q1,q2⟩)<;>omega
    rw[e,Bool.or_assoc]
   ·have:=h.len;simp at this⊢;omega
  ·rename_i h4
   refine ⟨zGp.2 ⟨h.can,hs,fun t ht=>?_⟩,fun t ht=>?_,fun r=>?_,?_⟩
   ·rcases List.mem_append.1 ht with ht|ht
    ·have:=h3 t ht;omega
    ·rw[List.mem_singleton] at ht;subst ht;omega
   ·rcases List.mem_append.1 ht with ht|ht
    ·have:=h.low t ht;omega
    ·rw[List.mem_singleton] at ht;subst ht;exact Int.le_refl _
   ·rw[zDO _ [s],zDO l,h.mem r]
   ·have:=h.len;simp at this⊢;omega
theorem zLT:∀(r:List Sp) {out l:List Sp} {m:Int},JInv out l m→(∀s∈r,vSp s∧m≤s.1)→r.Pairwise (fun s t=>s.1≤t.1)→∃m',JInv (r.foldl zMY out) (l++r) m'
  | [],out,l,m,h,_,_=>⟨m,by simpa using h⟩
  | s::r,out,l,m,h,hv,hp=>by
    have h1:=hv s List.mem_cons_self;have h2:=List.pairwise_cons.1 hp;obtain ⟨m',h3⟩:=zLT r (zQK h h1.1 h1.2) (fun t ht=>⟨(hv t (List.mem_cons_of_mem _ ht)).1,h2.1 t ht⟩) h2.2;exact ⟨m',by simpa using h3⟩
theorem zQM {l:List Sp} (hv:∀s∈l,vSp s) (hp:l.Pairwise (fun s t=>s.1≤t.1)):Canon (zOU l)∧(∀r,inS (zOU l) r=inS l r)∧(zOU l).length≤l.length:=by
 obtain ⟨m,h⟩:=zLT l (out:=[]) (l:=[]) (m:=0) ⟨Canon.nil,fun _ h=>by (cases h),fun _=>rfl,Nat.le_refl _⟩ (fun s hs=>⟨hv s hs,(hv s hs).1⟩) hp;exact ⟨h.can,h.mem,h.len⟩
def zFi (l out:List Sp):Prop:=∃l',l'.Perm l∧l'.Pairwise (fun s t=>s.1≤t.1)∧out=zOU l'
theorem zFi.all {l out:List Sp} (h:zFi l out) (hv:∀s∈l,vSp s):Canon out∧(∀r,inS out r=inS l r)∧out.length≤l.length:=by
 obtain ⟨l',h1,h2,rfl⟩:=h;have h3:=zQM (fun s hs=>hv s (h1.mem_iff.1 hs)) h2;exact ⟨h3.1,fun r=>(h3.2.1 r).trans (zSD h1 r),by rw[←h1.length_eq];exact h3.2.2⟩
def zEX (p:Int):List Sp→List Sp
  | []=>if p≤1114111 then [(p,1114111)] else []
  | s::r=>if p<s.1 then (p,s.1 - 1)::zEX (s.2+1) r else zEX (s.2+1) r
theorem zOD (p:Int) (s:Sp) (r:List Sp):zEX p (s::r)=if p<s.1 then (p,s.1 - 1)::zEX (s.2+1) r else zEX (s.2+1) r:=rfl
theorem zPb (p:Int):zEX p []=if p≤1114111 then [(p,1114111)] else []:=rfl
theorem zKo:∀(l:List Sp) (p:Int),(zEX p l).length≤l.length+1
  | [],p=>by unfold zEX;split<;>simp
  | s::r,p=>by
    have:=zKo r (s.2+1);unfold zEX;split<;>simp<;>omega
theorem zHd:∀(l:List Sp) (p:Int),Canon l→0≤p→(∀s∈l,p≤s.1)→
    Canon (zEX p l)∧(∀t∈zEX p l,p≤t.1)∧(∀r,p≤r→r≤1114111→inS (zEX p l) r = !inS l r)
  | [],p,_,h0,_=>by
    unfold zEX;split
    · rename_i h
      refine ⟨Canon.one ⟨h0,h,qO⟩,fun t ht=>by rw[List.mem_singleton] at ht;subst ht;exact Int.le_refl _,fun r h1 h2=>?_⟩;rw[zCA,zFG,decide_eq_true h1,decide_eq_true h2];rfl
    · exact ⟨Canon.nil,fun t ht=>(by cases ht),fun r h1 h2=>qO⟩
  | s::r,p,hc,h0,hp=>by
    have hv:=hc.head;have hps:=hp s List.mem_cons_self;unfold vSp at hv;obtain ⟨h1,h2,h3⟩:=zHd r (s.2+1) hc.tail qO (fun t ht=>by have:=hc.far t ht;omega);have hin:∀q,s.2+1≤q→q≤1114111→inS (zEX (s.2+1) r) q = !inS (s::r) q:=fun q q1 q2=>by
      rw[h3 q q1 q2,zCA,decide_eq_false (p:=q≤s.2) qO,Bool.and_false,Bool.false_or]
    have hno:∀q,q≤s.2→inS (zEX (s.2+1) r) q=false:=fun q hq=>by
      cases e:inS (zEX (s.2+1) r) q with
      | false=>rfl
      | true=>obtain ⟨t,ht,q1,_⟩:=zEV.1 e;have:=h2 t ht;omega
    have hyes:∀q,s.1≤q→q≤s.2→inS (s::r) q=true:=fun q q1 q2=>by rw[zCA,decide_eq_true q1,decide_eq_true q2];rfl
    unfold zEX;split
    · rename_i hlt
      refine ⟨Canon.cons ⟨h0,by simp only;omega,by simp only;omega⟩ (fun t ht=>by have:=h2 t ht;simp only;omega) h1,fun t ht=>?_,fun q q1 q2=>?_⟩
      · rcases List.mem_cons.1 ht with rfl|ht
        · exact Int.le_refl _
        · have:=h2 t ht;omega
      · rw[zCA];rcases zON q s.1 with h4|h4
        · rw[decide_eq_true (p:=p≤q) q1,decide_eq_true (p:=q≤s.1 - 1) qO,zEu hc h4];rfl
        · rw[decide_eq_false (p:=q≤s.1 - 1) qO,Bool.and_false,Bool.false_or];rcases zON s.2 q with h5|h5
          · exact hin q qO q2
          · rw[hno q h5,hyes q h4 h5];rfl
    · rename_i hlt
      refine ⟨h1,fun t ht=>by have:=h2 t ht;omega,fun q q1 q2=>?_⟩;rcases zON s.2 q with h5|h5
      · exact hin q qO q2
      · rw[hno q h5,hyes q qO h5];rfl
theorem zGQ {l:List Sp} (h:Canon l) {r:Int} (hr:r<0∨1114111<r):inS l r=false:=by
  cases e:inS l r with
  | false=>rfl
  | true=>obtain ⟨t,ht,q1,q2⟩:=zEV.1 e;have:=h.ok t ht;unfold vSp at this;omega
def zGb (l:List Sp):List Sp:=zEX 0 l
theorem zGa {l:List Sp} (h:Canon l):Canon (zGb l):=(zHd l 0 h (Int.le_refl _) fun s hs=>(h.ok s hs).1).1
theorem zJq {l:List Sp} (h:Canon l) {r:Int} (h0:0≤r) (h1:r≤1114111):inS (zGb l) r = !inS l r:=(zHd l 0 h (Int.le_refl _) fun s hs=>(h.ok s hs).1).2.2 r h0 h1
theorem zJr (l:List Sp):(zGb l).length≤l.length+1:=zKo l 0
theorem zIQ {a b:List Sp} (ha:Canon a) (hb:Canon b) (h:∀r,0≤r→r≤1114111→inS a r=inS b r):a=b:=
 zHH ha hb fun r=>by
  rcases zON r 0 with h1|h1
  ·rw[zGQ ha (.inl h1),zGQ hb (.inl h1)]
  ·rcases zON 1114111 r with h2|h2
   ·rw[zGQ ha (.inr h2),zGQ hb (.inr h2)]
   ·exact h r h1 h2
end Go.Proofs
namespace Go.Proofs
open Go Go.Eng
set_option maxRecDepth 100000
abbrev TSp:Nat:=44
theorem zEq {w:World} {base base' e size n:Nat} {v:Value} {xs:List Value} (h:w.ownsRow base e size v n xs) (hb:base'≤base):w.ownsRow base' e size v n xs:=by
 obtain ⟨h1,h2⟩:=h;refine ⟨h1,h2.imp id ?_⟩;rintro ⟨g,ab,aa,a,b,r⟩;exact ⟨g,ab,aa,a,Nat.le_trans hb b,r⟩
theorem zPk {w:World} {base e size n c:Nat} {a:Option Addr} {xs:List Value} (h:w.ownsRow base e size (.slice a n c) n xs):n≤c:=by
 rcases h.2 with ⟨h1,h2⟩|⟨g,cap,cur,hv,_,_,aa,_⟩
 ·omega
 ·simp only[Value.slice.injEq] at hv;obtain ⟨_,_,rfl⟩:=hv;exact aa
def zIn (w:World) (base:Nat) (r:Value) (l:List Sp):Prop:=(∃a c,r=.slice a l.length c)∧w.ownsRow base TSp 2 r l.length (l.map zBl).flatten
theorem zIn.at {w:World} {base:Nat} {r:Value} {l:List Sp} (h:zIn w base r l):zBK w r l:=
 zDS h.2 (by intro x hx;simp only[List.mem_map] at hx;obtain ⟨p,_,rfl⟩:=hx;rfl) qP qD
theorem zDr (l:List Sp) (s:Sp):((l++[s]).map zBl).flatten=(l.map zBl).flatten++[.int .i64 s.1,.int .i64 s.2]:=by simp[zBl]
theorem zPa (w0:World) (v:Value) (l:List Sp) (h:zBK w0 v l) (hl:l.length≤2000000) (hok:∀s∈l,vSp s) :
  Ret prog 127 #[v] w0 fun r w=>zIn w w0.heap.size r (zGb l)∧Ext w0 w:=by
 obtain ⟨a,c,rfl⟩:=zCI.form h;simp only[List.length_map] at h⊢;obtain ⟨base,ad⟩:∃base,base=w0.heap.size:=⟨_,rfl⟩;rw[←ad];refine qR func127 rfl ntmps127 rfl (fun E=>(zAA (qA _ rfl (zAB (zAA (qA _ rfl (zAB (zAA (qA _ rfl (zAB (zAH (zAA (qM _ rfl (qV (zAJ underlying23 rfl) (qM _ rfl (zAB (zAS (zAp (fun nn_ σ W1=>∃(k:Nat) (p:Int) (la:Option Addr) (lc:Nat) (m:Nat) (ou:List Sp),(∃jj_,σ=zCT jj_ [(7,(.slice a l.length c)),(8,(I6 (l.length:Int))),(9,(I6 (k:Int))),(4,(I6 p)),(3,(.slice la m lc))])∧Chg zAh w0 W1∧(k≤l.length)∧(0≤p∧p≤1114112)∧(m=ou.length)∧(m≤k)∧(ou++zEX p (l.drop k)=zEX 0 l)∧(W1.ownsRow base TSp 2 (.slice la m lc) m (ou.map zBl).flatten)∧(base≤W1.heap.size)∧nn_=l.length - k) (n:=l.length - 0) ?_ ?_))))))))))))))))))
 ·exact ⟨0,0,none,0,0,[],zAz.out ⟨rfl,rfl,rfl,rfl,rfl,trivial⟩,E,Nat.zero_le _,qO,rfl,Nat.le_refl _,rfl,World.ownsRow_nil _ _ _ _,qO,rfl⟩
 ·clear E;rintro _ _ W1 ⟨k,p,la,lc,m,ou,⟨j1,rfl⟩,E,hk,hp,hm,hlo,ac,aa,ab,rfl⟩;refine zAA (qV (zBF rfl rfl) (zAB (zAH (qC rfl (fun am=>?_) (fun am=>?_)))))
  ·obtain ⟨s,hs⟩:=zAN (l:=l) (i:=k) qO;have hv:=hok s (List.mem_of_getElem? hs);unfold vSp at hv;obtain ⟨b,o,an,ao⟩:=zBa h qO;subst an;rw[zEd hs,zOD] at ac;have ae:=aa;refine zAO (zAC (zAH (zAS (zAA (qV (zAD (b:=b) (o:=o) (len:=l.length) (cap:=c) (i:=k) (o':=o+k*2) rfl rfl rfl underlying23 zBq qO qO) (qV (zAK rfl zGs zBq rfl ((ao k s hs).ext E)) (zAd (v:=(.agg #[(I6 s.1),(I6 s.2)])) (c:=#[(I6 s.1),(I6 s.2)]) (n:=2) qD zEG rfl zBq rfl rfl rfl qS ?_)))))));intro bq wq Nq;replace aa:=zAj aa Nq.ext;replace ab:=Nat.le_trans ab Nq.ext.size;replace E:=E.ext Nq.ext;have Bq:=Nq.blk;refine zAB (zAH (zAA (qM _ rfl (qF bq 0 0 rfl underlying44 rfl zAy rfl (qV (zAI rfl zAo (Bq.cell rfl)) (qV (zBF rfl rfl) (zAB (qC rfl (fun h0=>?_) (fun h0=>?_)))))))))
   ·refine zAF (qM _ rfl (qM _ rfl (qF bq 0 0 rfl underlying44 rfl zAy rfl (qV (zAI rfl zAo (Bq.cell rfl)) (qV (zEJ rfl rfl (zBb qO)) (qV (zBA (ps:=[(0,(I6 p)),(1,(I6 (s.1 - 1)))]) (v:=(.agg #[(I6 p),(I6 (s.1 - 1))])) rfl qK) (zAc (ps:=[(0,(.agg #[(I6 p),(I6 (s.1 - 1))]))]) (c:=#[(I6 p),(I6 (s.1 - 1))]) qD rfl underlying23 zBq zEG qD qD qK ?_)))))));intro br wr Nr;replace Bq:=Nr.keep Bq;replace aa:=zAj aa Nr.ext;replace ab:=Nat.le_trans ab Nr.ext.size;replace E:=E.ext Nr.ext;have Br:=Nr.blk;refine zBp (base:=base) (n:=m) (m:=1) (xs:=(ou.map zBl).flatten) (news:=[(I6 p),(I6 (s.1 - 1))]) (size:=2) (bytes:=16) (v:=(.slice la m lc)) qD underlying23 zBq zKP zEG rfl qD rfl aa rfl (rfl) (Br.cells rfl) qS (by unfold maxLen;omega) qO (ab) ?_;intro v9 w29 aj af Dv9;replace Bq:=af.keep (fun h=>by have:=(ae.lt _ h).2;have:=Nq.eq;omega) Bq;replace E:=E.step af (fun x hx h=>absurd (aa.lt x h).1 qO);obtain ⟨aq,ak,rfl⟩:=zBO aj;refine qA _ rfl (zAB (zAC (zAF (qF bq 0 1 rfl underlying44 rfl zAy rfl (qV (zAI rfl zAo (Bq.cell rfl)) (qV (zAv rfl rfl (zBb qO)) (qA _ rfl (zAB (zAR (zAC (zAF (qV (zAv rfl rfl (zBb qO)) (qM _ rfl (zAB (zAC ?_)))))))))))))));exact ⟨l.length - (k+1),qO,k+1,s.2+1,aq,ak,m+1,ou++[(p,s.1 - 1)],zAz.out ⟨rfl,rfl,rfl,rfl,rfl,trivial⟩,E,qO,qO,(by simp[hm]),qO,(by rw[if_pos h0] at ac;rw[←ac];simp),(by rw[zDr];exact aj),Nat.le_trans ab af.size,rfl⟩
   ·refine zAO (zAC (zAF (qF bq 0 1 rfl underlying44 rfl zAy rfl (qV (zAI rfl zAo (Bq.cell rfl)) (qV (zAv rfl rfl (zBb qO)) (qA _ rfl (zAB (zAR (zAC (zAF (qV (zAv rfl rfl (zBb qO)) (qM _ rfl (zAB (zAC ?_))))))))))))));exact ⟨l.length - (k+1),qO,k+1,s.2+1,la,lc,m,ou,zAz.out ⟨rfl,rfl,rfl,rfl,rfl,trivial⟩,E,qO,qO,hm,qO,(by rw[if_neg h0] at ac;exact ac),aa,ab,rfl⟩
  ·have ap:k=l.length:=qO
   rw[ap,List.drop_length,zPb] at ac;refine zAn (zAT (zAT (zAg (zAC (zAH (zAA (qM _ rfl (qV (zKs rfl rfl) (zAB (qC rfl (fun h1=>?_) (fun h1=>?_)))))))))))
   ·refine zAF (qM _ rfl (qM _ rfl (qV (zBA (ps:=[(0,(I6 p)),(1,(I6 1114111))]) (v:=(.agg #[(I6 p),(I6 1114111)])) rfl qK) (zAc (ps:=[(0,(.agg #[(I6 p),(I6 1114111)]))]) (c:=#[(I6 p),(I6 1114111)]) qD rfl underlying23 zBq zEG qD qD qK ?_))));intro bt wt Nt;replace aa:=zAj aa Nt.ext;replace ab:=Nat.le_trans ab Nt.ext.size;replace E:=E.ext Nt.ext;have Bt:=Nt.blk;refine zBp (base:=base) (n:=m) (m:=1) (xs:=(ou.map zBl).flatten) (news:=[(I6 p),(I6 1114111)]) (size:=2) (bytes:=16) (v:=(.slice la m lc)) qD underlying23 zBq zKP zEG rfl qD rfl aa rfl (rfl) (Bt.cells rfl) qS (by unfold maxLen;omega) qO (ab) ?_;intro v8 w28 ag al Dv8;replace E:=E.step al (fun x hx h=>absurd (aa.lt x h).1 qO);obtain ⟨ah,ai,rfl⟩:=zBO ag;refine qA _ rfl (zAB (zAC (zAA (qM _ rfl (qA _ rfl (zAB (zAV (zAY results127 (v:=(.slice ah (m+1) ai)) rfl ?_))))))));rw[if_pos h1] at ac;have e:zGb l=ou++[(p,1114111)]:=by unfold zGb;rw[←ac]
    rw[e];refine ⟨⟨⟨ah,ai,by simp[hm]⟩,?_⟩,E⟩;rw[zDr];simpa[hm] using ag
   ·refine zAO (zAC (zAA (qM _ rfl (qA _ rfl (zAB (zAV (zAY results127 (v:=(.slice la m lc)) rfl ?_)))))));rw[if_neg h1,List.append_nil] at ac;have e:zGb l=ou:=by unfold zGb;rw[←ac]
    rw[e];subst hm;exact ⟨⟨⟨la,lc,rfl⟩,aa⟩,E⟩
theorem zNm (w0:World) (v:Value) (l:List Sp) (h:zBK w0 v l) (hl:l.length≤8796093022208) :
  Ret prog 66 #[v] w0 fun r w=>zIn w w0.heap.size r l∧Ext w0 w:=by
 obtain ⟨a,c,rfl⟩:=zCI.form h;simp only[List.length_map] at h⊢;obtain ⟨base,ac⟩:∃base,base=w0.heap.size:=⟨_,rfl⟩;rw[←ac];refine qR func66 rfl ntmps66 rfl (fun E=>(zAA (qA _ rfl (zAB (zAH (zAA (qM _ rfl (zBo (v:=(.bool a.isNone)) rfl rfl qD (zND underlying23 rfl rfl) (zAB (zBD rfl (fun hn=>?_) (fun hn=>?_)))))))))))
 ·have ai:=hn;have ag:l.length=0:=by rcases Nat.eq_zero_or_pos l.length with h0|h0;exact h0;obtain ⟨b,o,rfl,_⟩:=zBa h h0;simp at hn
  have ad:l=[]:=List.eq_nil_of_length_eq_zero ag;refine zAA (qA _ rfl (zAB (zAV (zAU (zAY results66 (v:=(.slice none 0 0)) rfl ?_)))));subst ad;exact ⟨⟨⟨none,0,rfl⟩,World.ownsRow_nil _ _ _ _⟩,E⟩
 ·have ai:=hn;rcases Bool.eq_false_or_eq_true (decide (l.length=0)) with hz|hz
  ·have aa:=hz;replace aa:=of_decide_eq_true aa;refine zAO (zAC (zAA (zJf qD underlying23 zBq ?_)));intro bq wq Nq;have Fq:=Nq.ge E;replace E:=E.ext Nq.ext;have Bq:=Nq.blk;refine qM _ rfl (qV (zHg underlying23 zBq (a':=a) (c':=c) rfl (Nat.le_refl _) (by show Value.slice a l.length c=_;rw[aa])) (qA _ rfl (zAB (zAV (zAY results66 (v:=(.slice (some ⟨bq,0,none⟩) 0 0)) rfl ?_)))));have ad:l=[]:=List.eq_nil_of_length_eq_zero aa;subst ad;exact ⟨⟨⟨_,0,rfl⟩,zHl (base:=base) (size:=2) Bq qO⟩,E⟩
  ·have aa:=hz;replace aa:=of_decide_eq_false aa;obtain ⟨b,o,rfl,ah⟩:=zBa h qO;refine zAO (zAC (zAA (zJf qD underlying23 zBq ?_)));intro bq wq Nq;have Fq:=Nq.ge E;replace E:=E.ext Nq.ext;have Bq:=Nq.blk;refine qM _ rfl ?_;have ab:=zHl (base:=base) (size:=2) Bq qO;have af:base≤wq.heap.size:=by have:=Nq.ext.size;omega
   refine zBp (base:=base) (n:=0) (m:=l.length) (xs:=[]) (news:=(l.map zBl).flatten) (size:=2) (bytes:=16) (v:=(.slice (some ⟨bq,0,none⟩) 0 0)) qD underlying23 zBq zKP zEG rfl qD rfl ab rfl (zDt l) ((zGZ ah).ext Nq.ext) (zHb l) (by unfold maxLen;omega) qO (af) ?_;intro v9 w29 ae aj Dv9;replace E:=E.step aj (fun x hx h=>absurd (ab.lt x h).1 qO);obtain ⟨la,lc,rfl⟩:=zBO ae;refine qA _ rfl (zAB (zAV (zAY results66 (v:=(.slice la (0+l.length) lc)) rfl ?_)));simp only[Nat.zero_add,List.nil_append] at ae⊢;exact ⟨⟨⟨la,lc,rfl⟩,ae⟩,E⟩
theorem zMH {P:Program} {N:Nat} {Q:zFN} {σ:Env} {w:World} {K:Env→World→Prop} {ops:Array Oper} {rest:List Oper} {d:Nat} {ty:TypeId} {pos:String} {af:Array Edge} {t:TypeId} {s x:Operand}
  {base e size bytes n m c:Nat} {ax:Option Addr} {z v:Value} {xs news:List Value} (hN:d<N) (hu:P.underlying t=some (.slice e)) (hsz:Siz P e size) (hby:Byt P e bytes) (hz:Zer P e z) (hzs:z.cells.size=size) (h0:0<size)
  (hs:ev σ s=v) (hown:w.ownsRow base e size v n xs) (hx:ev σ x=.slice ax m c) (hl:news.length=m*size) (hany:(m=0∧news=[])∨∃bx ox,ax=some ⟨bx,ox,none⟩∧zBE w bx ox news) (h1:∀u∈news,u.oneCell'=true)
  (h63:n+m≤maxLen) (hbytes:(n+m)*bytes≤140737488355328) (hbase:base≤w.heap.size)
  (k:∀v' w',w'.ownsRow base e size v' (n+m) (xs++news)→Chg (fun x=>v.ownBlock=some x) w w'→(∀k,v'.ownBlock=some k→v.ownBlock=some k∨w.heap.size≤k)→WpL P N ops K Q rest (upd σ d v') w') :
  WpL P N ops K Q (⟨some d,.call ⟨.builtin .append,#[s,x],#[t,t]⟩,ty,pos,af,none⟩::rest) σ w:=by
 rcases hany with ⟨rfl,rfl⟩|⟨bx,ox,rfl,hc⟩
 ·obtain ⟨a,c',rfl⟩:=zBO hown;refine zBo rfl rfl hN (zHg hu hsz hs (zPk hown) hx) (k _ w (by simpa using hown) (Chg.refl _ _) fun _ h=>.inl h)
 ·exact zBp hN hu hsz hby hz hzs h0 hs hown hx hl hc h1 h63 hbytes hbase k
theorem zPL {w:World} {a:Option Addr} {n c:Nat} {l:List Sp} (h:zBK w (.slice a n c) l):(n=0∧(l.map zBl).flatten=[])∨∃b o,a=some ⟨b,o,none⟩∧zBE w b o (l.map zBl).flatten:=by
 have hn:n=l.length:=by have:=(zCI.cap h).2;simpa using this.symm
 rcases Nat.eq_zero_or_pos n with h0|h0
 ·left;exact ⟨h0,by rw[List.eq_nil_of_length_eq_zero (show l.length=0 by omega)];rfl⟩
 ·right;obtain ⟨b,o,ha,hc⟩:=zBa h h0;exact ⟨b,o,ha,zGZ hc⟩
theorem zPX {P:Program} {N:Nat} {Q:zFN} {σ:Env} {w:World} {K:Env→World→Prop} {ops:Array Oper} {rest:List Oper} {d:Nat} {ty:TypeId} {pos:String} {af:Array Edge} {t ti:TypeId} {s x:Operand} {ik:IntKind}
    {base e size bytes n:Nat} {z:Value} (hN:d<N) (hu:P.underlying t=some (.slice e)) (hti:P.underlying ti=some (.int ik)) (hsz:Siz P e size) (hby:Byt P e bytes) (hz:Zer P e z) (hzs:z.cells.size=size) (h0:0<size)
    (hs:ev σ s=.slice none 0 0) (hx:ev σ x=.int .i64 ((n:Nat):Int)) (hn:0<n) (hbytes:n*bytes≤140737488355328∧n≤8796093022208) (hbase:base≤w.heap.size)
    (k:∀cc w',Ext w w'→w'.ownsRow base e size (.slice (some ⟨w.heap.size,0,none⟩) 0 cc) 0 []→n≤cc→WpL P N ops K Q rest (upd σ d (.slice (some ⟨w.heap.size,0,none⟩) n cc)) w') :
    WpL P N ops K Q (⟨some d,.call ⟨.builtin .append,#[s,x],#[t,ti]⟩,ty,pos,af,none⟩::rest) σ w:=by
  unfold Siz at hsz;unfold Byt at hby;unfold Zer at hz;cases hi:P.info? e with
  | none=>rw[hi] at hsz;simp at hsz
  | some i=>
  rw[hi] at hsz hby hz;simp at hsz hby hz;subst hsz;subst hby
  have aa:=grownCap_ge w n 0 e;have ac:=grownCap_le_maxLen w n 0 e (by simp only[maxLen];omega);refine zBo (v:=.slice (some ⟨w.heap.size,0,none⟩) n (grownCap w n 0 e)) (w':=w.drew.alloc (.cells (Builtin.zeroCells z.cells n++Builtin.zeroCells z.cells (grownCap w n 0 e - n)) e)) rfl rfl hN ?_ (k _ _ ?_ ?_ aa)
  · have ab:n≠0:=qO
    have h1:IntKind.i64.wrap ((n:Nat):Int)=n:=zBb qO;have h2:¬((n:Int)<0):=qO
    have h3:¬((281474976710656:Int)<(n:Int)*(i.bytes:Int)):=by
      have:((n*i.bytes:Nat):Int)=(n:Int)*(i.bytes:Int):=qP
      omega
    have h4:¬(9223372036854775807<(n:Int)):=qO
    have h5:¬(281474976710656<Builtin.nextslicecap n 0*i.bytes):=by rw[nextslicecap_zero hn];omega
    have h6:¬(n*i.size=0):=fun h=>by rcases Nat.mul_eq_zero.1 h with h|h<;>omega
    have h7:i.size≠0:=qO
    simp[execOp,resolve,invoke,builtin,hs,hx,Builtin.append_,run_underlying hu,run_underlying hti,sizeOf,typeInfo,zeroValue,hi,hz,ab,h1,h2,h3,h4,h5,asInt,asIntOf,Question.forced,run_firstCells_none,newRow,grownCap];exact fun h=>absurd h h6
  · exact ⟨rfl,rfl,rfl,Nat.le_succ _,qP,fun b hb _=>by first|exact heap_alloc_old w.drew _ b hb|exact heap_alloc_old w.drew _ hb⟩
  · refine ⟨qP,.inr ⟨w.heap.size,_,_,rfl,hbase,heap_alloc_new w.drew _,Nat.zero_le _,ac,?_,qP⟩⟩;simp only[Array.size_append,size_zeroCells,hzs,←Nat.add_mul];congr 1;omega
theorem zJD {P:Program} {σ:Env} {w:World} {dst:Option Tmp} {ty:TypeId} {pos:String} {af:Array Edge} {g:Option (Nat×Bool)} {t e:TypeId} {x:Operand} {ad:Option Addr} {n cap:Nat} (hu:P.underlying t=some (.slice e)) (hx:ev σ x=.slice ad n cap) :
  (execOp (ev σ) ⟨dst,.call ⟨.builtin .cap,#[x],#[t]⟩,ty,pos,af,g⟩).run P w=.ok (.value (.int .i64 cap)) w:=by
 simp only[execOp,resolve,List.map_toArray,List.map_cons,List.map_nil,hx];simp[invoke,builtin,Builtin.cap_,run_underlying hu,goInt]
theorem zWL (w0:World) (n:Nat) (hn:n≤8796093022208) :
  Ret prog 171 #[.slice none 0 0,.int .i64 ((n:Nat):Int)] w0 fun r w=>(∃a c,r=.slice a 0 c)∧w.ownsRow w0.heap.size TSp 2 r 0 []∧Ext w0 w:=by
 refine qR func171 rfl ntmps171 rfl (fun E=>(zAA (qA _ rfl (zAB (zAH (zAA (qM _ rfl (qV (zBF rfl rfl) (zAB ?_)))))))));have ad:(decide ((((n:Nat):Int):Int)<0))=false:=decide_eq_false qO;refine zAP (cbk ad) (zAO (zAC (zAH (zAA (qM _ rfl (qM _ rfl (qV (zJD (n:=0) (cap:=0) underlying23 rfl) (qM _ rfl (qV (zAJ underlying23 rfl) (qV (zEJ (c:=0) rfl rfl qD) (qV (zEJ (c:=(n:Int)) rfl rfl ((zBb qO).trans qO)) (qA _ rfl (zAB (zAA (qM _ rfl (qV (zDB rfl rfl) (zAB (qC rfl (fun hp=>?_) (fun hp=>?_)))))))))))))))))))
 ·refine zAF (qM _ rfl (qM _ rfl (qV (zJD (n:=0) (cap:=0) underlying23 rfl) ?_)));obtain ⟨a1,aa⟩:∃a':Option Addr,(if 0=0 then none else Option.map (fun q:Addr=>q.add (0*2)) none)=a':=⟨_,rfl⟩;refine qV (zGD (hi:=0) underlying23 zBq rfl rfl qO qO aa) (qM _ rfl ?_);simp at aa;subst aa;refine zPX (base:=w0.heap.size) (n:=n) (size:=2) (bytes:=16) qD underlying23 underlying3 zBq zKP zEG rfl qD rfl rfl qO qO qO ?_;intro cc w9 X9 O9 H9;replace E:=E.ext X9;refine qM _ rfl (qV (zAJ underlying23 rfl) ?_);obtain ⟨a2,ab⟩:∃a':Option Addr,(if cc=0 then (some ⟨w0.heap.size,0,none⟩) else Option.map (fun q:Addr=>q.add (0*2)) (some ⟨w0.heap.size,0,none⟩))=a':=⟨_,rfl⟩;refine qV (zGD (hi:=0) underlying23 zBq rfl rfl qO qO ab) ?_;have ac:a2=some ⟨w0.heap.size,0,none⟩:=by rw[←ab,if_neg qO];simp[Addr.add_lit]
  subst ac;refine qA _ rfl (zAB (zAC (zAA (qM _ rfl (qA _ rfl (zAB (zAV (zAY results171 (v:=(.slice (some ⟨w0.heap.size,0,none⟩) 0 cc)) rfl ?_))))))));exact ⟨⟨_,_,rfl⟩,O9,E⟩
 ·refine zAO (zAC (zAA (qM _ rfl (qA _ rfl (zAB (zAV (zAY results171 (v:=(.slice none 0 0)) rfl ?_)))))));exact ⟨⟨none,0,rfl⟩,World.ownsRow_nil _ _ _ _,E⟩
def zBv (w:World) (v:Value) (ll:List (List Sp)):Prop:=∃vs:List Value,zCI w 1 v (vs.map fun x=>[x])∧vs.length=ll.length∧∀(i:Nat) (u:Value) (l:List Sp),vs[i]?=some u→ll[i]?=some l→zBK w u l
theorem zBv.ext {w w':World} {v:Value} {ll:List (List Sp)} (h:zBv w v ll) (e:Ext w w'):zBv w' v ll:=by
 obtain ⟨vs,h1,h2,h3⟩:=h;exact ⟨vs,h1.ext e,h2,fun i u l hu hl=>(h3 i u l hu hl).ext e⟩
theorem zBv.form {w:World} {v:Value} {ll:List (List Sp)} (h:zBv w v ll):∃a c,v=.slice a ll.length c∧ll.length≤c∧ll.length≤9223372036854775807:=by
 obtain ⟨vs,h1,h2,_⟩:=h;obtain ⟨a,c,rfl⟩:=h1.form;have:=h1.cap;have:=h1.le;simp only[List.length_map] at *;rw[h2] at *;exact ⟨a,c,rfl,qO,qO⟩
theorem zCY {w:World} {a:Option Addr} {n c:Nat} {ll:List (List Sp)} (h:zBv w (.slice a n c) ll) (hn:0<n) :
  ∃b o,a=some ⟨b,o,none⟩∧∀i l,ll[i]?=some l→∃ra rc,w.cell? ⟨b,o+i,none⟩=some (.slice ra l.length rc)∧zBK w (.slice ra l.length rc) l:=by
 obtain ⟨vs,h1,h2,h3⟩:=h;obtain ⟨b,o,ha,hc⟩:=zCI.at h1 hn;refine ⟨b,o,ha,fun i l hl=>?_⟩;have hi:i<vs.length:=by have:=zAE hl;omega
 have hu:vs[i]?=some vs[i]:=List.getElem?_eq_getElem hi;have h4:=h3 i vs[i] l hu hl;obtain ⟨ra,rc,hf⟩:=zCI.form h4;simp only[List.length_map] at hf;have h5:=hc i [vs[i]] (by simp[hu]) 0 _ rfl;rw[Nat.mul_one,Nat.add_zero,hf] at h5;rw[hf] at h4;exact ⟨ra,rc,h5,h4⟩
theorem zCW {ll:List (List Sp)} {k:Nat} {l:List Sp} (h:ll[k]?=some l):(ll.take (k+1)).flatten=(ll.take k).flatten++l:=by
 rw[List.take_add_one,h];simp
theorem zJx (ll:List (List Sp)) (k:Nat):(ll.take k).flatten.length≤ll.flatten.length:=by
 have h:ll.flatten=(ll.take k).flatten++(ll.drop k).flatten:=by rw[←List.flatten_append,List.take_append_drop]
 rw[h,List.length_append];omega
theorem zGz (a b:List Sp):((a++b).map zBl).flatten=(a.map zBl).flatten++(b.map zBl).flatten:=qP
theorem zSV (w0:World) (v:Value) (ll:List (List Sp)) (h:zBv w0 v ll) (hl:ll.flatten.length≤8796093022208) :
  Ret prog 128 #[v] w0 fun r w=>zIn w w0.heap.size r ll.flatten∧Ext w0 w:=by
 obtain ⟨a,c,rfl,_,hle⟩:=h.form;obtain ⟨base,ad⟩:∃base,base=w0.heap.size:=⟨_,rfl⟩;rw[←ad];refine qR func128 rfl ntmps128 rfl (fun E=>(zAA (qA _ rfl (zAB (zAA (qA _ rfl (zAB (zAH (zAA (qM _ rfl (qV (zAJ underlying35 rfl) (qM _ rfl (zAB (zAS (zAp (fun nn_ σ W1=>∃(k:Nat) (n:Nat),(∃jj_,σ=zCT jj_ [(0,(.slice a ll.length c)),(9,(.slice a ll.length c)),(10,(I6 (ll.length:Int))),(11,(I6 (k:Int))),(3,(I6 (n:Int)))])∧Chg zAh w0 W1∧(k≤ll.length)∧(n=(ll.take k).flatten.length)∧nn_=ll.length - k) (n:=ll.length - 0) ?_ ?_)))))))))))))))
 ·exact ⟨0,0,zAz.out ⟨rfl,rfl,rfl,rfl,rfl,trivial⟩,E,Nat.zero_le _,rfl,rfl⟩
 ·clear E;rintro _ _ W1 ⟨k,n,⟨j1,rfl⟩,E,hk,hn,rfl⟩;refine zAA (qV (zBF rfl rfl) (zAB (zAH (qC rfl (fun ao=>?_) (fun ao=>?_)))))
  ·obtain ⟨l,hx⟩:=zAN (l:=ll) (i:=k) qO;obtain ⟨b,o,rfl,ah⟩:=zCY h qO;obtain ⟨ra,rc,aa,aj⟩:=ah k l hx;have af:=zJx ll (k+1);rw[zCW hx,List.length_append] at af;refine zAO (zAC (zAH (zAS (zAA (qV (zAD (b:=b) (o:=o) (len:=ll.length) (cap:=c) (i:=k) (o':=o+k) rfl rfl rfl underlying35 zCd qO qO) (qV (zAI rfl zCZ (E.cell (fun f=>f) aa)) (qA _ rfl (zAB (zAA (qM _ rfl (qM _ rfl (qV (zAJ underlying23 rfl) (qV (zAv (c:=((n+l.length:Nat):Int)) rfl rfl ((zBb qO).trans qO)) (qA _ rfl (zAB (zAA (qM _ rfl (qV (zBF rfl rfl) (zAB ?_)))))))))))))))))));have an:(decide ((((n+l.length:Nat):Int):Int)<0))=false:=decide_eq_false qO;refine zAP (cbk an) (zAO (zAR (zAC (zAF (qV (zAv rfl rfl (zBb qO)) (qM _ rfl (zAB (zAC ?_))))))));exact ⟨ll.length - (k+1),qO,k+1,n+l.length,zAz.out ⟨rfl,rfl,rfl,rfl,rfl,trivial⟩,E,qO,(by rw[zCW hx,List.length_append,hn]),rfl⟩
  ·have hkk:k=ll.length:=qO
   have hn2:=zJx ll k;have hs0:=E.size;refine zAn (zAT (zAT (zAg (zAC (zAA (qM _ rfl (qE rfl (zAQ func171 kQ kQ rfl) (zWL _ n qO) ?_)))))));rintro _ w9 ⟨⟨ga,gc,rfl⟩,O9,X9⟩;replace E:=E.ext X9;have au:w9.ownsRow base TSp 2 (.slice ga 0 gc) 0 []:=zEq O9 qO;refine qA _ rfl (zAB (zAH (zAA (qM _ rfl (qV (zAJ underlying35 rfl) (qM _ rfl (zAB (zAS (zAp (fun nn_ σ W4=>∃(i:Nat) (la:Option Addr) (lc:Nat) (m:Nat),(∃jj_,σ=zCT jj_ [(25,(.slice a ll.length c)),(26,(I6 (ll.length:Int))),(27,(I6 (i:Int))),(6,(.slice la m lc))])∧Chg zAh w0 W4∧(i≤ll.length)∧(m=(ll.take i).flatten.length)∧(W4.ownsRow base TSp 2 (.slice la m lc) m (((ll.take i).flatten).map zBl).flatten)∧(base≤W4.heap.size)∧nn_=ll.length - i) (n:=ll.length - 0) ?_ ?_)))))))))
   ·exact ⟨0,ga,gc,0,zAz.out ⟨rfl,rfl,rfl,rfl,trivial⟩,E,Nat.zero_le _,rfl,au,(by have:=E.size;omega),rfl⟩
   ·clear E;rintro _ _ W4 ⟨i,la,lc,m,⟨j4,rfl⟩,E,hi,hm,ab,ae,rfl⟩;refine zAA (qV (zBF rfl rfl) (zAB (zAH (qC rfl (fun ag=>?_) (fun ag=>?_)))))
    ·obtain ⟨l,hx⟩:=zAN (l:=ll) (i:=i) qO;obtain ⟨b,o,rfl,ah⟩:=zCY h qO;obtain ⟨ra,rc,aa,aj⟩:=ah i l hx;have af:=zJx ll (i+1);rw[zCW hx,List.length_append] at af;have ap:m≤lc:=zPk ab;rcases Bool.eq_false_or_eq_true (decide (l.length=0)) with hz|hz
     ·have ac:=hz;replace ac:=of_decide_eq_true ac;refine zAO (zAC (zAH (zAS (zAA (qV (zAD (b:=b) (o:=o) (len:=ll.length) (cap:=c) (i:=i) (o':=o+i) rfl rfl rfl underlying35 zCd qO qO) (qV (zAI rfl zCZ (E.cell (fun f=>f) aa)) (qA _ rfl (zAB (zAF (qM _ rfl (qM _ rfl (qV (zHg underlying23 zBq (a':=ra) (c':=rc) rfl ap (by show Value.slice ra l.length rc=_;rw[ac])) (qA _ rfl (zAB (zAR (zAC (zAF (qV (zAv rfl rfl (zBb qO)) (qM _ rfl (zAB (zAC ?_)))))))))))))))))))));have ak:l=[]:=List.eq_nil_of_length_eq_zero ac;exact ⟨ll.length - (i+1),qO,i+1,la,lc,m,zAz.out ⟨rfl,rfl,rfl,rfl,trivial⟩,E,qO,(by rw[zCW hx,ak,List.append_nil,hm]),(by rw[zCW hx,ak,List.append_nil];exact ab),ae,rfl⟩
     ·have ac:=hz;replace ac:=of_decide_eq_false ac;obtain ⟨rb,ro,rfl,aq⟩:=zBa aj qO;refine zAO (zAC (zAH (zAS (zAA (qV (zAD (b:=b) (o:=o) (len:=ll.length) (cap:=c) (i:=i) (o':=o+i) rfl rfl rfl underlying35 zCd qO qO) (qV (zAI rfl zCZ (E.cell (fun f=>f) aa)) (qA _ rfl (zAB (zAF (qM _ rfl (qM _ rfl (zBp (base:=base) (n:=m) (m:=l.length) (xs:=(((ll.take i).flatten).map zBl).flatten) (news:=(l.map zBl).flatten) (size:=2) (bytes:=16) (v:=(.slice la m lc)) qD underlying23 zBq zKP zEG rfl qD rfl ab rfl (zDt l) ((zGZ aq).ext E) (zHb l) (by unfold maxLen;omega) qO (ae) ?_))))))))))));intro v9 w29 al ai Dv9;replace E:=E.step ai (fun x hx h=>absurd (ab.lt x h).1 qO);obtain ⟨av,am,rfl⟩:=zBO al;refine qA _ rfl (zAB (zAR (zAC (zAF (qV (zAv rfl rfl (zBb qO)) (qM _ rfl (zAB (zAC ?_))))))));exact ⟨ll.length - (i+1),qO,i+1,av,am,m+l.length,zAz.out ⟨rfl,rfl,rfl,rfl,trivial⟩,E,qO,(by rw[zCW hx,List.length_append,hm]),(by rw[zCW hx,zGz];exact al),Nat.le_trans ae ai.size,rfl⟩
    ·have ar:i=ll.length:=qO
     refine zAn (zAT (zAT (zAg (zAC (zAA (qM _ rfl (qA _ rfl (zAB (zAV (zAY results128 (v:=(.slice la m lc)) rfl ?_))))))))));rw[ar,List.take_length] at ab hm;subst hm;exact ⟨⟨⟨la,lc,rfl⟩,ab⟩,E⟩
end Go.Proofs
namespace Go.Eng
open Go
section
variable {κ ν : Type} [DecidableEq κ]
def zBr:List (κ×ν)→κ→Option ν
  | [],_=>none
  | p::r,k=>if p.1=k then some p.2 else zBr r k
def zHQ:List (κ×ν)→κ→ν→List (κ×ν)
  | [],k,v=>[(k,v)]
  | p::r,k,v=>if p.1=k then (k,v)::r else p::zHQ r k v
def zHN (eV:ν→Value):List (κ×ν)→κ→Nat→Option (Nat×Value)
  | [],_,_=>none
  | p::r,k,i=>if p.1=k then some (i,eV p.2) else zHN eV r k (i+1)
theorem zGm {eV:ν→Value}:∀{es:List (κ×ν)} {k:κ} {i:Nat},zBr es k=none→zHN eV es k i=none
  | [],_,_,_=>rfl
  | p::r,k,i,h=>by
    unfold zBr at h;unfold zHN;split at h
    · cases h
    · rename_i hne;rw[if_neg hne];exact zGm h
theorem zFV {eV:ν→Value}:∀{es:List (κ×ν)} {k:κ} {i:Nat} {v:ν},zBr es k=some v→∃j,zHN eV es k i=some (i+j,eV v)∧es[j]?=some (k,v)∧∀u,zHQ es k u=es.set j (k,u)
  | [],_,_,_,h=>by cases h
  | p::r,k,i,v,h=>by
    unfold zBr at h;unfold zHN;split at h
    · rename_i he
      cases h;rw[if_pos he];exact ⟨0,rfl,by obtain ⟨a,b⟩:=p;simp at he;subst he;rfl,fun u=>by unfold zHQ;rw[if_pos he];rfl⟩
    · rename_i hne
      rw[if_neg hne];obtain ⟨j,h1,h2,h3⟩:=zFV (eV:=eV) (i:=i+1) h;exact ⟨j+1,by rw[h1];congr 2;omega,by simpa using h2,fun u=>by unfold zHQ;rw[if_neg hne,h3 u];rfl⟩
theorem zDu:∀{es:List (κ×ν)} {k:κ} (v:ν),zBr es k=none→zHQ es k v=es++[(k,v)]
  | [],_,_,_=>rfl
  | p::r,k,v,h=>by
    unfold zBr at h;unfold zHQ;split at h
    · cases h
    · rename_i hne;rw[if_neg hne,zDu v h];rfl
theorem zDm {es:List (κ×ν)} {k:κ} {v:ν} (h:zBr es k=some v):(k,v)∈es:=by
 obtain ⟨j,_,h2,_⟩:=zFV (eV:=fun _=>undef) (i:=0) h;exact List.mem_of_getElem? h2
theorem zEA {es:List (κ×ν)} {k:κ}:(zBr es k).isSome=true↔k∈es.map (·.1):=by
  induction es with
  | nil=>simp[zBr]
  | cons p r ih=>
    unfold zBr;by_cases h:p.1=k
    · simp[h]
    · rw[if_neg h,ih];simp[Ne.symm h]
end
def zKc {κ ν:Type} (ek:κ→Value) (eV:ν→Value) (es:List (κ×ν)):List MapEntry:=es.zipIdx.map fun p=>{key:=ek p.1.1,val:=eV p.1.2,born:=p.2}
def zCC {κ ν:Type} (w:World) (b:Nat) (ek:κ→Value) (eV:ν→Value) (es:List (κ×ν)):Prop:=w.heap[b]?=some (.map (zKc ek eV es).toArray es.length)
theorem zSM {κ ν:Type} (ek:κ→Value) (eV:ν→Value) (es:List (κ×ν)):(zKc ek eV es).length=es.length:=by simp[zKc]
theorem zKI {κ ν:Type} {ek:κ→Value} {eV:ν→Value} {es:List (κ×ν)} {i:Nat}:(zKc ek eV es)[i]?=(es[i]?).map fun p=>{key:=ek p.1,val:=eV p.2,born:=i}:=by
 unfold zKc;rw[List.getElem?_map,List.getElem?_zipIdx];cases es[i]?<;>simp
theorem zQf {κ ν:Type} (ek:κ→Value) (eV:ν→Value) (es:List (κ×ν)):(zKc ek eV es).map (fun e=>(e.key,e.val))=es.map fun p=>(ek p.1,eV p.2):=by
 apply List.ext_getElem?;intro i;rw[List.getElem?_map,zKI,List.getElem?_map];cases es[i]?<;>rfl
section
variable {κ ν : Type} {ek : κ → Value} {eV : ν → Value} {es : List (κ × ν)} {w w' : World} {b : Nat}
theorem zCC.lt (h:zCC w b ek eV es):b<w.heap.size:=(Array.getElem?_eq_some_iff.1 h).1
theorem Chg.keepM {M:Nat→Prop} (h:Chg M w w') (hm:¬M b) (hb:zCC w b ek eV es):zCC w' b ek eV es:=(h.blk b hb.lt hm).trans hb
theorem Ext.keepM (h:Ext w w') (hb:zCC w b ek eV es):zCC w' b ek eV es:=Chg.keepM h (fun f=>f) hb
theorem New.keepM {n:Nat} {c:Array Value} {t:TypeId} (h:New w w' n c t) (hb:zCC w b ek eV es):zCC w' b ek eV es:=h.ext.keepM hb
theorem New.ltM {n:Nat} {c:Array Value} {t:TypeId} (h:New w w' n c t) (hb:zCC w b ek eV es):b<n:=by rw[h.eq];exact hb.lt
theorem Put.keepM {n:Nat} {c:Array Value} {t:TypeId} (h:Put w w' n c t) (hne:b≠n) (hb:zCC w b ek eV es):zCC w' b ek eV es:=h.chg.keepM hne hb
end
structure NewO (w w':World) (b:Nat) (o:Obj):Prop where
 at':w'.heap[b]?=some o
 ext:Ext w w'
 eq:b=w.heap.size
 size:w'.heap.size=w.heap.size+1
theorem NewO.mk' (w:World) (o:Obj):NewO w {w with heap:=w.heap.push o} w.heap.size o:=
 ⟨qP,⟨rfl,rfl,rfl,Nat.le_refl _,qP,fun x hx _=>by simp[Array.getElem?_push,Nat.ne_of_lt hx]⟩,rfl,qP⟩
section
variable {w w' : World} {b : Nat} {o : Obj}
theorem NewO.keep (h:NewO w w' b o) {b':Nat} {c':Array Value} {t':TypeId} (hb:Blk w b' c' t'):Blk w' b' c' t':=h.ext.keep hb
theorem NewO.lt (h:NewO w w' b o) {b':Nat} {c':Array Value} {t':TypeId} (hb:Blk w b' c' t'):b'<b:=by rw[h.eq];exact hb.lt
theorem NewO.ge (h:NewO w w' b o) {w0:World} {M:Nat→Prop} (e:Chg M w0 w):w0.heap.size≤b:=by rw[h.eq];exact e.size
variable {κ ν : Type} {ek : κ → Value} {eV : ν → Value} {es : List (κ × ν)} {b' : Nat}
end
structure PutO (w w':World) (b:Nat) (o:Obj):Prop where
 at':w'.heap[b]?=some o
 chg:Chg (fun x=>x=b) w w'
 size:w'.heap.size=w.heap.size
theorem PutO.mk' {w:World} {b:Nat} (o:Obj) (hb:b<w.heap.size):PutO w {w with heap:=w.heap.setIfInBounds b o} b o:=
 ⟨by simp[hb],⟨rfl,rfl,rfl,Nat.le_refl _,qP,fun x hx hne=>by simp[Ne.symm hne]⟩,qP⟩
section
variable {w w' : World} {b : Nat} {o : Obj}
theorem PutO.keep (h:PutO w w' b o) {b':Nat} {c':Array Value} {t':TypeId} (hne:b'≠b) (hb:Blk w b' c' t'):Blk w' b' c' t':=h.chg.keep hne hb
theorem PutO.step (h:PutO w w' b o) {w0:World} {M:Nat→Prop} (e:Chg M w0 w) (hb:w0.heap.size≤b∨M b):Chg M w0 w':=
 e.step h.chg fun x hx hm=>by subst hm;rcases hb with hb|hb;omega;exact hb
variable {κ ν : Type} {ek : κ → Value} {eV : ν → Value} {es : List (κ × ν)} {b' : Nat}
end
structure KeyOk (P:Program) (kt:TypeId) {κ:Type} [DecidableEq κ] (ek:κ→Value):Prop where
 check:∀(b:Bool) (w:World) (k:κ),(Instr.checkKey b 10000 kt (ek k)).run P w=.ok () w
 find:∀(ν:Type) (w:World) (k:κ) (es:List (κ×ν)) (eV:ν→Value) (L:List MapEntry),L.map (fun e=>(e.key,e.val))=es.map (fun p=>(ek p.1,eV p.2))→(Instr.findKey kt (ek k) L).run P w=.ok (zHN eV es k 0) w
 same:∀k,Instr.sameBits 10000 (ek k) (ek k)=true
def zEz (x:Int):Value:=.int .i64 x
def zKa (s:ByteArray):Value:=.string s
theorem zQG {P:Program} {kt:TypeId} (hu:P.underlying kt=some (.int .i64)):KeyOk P kt zEz where
  check:=fun b w k=>by rw[show (10000:Nat)=9999+1 from rfl,Instr.checkKey];simp only[Sem.run_bind,run_underlying hu,Result.andThen_ok,zEz];rfl
  find:=fun ν w k es eV L hL=>by
    have key:∀(L:List MapEntry) (es:List (Int×ν)) (i:Nat),L.map (fun e=>(e.key,e.val))=es.map (fun p=>(zEz p.1,eV p.2))→Instr.findNow (.int .i64) (zEz k) L i=some (zHN eV es k i):=by
      intro L
      induction L with
      | nil=>
        intro es i h;cases es with
        | nil=>rfl
        | cons _ _=>simp at h
      | cons e L ih=>
        intro es i h;cases es with
        | nil=>simp at h
        | cons p es=>
          simp only[List.map_cons,List.cons.injEq,Prod.mk.injEq] at h;obtain ⟨⟨h1,h2⟩,h3⟩:=h;unfold Instr.findNow zHN;rw[h1];simp only[zEz,Instr.sameNow,if_true];by_cases hk:p.1=k
          · rw[if_pos hk,hk];simp[h2]
          · have:(k == p.1)=false:=by simp;exact fun h=>hk h.symm
            rw[if_neg hk,this];exact ih es (i+1) h3
    simp[Instr.findKey,run_underlying hu,key L es 0 hL]
  same:=fun k=>by unfold zEz;rw[Instr.sameBits];simp
theorem zHF {P:Program} {kt:TypeId} (hu:P.underlying kt=some .string):KeyOk P kt zKa where
  check:=fun b w k=>by rw[show (10000:Nat)=9999+1 from rfl,Instr.checkKey];simp only[Sem.run_bind,run_underlying hu,Result.andThen_ok,zKa];rfl
  find:=fun ν w k es eV L hL=>by
    have key:∀(L:List MapEntry) (es:List (ByteArray×ν)) (i:Nat),L.map (fun e=>(e.key,e.val))=es.map (fun p=>(zKa p.1,eV p.2))→Instr.findNow .string (zKa k) L i=some (zHN eV es k i):=by
      intro L
      induction L with
      | nil=>
        intro es i h;cases es with
        | nil=>rfl
        | cons _ _=>simp at h
      | cons e L ih=>
        intro es i h;cases es with
        | nil=>simp at h
        | cons p es=>
          simp only[List.map_cons,List.cons.injEq,Prod.mk.injEq] at h;obtain ⟨⟨h1,h2⟩,h3⟩:=h;unfold Instr.findNow zHN;rw[h1];simp only[zKa,Instr.sameNow];by_cases hk:p.1=k
          · rw[if_pos hk,hk,(MapKept.bytes_beq k k).2 rfl];simp[h2]
          · have:(k == p.1)=false:=by rw[Bool.eq_false_iff];exact fun h=>hk ((MapKept.bytes_beq _ _).1 h).symm
            rw[if_neg hk,this];exact ih es (i+1) h3
    simp[Instr.findKey,run_underlying hu,key L es 0 hL]
  same:=fun k=>by unfold zKa;rw[Instr.sameBits];exact (MapKept.bytes_beq k k).2 rfl
section
variable {P : Program} {N : Nat} {Q : zFN} {σ : Env} {w : World} {K : Env → World → Prop} {ops : Array Oper} {rest : List Oper} {d : Nat} {ty : TypeId} {pos : String} {af : Array Edge} {g : Option (Nat × Bool)} {dst : Option Tmp} {t kt et : TypeId} {m x y : Operand} {b : Nat}
variable {κ ν : Type} [DecidableEq κ] {ek : κ → Value} {eV : ν → Value} {es : List (κ × ν)} {k : κ} {v : ν}
omit [DecidableEq κ] in
theorem zEW (ek:κ→Value) (eV:ν→Value) (hN:d<N) (kk:∀b w',NewO w w' b (.map #[] 0)→zCC w' b ek eV []→WpL P N ops K Q rest (upd σ d (.map (some b))) w') :
  WpL P N ops K Q (⟨some d,.makeMap t none,ty,pos,af,none⟩::rest) σ w:=by
 refine zBo (v:=.map (some w.heap.size)) (w':={w with heap:=w.heap.push (.map #[] 0)}) rfl rfl hN ?_ (kk _ _ (NewO.mk' w _) (NewO.mk' w _).at');simp[execOp,Instr.makeMap]
theorem zFy (hu:P.underlying t=some (.map kt et)) (hk:KeyOk P kt ek) (hm:zCC w b ek eV es) :
    (Instr.mapUpdate t (.map (some b)) (ek k) (eV v)).run P w=.ok () {w with heap:=w.heap.setIfInBounds b (.map (zKc ek eV (zHQ es k v)).toArray (zHQ es k v).length)}:=by
  have hlt:=hm.lt;unfold zCC at hm;have hg:(getObj b).run P w=.ok (.map (zKc ek eV es).toArray es.length) w:=by simp[getObj,Sem.run,hm]
  have hs:∀o,(setObj b o).run P w=.ok () {w with heap:=w.heap.setIfInBounds b o}:=fun o=>by simp[setObj,Sem.run,hm]
  have hf:=hk.find ν w k es eV (zKc ek eV es) (zQf ek eV es);simp only[Instr.mapUpdate,Sem.run_bind,run_underlying hu,Result.andThen_ok,hg,hk.check,hf];cases hgm:zBr es k with
  | none=>
    rw[zGm hgm];simp only[hs];congr 4
    · apply Array.ext';rw[zDu v hgm];simp[zKc,List.zipIdx_append]
    · rw[zDu v hgm];simp
  | some u=>
    obtain ⟨j,h1,h2,h3⟩:=zFV (eV:=eV) (i:=0) hgm;rw[Nat.zero_add] at h1;rw[h1];have hj:=zAE h2;have he:(zKc ek eV es).toArray[j]?=some {key:=ek k,val:=eV u,born:=j}:=by rw[List.getElem?_toArray,zKI,h2];rfl
    simp only[he,Option.map_some,Option.getD_some,Instr.keyThatStays,hk.same,if_true,Sem.run_bind,Sem.run_pure,Result.andThen_ok,hs];congr 4
    · apply Array.ext';rw[h3 v];apply List.ext_getElem?;intro i;rw[List.getElem?_toArray.symm.trans (by rfl)]<;>simp only[Array.getElem?_toList,Array.getElem?_modify,List.getElem?_toArray,zKI,List.getElem?_set];by_cases hi:j=i
      · subst hi;simp[hj]
      · simp[hi]
    · rw[h3 v];simp
theorem zDJ (hu:P.underlying t=some (.map kt et)) (hk:KeyOk P kt ek) (hm:zCC w b ek eV es) (h1:ev σ m=.map (some b)) (h2:ev σ x=ek k) (h3:ev σ y=eV v)
  (kk:∀w',PutO w w' b (.map (zKc ek eV (zHQ es k v)).toArray (zHQ es k v).length)→zCC w' b ek eV (zHQ es k v)→WpL P N ops K Q rest σ w') :
  WpL P N ops K Q (⟨none,.mapUpdate t m x y,ty,pos,af,none⟩::rest) σ w:=by
 have hr:=zFy (k:=k) (v:=v) hu hk hm;refine zGV rfl rfl (w':={w with heap:=w.heap.setIfInBounds b (.map (zKc ek eV (zHQ es k v)).toArray (zHQ es k v).length)}) ?_ (kk _ (PutO.mk' _ hm.lt) (PutO.mk' _ hm.lt).at');simp[execOp,h1,h2,h3,hr]
theorem zHO (hu:P.underlying t=some (.map kt et)) (hk:KeyOk P kt ek) (hm:zCC w b ek eV es) (h1:ev σ m=.map (some b)) (h2:ev σ x=ek k) (h3:ev σ y=eV v)
  (kk:∀w',PutO w w' b (.map (zKc ek eV (zHQ es k v)).toArray (zHQ es k v).length)→zCC w' b ek eV (zHQ es k v)→WpL P N ops K Q rest σ w') :
  WpL P N ops K Q (⟨none,.insert t m x y,ty,pos,af,none⟩::rest) σ w:=by
 have hr:=zFy (k:=k) (v:=v) hu hk hm;refine zGV rfl rfl (w':={w with heap:=w.heap.setIfInBounds b (.map (zKc ek eV (zHQ es k v)).toArray (zHQ es k v).length)}) ?_ (kk _ (PutO.mk' _ hm.lt) (PutO.mk' _ hm.lt).at');simp[execOp,h1,h2,h3,hr]
theorem zJB (c:Bool) {z:ν} (hu:P.underlying t=some (.map kt et)) (hk:KeyOk P kt ek) (hz:Zer P et (eV z)) (hm:zCC w b ek eV es) :
    (Instr.lookup t (.map (some b)) (ek k) c).run P w=.ok (if c then .tuple #[eV ((zBr es k).getD z),.bool (zBr es k).isSome] else eV ((zBr es k).getD z)) w:=by
  unfold zCC at hm;have hg:(getObj b).run P w=.ok (.map (zKc ek eV es).toArray es.length) w:=by simp[getObj,Sem.run,hm]
  have hf:=hk.find ν w k es eV (zKc ek eV es) (zQf ek eV es);simp only[Instr.lookup,Sem.run_bind,run_underlying hu,Result.andThen_ok,hg,Sem.run_pure,hk.check,hf];cases hgm:zBr es k with
  | none=>rw[zGm hgm];simp[hz.run]
  | some u=>
    obtain ⟨j,h1,_,_⟩:=zFV (eV:=eV) (i:=0) hgm;rw[h1];simp
theorem zRa {z:ν} (hu:P.underlying t=some (.map kt et)) (hk:KeyOk P kt ek) (hz:Zer P et (eV z)) (hm:zCC w b ek eV es) (h1:ev σ m=.map (some b)) (h2:ev σ x=ek k) :
  (execOp (ev σ) ⟨dst,.lookup t m x false,ty,pos,af,g⟩).run P w=.ok (.value (eV ((zBr es k).getD z))) w:=by
 simp[execOp,h1,h2,zJB false hu hk hz hm]
theorem zEY {z:ν} (hu:P.underlying t=some (.map kt et)) (hk:KeyOk P kt ek) (hz:Zer P et (eV z)) (hm:zCC w b ek eV es) (h1:ev σ m=.map (some b)) (h2:ev σ x=ek k) :
  (execOp (ev σ) ⟨dst,.lookup t m x true,ty,pos,af,g⟩).run P w=.ok (.value (.tuple #[eV ((zBr es k).getD z),.bool (zBr es k).isSome])) w:=by
 simp[execOp,h1,h2,zJB true hu hk hz hm]
omit [DecidableEq κ] in
theorem zNC (hu:P.underlying t=some (.map kt et)) (hm:zCC w b ek eV es) (h1:ev σ m=.map (some b)) :
  (execOp (ev σ) ⟨dst,.call ⟨.builtin .len,#[m],#[t]⟩,ty,pos,af,g⟩).run P w=.ok (.value (.int .i64 es.length)) w:=by
 unfold zCC at hm;have hg:(getObj b).run P w=.ok (.map (zKc ek eV es).toArray es.length) w:=by simp[getObj,Sem.run,hm]
 simp[execOp,resolve,h1,invoke,builtin,Builtin.len_,run_underlying hu,hg,goInt,zSM]
end
def zXl (w:World) (it b n:Nat) (seen:List Nat):Prop:=w.heap[it]?=some (.mapIter (some b) n seen.toArray n)
end Go.Eng
namespace Go.Proofs
open Go Go.Eng Go.Sort
section
variable {P : Program} {N : Nat} {Q : zFN} {σ : Env} {w : World} {K : Env → World → Prop} {ops : Array Oper} {rest : List Oper} {d : Nat} {ty : TypeId} {pos : String} {af : Array Edge} {t : TypeId} {x y : Operand}
theorem zEx {e bytes n:Nat} {z:Value} (hN:d<N) (hu:P.underlying t=some (.slice e)) (hsz:Siz P e 1) (hby:Byt P e bytes) (hz:Zer P e z) (hz1:z.cells=#[z]) (hx:ev σ x=.int .i64 ((n:Nat):Int)) (hy:ev σ y=.int .i64 ((n:Nat):Int)) (hb:n*bytes≤140737488355328) (hn:n≤140737488355328)
    (k:∀b w',New w w' b (List.replicate n z).toArray e→WpL P N ops K Q rest (upd σ d (.slice (some ⟨b,0,none⟩) n n)) w'):WpL P N ops K Q (⟨some d,.makeSlice t x y,ty,pos,af,none⟩::rest) σ w:=by
  refine zBo (v:=.slice (some ⟨w.heap.size,0,none⟩) n n) (w':={w with heap:=w.heap.push (.cells (List.replicate n z).toArray e (0,0))}) rfl rfl hN ?_ (k _ _ (New.mk' w _ e));unfold Siz at hsz;unfold Byt at hby;unfold Zer at hz;cases hi:P.info? e with
  | none=>rw[hi] at hsz;simp at hsz
  | some i=>
  rw[hi] at hsz hby hz;simp at hsz hby hz;have h:=run_make (P:=P) w t e i _ hu hi hz .i64 .i64 ((n:Nat):Int) ((n:Nat):Int) qO (Int.le_refl _) (by rw[hby];have:((bytes:Nat):Int)*((n:Nat):Int)=(((n*bytes:Nat):Nat):Int):=(by rw[Int.natCast_mul,Int.mul_comm]);rw[this];omega) qO;have hc:madeCells z.cells (n*i.size)=(List.replicate n z).toArray:=by
    rw[hsz,Nat.mul_one,hz1];apply Array.ext';simp only[madeCells];apply List.ext_getElem?;intro j;simp only[Array.toList_map,List.getElem?_map,List.getElem?_replicate];rcases Nat.lt_or_ge j n with hj|hj
    · have h1:(Array.range n).toList[j]?=some j:=by simp[hj]
      rw[h1,if_pos hj];simp[Nat.mod_one]
    · have h1:(Array.range n).toList[j]?=none:=by simp;omega
      rw[h1,if_neg qO];rfl
  simp only[Int.toNat_natCast,hc] at h;simp only[execOp,hx,hy,Sem.run_bind,h,Result.andThen_ok];rfl
theorem zCf {dst:Option Tmp} {g:Option (Nat×Bool)} {s:TypeId} {e:TypeId} {b n c:Nat} {l:List Int} (hs:P.underlying s=some (.slice e)) (he:P.underlying e=some (.int .u8)) (ht:P.underlying t=some .string) (hx:ev σ x=.slice (some ⟨b,0,none⟩) n c)
  (hB:Blk w b (l.map (Value.int .u8)).toArray e) (hl:l.length=n):(execOp (ev σ) ⟨dst,.convert s t x,ty,pos,af,g⟩).run P w=.ok (.value (.string (strOfNums l))) w:=by
 have h:=run_convert_bytes_arg (P:=P) w s e hs he b 0 n c l hl (fun i hi=>by
  rw[Nat.zero_add];have h1:l[i]?=some l[i]:=List.getElem?_eq_getElem qO;have h2:=hB.cell (o:=i) (v:=.int .u8 (l.getD i 0)) (by simp[List.getD,h1]);exact h2) t ht
 simp only[execOp,hx,Sem.run_bind,h,Result.andThen_ok];rfl
end
def zDH (base e size n:Nat) (xs:List Value) (old:Value) (hs:Nat):Fct:=fun v w=>(∃a c,v=.slice a n c)∧w.ownsRow base e size v n xs∧∀k,v.ownBlock=some k→old.ownBlock=some k∨hs≤k
theorem zKR (base e size n:Nat) (xs:List Value) (old:Value) (hs:Nat):∀v w w',Ext w w'→zDH base e size n xs old hs v w→zDH base e size n xs old hs v w':=by
 rintro v w w' e ⟨h1,h2,h3⟩;exact ⟨h1,zAj h2 e,h3⟩
theorem zBj {P:Program} {N:Nat} {σ:Env} {w:World} {dst:Option Tmp} {ty:TypeId} {pos:String} {af:Array Edge} {g:Option (Nat×Bool)} {M:Nat→Prop} {t:TypeId} {s x:Operand} {base e size bytes n m c bx ox hs:Nat} {z v:Value} {xs news:List Value} (hu:P.underlying t=some (.slice e)) (hsz:Siz P e size) (hby:Byt P e bytes) (hz:Zer P e z) (hzs:z.cells.size=size) (h0:0<size)
    (he:ev σ s=v) (hown:w.ownsRow base e size v n xs) (hx:ev σ x=.slice (some ⟨bx,ox,none⟩) m c) (hl:news.length=m*size) (hnews:zBE w bx ox news) (h1:∀u∈news,u.oneCell'=true)
    (h63:n+m≤maxLen) (hbytes:(n+m)*bytes≤140737488355328) (hbase:base≤w.heap.size) (hM:∀y,v.ownBlock=some y→M y) (hhs:hs≤w.heap.size) :
    zCj M P N ⟨dst,.call ⟨.builtin .append,#[s,x],#[t,t]⟩,ty,pos,af,g⟩ (zDH base e size (n+m) (xs++news) v hs) σ w:=by
  unfold Siz at hsz;unfold Byt at hby;unfold Zer at hz;cases hi:P.info? e with
  | none=>rw[hi] at hsz;simp at hsz
  | some i=>
  rw[hi] at hsz hby hz;simp at hsz hby hz;have aa:∀j u,news[j]?=some u→w.cell? ((⟨bx,ox,none⟩:Addr).add j)=some u:=fun j u hj=>by rw[Addr.add_lit];exact hnews j u hj
  obtain ⟨v',w',hr,h2,h3,_⟩:=run_append_own (P:=P) w base t ty e i z size bytes hu hi hz hsz hby hzs h0 v n xs hown ⟨bx,ox,none⟩ m c news hl aa h1 h63 hbytes hbase;have hC:Chg (fun x=>v.ownBlock=some x) w w':=⟨h3.os,h3.tape,h3.output,zHJ (P:=P) hu hi hz hsz hby hown hl aa h1 h63 hbytes hr,h3.size,fun b hb hn=>h3.block b hb (fun h=>hn h.symm)⟩;have hW:=zHI (P:=P) hu hi hz hsz hby hzs h0 hown hl aa h1 h63 hbytes hr;refine zAX (v:=v') (w':=w') (by simp[execOp,resolve,invoke,builtin,he,hx,hr]) (hC.mono fun y _ hy=>hM y hy) ⟨zBO h2,h2,fun k hk=>?_⟩;rcases hW k hk with h4|h4
  · exact .inl h4
  · exact .inr (Nat.le_trans hhs h4)
def zDx (e:Nat) (c:Array Value) (hs:Nat):Fct:=fun v w=>∃b,v=.slice (some ⟨b,0,none⟩) 1 1∧Blk w b c e∧hs≤b
theorem zJw (e:Nat) (c:Array Value) (hs:Nat):∀v w w',Ext w w'→zDx e c hs v w→zDx e c hs v w':=by
 rintro v w w' x ⟨b,h1,h2,h3⟩;exact ⟨b,h1,Ext.keep x h2,h3⟩
theorem zCD {P:Program} {N:Nat} {σ:Env} {w:World} {dst:Option Tmp} {ty:TypeId} {pos:String} {af:Array Edge} {g:Option (Nat×Bool)} {M:Nat→Prop} {t e n hs:Nat} {x:Operand} {v z:Value} {c:Array Value} (hu:P.underlying t=some (.slice e)) (hsz:Siz P e n) (hz:Zer P e z) (hx:ev σ x=v)
  (hl:¬(1*n > 2 ^ 24)) (h0:1*n≠0) (hc:Instr.fill (fun i=>some (i*n,n)) ((Array.range (1*n)).map (z.cells[· % z.cells.size]!)) [(0,v)]=some c) (hhs:hs≤w.heap.size) :
  zCj M P N ⟨dst,.buildSlice t 1 #[(0,x)],ty,pos,af,g⟩ (zDx e c hs) σ w:=by
 have hn:=New.mk' w c e;exact zAX (zET (parts:=[(0,x)]) (ps:=[(0,v)]) (by simp only[List.map,hx]) hu hsz hz hl h0 hc) (Ext.chg hn.ext) ⟨_,rfl,hn.blk,hhs⟩
theorem zJn {w:World} {b e base:Nat} {v:Value} (h:Blk w b #[v] e) (hb:base≤b):w.ownsRow base e 1 (.slice (some ⟨b,0,none⟩) 1 1) 1 [v]:=
 ⟨rfl,.inr ⟨b,1,#[v],rfl,hb,h,Nat.le_refl _,qD,rfl,rfl⟩⟩
structure LSt (To e sz:Nat) (w:World) (base:Nat) (vo:Value) (vs:List Value) (ns:List (Nat×List Value)):Prop where
 o:w.ownsRow base To 1 vo ns.length vs
 len:vs.length=ns.length
 inn:∀(i:Nat) v p,vs[i]?=some v→ns[i]?=some p→w.ownsRow base e sz v p.1 p.2
 apo:∀(i:Nat) v b,vs[i]?=some v→v.ownBlock=some b→vo.ownBlock≠some b
theorem LSt.start (To e sz:Nat) (w:World) (base:Nat):LSt To e sz w base (.slice none 0 0) [] []:=
 ⟨World.ownsRow_nil _ _ _ _,rfl,fun i v p h=>by simp at h,fun i v b h=>by simp at h⟩
theorem LSt.chg {M:Nat→Prop} {To e sz base:Nat} {w w':World} {vo:Value} {vs:List Value} {ns:List (Nat×List Value)} (h:LSt To e sz w base vo vs ns) (c:Chg M w w') (hM:∀b,base≤b→b<w.heap.size→¬M b):LSt To e sz w' base vo vs ns:=
 ⟨zAq h.o c fun k hk=>hM k (h.o.lt k hk).1 (h.o.lt k hk).2,h.len,fun i v l hv hl=>zAq (h.inn i v l hv hl) c fun k hk=>hM k ((h.inn i v l hv hl).lt k hk).1 ((h.inn i v l hv hl).lt k hk).2,h.apo⟩
theorem LSt.ext {To e sz base:Nat} {w w':World} {vo:Value} {vs:List Value} {ns:List (Nat×List Value)} (h:LSt To e sz w base vo vs ns) (c:Ext w w'):LSt To e sz w' base vo vs ns:=h.chg c fun _ _ _ f=>f
theorem LSt.on {To e sz base n:Nat} {w:World} {vo:Value} {vs:List Value} {ns:List (Nat×List Value)} (h:LSt To e sz w base vo vs ns) (hn:n=ns.length):w.ownsRow base To 1 vo n vs:=by subst hn;exact h.o
theorem LSt.push {To e sz base bu n m:Nat} {w w':World} {vo v' u:Value} {vs us:List Value} {ns:List (Nat×List Value)} (h:LSt To e sz w base vo vs ns) (hn:n=ns.length) (hu:w.ownsRow bu e sz u m us) (hb:base≤bu) (hbu:∀k,vo.ownBlock=some k→k<bu)
  (Ov:w'.ownsRow base To 1 v' (n+1) (vs++[u])) (Cv:Chg (fun x=>vo.ownBlock=some x) w w') (Wv:∀k,v'.ownBlock=some k→vo.ownBlock=some k∨w.heap.size≤k):LSt To e sz w' base v' (vs++[u]) (ns++[(m,us)]):=by
 have aa:∀(i:Nat) v,(vs++[u])[i]?=some v→vs[i]?=some v∨(i=vs.length∧v=u):=by
  intro i v hv;rcases Nat.lt_or_ge i vs.length with h1|h1
  ·left;rwa [List.getElem?_append_left h1] at hv
  ·right;rw[List.getElem?_append_right h1] at hv;have h2:=zAE hv;simp at h2;obtain rfl:i=vs.length:=qO
   simp at hv;exact ⟨rfl,hv.symm⟩
 have ad:∀b,u.ownBlock=some b→vo.ownBlock≠some b:=fun b ae e'=>by
  have h1:=hbu b e';have h2:=(hu.lt b ae).1;omega
 refine ⟨by rw[List.length_append,←hn];exact Ov,by simp[h.len],?_,?_⟩
 ·intro i v p hv hp;rcases aa i v hv with h1|⟨h1,rfl⟩
  ·rw[List.getElem?_append_left (by have:=zAE h1;have:=h.len;omega)] at hp;exact zAq (h.inn i v p h1 hp) Cv fun k hk=>h.apo i v k h1 hk
  ·rw[h1,h.len] at hp;simp at hp;subst hp;exact zEq (zAq hu Cv fun k hk=>ad k hk) hb
 ·intro i v b hv ab ac;rcases aa i v hv with h1|⟨_,rfl⟩
  ·rcases Wv b ac with h2|h2
   ·exact h.apo i v b h1 ab h2
   ·obtain ⟨p,hp⟩:=zAN (l:=ns) (i:=i) (by have:=zAE h1;have:=h.len;omega);have:=((h.inn i v p h1 hp).lt b ab).2;omega
  ·rcases Wv b ac with h2|h2
   ·exact ad b ab h2
   ·have:=(hu.lt b ab).2;omega
theorem zOG {w w':World} {base e size n cap g i:Nat} {xs:List Value} {cur:Array Value} {v:Value} (h:w.ownsRow base e size (.slice (some ⟨g,0,none⟩) n cap) n xs) (hB:Blk w g cur e) (hi:i<n*size) (hB':Blk w' g (cur.setIfInBounds i v) e):w'.ownsRow base e size (.slice (some ⟨g,0,none⟩) n cap) n (xs.set i v):=by
 rcases h.2 with ⟨h1,_⟩|⟨g',ab,ad,hv,af,hg,ac,ae,ag,aa⟩
 ·simp at h1
 ·simp only[Value.slice.injEq,Option.some.injEq,Addr.mk.injEq,and_true] at hv;obtain ⟨rfl,_,rfl⟩:=hv;unfold Blk at hB hB';rw[hB] at hg;simp only[Option.some.injEq,Obj.cells.injEq,and_true] at hg;obtain ⟨rfl,_⟩:=hg;refine ⟨by simpa using h.1,.inr ⟨g,cap,_,rfl,af,hB',ac,ae,by simpa using ag,?_⟩⟩;rw[←aa,Array.toList_setIfInBounds,List.take_set]
theorem zRh {w:World} {base e size n cap g:Nat} {xs:List Value} (h:w.ownsRow base e size (.slice (some ⟨g,0,none⟩) n cap) n xs):∃cur,Blk w g cur e∧n*size≤cur.size:=by
 rcases h.2 with ⟨h1,_⟩|⟨g',ac,aa,hv,hbg,hg,ad,hcm,ae,ab⟩
 ·simp at h1
 ·simp only[Value.slice.injEq,Option.some.injEq,Addr.mk.injEq,and_true] at hv;obtain ⟨rfl,_,rfl⟩:=hv;exact ⟨aa,hg,by rw[ae];exact Nat.mul_le_mul_right _ ad⟩
structure GSt (To e sz:Nat) (w:World) (base:Nat) (vo:Value) (vs:List Value) (ns:List (Nat×List Value)):Prop where
 l:LSt To e sz w base vo vs ns
 ap:∀(i j:Nat) v u b,vs[i]?=some v→vs[j]?=some u→v.ownBlock=some b→u.ownBlock=some b→i=j
theorem GSt.ext {To e sz base:Nat} {w w':World} {vo:Value} {vs:List Value} {ns:List (Nat×List Value)} (h:GSt To e sz w base vo vs ns) (c:Ext w w'):GSt To e sz w' base vo vs ns:=⟨h.l.ext c,h.ap⟩
theorem GSt.made {To e sz base b n:Nat} {w:World} (hB:Blk w b (List.replicate n (Value.slice none 0 0)).toArray To) (hb:base≤b) (hn:n≤9223372036854775807) (hbw:base≤b):GSt To e sz w base (.slice (some ⟨b,0,none⟩) n n) (List.replicate n (.slice none 0 0)) (List.replicate n (0,[])):=by
 have hv:∀(i:Nat) v,(List.replicate n (Value.slice none 0 0))[i]?=some v→v=.slice none 0 0:=fun i v h=>by
  have:=List.mem_of_getElem? h;exact (List.mem_replicate.1 this).2
 refine ⟨⟨?_,qP,fun i v p h hp=>?_,fun i v b h h2=>?_⟩,fun i j v u b h _ h2=>?_⟩
 ·rw[List.length_replicate];exact ⟨qP,.inr ⟨b,n,_,rfl,hb,hB,Nat.le_refl _,hn,qP,qP⟩⟩
 ·have aa:=(List.mem_replicate.1 (List.mem_of_getElem? hp)).2;subst aa;rw[hv i v h];exact World.ownsRow_nil _ _ _ _
 ·rw[hv i v h] at h2;cases h2
 ·rw[hv i v h] at h2;cases h2
theorem GSt.grow {To e sz:Nat} {w w' w2:World} {base g cap k n m m':Nat} {v v':Value} {vs:List Value} {ns:List (Nat×List Value)} {xs xs':List Value} {cur:Array Value} (h:GSt To e sz w base (.slice (some ⟨g,0,none⟩) n cap) vs ns) (hn:n=ns.length) (hv:vs[k]?=some v) (hp:ns[k]?=some (m,xs))
  (Ov:w'.ownsRow base e sz v' m' xs') (Cv:Chg (fun x=>v.ownBlock=some x) w w') (Wv:∀k,v'.ownBlock=some k→v.ownBlock=some k∨w.heap.size≤k)
  (hB:Blk w' g cur To) (P2:Put w' w2 g (cur.setIfInBounds k v') To):GSt To e sz w2 base (.slice (some ⟨g,0,none⟩) n cap) (vs.set k v') (ns.set k (m',xs')):=by
 have hkl:=zAE hv;have af:v.ownBlock≠some g:=fun e=>h.l.apo k v g hv e rfl;have hgl:=(h.l.o.lt g rfl).2;have ac:v'.ownBlock≠some g:=fun e=>by rcases Wv g e with h1|h1;exact af h1;omega
 have ag:w'.ownsRow base To 1 (.slice (some ⟨g,0,none⟩) n cap) ns.length vs:=zAq h.l.o Cv fun q hq=>by cases hq;exact af
 rw[←hn] at ag;have ah:=zOG ag hB (i:=k) (by have:=h.l.len;omega) P2.blk;have aa:∀(i:Nat) u,(vs.set k v')[i]?=some u→(i=k∧u=v')∨(i≠k∧vs[i]?=some u):=by
  intro i u hu;rw[List.getElem?_set] at hu;split at hu
  ·rename_i he
   exact .inl ⟨he.symm,(Option.some.inj hu).symm⟩
  ·rename_i he
   exact .inr ⟨fun e=>he e.symm,hu⟩
 have ab:∀(i:Nat) u,vs[i]?=some u→∃q,ns[i]?=some q:=fun i u hu=>zAN (by have:=zAE hu;have:=h.l.len;omega);have ad:∀(i:Nat) u b,i≠k→vs[i]?=some u→u.ownBlock=some b→v.ownBlock≠some b∧v'.ownBlock≠some b∧b≠g:=by
  intro i u b hi hu hb;have h1:v.ownBlock≠some b:=fun e=>hi (h.ap i k u v b hu hv hb e);refine ⟨h1,fun e=>?_,fun e=>h.l.apo i u b hu hb (by rw[e];rfl)⟩;rcases Wv b e with h2|h2
  ·exact h1 h2
  ·obtain ⟨q,hq⟩:=ab i u hu;have:=((h.l.inn i u q hu hq).lt b hb).2;omega
 refine ⟨⟨by rw[List.length_set,←hn];exact ah,by simp[h.l.len],?_,?_⟩,?_⟩
 ·intro i u q hu hq;rcases aa i u hu with ⟨rfl,rfl⟩|⟨h1,h2⟩
  ·rw[List.getElem?_set,if_pos rfl,if_pos (by have:=h.l.len;omega)] at hq;have ai:=Option.some.inj hq;subst ai;exact zAq Ov P2.chg fun b hb e=>ac (e▸hb)
  ·rw[List.getElem?_set,if_neg (fun e=>h1 e.symm)] at hq;exact zAq (zAq (h.l.inn i u q h2 hq) Cv fun b hb=>(ad i u b h1 h2 hb).1) P2.chg fun b hb e=>(ad i u b h1 h2 hb).2.2 e
 ·intro i u b hu hb;rcases aa i u hu with ⟨rfl,rfl⟩|⟨h1,h2⟩
  ·intro e;cases e;exact ac hb
  ·exact h.l.apo i u b h2 hb
 ·intro i j u z b hu hz hb ae;rcases aa i u hu with ⟨rfl,rfl⟩|⟨h1,h2⟩<;>rcases aa j z hz with ⟨rfl,rfl⟩|⟨h3,h4⟩
  ·rfl
  ·exact absurd hb (ad j z b h3 h4 ae).2.1
  ·exact absurd ae (ad i u b h1 h2 hb).2.1
  ·exact h.ap i j u z b h2 h4 hb ae
end Go.Proofs
