/- Contracts and plain lemmas, part 1. -/
import Derived.Tactics
import Derived.Deep.Quiet
import Derived.Laws.AppendOwn
import Derived.KernelRfl
import Derived.Laws.Entries
import Derived.Laws.Build
import Derived.Below
import Derived.RowKit3
import Derived.StillTail
import Derived.Sort.Grow
import Derived.Deep.Draws
import Derived.Shelf.SlSortCmp.WholeK
import Derived.Shelf.Strconv.Itoa3
import Derived.Shelf.SlMaps.Clone
import Derived.Shelf.Sort.Plain
import Derived.Shelf.Slices.CompactI
import Derived.Test.YtgmbafkdgmkfoaaGreatDoorProg
import Derived.Test.YtgmbafkdgmkfoaaGreatDoorChecked
import Derived.Lib.ItoaNum
import Derived.Laws.StructEq
import Derived.Lib.AppendIntMem
import Derived.Laws.Externs
import Derived.MapKept
import Derived.Laws.BytesArg
import Derived.Defers
import Derived.Recover
import Derived.OpenShut
import Derived.ChangeSlices
open Go.Proofs.Tryz
set_option maxHeartbeats 16000000
namespace Go
theorem qO {p : Prop} (h : p := by omega) : p := h
theorem O.{u} {α : Sort u} {a : α} : a = a := rfl
theorem qD {p : Prop} (h : p := by decide) : p := h
theorem qP {p : Prop} (h : p := by simp) : p := h
theorem qK {p : Prop} (h : p := by kernel_rfl) : p := h
end Go
theorem Go.Proofs.kQ {p:Prop} (h:p:=by kernel_rfl):p:=h
theorem Go.Proofs.kH {p:Prop} (h:¬p:=by intro h;first|omega|(dsimp only at h;omega)):¬p:=h
namespace Go.Eng
open Go
abbrev CC:=Nat->Value
abbrev Dn:=Exit->CC->World->Prop
def Eo (σ:CC) (d:Nat) (v:Value):CC:=λt=>bif Nat.beq t d then v else σ t
def ev (σ:CC):Operand->Value
  | .tmp t=>σ t
  | .const v=>v
  | .global g=>.pointer (some ⟨g,0,none⟩)
  | .func f=>.func (.func f) #[] #[]
def DQ (a:Act):CC:=λt=>a.tmps.getD t undef
def lk (t:Nat):List (Nat×Value)->Value->Value
  | [],d=>d
  | (k,v)::r,d=>bif Nat.beq t k then v else lk t r d
def Bj (σ:CC) (l:List (Nat×Value)):CC:=λt=>lk t l (σ t)
theorem RG (σ:CC) (l:List (Nat×Value)) (h:∀p∈l,σ p.1=p.2):Bj σ l=σ:=by
 funext t;unfold Bj
 induction l with
 | nil=>rfl
 | cons p r ih=>
  obtain ⟨k,v⟩:=p;simp only[lk];cases hb:Nat.beq t k
  .simp only[cond_false];exact ih λp a=>h p (List.mem_cons_of_mem _ a)
  .have:t=k:=Nat.eq_of_beq_eq_true hb;subst this;simp only[cond_true];exact (h (t,v) List.mem_cons_self).symm
def Am (σ:CC):List (Nat×Value)->Prop
  | []=>True
  | (k,v)::r=>σ k=v∧Am σ r
theorem Am.all {σ:CC}:∀{l:List (Nat×Value)},Am σ l->∀p∈l,σ p.1=p.2
 | [],_,_,hp=>by cases hp
 | (k,v)::r,h,p,hp=>by
  cases hp with
  | head=>exact h.1
  | tail _ hp=>exact Am.all h.2 p hp
theorem Am.out {σ:CC} {l:List (Nat×Value)} (h:Am σ l):∃j,σ=Bj j l:=⟨σ,(RG σ l h.all).symm⟩
theorem DK (a:Act):a.eval=ev (DQ a):=by
 funext x;cases x<;>rfl
structure Ok (dz:List Deferred) (N:Nat) (a:Act):Prop where
  size:a.tmps.size=N
  defers:a.defers=dz
theorem EF {c:List Deferred} {N:Nat} {a:Act} (h:Ok c N a) {d:Nat} (hd:d<N) (v:Value):DQ (a.put (some d) v)=Eo (DQ a) d v:=by
 funext t;have f:=h.size;simp only[DQ,Eo,Act.put];cases hb:Nat.beq t d
 .have b:d≠t:=λe=>by subst e;rw[Nat.beq_refl] at hb;cases hb
  simp[Array.getElem?_setIfInBounds_ne b]
 .have:t=d:=Nat.eq_of_beq_eq_true hb;subst this;simp[f,hd]
theorem Ok.put {b:List Deferred} {N:Nat} {a:Act} (h:Ok b N a) (d:Option Nat) (v:Value):Ok b N (a.put d v):=by
 cases d with
 | none=>exact h
 | some d=>exact ⟨by simp[Act.put,h.size],h.defers⟩
def Dk (dz:List Deferred) (N:Nat) (Q:Dn):Exit->Act->World->Prop:=λe a w=>Ok dz N a∧Q e (DQ a) w
def Wp (P:Program) (N:Nat) (c:Code) (Q:Dn) (σ:CC) (w:World):Prop:=
  ∀dz a,Ok dz N a->DQ a=σ->c.wp P (Dk dz N Q) a w
def Li (K:CC->World->Prop) (Q:Dn):Dn
  | .normal=>K
  | e=>Q e
def WH (id:Nat) (Q:Dn):Dn
  | .exit j=>if j=id then Q .normal else Q (.exit j)
  | e=>Q e
section
variable {P : Program} {N : Nat} {Q : Dn} {σ : CC} {w : World} {K : CC → World → Prop}
theorem AC (h:K σ w):Li K Q .normal σ w:=h
theorem AZ {j:Nat} (h:Q (.exit j) σ w):Li K Q (.exit j) σ w:=h
theorem AP (h:Q .ret σ w):Li K Q .ret σ w:=h
theorem AQ {a:Nat} (h:Q .normal σ w):WH a Q .normal σ w:=h
theorem Ac {a:Nat} (h:Q .ret σ w):WH a Q .ret σ w:=h
theorem Ap {a:Nat} (h:Q .normal σ w):WH a Q (.exit a) σ w:=by unfold WH;simp only[if_true];exact h
theorem Rz {b j:Nat} (a:j≠b) (h:Q (.exit j) σ w):WH b Q (.exit j) σ w:=by unfold WH;simp only[a,if_false];exact h
theorem RE {c:Code} {Q':Dn} (h:Wp P N c Q σ w) (g:∀e σ w,Q e σ w->Q' e σ w):Wp P N c Q' σ w:=
 λf a d b=>Code.wp_mono (λ_ _ _ ⟨o,q⟩=>⟨o,g _ _ _ q⟩) (h f a d b)
theorem AG {x y:Code} (h:Wp P N x (Li (Wp P N y Q) Q) σ w):Wp P N (.seq x y) Q σ w:=by
 intro b a d c;refine wp_seq (Code.wp_mono ?_ (h b a d c));rintro e a w ⟨o,q⟩;cases e<;>first|exact q b a o rfl|exact ⟨o,q⟩
theorem AO (h:Q .normal σ w):Wp P N .skip Q σ w:=λ_ _ b a=>wp_skip ⟨b,a▸h⟩
theorem Aw {a:Nat} (h:Q (.exit a) σ w):Wp P N (.exit a) Q σ w:=λ_ _ c b=>wp_exit ⟨c,b▸h⟩
theorem AJ (h:Q .ret σ w):Wp P N .ret Q σ w:=λ_ _ b a=>wp_ret ⟨b,a▸h⟩
theorem AU {b:Nat} {c:Code} (h:Wp P N c (WH b Q) σ w):Wp P N (.block b c) Q σ w:=by
 intro i a g f;refine wp_block (Code.wp_mono ?_ (h i a g f));rintro e a w ⟨o,q⟩;cases e with
 | exit j=>
  unfold Exit.inBlock;unfold WH at q;by_cases d:j=b
  .simp only[d,if_true] at q⊢;exact ⟨o,q⟩
  .simp only[d,if_false] at q⊢;exact ⟨o,q⟩
 | normal=>exact ⟨o,q⟩
 | goto l=>exact ⟨o,q⟩
 | ret=>exact ⟨o,q⟩
 | panic c=>exact ⟨o,q⟩
 | outgrown=>exact ⟨o,q⟩
theorem A_ {c:Operand} {x y:Code} {b:Bool} (g:ev σ c=.bool b) (j:b=true->Wp P N x Q σ w) (i:b=false->Wp P N y Q σ w) :
 Wp P N (.cond c x y) Q σ w:=by
 intro f a e d;refine wp_cond_split (t:=b) (by rw[DK,d];exact g) (λh=>j h f a e d) (λh=>i h f a e d)
theorem Az {c:Operand} {x y:Code} (a:ev σ c=.bool true) (h:Wp P N x Q σ w):Wp P N (.cond c x y) Q σ w:=
 A_ a (λ_=>h) (λh=>by cases h)
theorem Ah {c:Operand} {x y:Code} (a:ev σ c=.bool false) (h:Wp P N y Q σ w):Wp P N (.cond c x y) Q σ w:=
 A_ a (λh=>by cases h) (λ_=>h)
theorem Av {c:Code} (I:Nat->CC->World->Prop) {n:Nat} (v:I n σ w)
 (h:∀n σ w,I n σ w->Wp P N c (Li (λσ' w'=>∃m,m<n∧I m σ' w') Q) σ w):Wp P N (.loop c) Q σ w:=by
 intro r a t y b k cs;have s:∀n a w,Ok r N a->I n (DQ a) w->
  ∃e a' w',Dk r N Q e a' w'∧Arrives P (lone (b.at a (.code c::.inLoop c::k)) cs w) b k cs e a' w':=by
  intro n
  induction n using Nat.strongRecOn with
  | _ n ih=>
   intro a w t B;obtain ⟨e,o,j,⟨i,f⟩,d⟩:=h n _ w B r a t O b (.inLoop c::k) cs;cases e with
   | normal=>
    obtain ⟨m,p,u⟩:=f;obtain ⟨z,A,C,q,g⟩:=ih m p o j i u;exact ⟨z,A,C,q,.of_steps (Steps.trans d (.one step_inLoop)) g⟩
   | exit id=>exact ⟨_,o,j,⟨i,f⟩,.pass (x:=.inLoop c) O (λ_ _=>.inl qP) d⟩
   | goto l=>exact ⟨_,o,j,⟨i,f⟩,.pass (x:=.inLoop c) O (λ_ _=>.inl qP) d⟩
   | ret=>exact ⟨_,o,j,⟨i,f⟩,.pass (x:=.inLoop c) O (λ_ _=>.inl qP) d⟩
   | panic ch=>exact ⟨_,o,j,⟨i,f⟩,.pass (x:=.inLoop c) O (λ_ _=>.inl qP) d⟩
   | outgrown=>exact ⟨_,o,j,⟨i,f⟩,.pass (x:=.inLoop c) O (λ_ _=>.inl qP) d⟩
 obtain ⟨e,a',w',f,d⟩:=s n a w t (y▸v);exact ⟨e,a',w',f,.of_steps (.one step_loop) d⟩
end
def DT (P:Program) (N:Nat) (ops:Array Oper) (K:CC->World->Prop) (Q:Dn) (l:List Oper) (σ:CC) (w:World):Prop:=
  ∀dz a,Ok dz N a->DQ a=σ->wpList P ops (Dk dz N (Li K Q)) l a w
section
variable {P : Program} {N : Nat} {Q : Dn} {σ : CC} {w : World} {K : CC → World → Prop} {ops : Array Oper} {rest : List Oper}
theorem AR {f:Nat} {l:List Oper} (h:DT P N l.toArray (Q .normal) Q l σ w):Wp P N (.region f l.toArray false) Q σ w:=by
 intro b a d c;refine wp_region_lit ?_;have:=h b a d c;have e:Dk b N (Li (Q .normal) Q)=Dk b N Q:=by funext e a w;cases e<;>rfl
 rwa [e] at this
theorem AA {d:Nat} {l:List Oper} {y:Code} (h:DT P N l.toArray (Wp P N y Q) Q l σ w):Wp P N (.seq (.region d l.toArray false) y) Q σ w:=by
 refine AG ?_;intro e a c b;exact wp_region_lit (h e a c b)
theorem AB (h:K σ w):DT P N ops K Q [] σ w:=λdz a c b=>⟨c,by subst b;exact h⟩
theorem Bn {o:Oper} (g:o.guard=none) {d:Nat} (hd:o.dst=some d) (e:d<N) {v:Value} {w':World}
 (h:(execOp (ev σ) o).run P w=.ok (.value v) w') (k:DT P N ops K Q rest (Eo σ d v) w'):DT P N ops K Q (o::rest) σ w:=by
 intro i a c b;refine wpList_plain g λK' f=>?_;unfold Oper.wp;rw[DK,b,h];simp only[Oper.upon,hd];exact f _ _ (k i _ (c.put _ _) (by rw[EF c e,b]))
theorem Ir {o:Oper} (e:o.guard=none) (hd:o.dst=none) {w':World}
 (f:(execOp (ev σ) o).run P w=.ok .skip w') (k:DT P N ops K Q rest σ w'):DT P N ops K Q (o::rest) σ w:=by
 intro g a c b;refine wpList_plain e λK' d=>?_;unfold Oper.wp;rw[DK,b,f];simp only[Oper.upon,hd];exact d _ _ (k g a c b)
def Bi (P:Program) (f:FuncId) (args:Array Value) (w:World) (R:Value->World->Prop):Prop:=
  Calls P f args w λe w'=>∃v,e=.returned v∧R v w'
theorem Bi.mono {f:FuncId} {args:Array Value} {R R':Value->World->Prop} (h:Bi P f args w R) (a:∀v w',R v w'->R' v w'):Bi P f args w R':=
 Calls.mono h λ_ _ ⟨v,e,r⟩=>⟨v,e,a _ _ r⟩
theorem Mh {o:Oper} (m:o.guard=none) {d:Nat} (hd:o.dst=some d) (j:d<N) {f:FuncId} {args:Array Value} {R:Value->World->Prop}
 (h:(execOp (ev σ) o).run P w=.ok (.enter f args) w) (g:Bi P f args w R) (k:∀v w',R v w'->DT P N ops K Q rest (Eo σ d v) w'):DT P N ops K Q (o::rest) σ w:=by
 intro i a c b;refine wpList_plain m λK' l=>?_;unfold Oper.wp;rw[DK,b,h];simp only[Oper.upon,hd];refine Calls.mono g ?_;rintro e w' ⟨v,rfl,r⟩;exact l _ _ (k v w' r i _ (c.put _ _) (by rw[EF c j,b]))
theorem AF {dst:Option Tmp} {op:Op} {ty:TypeId} {pos:String} {af:Array Edge} {j:Nat} {b:Bool} {oj:Oper} {c:Nat}
 (i:ops[j]?=some oj) (e:oj.dst=some c) (m:c<N) (l:σ c=.bool b)
 (k:DT P N ops K Q (⟨dst,op,ty,pos,af,none⟩::rest) σ w):DT P N ops K Q (⟨dst,op,ty,pos,af,some (j,b)⟩::rest) σ w:=by
 intro p a h g;have f:=k p a h g;have n:Region.wanted ⟨dst,op,ty,pos,af,some (j,b)⟩ (yielded ops a.tmps)=true:=by
  simp only[Region.wanted,yielded,i,e,Option.bind_some];have:a.tmps[c]?=some (Value.bool b):=by
   have o:a.tmps.getD c undef=.bool b:=by rw[<-l,<-g];rfl
   have d:c<a.tmps.size:=by rw[h.size];exact m
   rw[Array.getElem?_eq_getElem d];simpa[d] using o
  simp[this]
 unfold wpList at f⊢;rw[if_pos n];rw[if_pos (by rfl)] at f;exact f
theorem AE {d:Nat} {op:Op} {ty:TypeId} {pos:String} {af:Array Edge} {j:Nat} {b:Bool} {oj:Oper} {c:Nat} {v:Value}
 (h:ops[j]?=some oj) (e:oj.dst=some c) (hd:d<N) (i:σ c=v) (m:v=.bool (!b)∨v=undef)
 (k:DT P N ops K Q rest (Eo σ d undef) w):DT P N ops K Q (⟨some d,op,ty,pos,af,some (j,b)⟩::rest) σ w:=by
 intro l a g f;have n:Region.wanted ⟨some d,op,ty,pos,af,some (j,b)⟩ (yielded ops a.tmps)=false:=by
  simp only[Region.wanted,yielded,h,e,Option.bind_some];have o:a.tmps.getD c undef=v:=by rw[<-i,<-f];rfl
  cases hx:a.tmps[c]? with
  | none=>simp
  | some u=>
   have:u=v:=by simpa[hx] using o
   subst this;rcases m with rfl|rfl
   .cases b<;>simp
   .simp[undef]
 unfold wpList;rw[n,if_neg qP];exact k l _ (g.put _ _) (by rw[EF g hd,f])
theorem LY {d:Nat} {op:Op} {ty:TypeId} {pos:String} {af:Array Edge} {j:Nat} {b:Bool} {oj:Oper} {c:Nat} {gv u:Value}
 (f:ops[j]?=some oj) (a:oj.dst=some c) (i:c<N) (hd:d<N) (g:σ c=gv)
 (h:(gv=.bool b∧(execOp (ev σ) ⟨some d,op,ty,pos,af,none⟩).run P w=.ok (.value u) w)∨((gv=.bool (!b)∨gv=undef)∧u=undef))
 (k:DT P N ops K Q rest (Eo σ d u) w):DT P N ops K Q (⟨some d,op,ty,pos,af,some (j,b)⟩::rest) σ w:=by
 rcases h with ⟨e,l⟩|⟨e,rfl⟩
 .exact AF f a i (g.trans e) (Bn O O hd l k)
 .exact AE f a hd g e k
end
def Uk (P:Program) (fn:Func) (R:Value->World->Prop):Dn
  | .normal,σ,w | .ret,σ,w=>∃v,(∀a:Act,DQ a=σ->(results fn a.tmps).run P w=.ok v w)∧R v w
  | _,_,_=>False
theorem EY {P:Program} {f:FuncId} {b:Func} {c:Code} {N:Nat} {args:Array Value} {w:World} {R:Value->World->Prop}
 (g:P.funcs[f]?=some b) (hb:b.body=some c) (hn:b.ntmps=N) (hsz:args.size<=N)
 (h:Wp P N c (Uk P b R) (λt=>args.getD t undef) w):Bi P f args w R:=by
 refine calls_of_wp g hb (Code.wp_mono ?_ (h [] _ ⟨?_,O⟩ ?_))
 .rintro e a w ⟨o,q⟩;cases e<;>simp only[Uk] at q
  .obtain ⟨v,d,r⟩:=q;exact ⟨o.defers,v,d a O,v,O,r⟩
  .obtain ⟨v,d,r⟩:=q;exact ⟨o.defers,v,d a O,v,O,r⟩
 .simp[hn];omega
 .funext t;simp only[DQ,Array.getD_eq_getD_getElem?,Array.getElem?_append];split
  .rfl
  .rename_i hlt
   rw[Array.getElem?_replicate,Array.getElem?_eq_none (xs:=args) qO];split<;>rfl
theorem AV {P:Program} {b:Func} {R:Value->World->Prop} {t:Nat} (e:b.results=#[.tmp t]) {σ:CC} {w:World} {v:Value} (c:σ t=v) (h:R v w):Uk P b R .ret σ w:=
 ⟨v,λa d=>by rw[results_tmp e];subst d;rw[<-c];rfl,h⟩
theorem Bf {P:Program} {c:Func} {R:Value->World->Prop} {t u:Nat} (f:c.results=#[.tmp t,.tmp u]) {σ:CC} {w:World} {v v':Value} (d:σ t=v) (b:σ u=v') (h:R (.tuple #[v,v']) w):Uk P c R .ret σ w:=
 ⟨.tuple #[v,v'],λa e=>by rw[results_tmp2 f];subst e;rw[<-d,<-b];rfl,h⟩
theorem HC {P:Program} {b:Func} {R:Value->World->Prop} (c:b.results=#[]) {σ:CC} {w:World} (h:R (.tuple #[]) w):Uk P b R .normal σ w:=
 ⟨.tuple #[],λa ha=>by rw[results_none c],h⟩
theorem JM {P:Program} {b:Func} {R:Value->World->Prop} (c:b.results=#[]) {σ:CC} {w:World} (h:R (.tuple #[]) w):Uk P b R .ret σ w:=
 ⟨.tuple #[],λa ha=>by rw[results_none c],h⟩
end Go.Eng
namespace Go.Eng
open Go
structure Chg (M:Nat->Prop) (w w':World):Prop where
  os:w'.os=w.os
  tape:w'.tape=w.tape
  output:w'.output=w.output
  drw:w.drawn<=w'.drawn
  size:w.heap.size<=w'.heap.size
  blk:∀b,b<w.heap.size->¬M b->w'.heap[b]?=w.heap[b]?
def Ak:Nat->Prop:=λ_=>False
def Ae (w w':World):Prop:=Chg Ak w w'
def BH (w:World) (b:Nat) (c:Array Value) (t:TypeId):Prop:=w.heap[b]?=some (.cells c t (0,0))
theorem Chg.refl (M:Nat->Prop) (w:World):Chg M w w:=⟨O,O,O,Nat.le_refl _,Nat.le_refl _,λ_ _ _=>rfl⟩
theorem Ae.refl (w:World):Ae w w:=Chg.refl _ w
theorem Chg.step {M M':Nat->Prop} {a b c:World} (h:Chg M a b) (k:Chg M' b c) (f:∀x,x<a.heap.size->M' x->M x):Chg M a c:=
 ⟨k.os.trans h.os,k.tape.trans h.tape,k.output.trans h.output,Nat.le_trans h.drw k.drw,Nat.le_trans h.size k.size,
  λx e hn=>(k.blk x (Nat.lt_of_lt_of_le e h.size) (λd=>hn (f x e d))).trans (h.blk x e hn)⟩
theorem Chg.trans {M:Nat->Prop} {a b c:World} (h:Chg M a b) (k:Chg M b c):Chg M a c:=h.step k λ_ _ x=>x
theorem Chg.ext {M:Nat->Prop} {a b c:World} (h:Chg M a b) (k:Ae b c):Chg M a c:=h.step k λ_ _ x=>x.elim
theorem Ae.trans {a b c:World} (h:Ae a b) (k:Ae b c):Ae a c:=Chg.trans h k
theorem Ae.chg {M:Nat->Prop} {a b:World} (h:Ae a b):Chg M a b:=⟨h.os,h.tape,h.output,h.drw,h.size,λx c _=>h.blk x c (λf=>f)⟩
theorem Chg.mono {M M':Nat->Prop} {a b:World} (h:Chg M a b) (d:∀x,x<a.heap.size->M x->M' x):Chg M' a b:=
 ⟨h.os,h.tape,h.output,h.drw,h.size,λx c hn=>h.blk x c λm=>hn (d x c m)⟩
theorem BH.lt {w:World} {b:Nat} {c:Array Value} {t:TypeId} (h:BH w b c t):b<w.heap.size:=(Array.getElem?_eq_some_iff.1 h).1
theorem Chg.keep {M:Nat->Prop} {w w':World} (h:Chg M w w') {b:Nat} {c:Array Value} {t:TypeId} (a:¬M b) (hb:BH w b c t):BH w' b c t:=
 (h.blk b hb.lt a).trans hb
theorem Ae.keep {w w':World} (h:Ae w w') {b:Nat} {c:Array Value} {t:TypeId} (hb:BH w b c t):BH w' b c t:=Chg.keep h (λf=>f) hb
theorem Chg.cell {M:Nat->Prop} {w w':World} (h:Chg M w w') {a:Addr} {v:Value} (c:¬M a.block) (b:w.cell? a=some v):w'.cell? a=some v:=
 (World.cell?_of_block (w:=w) (h.blk a.block (World.block_lt_of_cell? w a b) c)).trans b
theorem Ae.cell {w w':World} (h:Ae w w') {a:Addr} {v:Value} (b:w.cell? a=some v):w'.cell? a=some v:=Chg.cell h (λf=>f) b
theorem BH.cell {w:World} {b:Nat} {c:Array Value} {t:TypeId} (h:BH w b c t) {o:Nat} {v:Value} (a:c[o]?=some v):w.cell? ⟨b,o,none⟩=some v:=by
 unfold BH at h;simp[World.cell?,h,a]
theorem Ae.below {w w':World} (h:Ae w w'):RowKit.Below w.heap.size w w':=⟨h.os,h.tape,h.output,h.size,λk a=>h.blk k a λf=>f⟩
theorem Ae.of_below {w w':World} (h:RowKit.Below w.heap.size w w') (hd:w.drawn<=w'.drawn):Ae w w':=⟨h.os,h.tape,h.output,hd,h.size,λk a _=>h.block k a⟩
theorem Ae.grown {w w':World} (h:Ae w w'):∃q os,w'=Sort.grow (w.drewN q) os:=by
 refine ⟨w'.drawn - w.drawn,w'.heap.extract w.heap.size w'.heap.size,?_⟩;have e:=h.os;have c:=h.tape;have d:=h.output;have k:=h.drw;have g:=h.size;have b:=h.blk;obtain ⟨j,tp,dr,o,ou⟩:=w';obtain ⟨a,tp',dr',o',ou'⟩:=w;simp only at e c d k g b;subst e;subst c;subst d;simp only[Sort.grow,World.drewN,World.mk.injEq,and_true,true_and];refine ⟨?_,qO⟩;apply Array.ext_getElem?;intro i;rw[Array.getElem?_append];by_cases hi:i<a.size
 .rw[if_pos hi];exact b i hi λf=>f
 .rw[if_neg hi,Array.getElem?_extract];by_cases h7:i<j.size
  .rw[if_pos qO];congr 1;omega
  .rw[if_neg qO,Array.getElem?_eq_none qO]
structure New (w w':World) (b:Nat) (c:Array Value) (t:TypeId):Prop where
  blk:BH w' b c t
  ext:Ae w w'
  eq:b=w.heap.size
  size:w'.heap.size=w.heap.size+1
theorem New.mk' (w:World) (c:Array Value) (t:TypeId):New w {w with heap:=w.heap.push (.cells c t (0,0))} w.heap.size c t:=
 ⟨by unfold BH;simp,⟨O,O,O,Nat.le_refl _,qP,λx a _=>by simp[Array.getElem?_push,Nat.ne_of_lt a]⟩,O,qP⟩
theorem New.keep {w w':World} {b:Nat} {c:Array Value} {t:TypeId} (h:New w w' b c t) {b':Nat} {c':Array Value} {t':TypeId} (hb:BH w b' c' t'):BH w' b' c' t':=h.ext.keep hb
theorem New.lt {w w':World} {b:Nat} {c:Array Value} {t:TypeId} (h:New w w' b c t) {b':Nat} {c':Array Value} {t':TypeId} (hb:BH w b' c' t'):b'<b:=by rw[h.eq];exact hb.lt
theorem New.ge {a w w':World} {b:Nat} {c:Array Value} {t:TypeId} (h:New w w' b c t) {M:Nat->Prop} (e:Chg M a w):a.heap.size<=b:=by rw[h.eq];exact e.size
structure Put (w w':World) (b:Nat) (c:Array Value) (t:TypeId):Prop where
  blk:BH w' b c t
  chg:Chg (λx=>x=b) w w'
  size:w'.heap.size=w.heap.size
theorem Put.of_setRow {w:World} {b:Nat} {c:Array Value} {t:TypeId} (h:BH w b c t) (c':Array Value):Put w (w.setRow b c') b c' t:=
 ⟨setRow_heap w b c c' t _ h,⟨O,O,O,Nat.le_refl _,by simp[World.setRow],λx _ hn=>setRow_other w b x c' hn⟩,by simp[World.setRow]⟩
theorem Put.keep {w w':World} {b:Nat} {c:Array Value} {t:TypeId} (h:Put w w' b c t) {b':Nat} {c':Array Value} {t':TypeId} (a:b'≠b) (hb:BH w b' c' t'):BH w' b' c' t':=h.chg.keep a hb
theorem Put.ext {a w w':World} {b:Nat} {c:Array Value} {t:TypeId} (h:Put w w' b c t) {M:Nat->Prop} (e:Chg M a w) (hb:a.heap.size<=b):Chg M a w':=
 e.step h.chg λx hx d=>by subst d;omega
theorem Put.step {a w w':World} {b:Nat} {c:Array Value} {t:TypeId} (h:Put w w' b c t) {M:Nat->Prop} (e:Chg M a w) (hb:a.heap.size<=b∨M b):Chg M a w':=
 e.step h.chg λx hx d=>by subst d;rcases hb with hb|hb;omega;exact hb
def BA (w:World) (b o:Nat) (vs:List Value):Prop:=∀i v,vs[i]?=some v->w.cell? ⟨b,o+i,none⟩=some v
theorem BA.chg {M:Nat->Prop} {w w':World} {b o:Nat} {vs:List Value} (h:BA w b o vs) (e:Chg M w w') (c:¬M b):BA w' b o vs:=
 λi v a=>e.cell c (h i v a)
theorem BA.ext {w w':World} {b o:Nat} {vs:List Value} (h:BA w b o vs) (e:Ae w w'):BA w' b o vs:=h.chg e λf=>f
theorem BH.cells {w:World} {b:Nat} {c:Array Value} {t:TypeId} (h:BH w b c t) {o:Nat} {vs:List Value} (d:(c.toList.drop o).take vs.length=vs):BA w b o vs:=by
 intro i v hi;refine h.cell ?_;have a:i<vs.length:=by
  rcases Nat.lt_or_ge i vs.length with h|h
  .exact h
  .simp[List.getElem?_eq_none h] at hi
 rw[<-d,List.getElem?_take_of_lt a,List.getElem?_drop] at hi;simpa using hi
def Df (P:Program) (t:TypeId) (n:Nat):Prop:=(P.info? t).map (λi=>i.size)=some n
def LS (P:Program) (t:TypeId) (n:Nat):Prop:=(P.info? t).map (λi=>i.bytes)=some n
def Ex (P:Program) (t:TypeId) (z:Value):Prop:=(P.info? t).bind (λi=>i.zero)=some z
def DW (P:Program) (t:TypeId):Bool:=match P.underlying t with
  | some (.struct _)|some (.array _ _)|none=>false
  | some _=>true
def Hh (P:Program) (t:TypeId):Bool:=match P.underlying t with
  | some (.struct _)|some (.array _ _)=>true
  | _=>false
theorem Df.run {P:Program} {t:TypeId} {n:Nat} (h:Df P t n) (w:World):(sizeOf t).run P w=.ok n w:=by
 unfold Df at h;cases hi:P.info? t with
 | none=>simp[hi] at h
 | some i=>simp[hi] at h;simp[sizeOf,typeInfo,hi,h]
theorem Ex.run {P:Program} {t:TypeId} {z:Value} (h:Ex P t z) (w:World):(zeroValue t).run P w=.ok z w:=by
 unfold Ex at h;cases hi:P.info? t with
 | none=>simp[hi] at h
 | some i=>simp[hi] at h;simp[zeroValue,typeInfo,hi,h]
theorem DW.run {P:Program} {t:TypeId} (h:DW P t=true) (w:World):(isAgg t).run P w=.ok false w:=by
 unfold DW at h;cases hi:P.underlying t with
 | none=>simp[hi] at h
 | some d=>cases d<;>simp[hi] at h<;>simp[isAgg,run_underlying hi]
theorem Hh.run {P:Program} {t:TypeId} (h:Hh P t=true) (w:World):(isAgg t).run P w=.ok true w:=by
 unfold Hh at h;cases hi:P.underlying t with
 | none=>simp[hi] at h
 | some d=>cases d<;>simp[hi] at h<;>simp[isAgg,run_underlying hi]
section
variable {P : Program} {σ : CC} {w : World} {dst : Option Tmp} {ty : TypeId} {pos : String} {af : Array Edge} {g : Option (Nat × Bool)}
theorem Ai {x:Operand} {v:Value} (a:ev σ x=v):(execOp (ev σ) ⟨dst,.move x,ty,pos,af,g⟩).run P w=.ok (.value v) w:=by subst a;rfl
theorem Dq {x:Operand} {v:Value} (a:ev σ x=v):(execOp (ev σ) ⟨dst,.assign x,ty,pos,af,g⟩).run P w=.ok (.value v) w:=by subst a;rfl
theorem Aq {c x y:Operand} {b:Bool} {v:Value} (a:ev σ c=.bool b) (d:(if b then ev σ x else ev σ y)=v):(execOp (ev σ) ⟨dst,.pick c x y,ty,pos,af,g⟩).run P w=.ok (.value v) w:=by
 subst d;simp only[execOp,a,asBool];cases b<;>rfl
theorem Ag {x:Operand} {a:Addr} (b:ev σ x=.pointer (some a)):(execOp (ev σ) ⟨dst,.nilCheck x,ty,pos,af,g⟩).run P w=.ok (.value (.pointer (some a))) w:=by
 simp only[execOp,b];rfl
theorem Dg {t:TypeId} {x:Operand} {b:Bool} (a:ev σ x=.bool b):(execOp (ev σ) ⟨dst,.unOp .not t x,ty,pos,af,g⟩).run P w=.ok (.value (.bool (!b))) w:=by
 simp only[execOp,a];rfl
theorem Xb {t:TypeId} {x:Operand} {k:IntKind} {n c:Int} (a:ev σ x=.int k n) (b:k.wrap (0 - n)=c):(execOp (ev σ) ⟨dst,.unOp .neg t x,ty,pos,af,g⟩).run P w=.ok (.value (.int k c)) w:=by
 subst b;simp only[execOp,a];rfl
theorem I8 {s t:TypeId} {x:Operand} {k k':IntKind} {n c:Int} (f:∃d,P.underlying s=some d) (e:P.underlying t=some (.int k')) (a:ev σ x=.int k n) (b:k'.wrap n=c) :
 (execOp (ev σ) ⟨dst,.convert s t x,ty,pos,af,g⟩).run P w=.ok (.value (.int k' c)) w:=by
 obtain ⟨d,hd⟩:=f;subst b;simp only[execOp,a,convert,Sem.run_bind,run_underlying hd,run_underlying e,Result.andThen_ok];rfl
variable {t t' : TypeId} {x y : Operand} {k : IntKind} {a b c : Int}
theorem Ax (f:ev σ x=.int k a) (d:ev σ y=.int k b) (e:k.wrap (a+b)=c):(execOp (ev σ) ⟨dst,.binOp .add t x y t',ty,pos,af,g⟩).run P w=.ok (.value (.int k c)) w:=by
 subst e;simp only[execOp,f,d,eqGuard,binOp];simp[Op.intArith]
theorem DI (f:ev σ x=.int k a) (d:ev σ y=.int k b) (e:k.wrap (a - b)=c):(execOp (ev σ) ⟨dst,.binOp .sub t x y t',ty,pos,af,g⟩).run P w=.ok (.value (.int k c)) w:=by
 subst e;simp only[execOp,f,d,eqGuard,binOp];simp[Op.intArith]
theorem Xc (f:ev σ x=.int k a) (d:ev σ y=.int k b) (e:k.wrap (a*b)=c):(execOp (ev σ) ⟨dst,.binOp .mul t x y t',ty,pos,af,g⟩).run P w=.ok (.value (.int k c)) w:=by
 subst e;simp only[execOp,f,d,eqGuard,binOp];simp[Op.intArith]
theorem XZ (h:ev σ x=.int k a) (d:ev σ y=.int k b) (e:b≠0) (f:a.tmod b=c):(execOp (ev σ) ⟨dst,.binOp .rem t x y t',ty,pos,af,g⟩).run P w=.ok (.value (.int k c)) w:=by
 subst f;simp only[execOp,h,d,eqGuard,binOp];simp[Op.intDiv,e]
theorem BE (d:ev σ x=.int k a) (c:ev σ y=.int k b):(execOp (ev σ) ⟨dst,.binOp .lss t x y t',ty,pos,af,g⟩).run P w=.ok (.value (.bool (decide (a<b)))) w:=by
 simp only[execOp,d,c,eqGuard,binOp];simp[Op.intCmp]
theorem Jf (d:ev σ x=.int k a) (c:ev σ y=.int k b):(execOp (ev σ) ⟨dst,.binOp .leq t x y t',ty,pos,af,g⟩).run P w=.ok (.value (.bool (decide (a<=b)))) w:=by
 simp only[execOp,d,c,eqGuard,binOp];simp[Op.intCmp]
theorem D0 (d:ev σ x=.int k a) (c:ev σ y=.int k b):(execOp (ev σ) ⟨dst,.binOp .gtr t x y t',ty,pos,af,g⟩).run P w=.ok (.value (.bool (decide (b<a)))) w:=by
 simp only[execOp,d,c,eqGuard,binOp];simp[Op.intCmp]
theorem FX (d:ev σ x=.int k a) (c:ev σ y=.int k b):(execOp (ev σ) ⟨dst,.binOp .geq t x y t',ty,pos,af,g⟩).run P w=.ok (.value (.bool (decide (b<=a)))) w:=by
 simp only[execOp,d,c,eqGuard,binOp];simp[Op.intCmp]
theorem Aj (d:ev σ x=.int k a) (c:ev σ y=.int k b):(execOp (ev σ) ⟨dst,.binOp .eql t x y t',ty,pos,af,g⟩).run P w=.ok (.value (.bool (decide (a=b)))) w:=by
 have:(a == b)=decide (a=b):=by rw[Bool.eq_iff_iff];simp
 rw[<-this];simp only[execOp,d,c,eqGuard,binOp];simp[Op.intCmp]
theorem Cy (d:ev σ x=.int k a) (c:ev σ y=.int k b):(execOp (ev σ) ⟨dst,.binOp .neq t x y t',ty,pos,af,g⟩).run P w=.ok (.value (.bool (decide (a≠b)))) w:=by
 have:(a != b)=decide (a≠b):=by rw[Bool.eq_iff_iff];simp
 rw[<-this];simp only[execOp,d,c,eqGuard,binOp];simp[Op.intCmp]
theorem Ia {p q:Bool} (d:Nat) (a:P.underlying t=some .bool):(Op.equalIn (d+1) t (.bool p) (.bool q)).run P w=.ok (p == q) w:=by
 simp only[Op.equalIn,Sem.run_bind,run_underlying a,Result.andThen_ok];rfl
theorem Wh {p q:Bool} (b:P.underlying t=some .bool) (a:ev σ x=.bool p) (c:ev σ y=.bool q):(execOp (ev σ) ⟨dst,.binOp .eql t x y t',ty,pos,af,g⟩).run P w=.ok (.value (.bool (p == q))) w:=by
 have h:=Ia (P:=P) (w:=w) (p:=p) (q:=q) 9999 b;simp only[execOp,a,c,eqGuard,binOp,Op.equal,Op.maxDepth];simp[h]
theorem My {p q:Bool} (b:P.underlying t=some .bool) (a:ev σ x=.bool p) (c:ev σ y=.bool q):(execOp (ev σ) ⟨dst,.binOp .neq t x y t',ty,pos,af,g⟩).run P w=.ok (.value (.bool (p != q))) w:=by
 have h:=Ia (P:=P) (w:=w) (p:=p) (q:=q) 9999 b;simp only[execOp,a,c,eqGuard,binOp,Op.equal,Op.maxDepth];simp[h,bne]
theorem Gd {op:BinOp} {v:Value} (e:ev σ x=.int k a) (f:ev σ y=.int k b) (d:op=.and∨op=.or∨op=.xor∨op=.andNot) (c:(Op.intBits op k a b).run P w=.ok v w) :
 (execOp (ev σ) ⟨dst,.binOp op t x y t',ty,pos,af,g⟩).run P w=.ok (.value v) w:=by
 rcases d with rfl|rfl|rfl|rfl<;>(simp only[execOp,e,f,eqGuard,binOp];simp[c])
theorem OB {k':IntKind} (e:ev σ x=.int k a) (f:ev σ y=.int k' b) (d:0<=b) (h:k.wrap (a*2 ^ (min b.toNat k.bits))=c) :
 (execOp (ev σ) ⟨dst,.binOp .shl t x y t',ty,pos,af,g⟩).run P w=.ok (.value (.int k c)) w:=by
 subst h;simp only[execOp,e,f,eqGuard,binOp];simp[Op.shift,Int.not_lt.2 d]
theorem WA {k':IntKind} (e:ev σ x=.int k a) (f:ev σ y=.int k' b) (d:0<=b) (h:a.fdiv (2 ^ (min b.toNat k.bits))=c) :
 (execOp (ev σ) ⟨dst,.binOp .shr t x y t',ty,pos,af,g⟩).run P w=.ok (.value (.int k c)) w:=by
 subst h;simp only[execOp,e,f,eqGuard,binOp];simp[Op.shift,Int.not_lt.2 d]
theorem Aa {e:TypeId} {ad:Option Addr} {n cap:Nat} (b:P.underlying t=some (.slice e)) (a:ev σ x=.slice ad n cap) :
 (execOp (ev σ) ⟨dst,.call ⟨.builtin .len,#[x],#[t]⟩,ty,pos,af,g⟩).run P w=.ok (.value (.int .i64 n)) w:=by
 simp only[execOp,resolve,List.map_toArray,List.map_cons,List.map_nil,a];simp[invoke,builtin,Builtin.len_,run_underlying b,goInt]
theorem AY {a:Array Field} {f:Field} {i n b o o':Nat} (d:ev σ x=.pointer (some ⟨b,o,none⟩)) (j:P.underlying t=some (.struct a)) (c:a[i]?=some f) (h:Df P f.type (n+1)) (e:o+f.offset=o') :
 (execOp (ev σ) ⟨dst,.fieldAddr t x i,ty,pos,af,g⟩).run P w=.ok (.value (.pointer (some ⟨b,o',none⟩))) w:=by
 subst e;simp[execOp,d,Instr.fieldAt,run_underlying j,c,Instr.sureAddr,fieldPlace,h.run,Addr.add_lit]
theorem AN {e:TypeId} {n b o o' len cap i:Nat} {k:IntKind} {a:Int} (d:ev σ x=.slice (some ⟨b,o,none⟩) len cap) (f:ev σ y=.int k a) (c:a=(i:Int)) (l:P.underlying t=some (.slice e)) (j:Df P e n) (hi:i<len) (h:o+i*n=o') :
 (execOp (ev σ) ⟨dst,.indexAddr t x y,ty,pos,af,g⟩).run P w=.ok (.value (.pointer (some ⟨b,o',none⟩))) w:=by
 subst h;subst c;have h1:(0:Int)<=(i:Int)∧(i:Int)<(len:Int):=qO
 simp[execOp,d,f,Instr.indexAt,asIntOf,run_underlying l,j.run,Addr.add_lit,hi]
theorem BW {e:TypeId} {n b o o' len i:Nat} {k:IntKind} {a:Int} (d:ev σ x=.pointer (some ⟨b,o,none⟩)) (f:ev σ y=.int k a) (c:a=(i:Int)) (l:P.underlying t=some (.array len e)) (j:Df P e n) (hi:i<len) (h:o+i*n=o') :
 (execOp (ev σ) ⟨dst,.indexAddr t x y,ty,pos,af,g⟩).run P w=.ok (.value (.pointer (some ⟨b,o',none⟩))) w:=by
 subst h;subst c;simp[execOp,d,f,Instr.indexAt,Instr.sureAddr,asIntOf,run_underlying l,j.run,Addr.add_lit,hi]
theorem GA {e:TypeId} {a a':Option Addr} {n len cap lo n' c':Nat} {k:IntKind} {l:Int} (f:P.underlying t=some (.slice e)) (m:Df P e n) (c:ev σ x=.slice a len cap) (d:ev σ y=.int k l) (j:l=(lo:Int)) (h:lo<=len) (i:(if cap=lo then a else a.map (·.add (lo*n)))=a') (hn:len - lo=n') (b:cap - lo=c') :
 (execOp (ev σ) ⟨dst,.slice t x (some y) none none,ty,pos,af,g⟩).run P w=.ok (.value (.slice a' n' c')) w:=by
 subst i;subst hn;subst b;subst j;have h2:(0:Int)<=(lo:Int)∧(lo:Int)<=(len:Int):=qO
 simp[execOp,c,d,Instr.sliceAt,Instr.slice,run_underlying f,Instr.sliceBounds,Instr.sliceBound,asIntOf,h,m.run]
theorem HS {e:TypeId} {a a':Option Addr} {n len cap hi:Nat} {k:IntKind} {l:Int} (j:P.underlying t=some (.slice e)) (i:Df P e n) (d:ev σ x=.slice a len cap) (f:ev σ y=.int k l) (h:l=(hi:Int)) (b:hi<=cap) (c:(if cap=0 then a else a.map (·.add (0*n)))=a') :
 (execOp (ev σ) ⟨dst,.slice t x none (some y) none,ty,pos,af,g⟩).run P w=.ok (.value (.slice a' hi cap)) w:=by
 subst c;subst h;simp[execOp,d,f,Instr.sliceAt,Instr.slice,run_underlying j,Instr.sliceBounds,Instr.sliceBound,asIntOf,b,i.run]
theorem AL {ad:Addr} {v:Value} (c:ev σ x=.pointer (some ad)) (a:DW P t=true) (b:w.cell? ad=some v) :
 (execOp (ev σ) ⟨dst,.load t x,ty,pos,af,g⟩).run P w=.ok (.value v) w:=by
 simp[execOp,c,Instr.loadAt,Instr.sureAddr,loadVar,DW.run a,b]
theorem AK {b o n:Nat} {vs:List Value} (e:ev σ x=.pointer (some ⟨b,o,none⟩)) (a:Hh P t=true) (h:Df P t n) (hn:vs.length=n) (c:BA w b o vs) :
 (execOp (ev σ) ⟨dst,.load t x,ty,pos,af,g⟩).run P w=.ok (.value (.agg vs.toArray)) w:=by
 subst hn;have d:=run_loadCells_list (P:=P) w ⟨b,o,none⟩ vs (λj v f=>by rw[Addr.add_lit];exact c j v f);simp[execOp,e,Instr.loadAt,Instr.sureAddr,loadVar,Hh.run a,h.run,d]
theorem Dx {b:Fn} {first a:List Operand} {vs us:List Value} (d:first.map (ev σ)=vs) (c:a.map (ev σ)=us) :
 (execOp (ev σ) ⟨dst,.makeFunc b first.toArray a.toArray,ty,pos,af,g⟩).run P w=.ok (.value (.func b vs.toArray us.toArray)) w:=by
 subst d;subst c;simp[execOp,Instr.makeFunc]
theorem A2 {i:Nat} {vs:Array Value} {v:Value} (b:ev σ x=.tuple vs) (a:vs[i]?=some v) :
 (execOp (ev σ) ⟨dst,.extract x i,ty,pos,af,g⟩).run P w=.ok (.value v) w:=by
 simp[execOp,b,Instr.extract,a]
theorem BJ {parts:List (Nat×Operand)} {ps:List (Nat×Value)} {v:Value} (a:(parts.map λ(i,x)=>(i,ev σ x))=ps) (hb:(Instr.build t ps.toArray).run P w=.ok v w) :
 (execOp (ev σ) ⟨dst,.build t parts.toArray,ty,pos,af,g⟩).run P w=.ok (.value v) w:=by
 subst a;simp[execOp,hb]
theorem HR {f : FuncId} {a : Func} {vs : Array Value} (b : P.funcs[f]? = some a) (hn : (a.name == "runtime.NumGoroutine") = false) (hb : a.body.isNone = false) :
 (callFunc f vs).run P w=.ok (.enter f vs) w:=by
 simp only[callFunc,Sem.run_bind,run_program,Result.andThen_ok,b,hn,hb,Bool.false_eq_true,if_false];rfl
theorem AI {f : FuncId} {a : Func} {args : List Operand} {tys : Array TypeId} {vs : List Value} (b : P.funcs[f]? = some a) (hn : (a.name == "runtime.NumGoroutine") = false) (hb : a.body.isNone = false) (c : args.map (ev σ) = vs) :
 (execOp (ev σ) ⟨dst,.call ⟨.value (.func f),args.toArray,tys⟩,ty,pos,af,g⟩).run P w=.ok (.enter f vs.toArray) w:=by
 subst c;simp[execOp,resolve,ev,Deferred.ofValue,invoke,HR b hn hb]
theorem Qd {f : FuncId} {a : Func} {z : Operand} {args : List Operand} {tys : Array TypeId} {first cap ws : Array Value} {vs : List Value} (e : ev σ z = .func (.func f) first cap) (c : P.funcs[f]? = some a) (hn : (a.name == "runtime.NumGoroutine") = false) (hb : a.body.isNone = false) (d : args.map (ev σ) = vs) (b : first ++ vs.toArray ++ cap = ws) :
 (execOp (ev σ) ⟨dst,.call ⟨.value z,args.toArray,tys⟩,ty,pos,af,g⟩).run P w=.ok (.enter f ws) w:=by
 subst d;subst b;simp[execOp,resolve,e,Deferred.ofValue,invoke,HR c hn hb]
end
section
variable {P : Program} {N : Nat} {Q : Dn} {σ : CC} {w : World} {K : CC → World → Prop} {ops : Array Oper} {rest : List Oper} {d : Nat} {ty : TypeId} {pos : String} {af : Array Edge} {t : TypeId} {x y : Operand}
theorem BL {v:Value} {c:Array Value} (e:d<N) (f:ev σ x=v) (a:v.cells=c) (k:∀b w',New w w' b c t->DT P N ops K Q rest (Eo σ d (.pointer (some ⟨b,0,none⟩))) w') :
 DT P N ops K Q (⟨some d,.box t x,ty,pos,af,none⟩::rest) σ w:=by
 subst a;refine Bn (v:=.pointer (some ⟨w.heap.size,0,none⟩)) (w':={w with heap:=w.heap.push (.cells v.cells t (0,0))}) O O e ?_ (k _ _ (New.mk' w v.cells t));simp[execOp,f,Instr.box,newVar,newRow]
theorem Bg {z:Value} {c:Array Value} (e:d<N) (f:Ex P t z) (a:z.cells=c) (k:∀b w',New w w' b c t->DT P N ops K Q rest (Eo σ d (.pointer (some ⟨b,0,none⟩))) w') :
 DT P N ops K Q (⟨some d,.alloc t,ty,pos,af,none⟩::rest) σ w:=by
 subst a;refine Bn (v:=.pointer (some ⟨w.heap.size,0,none⟩)) (w':={w with heap:=w.heap.push (.cells z.cells t (0,0))}) O O e ?_ (k _ _ (New.mk' w z.cells t));simp[execOp,Instr.alloc,f.run,newVar,newRow]
theorem Bb {b o:Nat} {v:Value} {c c':Array Value} {e:TypeId} (j:ev σ x=.pointer (some ⟨b,o,none⟩)) (l:ev σ y=v) (f:v.oneCell'=true) (n:Df P t 1) (g:BH w b c e) (m:o<c.size) (h:c.setIfInBounds o v=c')
 (k:∀w',Put w w' b c' e->DT P N ops K Q rest σ w'):DT P N ops K Q (⟨none,.store t x y,ty,pos,af,none⟩::rest) σ w:=by
 subst h;refine Ir (w':=w.setRow b (c.setIfInBounds o v)) O O ?_ (k _ (Put.of_setRow g _));have d:v.cells=#[v]:=by cases v<;>first|rfl|(simp[Value.oneCell'] at f;done)
 have a:=run_storeCells_at P b o e [v] 0 c w g (by simp;omega) (by simpa using f);have i:(c.toList.take (o+0)++[v]++c.toList.drop (o+0+[v].length)).toArray=c.setIfInBounds o v:=by
  apply Array.ext';simp only[Nat.add_zero,List.length_singleton,Array.toList_setIfInBounds];rw[List.set_eq_take_append_cons_drop,if_pos (by simpa using m)];simp
 rw[i] at a;simp[execOp,j,l,Instr.storeAt,Instr.sureAddr,storeVar,n.run,d,a]
theorem Ab {b o n:Nat} {vs c c':Array Value} {e:TypeId} (f:ev σ x=.pointer (some ⟨b,o,none⟩)) (g:ev σ y=.agg vs) (l:∀v∈vs.toList,v.oneCell'=true) (h:Df P t n) (hn:vs.size=n) (d:BH w b c e) (j:o+n<=c.size) (i:(c.toList.take o++vs.toList++c.toList.drop (o+n)).toArray=c')
 (k:∀w',Put w w' b c' e->DT P N ops K Q rest σ w'):DT P N ops K Q (⟨none,.store t x y,ty,pos,af,none⟩::rest) σ w:=by
 subst i;subst hn;refine Ir (w':=w.setRow b _) O O ?_ (k _ (Put.of_setRow d _));have a:=run_storeCells_at P b o e vs.toList 0 c w d (by simpa using j) l;simp only[Nat.add_zero,Array.length_toList] at a;simp[execOp,f,g,Instr.storeAt,Instr.sureAddr,storeVar,h.run,Value.cells,a]
theorem As {z v:Value} {n:Nat} {c:Array Value} {j:TypeId} {f:String} {l:Array Edge} (q:d<N) (A:Ex P t z) (h:z.cells.size=n) (B:Df P t n) (p:ev (Eo σ d (.pointer (some ⟨w.heap.size,0,none⟩))) y=v) (o:v.cells=c) (hn:c.size=n) (m:∀u∈c.toList,u.oneCell'=true)
 (k:∀b w',New w w' b c t->DT P N ops K Q rest (Eo σ d (.pointer (some ⟨b,0,none⟩))) w') :
 DT P N ops K Q (⟨some d,.alloc t,ty,pos,af,none⟩::⟨none,.store t (.tmp d) y,j,f,l,none⟩::rest) σ w:=by
 subst o;refine Bn (v:=.pointer (some ⟨w.heap.size,0,none⟩)) (w':={w with heap:=w.heap.push (.cells z.cells t (0,0))}) O O q ?_ ?_
 .simp[execOp,Instr.alloc,A.run,newVar,newRow]
 .refine Ir (w':={w with heap:=w.heap.push (.cells v.cells t (0,0))}) O O ?_ (k _ _ (New.mk' w v.cells t));have r:BH {w with heap:=w.heap.push (.cells z.cells t (0,0))} w.heap.size z.cells t:=(New.mk' w z.cells t).blk;have g:=run_storeCells_at P w.heap.size 0 t v.cells.toList 0 z.cells _ r (by simp[hn,h]) m;have hd:ev (Eo σ d (.pointer (some ⟨w.heap.size,0,none⟩))) (.tmp d)=.pointer (some ⟨w.heap.size,0,none⟩):=by simp[ev,Eo]
  have s:World.setRow {w with heap:=w.heap.push (.cells z.cells t (0,0))} w.heap.size (z.cells.toList.take (0+0)++v.cells.toList++z.cells.toList.drop (0+0+v.cells.toList.length)).toArray={w with heap:=w.heap.push (.cells v.cells t (0,0))}:=by
   have e:(z.cells.toList.take (0+0)++v.cells.toList++z.cells.toList.drop (0+0+v.cells.toList.length)).toArray=v.cells:=by
    apply Array.ext';simp[hn,<-h]
   rw[e];simp only[World.setRow];congr 1;apply Array.ext
   .simp
   .intro i m x;simp only[Array.getElem_modify,Array.getElem_push];by_cases hi:i<w.heap.size
    .simp[hi,Nat.ne_of_gt hi]
    .have:i=w.heap.size:=by simp at x;omega
     simp[this]
  rw[s] at g;have a:(storeCells ⟨w.heap.size,0,none⟩ v.cells.toList).run P (w.alloc (.cells z.cells t))=.ok () (w.alloc (.cells v.cells t)):=g;simp[execOp,hd,p,Instr.storeAt,Instr.sureAddr,storeVar,B.run,hn,a]
theorem A3 {e:TypeId} {len n:Nat} {z:Value} {parts:List (Nat×Operand)} {ps:List (Nat×Value)} {c:Array Value} (j:d<N) (h:(parts.map λ(i,x)=>(i,ev σ x))=ps) (g:P.underlying t=some (.slice e)) (o:Df P e n) (m:Ex P e z) (l:¬(len*n > 2 ^ 24)) (f:len*n≠0)
 (a:Instr.fill (λi=>some (i*n,n)) ((Array.range (len*n)).map (z.cells[· % z.cells.size]!)) ps=some c)
 (k:∀b w',New w w' b c e->DT P N ops K Q rest (Eo σ d (.slice (some ⟨b,0,none⟩) len len)) w'):DT P N ops K Q (⟨some d,.buildSlice t len parts.toArray,ty,pos,af,none⟩::rest) σ w:=by
 subst h;refine Bn (v:=.slice (some ⟨w.heap.size,0,none⟩) len len) (w':={w with heap:=w.heap.push (.cells c e (0,0))}) O O j ?_ (k _ _ (New.mk' w c e));simp only[execOp,Instr.buildSlice,List.map_toArray,Sem.run_bind,run_underlying g,Result.andThen_ok,o.run,l,f,if_false,Sem.run_pure,m.run,a];simp[newRow]
end
theorem Ey {P:Program} {ops:Array Oper} {w:World} {R R':Act->Prop} (h:∀a,R a->R' a):∀(l:List Oper) (a:Act),wpStill P ops w R l a->wpStill P ops w R' l a
 | [],a,hr=>h a hr
 | o::rest,a,hr=>by
  unfold wpStill at hr⊢;split
  .rename_i b
   rw[if_pos b] at hr;exact Oper.still_mono (λa'=>Ey h rest a') hr
  .rename_i b
   rw[if_neg b] at hr;exact Ey h rest _ hr
def Yb (P:Program) (N:Nat) (ops:Array Oper) (w:World) (K:CC->Prop) (l:List Oper) (σ:CC):Prop:=
  ∀dz a,Ok dz N a->DQ a=σ->wpStill P ops w (λa'=>Ok dz N a'∧K (DQ a')) l a
def QF (P:Program) (N:Nat) (ops:Array Oper) (w:World) (K:CC->World->Prop) (Q:Dn):Nat->List Oper->CC->Prop
  | n,l,σ=>Yb P N ops w (λσ'=>DT P N ops K Q (l.drop n) σ' w) (l.take n) σ
section
variable {P : Program} {N : Nat} {Q : Dn} {σ : CC} {w : World} {K : CC → World → Prop} {ops : Array Oper} {rest : List Oper} {n : Nat}
theorem C8 {l:List Oper} (h:DT P N ops K Q l σ w):QF P N ops w K Q 0 l σ:=λdz a c b=>by
 simp only[List.take_zero,List.drop_zero];exact ⟨c,b▸h⟩
theorem V5 {o:Oper} (f:o.guard=none) {d:Nat} (hd:o.dst=some d) (e:d<N) {v:Value}
 (g:(execOp (ev σ) o).run P w=.ok (.value v) w) (k:QF P N ops w K Q n rest (Eo σ d v)):QF P N ops w K Q (n+1) (o::rest) σ:=by
 intro h a c b;simp only[List.take_succ_cons,List.drop_succ_cons];unfold wpStill;rw[if_pos (by simp[Region.wanted,f])];unfold Oper.still;rw[DK,b,g];refine ⟨O,?_⟩;rw[hd];exact k h _ (c.put _ _) (by rw[EF c e,b])
theorem SK {o:Oper} (hg:o.guard=none) {d:Nat} (hd:o.dst=some d) (hN:d<N) {f:FuncId} {args:Array Value} {v:Value}
    (hr:(execOp (ev σ) o).run P w=.ok (.enter f args) w) (hc:Bi P f args w λv' w'=>v'=v∧w'=w) (k:QF P N ops w K Q n rest (Eo σ d v)):QF P N ops w K Q (n+1) (o::rest) σ:=by
  intro dz a ha he;simp only[List.take_succ_cons,List.drop_succ_cons];unfold wpStill;rw[if_pos (by simp[Region.wanted,hg])];unfold Oper.still;rw[DK,he,hr];refine ⟨O,v,Calls.mono hc ?_,?_⟩
  · rintro e w' ⟨v',rfl,rfl,rfl⟩;exact ⟨O,O⟩
  · rw[hd];exact k dz _ (ha.put _ _) (by rw[EF ha hN,he])
theorem Bm {d:Nat} {op:Op} {ty:TypeId} {pos:String} {af:Array Edge} {j:Nat} {b:Bool} {oj:Oper} {e:Nat} {gv u:Value}
 (i:ops[j]?=some oj) (c:oj.dst=some e) (v:e<N) (hd:d<N) (q:σ e=gv)
 (h:(gv=.bool b∧(execOp (ev σ) ⟨some d,op,ty,pos,af,none⟩).run P w=.ok (.value u) w)∨((gv=.bool (!b)∨gv=undef)∧u=undef))
 (k:QF P N ops w K Q n rest (Eo σ d u)):QF P N ops w K Q (n+1) (⟨some d,op,ty,pos,af,some (j,b)⟩::rest) σ:=by
 intro t a o g;simp only[List.take_succ_cons,List.drop_succ_cons];have p:=k t _ (o.put (some d) u) (by rw[EF o hd,g]);have x:a.tmps.getD e undef=gv:=by rw[<-q,<-g];rfl
 have f:e<a.tmps.size:=by rw[o.size];exact v
 have l:a.tmps[e]?=some gv:=by rw[Array.getElem?_eq_getElem f];simpa[f] using x
 unfold wpStill;rcases h with ⟨m,s⟩|⟨m,rfl⟩
 .subst m;rw[if_pos (by simp[Region.wanted,yielded,i,c,l])];unfold Oper.still;have r:(execOp a.eval ⟨some d,op,ty,pos,af,some (j,b)⟩).run P w=.ok (.value u) w:=by rw[DK,g];exact s
  rw[r];exact ⟨O,p⟩
 .rw[if_neg]
  .exact p
  .rcases m with rfl|rfl
   .cases b<;>simp[Region.wanted,yielded,i,c,l]
   .simp[Region.wanted,yielded,i,c,l,undef]
theorem B_ {dst:Option Tmp} {op:Op} {ty:TypeId} {pos:String} {af:Array Edge} {j:Nat} {b:Bool} {oj:Oper} {c:Nat}
 (i:ops[j]?=some oj) (f:oj.dst=some c) (m:c<N) (l:σ c=.bool b)
 (k:QF P N ops w K Q (n+1) (⟨dst,op,ty,pos,af,none⟩::rest) σ):QF P N ops w K Q (n+1) (⟨dst,op,ty,pos,af,some (j,b)⟩::rest) σ:=by
 intro q a h g;have e:=k q a h g;simp only[List.take_succ_cons,List.drop_succ_cons] at e⊢;have o:a.tmps.getD c undef=.bool b:=by rw[<-l,<-g];rfl
 have d:c<a.tmps.size:=by rw[h.size];exact m
 have p:a.tmps[c]?=some (.bool b):=by rw[Array.getElem?_eq_getElem d];simpa[d] using o
 unfold wpStill at e⊢;rw[if_pos (by simp[Region.wanted,yielded,i,f,p])];rw[if_pos (by rfl)] at e;exact e
theorem CI {d:Nat} {op:Op} {ty:TypeId} {pos:String} {af:Array Edge} {j:Nat} {b:Bool} {oj:Oper} {c:Nat} {v:Value}
 (f:ops[j]?=some oj) (a:oj.dst=some c) (hd:d<N∧c<N) (g:σ c=v) (e:v=.bool (!b)∨v=undef)
 (k:QF P N ops w K Q n rest (Eo σ d undef)):QF P N ops w K Q (n+1) (⟨some d,op,ty,pos,af,some (j,b)⟩::rest) σ:=
 Bm f a hd.2 hd.1 g (.inr ⟨e,O⟩) k
theorem GO (w:World):Ae w {w with drawn:=w.drawn+1}:=⟨O,O,O,Nat.le_succ _,Nat.le_refl _,λ_ _ _=>rfl⟩
theorem E4 {j:Nat} {l:List Oper} (n:Nat) (k:P.follows .mixedOrders=true) (m:Region.lexTailB .any l.toArray n=true)
 (h:∀w',Ae w w'->w'.heap=w.heap->QF P N l.toArray w' (Q .normal) Q n l σ):Wp P N (.region j l.toArray true) Q σ w:=by
 intro b a g d;have e:Dk b N (Li (Q .normal) Q)=Dk b N Q:=by funext e a w;cases e<;>rfl
 refine wp_region_still_tail n k m ?_;have i:=h _ (GO w) O b a g d;have:(λa'=>Ok b N a'∧DT P N l.toArray (Q .normal) Q (l.drop n) (DQ a') {w with drawn:=w.drawn+1})=(λa'=>Ok b N a'∧DT P N l.toArray (Q .normal) Q (l.drop n) (DQ a') {w with drawn:=w.drawn+1}):=rfl;refine Ey ?_ _ _ i;rintro a' ⟨c,f⟩;have:=f b a' c O
 rwa [e] at this
theorem El {g:Nat} {l:List Oper} {y:Code} (n:Nat) (t:P.follows .mixedOrders=true) (u:Region.lexTailB .any l.toArray n=true)
 (h:∀w',Ae w w'->w'.heap=w.heap->QF P N l.toArray w' (Wp P N y Q) Q n l σ):Wp P N (.seq (.region g l.toArray true) y) Q σ w:=by
 refine AG (E4 n t u λw' e f=>?_);have:Li (Wp P N y Q) Q .normal=Wp P N y Q:=rfl;intro o a q c;have r:=h w' e f o a q c;refine Ey ?_ _ _ r;rintro a' ⟨d,p⟩;refine ⟨d,λb j s k=>?_⟩;have m:=p b j s k;have i:Dk b N (Li (Li (Wp P N y Q) Q .normal) (Li (Wp P N y Q) Q))=Dk b N (Li (Wp P N y Q) Q):=by funext e a w;cases e<;>rfl
 rw[i];exact m
end
theorem A8 {n:Int} (h : -9223372036854775808<=n∧n<=9223372036854775807):IntKind.i64.wrap n=n:=by
 simp only[IntKind.wrap,IntKind.bits,IntKind.signed,Bool.true_and,Bool.false_and,decide_eq_true_eq,ge_iff_le,Int.reducePow,Nat.reduceSub,Bool.false_eq_true,if_false];split<;>omega
theorem XT {n:Int} (h:0<=n∧n<=18446744073709551615):IntKind.u64.wrap n=n:=by
 simp only[IntKind.wrap,IntKind.bits,IntKind.signed,Bool.true_and,Bool.false_and,decide_eq_true_eq,ge_iff_le,Int.reducePow,Nat.reduceSub,Bool.false_eq_true,if_false];omega
theorem PQ {n:Int} (h:0<=n∧n<=4294967295):IntKind.u32.wrap n=n:=by
 simp only[IntKind.wrap,IntKind.bits,IntKind.signed,Bool.true_and,Bool.false_and,decide_eq_true_eq,ge_iff_le,Int.reducePow,Nat.reduceSub,Bool.false_eq_true,if_false];omega
theorem JV {P:Program} {N:Nat} {Q:Dn} {σ:CC} {w:World} {x y:Code} (J:CC->World->Prop) (h:Wp P N x (Li J Q) σ w) (k:∀σ' w',J σ' w'->Wp P N y Q σ' w'):Wp P N (.seq x y) Q σ w:=
 AG (RE h λe σ' w' q=>by cases e<;>first|exact k _ _ q|exact q)
theorem UG {P:Program} {d:Func} {R:Value->World->Prop} {t u s:Nat} (g:d.results=#[.tmp t,.tmp u,.tmp s]) {σ:CC} {w:World} {v v' v'':Value} (e:σ t=v) (c:σ u=v') (b:σ s=v'') (h:R (.tuple #[v,v',v'']) w):Uk P d R .ret σ w:=
 ⟨.tuple #[v,v',v''],λa f=>by subst f;rw[<-e,<-c,<-b];simp[results,g,DQ],h⟩
theorem Jd {P:Program} {w:World} {b o n:Nat} {t:TypeId} {vs:List Value} (a:Hh P t=true) (f:Df P t n) (hn:vs.length=n) (c:BA w b o vs):(loadVar t ⟨b,o,none⟩).run P w=.ok (.agg vs.toArray) w:=by
 subst hn;have d:=run_loadCells_list (P:=P) w ⟨b,o,none⟩ vs (λj v e=>by rw[Addr.add_lit];exact c j v e);simp[loadVar,Hh.run a,f.run,d]
theorem A1 {P:Program} {e:Func} {R:Value->World->Prop} {d t b n:Nat} (i:e.results=#[.cell d t]) {σ:CC} {w:World} {vs:List Value} (j:σ d=.pointer (some ⟨b,0,none⟩)) (f:Hh P t=true) (l:Df P t n) (hn:vs.length=n) (g:BA w b 0 vs) (h:R (.agg vs.toArray) w):Uk P e R .ret σ w:=
 ⟨.agg vs.toArray,λa k=>by
  subst k;have c:a.tmps.getD d undef=.pointer (some ⟨b,0,none⟩):=j;simp only[Array.getD_eq_getD_getElem?] at c;simp[results,i,c,asAddr,Jd f l hn g],h⟩
theorem D6 {P:Program} {g:Func} {R:Value->World->Prop} {d t b n u:Nat} (k:g.results=#[.cell d t,.tmp u]) {σ:CC} {w:World} {vs:List Value} {v':Value} (l:σ d=.pointer (some ⟨b,0,none⟩)) (i:Hh P t=true) (o:Df P t n) (hn:vs.length=n) (j:BA w b 0 vs) (c:σ u=v') (h:R (.tuple #[.agg vs.toArray,v']) w):Uk P g R .ret σ w:=
 ⟨.tuple #[.agg vs.toArray,v'],λa m=>by
  subst m;have e:a.tmps.getD d undef=.pointer (some ⟨b,0,none⟩):=l;have f:a.tmps.getD u undef=v':=c;simp only[Array.getD_eq_getD_getElem?] at e f;simp[results,k,e,f,asAddr,Jd i o hn j],h⟩
abbrev I6 (x:Int):Value:=.int .i64 x
abbrev P6 (b o:Nat):Value:=.pointer (some ⟨b,o,none⟩)
abbrev nU (b:Bool) (v:Value):Value:=bif b then undef else v
abbrev yU (b:Bool) (v:Value):Value:=bif b then v else undef
section
variable {P : Program} {N : Nat} {Q : Dn} {σ : CC} {w : World} {K : CC → World → Prop} {ops : Array Oper} {rest : List Oper} {n d : Nat} {op : Op} {ty : TypeId} {pos : String} {af : Array Edge} {v : Value} {x : Operand}
theorem qV {w':World} (hr:(execOp (ev σ) ⟨some d,op,ty,pos,af,none⟩).run P w=.ok (.value v) w') (k:DT P N ops K Q rest (Eo σ d v) w') (hN:d<N:=by decide):DT P N ops K Q (⟨some d,op,ty,pos,af,none⟩::rest) σ w:=Bn rfl rfl hN hr k
theorem qT (hr:(execOp (ev σ) ⟨some d,op,ty,pos,af,none⟩).run P w=.ok (.value v) w) (k:QF P N ops w K Q n rest (Eo σ d v)) (hN:d<N:=by decide):QF P N ops w K Q (n+1) (⟨some d,op,ty,pos,af,none⟩::rest) σ:=V5 rfl rfl hN hr k
theorem qM (v:Value) (hx:ev σ x=v) (k:DT P N ops K Q rest (Eo σ d v) w) (hN:d<N:=by decide):DT P N ops K Q (⟨some d,.move x,ty,pos,af,none⟩::rest) σ w:=qV (Ai hx) k hN
theorem qA (v:Value) (hx:ev σ x=v) (k:DT P N ops K Q rest (Eo σ d v) w) (hN:d<N:=by decide):DT P N ops K Q (⟨some d,.assign x,ty,pos,af,none⟩::rest) σ w:=qV (Dq hx) k hN
theorem gA {A:Prop} {v:Value}:A∨((v=v∨v=undef)∧undef=undef):=.inr ⟨.inl O,O⟩
theorem gB {A:Prop} {u:Value}:A∨((undef=u∨undef=undef)∧undef=undef):=.inr ⟨.inr O,O⟩
theorem qG {j:Nat} {b:Bool} {oj:Oper} {dj:Nat} (gv u:Value)
    (h:(gv=.bool b∧(execOp (ev σ) ⟨some d,op,ty,pos,af,none⟩).run P w=.ok (.value u) w)∨((gv=.bool (!b)∨gv=undef)∧u=undef))
    (k:DT P N ops K Q rest (Eo σ d u) w) (hj:ops[j]?=some oj:=by rfl) (hdj:oj.dst=some dj:=by rfl) (hN:dj<N:=by decide) (hd:d<N:=by decide) (hy:σ dj=gv:=by rfl):DT P N ops K Q (⟨some d,op,ty,pos,af,some (j,b)⟩::rest) σ w:=LY hj hdj hN hd hy h k
theorem qF {t:TypeId} {fs:Array Field} {f:Field} {i m:Nat} (b o o':Nat) (hx:ev σ x=.pointer (some ⟨b,o,none⟩)) (hu:P.underlying t=some (.struct fs)) (hf:fs[i]?=some f) (hs:Df P f.type (m+1)) (ho:o+f.offset=o')
    (k:DT P N ops K Q rest (Eo σ d (.pointer (some ⟨b,o',none⟩))) w) (hN:d<N:=by decide):DT P N ops K Q (⟨some d,.fieldAddr t x i,ty,pos,af,none⟩::rest) σ w:=qV (AY hx hu hf hs ho) k hN
end
end Go.Eng
namespace Go.Eng
open Go
theorem qC {P : Program} {N : Nat} {Q : Dn} {σ : CC} {w : World} {c : Operand} {x y : Code} {p : Prop} [Decidable p] (hc : ev σ c = .bool (decide p)) (ht : p → Wp P N x Q σ w) (hf : ¬ p → Wp P N y Q σ w) : Wp P N (.cond c x y) Q σ w := A_ hc (fun h => ht (of_decide_eq_true h)) fun h => hf (of_decide_eq_false h)
theorem Qo {a b : Nat} (h : Nat.ble a b = true) : a ≤ b := Nat.le_of_ble_eq_true h
theorem qR {P : Program} {f : FuncId} {fn : Func} {c : Code} {N : Nat} {args : Array Value} {w : World} {R : Value → World → Prop} (hf : P.funcs[f]? = some fn) (hb : fn.body = some c) (hn : fn.ntmps = N) (hsz : Nat.ble args.size N = true) (h : Chg Ak w w → Wp P N c (Uk P fn R) (fun t => args.getD t undef) w) : Bi P f args w R := EY hf hb hn (Qo hsz) (h (Chg.refl _ _))
theorem qE {P : Program} {N : Nat} {Q : Dn} {σ : CC} {w : World} {K : CC → World → Prop} {ops : Array Oper} {rest : List Oper} {d : Nat} {op : Op} {ty : TypeId} {pos : String} {af : Array Edge} {f : FuncId} {args : Array Value} {R : Value → World → Prop} (hN : Nat.ble (d + 1) N = true) (hr : (execOp (ev σ) ⟨some d, op, ty, pos, af, none⟩).run P w = .ok (.enter f args) w) (hc : Bi P f args w R) (k : ∀ v w', R v w' → DT P N ops K Q rest (Eo σ d v) w') : DT P N ops K Q (⟨some d, op, ty, pos, af, none⟩ :: rest) σ w := Mh rfl rfl (Qo hN) hr hc k
theorem BC {a b : Bool} (h : a = b) : Value.bool a = Value.bool b := congrArg Value.bool h
theorem qQ {p : Prop} (h : p := by first | exact Or.inl (by omega) | exact Or.inr rfl | exact Or.inr (by assumption) | exact Or.inr (by simp) | exact Or.inr (by omega) | exact Or.inr (by dsimp only; omega)) : p := h
theorem qS {p : Prop} (h : p := by simp [Value.oneCell']) : p := h
theorem qL {p : Prop} (h : p := by first | (simp; done) | exact Nat.le_of_ble_eq_true rfl) : p := h
end Go.Eng
namespace Go.Eng
open Go
inductive Re where
  | mk (kind:Int) (set:List (Int×Int)) (args:List Re) (mn mx:Int) (neg:Bool)
namespace Re
def kind:Re->Int | .mk k _ _ _ _ _=>k
def set:Re->List (Int×Int) | .mk _ s _ _ _ _=>s
def args:Re->List Re | .mk _ _ a _ _ _=>a
def mn:Re->Int | .mk _ _ _ m _ _=>m
def mx:Re->Int | .mk _ _ _ _ m _=>m
def neg:Re->Bool | .mk _ _ _ _ _ n=>n
mutual
def size:Re->Nat
  | .mk _ _ a _ _ _=>sizes a+1
def sizes:List Re->Nat
  | []=>0
  | t::ts=>size t+sizes ts
end
theorem size_pos (t:Re):0<t.size:=by cases t;simp[size]
theorem size_eq (t:Re):t.size=sizes t.args+1:=by cases t;rfl
theorem sizes_get {b:List Re} {i:Nat} {t:Re} (h:b[i]?=some t):t.size<=sizes b:=by
 induction b generalizing i with
 | nil=>simp at h
 | cons a r ih=>
  cases i with
  | zero=>simp at h;subst h;simp[sizes]
  | succ i=>simp at h;have:=ih h;simp[sizes];omega
theorem size_arg {t:Re} {i:Nat} {x:Re} (h:t.args[i]?=some x):x.size<t.size:=by
 have:=sizes_get h;rw[size_eq t];omega
theorem sizes_append (a b:List Re):sizes (a++b)=sizes a+sizes b:=by
 induction a with
 | nil=>simp[sizes]
 | cons x r ih=>simp[sizes,ih];omega
end Re
abbrev R6 (t:Re) (sa:Option Addr) (sc:Nat) (aa:Option Addr) (ac:Nat):Array Value:=#[.int .i64 t.kind,.slice sa t.set.length sc,.slice aa t.args.length ac,.int .i64 t.mn,.int .i64 t.mx,.bool t.neg]
theorem AM {α:Type} {l:List α} {i:Nat} {y:α} (h:l[i]?=some y):i<l.length:=by
 rcases Nat.lt_or_ge i l.length with a|a
 .exact a
 .simp[List.getElem?_eq_none a] at h
def BR (w:World) (k:Nat) (v:Value) (rows:List (List Value)):Prop:=
 ∃a cap,v=.slice a rows.length cap∧rows.length<=9223372036854775807∧rows.length<=cap∧(rows=[]∨∃b o,a=some ⟨b,o,none⟩∧∀i r,rows[i]?=some r->BA w b (o+i*k) r)
theorem BR.ext {w w':World} {k:Nat} {v:Value} {rows:List (List Value)} (h:BR w k v rows) (e:Ae w w'):BR w' k v rows:=by
 obtain ⟨a,cap,f,j,c,h⟩:=h;refine ⟨a,cap,f,j,c,?_⟩;rcases h with h|⟨b,o,g,c⟩
 .exact .inl h
 .exact .inr ⟨b,o,g,λi r d=>(c i r d).ext e⟩
theorem BR.nil (w:World) (k:Nat) (a:Option Addr) (cap:Nat):BR w k (.slice a 0 cap) []:=⟨a,cap,O,qP,qP,.inl O⟩
theorem BR.at {w:World} {k:Nat} {a:Option Addr} {n cap:Nat} {rows:List (List Value)} (h:BR w k (.slice a n cap) rows) (hn:0<n) :
 ∃b o,a=some ⟨b,o,none⟩∧∀i r,rows[i]?=some r->BA w b (o+i*k) r:=by
 obtain ⟨a',cap',c,_,_,h⟩:=h;simp only[Value.slice.injEq] at c;obtain ⟨rfl,rfl,rfl⟩:=c;rcases h with rfl|h
 .simp at hn
 .exact h
theorem BR.le {w:World} {k:Nat} {v:Value} {rows:List (List Value)} (h:BR w k v rows):rows.length<=9223372036854775807:=let ⟨_,_,_,h,_⟩:=h;h
theorem BR.cap {w:World} {k:Nat} {a:Option Addr} {n c:Nat} {rows:List (List Value)} (h:BR w k (.slice a n c) rows):n<=c∧rows.length=n:=by
 obtain ⟨a',cap',b,_,d,_⟩:=h;simp only[Value.slice.injEq] at b;obtain ⟨rfl,rfl,rfl⟩:=b;exact ⟨d,O⟩
theorem BR.cut {w:World} {k:Nat} {a a':Option Addr} {n c lo hi n' c':Nat} {rows:List (List Value)} (h:BR w k (.slice a n c) rows) (h1:lo<=hi) (h2:hi<=n) (ha:(if c=lo then a else a.map (·.add (lo*k)))=a') (hn:hi - lo=n') (hc:c - lo=c') :
  BR w k (.slice a' n' c') ((rows.drop lo).take n'):=by
 obtain ⟨h3,h4⟩:=h.cap;have hl:=h.le;have aa:((rows.drop lo).take n').length=n':=by simp;omega
 refine ⟨a',c',by rw[aa],by rw[aa];omega,by rw[aa];omega,?_⟩;rcases Nat.eq_zero_or_pos n' with h0|h0
 ·left;subst h0;simp
 ·obtain ⟨b,o,rfl,ab⟩:=h.at qO;rw[if_neg qO] at ha;refine .inr ⟨b,o+lo*k,?_,λi r hr=>?_⟩
  ·rw[<-ha];simp[Addr.add_lit]
  ·have ac:=AM hr;rw[aa] at ac;rw[List.getElem?_take_of_lt ac,List.getElem?_drop] at hr;have:=ab (lo+i) r hr
   rwa [show o+(lo+i)*k=o+lo*k+i*k from by rw[Nat.add_mul];omega] at this
theorem BR.form {w:World} {k:Nat} {v:Value} {rows:List (List Value)} (h:BR w k v rows):∃a cap,v=.slice a rows.length cap:=let ⟨a,c,h,_⟩:=h;⟨a,c,h⟩
def GJ (x:Int):List Value:=[.int .i64 x]
def BK (s:Int×Int):List Value:=[.int .i64 s.1,.int .i64 s.2]
def BZ (w:World) (v:Value) (l:List Int):Prop:=BR w 1 v (l.map GJ)
def BD (w:World) (v:Value) (l:List (Int×Int)):Prop:=BR w 2 v (l.map BK)
theorem BZ.ext {w w':World} {v:Value} {l:List Int} (h:BZ w v l) (e:Ae w w'):BZ w' v l:=BR.ext h e
theorem BD.ext {w w':World} {v:Value} {l:List (Int×Int)} (h:BD w v l) (e:Ae w w'):BD w' v l:=BR.ext h e
theorem BA.at1 {w:World} {b o:Nat} {x y:Value} (h:BA w b o [x,y]):w.cell? ⟨b,o+1,none⟩=some y:=h 1 y O
theorem BA.at0 {w:World} {b o:Nat} {x:Value} {r:List Value} (h:BA w b o (x::r)):w.cell? ⟨b,o,none⟩=some x:=h 0 x O
theorem Bd {w:World} {a:Option Addr} {n c:Nat} {l:List (Int×Int)} (h:BD w (.slice a n c) l) (hn:0<n) :
 ∃b o,a=some ⟨b,o,none⟩∧∀i s,l[i]?=some s->BA w b (o+i*2) [.int .i64 s.1,.int .i64 s.2]:=by
 obtain ⟨b,o,d,h⟩:=BR.at h hn;exact ⟨b,o,d,λi s e=>h i (BK s) (by simp[e])⟩
mutual
def A4 (w:World):Re->List Value->Prop
  | .mk k set args mn mx ng,vs=>∃sa sc aa ac,vs=[.int .i64 k,.slice sa set.length sc,.slice aa args.length ac,.int .i64 mn,.int .i64 mx,.bool ng]∧BD w (.slice sa set.length sc) set∧(args.length<=ac∧ac<=9223372036854775807)∧
      (args=[]∨∃b o,aa=some ⟨b,o,none⟩∧CB w b o args)
def CB (w:World) (b:Nat):Nat->List Re->Prop
  | _,[]=>True
  | o,t::ts=>(∃vs,BA w b o vs∧A4 w t vs)∧CB w b (o+6) ts
end
mutual
theorem A4.ext {w w':World} (e:Ae w w'):∀(t:Re) {vs:List Value},A4 w t vs->A4 w' t vs
 | .mk k set args mn mx ng,vs,h=>by
  simp only[A4] at h⊢;obtain ⟨sa,sc,aa,ac,a,i,f,c⟩:=h;refine ⟨sa,sc,aa,ac,a,i.ext e,f,?_⟩;rcases c with h|⟨b,o,d,g⟩
  .exact .inl h
  .exact .inr ⟨b,o,d,CB.ext e args g⟩
theorem CB.ext {w w':World} (e:Ae w w') {b:Nat}:∀(a:List Re) {o:Nat},CB w b o a->CB w' b o a
 | [],_,_=>by simp only[CB]
 | t::a,o,h=>by
  simp only[CB] at h⊢;obtain ⟨⟨vs,c,d⟩,f⟩:=h;exact ⟨⟨vs,c.ext e,A4.ext e t d⟩,CB.ext e a f⟩
end
theorem CB.get {w:World} {b:Nat}:∀{a:List Re} {o i:Nat} {t:Re},CB w b o a->a[i]?=some t->∃vs,BA w b (o+i*6) vs∧A4 w t vs
 | [],_,_,_,_,h=>by simp at h
 | x::a,o,0,t,h,hi=>by
  simp only[CB] at h;simp at hi;subst hi;simpa using h.1
 | x::a,o,i+1,t,h,hi=>by
  simp only[CB] at h;have:=CB.get h.2 (i:=i) (by simpa using hi)
  rwa [show o+(i+1)*6=o+6+i*6 from qO]
theorem CB.mk {w:World} {b:Nat}:∀{a:List Re} {o:Nat},(∀i t,a[i]?=some t->∃vs,BA w b (o+i*6) vs∧A4 w t vs)->CB w b o a
 | [],_,_=>by simp only[CB]
 | x::a,o,h=>by
  simp only[CB];refine ⟨by simpa using h 0 x O,CB.mk λi t hi=>?_⟩;have:=h (i+1) t (by simpa using hi)
  rwa [show o+(i+1)*6=o+6+i*6 from qO] at this
theorem A4.form {w:World} {t:Re} {vs:List Value} (h:A4 w t vs):∃sa sc aa ac,vs=[.int .i64 t.kind,.slice sa t.set.length sc,.slice aa t.args.length ac,.int .i64 t.mn,.int .i64 t.mx,.bool t.neg]∧BD w (.slice sa t.set.length sc) t.set∧(t.args.length<=ac∧ac<=9223372036854775807)∧
 (t.args=[]∨∃b o,aa=some ⟨b,o,none⟩∧CB w b o t.args):=by
 cases t;simp only[A4] at h;exact h
theorem A4.of {w:World} {k:Int} {set:List (Int×Int)} {args:List Re} {mn mx:Int} {ng:Bool} {sa aa:Option Addr} {sc ac:Nat} (d:BD w (.slice sa set.length sc) set) (c:(args.length<=ac∧ac<=9223372036854775807)) (a:args=[]∨∃b o,aa=some ⟨b,o,none⟩∧CB w b o args) :
 A4 w (.mk k set args mn mx ng) [.int .i64 k,.slice sa set.length sc,.slice aa args.length ac,.int .i64 mn,.int .i64 mx,.bool ng]:=by
 simp only[A4];exact ⟨sa,sc,aa,ac,O,d,c,a⟩
theorem A4.len {w:World} {t:Re} {vs:List Value} (h:A4 w t vs):vs.length=6:=by
 obtain ⟨_,_,_,_,rfl,_⟩:=h.form;rfl
def Bh (P:Program) (fv:Value) (args:Array Value) (w:World) (R:Value->World->Prop):Prop:=
 ∃ f fn first cap, fv = .func (.func f) first cap ∧ P.funcs[f]? = some fn ∧ (fn.name == "runtime.NumGoroutine") = false ∧ fn.body.isNone = false ∧ Bi P f (first ++ args ++ cap) w R
theorem Bh.mk {P : Program} {f : FuncId} {a : Func} {first cap args ws : Array Value} {w : World} {R : Value → World → Prop} (b : P.funcs[f]? = some a) (hn : (a.name == "runtime.NumGoroutine") = false) (hb : a.body.isNone = false) (c : first ++ args ++ cap = ws) (h : Bi P f ws w R) :
 Bh P (.func (.func f) first cap) args w R:=⟨f,a,first,cap,O,b,hn,hb,c▸h⟩
theorem DN {P:Program} {N:Nat} {Q:Dn} {σ:CC} {w:World} {K:CC->World->Prop} {ops:Array Oper} {rest:List Oper} {d:Nat} {z:Operand} {args:List Operand} {tys:Array TypeId} {ty:TypeId} {pos:String} {af:Array Edge} {fv:Value} {vs:List Value} {R:Value->World->Prop}
 (e:d<N) (h:ev σ z=fv) (g:args.map (ev σ)=vs) (a:Bh P fv vs.toArray w R) (k:∀v w',R v w'->DT P N ops K Q rest (Eo σ d v) w') :
 DT P N ops K Q (⟨some d,.call ⟨.value z,args.toArray,tys⟩,ty,pos,af,none⟩::rest) σ w:=by
 obtain ⟨f,fn,first,cap,rfl,b,hn,hb,c⟩:=a;exact Mh O O e (Qd h b hn hb g O) c k
section
variable {S : Type} (F : S → Re → Bool × S)
mutual
def CU:Re->S->Bool×S
  | .mk k set args mn mx ng,s=>match F s (.mk k set args mn mx ng) with
    | (false,s')=>(false,s')
    | (true,s')=>CO args s'
def CO:List Re->S->Bool×S
  | [],s=>(true,s)
  | t::ts,s=>match CU t s with
    | (false,s')=>(false,s')
    | (true,s')=>CO ts s'
end
theorem Ee (t:Re) (s:S):CU F t s=if (F s t).1 then CO F t.args (F s t).2 else (false,(F s t).2):=by
 cases t;simp only[CU,Re.args];split<;>rename_i h<;>simp[h]
theorem C' (t:Re) (a:List Re) (s:S):CO F (t::a) s=if (CU F t s).1 then CO F a (CU F t s).2 else (false,(CU F t s).2):=by
 simp only[CO];split<;>rename_i h<;>simp[h]
end
def IA {α:Type} (p:α->Bool) (l:List α):Int:=match l.findIdx? p with
  | some i=>i
  | none=>-1
theorem Ha {α:Type} (p:α->Bool) (l:List α):decide (0<=IA p l)=l.any p:=by
 unfold IA;cases h:l.findIdx? p with
 | none=>
  have a:l.any p=false:=by
   rw[List.findIdx?_eq_none_iff] at h;rw[List.any_eq_false];intro x b;simp[h x b]
  rw[a];decide
 | some i=>
  have a:l.any p=true:=by
   rw[List.findIdx?_eq_some_iff_getElem] at h;obtain ⟨hi,c,_⟩:=h;rw[List.any_eq_true];exact ⟨_,List.getElem_mem hi,c⟩
  rw[a];simp
theorem HZ {α:Type} {p:α->Bool} {l:List α} {k:Nat} {x:α} (b:l[k]?=some x) (d:p x=true) (hb:∀i y,i<k->l[i]?=some y->p y=false):IA p l=k:=by
 unfold IA;have a:k<l.length:=by
  rcases Nat.lt_or_ge k l.length with h|h
  .exact h
  .simp[List.getElem?_eq_none h] at b
 have:l.findIdx? p=some k:=by
  rw[List.findIdx?_eq_some_iff_getElem];refine ⟨a,?_,λj c=>?_⟩
  .rw[List.getElem?_eq_getElem a] at b;cases b;exact d
  .have:=hb j l[j] c (List.getElem?_eq_getElem qO);simp[this]
 rw[this]
theorem HA {α:Type} {p:α->Bool} {l:List α} (hb:∀(i:Nat) (y:α),l[i]?=some y->p y=false):IA p l = -1:=by
 unfold IA;have:l.findIdx? p=none:=by
  rw[List.findIdx?_eq_none_iff];intro x a;obtain ⟨i,hi⟩:=List.mem_iff_getElem?.1 a;simp[hb i x hi]
 rw[this]
theorem Bc {a b:Int} (h:a=b):Value.int .i64 a=.int .i64 b:=by rw[h]
theorem BO {a b:Bool} (h:a=b):Value.bool a=.bool b:=by rw[h]
theorem DE {w:World} {a:Option Addr} {n c:Nat} {l:List Int} (h:BZ w (.slice a n c) l) (hn:0<n) :
 ∃b o,a=some ⟨b,o,none⟩∧∀i x,l[i]?=some x->w.cell? ⟨b,o+i,none⟩=some (.int .i64 x):=by
 obtain ⟨b,o,d,h⟩:=BR.at h hn;refine ⟨b,o,d,λi x e=>?_⟩;have:=h i (GJ x) (by simp[e]) 0 _ O;simpa using this
theorem AX {α:Type} {l:List α} {i:Nat} (h:i<l.length):∃x,l[i]?=some x:=⟨_,List.getElem?_eq_getElem h⟩
theorem C7 {α:Type} {l:List α} {k:Nat} {x:α} (h:l[k]?=some x):l.drop k=x::l.drop (k+1):=by
 have a:=AM h;rw[List.drop_eq_getElem_cons a];rw[List.getElem?_eq_getElem a] at h;cases h;rfl
theorem FP {α:Type} {p:α->Bool} {l:List α} {k:Nat} {x:α} (c:l[k]?=some x) (d:p x=false) (b:∀(i:Nat) (y:α),i<k->l[i]?=some y->p y=false):∀(i:Nat) (y:α),i<k+1->l[i]?=some y->p y=false:=by
 intro i y hi a;rcases Nat.lt_or_ge i k with h|h
 .exact b i y h a
 .obtain rfl:i=k:=qO
  rw[c] at a;cases a;exact d
theorem Jc {w:World} {b t k cap:Nat} {rows:List (List Value)} (h:BH w b rows.flatten.toArray t) (f:∀r∈rows,r.length=k) (g:rows.length<=9223372036854775807) (a:rows.length<=cap):BR w k (.slice (some ⟨b,0,none⟩) rows.length cap) rows:=by
 refine ⟨_,cap,O,g,a,.inr ⟨b,0,O,λi r c j u e=>?_⟩⟩;have m:(rows.flatten)[i*k+j]?=some u:=by
  clear h g a
  induction rows generalizing i with
  | nil=>simp at c
  | cons x rs ih=>
   have d:x.length=k:=f x qP;cases i with
   | zero=>
    simp at c;subst c;have l:=AM e;simp only[List.flatten_cons,Nat.zero_mul,Nat.zero_add];rw[List.getElem?_append_left l];exact e
   | succ i=>
    simp at c;simp only[List.flatten_cons];rw[List.getElem?_append_right (by rw[d,Nat.succ_mul];omega)];rw[show (i+1)*k+j - x.length=i*k+j from by rw[d,Nat.succ_mul];omega];exact ih (λr c=>f r (by simp[c])) _ c
 rw[Nat.zero_add];exact h.cell (by simpa using m)
theorem FZ {w:World} {b t cap:Nat} (l:List Int) (h:BH w b (l.map GJ).flatten.toArray t) (d:l.length<=9223372036854775807) (a:l.length<=cap):BZ w (.slice (some ⟨b,0,none⟩) l.length cap) l:=by
 have:=Jc (k:=1) (cap:=cap) h (by intro r c;simp only[List.mem_map] at c;obtain ⟨x,_,rfl⟩:=c;rfl) (by simpa using d) (by simpa using a);simpa[BZ] using this
theorem IF {w:World} {b t cap:Nat} (l:List (Int×Int)) (h:BH w b (l.map BK).flatten.toArray t) (d:l.length<=9223372036854775807) (a:l.length<=cap):BD w (.slice (some ⟨b,0,none⟩) l.length cap) l:=by
 have:=Jc (k:=2) (cap:=cap) h (by intro r c;simp only[List.mem_map] at c;obtain ⟨x,_,rfl⟩:=c;rfl) (by simpa using d) (by simpa using a);simpa[BD] using this
theorem A4.one {w:World} {t:Re} {vs:List Value} (h:A4 w t vs):∀u∈vs,u.oneCell'=true:=by
 obtain ⟨_,_,_,_,rfl,_⟩:=h.form;simp[Value.oneCell']
end Go.Eng
namespace Go.Eng
open Go
def BF:Nat->(Nat->Bool)->Nat
  | 0,_=>0
  | n+1,f=>BF n f+(if f n then 2 ^ n else 0)
theorem Eh (n:Nat) (f:Nat->Bool):BF n f<2 ^ n:=by
 induction n with
 | zero=>simp[BF]
 | succ n ih=>simp only[BF,Nat.pow_succ];split<;>omega
theorem D3 (n:Nat) (f:Nat->Bool) (j:Nat):(BF n f).testBit j=(decide (j<n) && f j):=by
 induction n with
 | zero=>simp[BF]
 | succ n ih=>
  simp only[BF];have a:=Eh n f;have e:BF n f+(if f n then 2 ^ n else 0)=2 ^ n*(if f n then 1 else 0)+BF n f:=by split<;>omega
  rw[e,Nat.testBit_two_pow_mul_add _ a];split
  .rename_i h;rw[ih];simp[h];omega
  .rename_i h
   by_cases c:j=n
   .subst c;simp;cases f j<;>simp
   .have b:¬j<n+1:=qO
    simp only[b,decide_false,Bool.false_and];have:j - n≠0:=qO
    cases f n
    .simp
    .simp only[if_true];rw[show (1:Nat)=2 ^ 0 from O,Nat.testBit_two_pow];simp;omega
theorem FH {x:Nat} {n:Nat} {f:Nat->Bool} (b:x<2 ^ n) (h:∀j,j<n->x.testBit j=f j):x=BF n f:=by
 apply Nat.eq_of_testBit_eq;intro j;rw[D3];by_cases a:j<n
 .simp[a,h j a]
 .simp only[a,decide_false,Bool.false_and];exact Nat.testBit_lt_two_pow (Nat.lt_of_lt_of_le b (Nat.pow_le_pow_right qO qO))
theorem DD {n:Nat} {f g:Nat->Bool} (h:∀j,j<n->f j=g j):BF n f=BF n g:=
 FH (Eh n f) λj a=>by rw[D3];simp[a,h j a]
theorem Tf {n:Nat} {f g:Nat->Bool} (h:BF n f=BF n g):∀j,j<n->f j=g j:=λj a=>by
 have:=congrArg (λx=>x.testBit j) h;simpa[D3,a] using this
theorem Qi (n:Nat) (f g:Nat->Bool):BF n f ||| BF n g=BF n λj=>f j || g j:=
 FH (Nat.or_lt_two_pow (Eh n f) (Eh n g)) λj a=>by simp[D3,a]
theorem Tg (n:Nat) (f g:Nat->Bool):BF n f &&& BF n g=BF n λj=>f j && g j:=
 FH (Nat.and_lt_two_pow _ (Eh n g)) λj a=>by simp[D3,a]
theorem Kn {n i:Nat} (h:i<n):2 ^ i=BF n λj=>decide (j=i):=
 FH (Nat.pow_lt_pow_right qO h) λj hj=>by
  rw[Nat.testBit_two_pow];rw[Bool.eq_iff_iff];simp;omega
theorem Rh (n:Nat):0=BF n λ_=>false:=FH (Nat.two_pow_pos n) λj _=>qP
theorem IP {n:Nat} {f:Nat->Bool}:BF n f=0↔∀j,j<n->f j=false:=by
 rw[Rh n];exact ⟨λh j a=>Tf h j a,λh=>DD h⟩
theorem OU:∀(x:Nat),0<x->∃k m,x=2 ^ (k+1)*m+2 ^ k:=by
 intro x
 induction x using Nat.strongRecOn with
 | _ x ih=>
  intro hx;rcases Nat.mod_two_eq_zero_or_one x with h|h
  .obtain ⟨k,m,a⟩:=ih (x / 2) qO qO;refine ⟨k+1,m,?_⟩;have:x=2*(x / 2):=qO
   rw[this,a,Nat.pow_succ 2 (k+1),Nat.pow_succ 2 k];simp only[Nat.mul_add,<-Nat.mul_assoc];simp only[Nat.mul_comm 2,Nat.mul_assoc]
  .exact ⟨0,x / 2,qO⟩
theorem IQ {x k m:Nat} (h:x=2 ^ (k+1)*m+2 ^ k) (j:Nat):x.testBit j=if j<k+1 then decide (j=k) else m.testBit (j - (k+1)):=by
 rw[h,Nat.testBit_two_pow_mul_add m (Nat.pow_lt_pow_right qO qO)];split
 .rw[Nat.testBit_two_pow];rw[Bool.eq_iff_iff];simp;omega
 .rfl
theorem Rj {x k m:Nat} (h:x=2 ^ (k+1)*m+2 ^ k) (j:Nat):(x &&& (x - 1)).testBit j=(x.testBit j && decide (j≠k)):=by
 have hp:=Nat.two_pow_pos k;have b:x - 1=2 ^ (k+1)*m+(2 ^ k - 1):=qO
 have a:2 ^ k - 1<2 ^ (k+1):=by rw[Nat.pow_succ];omega
 rw[Nat.testBit_and,IQ h,b,Nat.testBit_two_pow_mul_add m a];split
 .rw[Nat.testBit_two_pow_sub_one,Bool.eq_iff_iff];simp;omega
 .rw[Bool.eq_iff_iff];simp;omega
theorem VR {x k m:Nat} (h:x=2 ^ (k+1)*m+2 ^ k) (hx:x<2 ^ 32):x &&& (2 ^ 32 - x)=2 ^ k:=by
 have hk:k<32:=by
  rcases Nat.lt_or_ge k 32 with a|a
  .exact a
  .have:=Nat.pow_le_pow_right (n:=2) qO a;omega
 have hp:=Nat.two_pow_pos k;have b:2 ^ 32=2 ^ (k+1)*2 ^ (31 - k):=by rw[<-Nat.pow_add];congr 1;omega
 have d:m<2 ^ (31 - k):=by
  rcases Nat.lt_or_ge m (2 ^ (31 - k)) with a|a
  .exact a
  .have:=Nat.mul_le_mul_left (2 ^ (k+1)) a;omega
 have c:2 ^ 32 - x=2 ^ (k+1)*(2 ^ (31 - k) - (m+1))+2 ^ k:=by
  have hps:2 ^ (k+1)=2 ^ k+2 ^ k:=by rw[Nat.pow_succ];omega
  rw[Nat.mul_sub,<-b,Nat.mul_add,Nat.mul_one];have:=Nat.mul_le_mul_left (2 ^ (k+1)) (show m+1<=2 ^ (31 - k) by omega);rw[<-b,Nat.mul_add,Nat.mul_one] at this;omega
 apply Nat.eq_of_testBit_eq;intro j;rw[Nat.testBit_and,IQ h,IQ c,Nat.testBit_two_pow];split
 .rw[Bool.eq_iff_iff];simp;omega
 .rw[Nat.testBit_two_pow_sub_succ d];cases m.testBit (j - (k+1))<;>simp<;>omega
end Go.Eng
namespace Go.Eng
open Go
abbrev Rl:=Nat->Nat->Bool
def Bw (A B:Rl) (n:Nat):Rl:=λi k=>decide (i<=n) && (List.range 25).any λj=>A i j && B j k
def LR (A B:Rl):Rl:=λi j=>A i j || B i j
def G0 (A B:Rl):Rl:=λi j=>A i j && B i j
def J7 (n:Nat):Rl:=λi j=>decide (i<=n) && decide (j=i)
def Gf:Rl:=λ_ _=>false
def Cu (l:List (Int×Int)) (r:Int):Bool:=l.any λs=>decide (s.1<=r) && decide (r<=s.2)
def G3 (text:List Int) (set:List (Int×Int)):Rl:=λi j=>(match text[i]? with|some c=>Cu set c|none=>false) && decide (j=i+1)
def IL (n:Nat) (A:Rl):Rl:=λi j=>(decide (i<=n) && (decide (i<=j) && decide (j<=n))) && !A i j
def D7 (n:Nat) (A:Rl):Nat->Rl
  | 0=>J7 n
  | m+1=>LR (D7 n A m) (Bw (D7 n A m) A n)
def I9 (n:Nat) (A:Rl):Nat->Rl
  | 0=>J7 n
  | m+1=>Bw (I9 n A m) A n
def I4 (n:Nat) (A:Rl) (mn:Int):Nat->Rl
  | 0=>Gf
  | m+1=>if mn<=(m:Int) then LR (I4 n A mn m) (I9 n A m) else I4 n A mn m
def FJ (n:Nat) (A:Rl) (neg:Bool):Rl:=λi j=>(decide (i<=n) && decide (j=i)) && (decide (BF 25 (A i)≠0) != neg)
def Gz (text:List Int) (k:Int) (set:List (Int×Int)) (L:List Rl) (mn mx:Int) (ng:Bool):Rl:=
 if k=1 then J7 text.length else if k=2 then G3 text set
 else if k=3 then L.foldl (λa x=>Bw a x text.length) (J7 text.length)
 else if k=4 then L.foldl LR Gf
 else if k=7 then L.foldl G0 (L.headD Gf)
 else if k=8 then IL text.length (L.headD Gf)
 else if k=5 then D7 text.length (L.headD Gf) (text.length+1)
 else if k=6 then I4 text.length (L.headD Gf) mn (mx+1).toNat
 else if k=9 then L.headD Gf
 else if k=10 then FJ text.length (L.headD Gf) ng
 else Gf
mutual
def Ar (text:List Int):Re->Rl
  | .mk k set args mn mx ng=>Gz text k set (DC text args) mn mx ng
def DC (text:List Int):List Re->List Rl
  | []=>[]
  | t::ts=>Ar text t::DC text ts
end
theorem I5 (text:List Int) (a:List Re):DC text a=a.map (Ar text):=by
 induction a with
 | nil=>rfl
 | cons t a ih=>simp[DC,ih]
theorem N_ (text:List Int) (t:Re):Ar text t=Gz text t.kind t.set (t.args.map (Ar text)) t.mn t.mx t.neg:=by
 cases t;simp[Ar,I5,Re.kind,Re.set,Re.args,Re.mn,Re.mx,Re.neg]
theorem Be {w:World} {base e size n:Nat} {v:Value} {xs:List Value} (h:w.ownsRow base e size v n xs):∃a c,v=.slice a n c:=by
 rcases h.2 with ⟨rfl,rfl⟩|⟨g,cap,cur,rfl,_⟩
 .exact ⟨_,_,O⟩
 .exact ⟨_,_,O⟩
theorem Co {M:Nat->Prop} {w w':World} {base e size n:Nat} {v:Value} {xs:List Value} (h:w.ownsRow base e size v n xs) (c:Chg M w w') (d:∀k,v.ownBlock=some k->¬M k):w'.ownsRow base e size v n xs:=by
 refine ⟨h.1,?_⟩;rcases h.2 with hn|⟨g,cap,b,rfl,hb,a,rest⟩
 .exact .inl hn
 .refine .inr ⟨g,cap,b,O,hb,?_,rest⟩;rw[c.blk g (Array.getElem?_eq_some_iff.1 a).1 (d g O)];exact a
theorem BG {w w':World} {base e size n:Nat} {v:Value} {xs:List Value} (h:w.ownsRow base e size v n xs) (c:Ae w w'):w'.ownsRow base e size v n xs:=Co h c λ_ _ f=>f
theorem DZ {w:World} {base e size n:Nat} {a:Option Addr} {c:Nat} {xs:List Value} (h:w.ownsRow base e size (.slice a n c) n xs) (hn:0<n) :
 ∃g,a=some ⟨g,0,none⟩∧base<=g∧BA w g 0 xs:=by
 rcases h.2 with ⟨h1,rfl⟩|⟨g,cap,cur,b,hb,hgg,_,_,_,htake⟩
 .omega
 .simp only[Value.slice.injEq] at b;obtain ⟨rfl,_,rfl⟩:=b;refine ⟨g,O,hb,λi v b=>?_⟩;have:=h.cells (g:=g) O i v b
  rwa [Addr.add_lit] at this
theorem EA {w:World} {base e k n:Nat} {v:Value} {rows:List (List Value)} (h:w.ownsRow base e k v n rows.flatten) (p:∀r∈rows,r.length=k) (hn:rows.length=n) (hpos:0<k):BR w k v rows:=by
 obtain ⟨s,t⟩:=h;rcases t with ⟨rfl,rfl⟩|⟨g,cap,cur,rfl,hb,c,hnc,l,hcs,a⟩
 .have:rows=[]:=List.eq_nil_of_length_eq_zero hn;subst this;exact BR.nil w k _ _
 .refine ⟨_,cap,by rw[hn],by simp only[maxLen] at l;omega,qO,.inr ⟨g,0,O,λi r b j u o=>?_⟩⟩;have d:(rows.flatten)[i*k+j]?=some u:=by
   clear a c s hn
   induction rows generalizing i with
   | nil=>simp at b
   | cons x rs ih=>
    have m:x.length=k:=p x qP;cases i with
    | zero=>
     simp at b;subst b;have q:=AM o;simp only[List.flatten_cons,Nat.zero_mul,Nat.zero_add];rw[List.getElem?_append_left q];exact o
    | succ i=>
     simp at b;simp only[List.flatten_cons];rw[List.getElem?_append_right (by rw[m,Nat.succ_mul];omega)];rw[show (i+1)*k+j - x.length=i*k+j from by rw[m,Nat.succ_mul];omega];exact ih (λr b=>p r (by simp[b])) _ b
  rw[<-a] at d;have f:i*k+j<n*k:=by
   have:=AM d;simp at this;omega
  rw[List.getElem?_take_of_lt f] at d;show w.cell? ⟨g,0+i*k+j,none⟩=some u;rw[Nat.zero_add];simp only[World.cell?,c];simpa using d
theorem Im {P:Program} {w w':World} {base t ty e size bytes n m c:Nat} {i:TypeInfo} {z v v':Value} {xs news:List Value} {a:Addr} (C:P.underlying t=some (.slice e)) (hi:P.info? e=some i) (I:i.zero=some z) (o:i.size=size) (A:i.bytes=bytes) (D:z.cells.size=size) (F:0<size)
 (f:w.ownsRow base e size v n xs) (B:news.length=m*size) (b:∀j u,news[j]?=some u->w.cell? (a.add j)=some u) (H:∀u∈news,u.oneCell'=true) (r:n+m<=maxLen) (d:(n+m)*bytes<=140737488355328)
 (q:(Builtin.append_ #[t,t] ty #[v,.slice (some a) m c]).run P w=.ok v' w'):∀k,v'.ownBlock=some k->v.ownBlock=some k∨w.heap.size<=k:=by
 rcases f.2 with ⟨rfl,rfl⟩|⟨g,cap,y,rfl,hbg,K,hnc,hcm,E,htake⟩
 .have J:xs=[]:=List.eq_nil_of_length_eq_zero (by simpa using f.1);subst J;obtain ⟨v2,w2,l,G,_⟩:=run_append_own (P:=P) w w.heap.size t ty e i z size bytes C hi I o A D F (.slice none 0 0) 0 [] (World.ownsRow_nil w w.heap.size e size) a m c news B b H r d (Nat.le_refl _);rw[l] at q;cases q;intro k x;exact .inr (G.lt k x).1
 .have hsmall:n+m<=9223372036854775807:=by simp only[maxLen] at r;omega
  subst o;subst A
  by_cases h:n+m<=cap
  .have s:n*i.size+news.length<=y.size:=by rw[B,E,<-Nat.add_mul];exact Nat.mul_le_mul_right _ h
   have l:=run_append_room (P:=P) w t ty e i C hi g n cap y K a m c news B b H h s;rw[l] at q;cases q;intro k x;exact .inl x
  .have p:∀j u,xs[j]?=some u->w.cell? ((⟨g,0,none⟩:Addr).add j)=some u:=f.cells (g:=g) O;have l:=run_append_grow (P:=P) w t ty e i z C hi I ⟨g,0,none⟩ n cap xs f.1 p a m c news B b qO qO (growslice_fits qO d);rw[l] at q;cases q;intro k x;simp only[Value.ownBlock,Option.some.injEq] at x;exact .inr qO
theorem Io {P:Program} {w w':World} {base t ty e size bytes n m c:Nat} {i:TypeInfo} {z v v':Value} {xs news:List Value} {a:Addr} (s:P.underlying t=some (.slice e)) (hi:P.info? e=some i) (C:i.zero=some z) (p:i.size=size) (B:i.bytes=bytes)
 (k:w.ownsRow base e size v n xs) (x:news.length=m*size) (b:∀j u,news[j]?=some u->w.cell? (a.add j)=some u) (G:∀u∈news,u.oneCell'=true) (y:n+m<=maxLen) (d:(n+m)*bytes<=140737488355328)
 (l:(Builtin.append_ #[t,t] ty #[v,.slice (some a) m c]).run P w=.ok v' w'):w.drawn<=w'.drawn:=by
 have hsmall:n+m<=9223372036854775807:=by simp only[maxLen] at y;omega
 subst p;subst B
 rcases k.2 with ⟨rfl,rfl⟩|⟨g,cap,r,rfl,hbg,E,hnc,hcm,A,htake⟩
 .by_cases F:m=0
  .subst F;have D:(Builtin.append_ #[t,t] ty #[.slice none 0 0,.slice (some a) 0 c]).run P w=.ok (.slice none 0 0) w:=by
    simp[Builtin.append_,run_underlying s,sizeOf,typeInfo,hi,Builtin.lenOf,Builtin.firstCells,loadCells,loadCellsFrom]
   rw[D] at l;cases l;exact Nat.le_refl _
  .have h:=run_append_nil (P:=P) w t ty e i z s hi C a m c news x b qO qO (by have hb:=d;simp only[Nat.zero_add] at hb;omega);rw[h] at l;cases l;exact Nat.le_succ _
 .by_cases f:n+m<=cap
  .have q:n*i.size+news.length<=r.size:=by rw[x,A,<-Nat.add_mul];exact Nat.mul_le_mul_right _ f
   have h:=run_append_room (P:=P) w t ty e i s hi g n cap r E a m c news x b G f q;rw[h] at l;cases l;exact Nat.le_refl _
  .have o:∀j u,xs[j]?=some u->w.cell? ((⟨g,0,none⟩:Addr).add j)=some u:=k.cells (g:=g) O;have h:=run_append_grow (P:=P) w t ty e i z s hi C ⟨g,0,none⟩ n cap xs k.1 o a m c news x b qO qO (growslice_fits qO d);rw[h] at l;cases l;exact Nat.le_succ _
theorem CQ {P:Program} {N:Nat} {Q:Dn} {σ:CC} {w:World} {K:CC->World->Prop} {ops:Array Oper} {rest:List Oper} {d:Nat} {ty:TypeId} {pos:String} {af:Array Edge} {t:TypeId} {s x:Operand}
 {base e size bytes n m c D E:Nat} {z v:Value} {xs news:List Value} (L:d<N) (F:P.underlying t=some (.slice e)) (f:Df P e size) (l:LS P e bytes) (r:Ex P e z) (A:z.cells.size=size) (I:0<size)
 (R:ev σ s=v) (o:w.ownsRow base e size v n xs) (J:ev σ x=.slice (some ⟨D,E,none⟩) m c) (H:news.length=m*size) (g:BA w D E news) (G:∀u∈news,u.oneCell'=true)
 (p:n+m<=maxLen) (a:(n+m)*bytes<=140737488355328) (q:base<=w.heap.size)
 (k:∀v' w',w'.ownsRow base e size v' (n+m) (xs++news)->Chg (λx=>v.ownBlock=some x) w w'->(∀k,v'.ownBlock=some k->v.ownBlock=some k∨w.heap.size<=k)->DT P N ops K Q rest (Eo σ d v') w') :
 DT P N ops K Q (⟨some d,.call ⟨.builtin .append,#[s,x],#[t,t]⟩,ty,pos,af,none⟩::rest) σ w:=by
 unfold Df at f;unfold LS at l;unfold Ex at r;cases hi:P.info? e with
 | none=>rw[hi] at f;simp at f
 | some i=>
 rw[hi] at f l r;simp at f l r;obtain ⟨v',w',C,M,B,_⟩:=run_append_own (P:=P) w base t ty e i z size bytes F hi r f l A I v n xs o ⟨D,E,none⟩ m c news H (λj u y=>by rw[Addr.add_lit];exact g j u y) G p a q;refine Bn (v:=v') (w':=w') O O L ?_ (k v' w' M ⟨B.os,B.tape,B.output,Io (P:=P) F hi r f l o H (λj u y=>by rw[Addr.add_lit];exact g j u y) G p a C,B.size,λb hb hn=>B.block b hb (λh=>hn h.symm)⟩ (Im (P:=P) F hi r f l A I o H (λj u y=>by rw[Addr.add_lit];exact g j u y) G p a C));simp[execOp,resolve,invoke,builtin,R,J,C]
end Go.Eng
namespace Go.Proofs
open Go Go.Eng
set_option maxRecDepth 100000
structure LzA (α:Type) where
 dom:α->Prop
 kn:α->Int->Prop
 n:Nat
 made:Int
 drops:Int
def IW (x:Int):Int:=IntKind.i64.wrap (x+1)
section
variable {α : Type} (D : α → Int → α) (most : Nat)
open Classical in
noncomputable def holdA (a:LzA α) (t:α):LzA α:=
 if a.dom t then a else if a.n=most then ⟨λx=>x=t,λ_ _=>False,1,a.made,IW a.drops⟩ else ⟨λx=>a.dom x∨x=t,a.kn,a.n+1,a.made,a.drops⟩
open Classical in
noncomputable def knowA (a:LzA α) (t:α) (c:Int):LzA α:=if a.dom t then {a with kn:=λx y=>a.kn x y∨(x=t∧y=c)} else a
def FI (a:LzA α):LzA α:={a with made:=IW a.made}
open Classical in
noncomputable def stepA (a:LzA α) (t:α) (c:Int):LzA α:=if a.kn t c then a else knowA (holdA most (FI a) (D t c)) t c
noncomputable def runA:LzA α->α->List Int->LzA α
  | a,_,[]=>a
  | a,t,c::w=>runA (stepA D most a t c) (D t c) w
def H4 (t:α) (w:List Int):α:=w.foldl D t
noncomputable def matchA (a:LzA α) (t:α) (w:List Int):LzA α:=runA D most (holdA most a t) t w
structure LzA.Ok (a:LzA α):Prop where
 kd:∀t c,a.kn t c->a.dom t∧a.dom (D t c)
 le:a.n<=most
def LzA.zero:LzA α:=⟨λ_=>False,λ_ _=>False,0,0,0⟩
end
section
variable {α : Type} {D : α → Int → α} {most : Nat} {a b : LzA α} {t u : α} {c : Int}
theorem LzA.Ok.zero:(LzA.zero:LzA α).Ok D most:=⟨λ_ _ h=>h.elim,Nat.zero_le _⟩
theorem Dt (h:a.dom t):holdA most a t=a:=by unfold holdA;rw[if_pos h]
theorem ER (h:¬a.dom t) (hn:a.n=most):holdA most a t=⟨λx=>x=t,λ_ _=>False,1,a.made,IW a.drops⟩:=by unfold holdA;rw[if_neg h,if_pos hn]
theorem Dr (h:¬a.dom t) (hn:a.n≠most):holdA most a t=⟨λx=>a.dom x∨x=t,a.kn,a.n+1,a.made,a.drops⟩:=by unfold holdA;rw[if_neg h,if_neg hn]
theorem GL:(holdA most a t).dom t:=by
 by_cases h:a.dom t
 .rw[Dt h];exact h
 by_cases hn:a.n=most
 .rw[ER h hn]
 .rw[Dr h hn];exact .inr O
theorem GK:(holdA most a t).made=a.made:=by
 by_cases h:a.dom t
 .rw[Dt h]
 by_cases hn:a.n=most
 .rw[ER h hn]
 .rw[Dr h hn]
theorem Hb (b:1<=most) (h:a.Ok D most):(holdA most a t).Ok D most:=by
 by_cases hd:a.dom t
 .rw[Dt hd];exact h
 by_cases hn:a.n=most
 .rw[ER hd hn];exact ⟨λ_ _ f=>f.elim,b⟩
 .rw[Dr hd hn];exact ⟨λx y f=>⟨.inl (h.kd x y f).1,.inl (h.kd x y f).2⟩,by have:=h.le;show a.n+1<=most;omega⟩
theorem Qv (x:α) (y:Int) (h:(holdA most a t).kn x y):a.kn x y:=by
 by_cases hd:a.dom t
 .rw[Dt hd] at h;exact h
 by_cases hn:a.n=most
 .rw[ER hd hn] at h;exact h.elim
 .rw[Dr hd hn] at h;exact h
theorem On (h:a.dom t->1<=a.n):1<=(holdA most a t).n:=by
 by_cases hd:a.dom t
 .rw[Dt hd];exact h hd
 by_cases hn:a.n=most
 .rw[ER hd hn];exact Nat.le_refl 1
 .rw[Dr hd hn];exact Nat.le_add_left 1 _
theorem Ez (h:a.dom t):knowA a t c={a with kn:=λx y=>a.kn x y∨(x=t∧y=c)}:=by unfold knowA;rw[if_pos h]
theorem FK (h:¬a.dom t):knowA a t c=a:=by unfold knowA;rw[if_neg h]
theorem Tw {x:α}:(knowA a t c).dom x↔a.dom x:=by
 by_cases h:a.dom t
 .rw[Ez h]
 .rw[FK h]
theorem Wy:(knowA a t c).n=a.n:=by
 by_cases h:a.dom t
 .rw[Ez h]
 .rw[FK h]
theorem JD:(knowA a t c).made=a.made:=by
 by_cases h:a.dom t
 .rw[Ez h]
 .rw[FK h]
theorem VZ {x:α} {y:Int} (h:(knowA a t c).kn x y):a.kn x y∨(x=t∧y=c):=by
 by_cases hd:a.dom t
 .rw[Ez hd] at h;exact h
 .rw[FK hd] at h;exact .inl h
theorem Dv (h:a.kn t c):stepA D most a t c=a:=by unfold stepA;rw[if_pos h]
theorem Ef (h:¬a.kn t c):stepA D most a t c=knowA (holdA most (FI a) (D t c)) t c:=by unfold stepA;rw[if_neg h]
theorem ID (e:1<=most) (h:a.Ok D most):(stepA D most a t c).Ok D most:=by
 by_cases d:a.kn t c
 .rw[Dv d];exact h
 .rw[Ef d];have b:(holdA most (FI a) (D t c)).Ok D most:=Hb e ⟨h.kd,h.le⟩;by_cases hd:(holdA most (FI a) (D t c)).dom t
  .rw[Ez hd];exact ⟨λx y f=>by
    rcases f with f|⟨rfl,rfl⟩
    .exact b.kd x y f
    .exact ⟨hd,GL⟩,b.le⟩
  .rw[FK hd];exact b
theorem Lm (h:a.Ok D most):(stepA D most a t c).dom (D t c):=by
 by_cases b:a.kn t c
 .rw[Dv b];exact (h.kd t c b).2
 .rw[Ef b,Tw];exact GL
structure SimA (D:α->Int->α) (mx:Nat) (t0:α) (j:Nat) (x y:LzA α):Prop where
 okx:x.Ok D mx
 oky:y.Ok D 100
 kn:j<=99->∀t c,x.kn t c->y.kn t c
 yn:j<=99->y.n<=j+1
 fst:j<=99->y.dom t0∨y.n=0
 mm:y.made<=x.made
 m0:0<=y.made
 mj:x.made<=j
theorem Qu {x:Int} (h0:0<=x) (h:x<=1000):IW x=x+1:=by
 unfold IW;exact A8 qO
variable {mx j : Nat} {t0 : α} {x y : LzA α}
theorem SimA.zero:SimA D mx t0 0 (LzA.zero:LzA α) LzA.zero:=
 ⟨.zero,.zero,λ_ _ _ h=>h,λ_=>Nat.zero_le _,λ_=>.inr O,Int.le_refl 0,Int.le_refl 0,Int.le_refl 0⟩
theorem SimA.first (f:1<=mx) (h:SimA D mx t0 j x y):SimA D mx t0 j (holdA mx x t0) (holdA 100 y t0):=by
 have d:(holdA mx x t0).made=x.made:=GK;have c:(holdA 100 y t0).made=y.made:=GK;refine ⟨Hb f h.okx,Hb qO h.oky,λa p q e=>?_,λa=>?_,λ_=>.inl GL,by rw[d,c];exact h.mm,by rw[c];exact h.m0,by rw[d];exact h.mj⟩
 .have b:=h.kn a p q (Qv p q e);rcases h.fst a with hd|hn
  .rw[Dt hd];exact b
  .by_cases hd:y.dom t0
   .rw[Dt hd];exact b
   .rw[Dr hd qO];exact b
 .rcases h.fst a with hd|hn
  .rw[Dt hd];exact h.yn a
  .by_cases hd:y.dom t0
   .rw[Dt hd];exact h.yn a
   .rw[Dr hd qO];show y.n+1<=j+1;omega
theorem SimA.step (hm:1<=mx) (h:SimA D mx t0 j x y) (hj:j<=99) (dy:y.dom t) (hf:y.dom t0):SimA D mx t0 (j+1) (stepA D mx x t c) (stepA D 100 y t c)∧(j+1<=99->(stepA D 100 y t c).dom t0):=by
 have ak:0<=x.made:=Int.le_trans h.m0 h.mm;have hxj:=h.mj;have ah:=h.m0;have al:=h.mm;have ag:=ID (t:=t) (c:=c) hm h.okx;have ad:=ID (t:=t) (c:=c) (by omega:1<=100) h.oky;have af:x.kn t c->(stepA D mx x t c).made=x.made:=λhk=>by rw[Dv hk]
 have ac:¬x.kn t c->(stepA D mx x t c).made=x.made+1:=λhk=>by
  rw[Ef hk,JD,GK];exact Qu ak qO
 have ai:∀p q,(stepA D mx x t c).kn p q->x.kn p q∨(p=t∧q=c):=λp q hh=>by
  by_cases hk:x.kn t c
  .rw[Dv hk] at hh;exact .inl hh
  .rw[Ef hk] at hh;rcases VZ hh with h1|h1
   .exact .inl (Qv (a:=FI x) p q h1)
   .exact .inr h1
 by_cases hy:y.kn t c
 .have aj:stepA D 100 y t c=y:=Dv hy;rw[aj] at ad⊢;refine ⟨⟨ag,ad,λ_ p q hh=>?_,λ_=>by have:=h.yn hj;omega,λ_=>.inl hf,?_,ah,?_⟩,λ_=>hf⟩
  .rcases ai p q hh with h1|⟨rfl,rfl⟩
   .exact h.kn hj p q h1
   .exact hy
  .by_cases hk:x.kn t c
   .rw[af hk];exact al
   .rw[ac hk];omega
  .by_cases hk:x.kn t c
   .rw[af hk];omega
   .rw[ac hk];omega
 .have hk:¬x.kn t c:=λhk=>hy (h.kn hj t c hk);have e2:(stepA D 100 y t c).made=y.made+1:=by
   rw[Ef hy,JD,GK];exact Qu ah qO
  have hyn:=h.yn hj;have aa:j+1<=99->(∀p q,y.kn p q∨(p=t∧q=c)->(stepA D 100 y t c).kn p q)∧(stepA D 100 y t c).n<=y.n+1∧(∀p,y.dom p->(stepA D 100 y t c).dom p):=λab=>by
   rw[Ef hy];by_cases hd:y.dom (D t c)
   .have ae:holdA 100 (FI y) (D t c)=FI y:=Dt hd;rw[ae,Ez (a:=FI y) dy];exact ⟨λp q f=>f,Nat.le_succ _,λp f=>f⟩
   .have ae:holdA 100 (FI y) (D t c)=⟨λz=>y.dom z∨z=D t c,y.kn,y.n+1,(FI y).made,y.drops⟩:=Dr (a:=FI y) hd (by show y.n≠100;omega);rw[ae,Ez (show y.dom t∨t=D t c from .inl dy)];exact ⟨λp q f=>f,Nat.le_refl _,λp f=>.inl f⟩
  refine ⟨⟨ag,ad,λab p q hh=>?_,λab=>by have:=(aa ab).2.1;omega,λab=>.inl ((aa ab).2.2 t0 hf),by rw[ac hk,e2];omega,by rw[e2];omega,by rw[ac hk];omega⟩,λab=>(aa ab).2.2 t0 hf⟩;rcases ai p q hh with h1|h1
  .exact (aa ab).1 p q (.inl (h.kn hj p q h1))
  .exact (aa ab).1 p q (.inr h1)
theorem SimA.run (b:1<=mx):∀(w:List Int) {j:Nat} {t:α} {x y:LzA α},SimA D mx t0 j x y->j+w.length<=100->y.dom t->(j<=99->y.dom t0)->SimA D mx t0 (j+w.length) (runA D mx x t w) (runA D 100 y t w)
 | [],j,t,x,y,h,_,_,_=>h
 | c::w,j,t,x,y,h,hj,hd,hf=>by
  rw[List.length_cons] at hj;have a:=h.step (c:=c) b qO hd (hf qO);have d:=SimA.run b w a.1 qO (Lm h.oky) a.2;rw[show j+(c::w).length=j+1+w.length by rw[List.length_cons];omega];exact d
theorem SimA.text (a:1<=mx) (h:SimA D mx t0 j x y) {w:List Int} (b:j+w.length<=100):SimA D mx t0 (j+w.length) (matchA D mx x t0 w) (matchA D 100 y t0 w):=
 SimA.run a w (h.first a) b GL λ_=>GL
theorem QZ (b:1<=most):∀(w:List Int) {a:LzA α} {t:α},a.Ok D most->(runA D most a t w).Ok D most
 | [],_,_,h=>h
 | _::w,_,_,h=>QZ b w (ID b h)
theorem RI (h:1<=a.n):1<=(stepA D most a t c).n:=by
 by_cases b:a.kn t c
 .rw[Dv b];exact h
 .rw[Ef b,Wy];exact On λ_=>h
theorem N0:∀(w:List Int) {a:LzA α} {t:α},1<=a.n->1<=(runA D most a t w).n
 | [],_,_,h=>h
 | _::w,_,_,h=>N0 w (RI h)
end
end Go.Proofs
namespace Go.Proofs
open Go.Shelf
def Tryz.sortSp_ren:Go.Shelf.Ren:=⟨fun|6=>110|15=>107|14=>137|28=>134|29=>135|20=>157|21=>158|22=>159|23=>160|24=>161|25=>162|26=>163|27=>164|46=>176|47=>152|48=>153|49=>177|50=>178|57=>187|n=>n,fun|22=>22|24=>80|25=>142|3=>3|39=>139|0=>0|53=>100|55=>159|4=>4|46=>152|45=>151|50=>106|5=>5|9=>9|66=>166|70=>170|76=>184|77=>185|n=>n,fun|n=>n⟩
theorem Tryz.sortSp:Go.Proofs.SlLaysF0.n6 prog Tryz.sortSp_ren:={
 mixed:=by kernel_rfl
 f6:=⟨Tryz.f110.name,qD,func110.trans (congrArg some qK)⟩
 f14:=⟨Tryz.f137.name,qD,func137.trans (congrArg some qK)⟩
 f15:=func107.trans (congrArg some qK)
 f20:=⟨Tryz.f157.name,qD,func157.trans (congrArg some qK)⟩
 f21:=⟨Tryz.f158.name,qD,func158.trans (congrArg some qK)⟩
 f22:=⟨Tryz.f159.name,qD,func159.trans (congrArg some qK)⟩
 f23:=⟨Tryz.f160.name,qD,func160.trans (congrArg some qK)⟩
 f24:=⟨Tryz.f161.name,qD,func161.trans (congrArg some qK)⟩
 f25:=⟨Tryz.f162.name,qD,func162.trans (congrArg some qK)⟩
 f26:=⟨Tryz.f163.name,qD,func163.trans (congrArg some qK)⟩
 f27:=⟨Tryz.f164.name,qD,func164.trans (congrArg some qK)⟩
 f28:=func134.trans (congrArg some qK)
 f29:=func135.trans (congrArg some qK)
 f46:=⟨Tryz.f176.name,qD,func176.trans (congrArg some qK)⟩
 f47:=func152.trans (congrArg some qK)
 f48:=func153.trans (congrArg some qK)
 f49:=⟨Tryz.f177.name,qD,func177.trans (congrArg some qK)⟩
 f50:=⟨Tryz.f178.name,qD,func178.trans (congrArg some qK)⟩
 f57:=⟨Tryz.f187.name,qD,func187.trans (congrArg some qK)⟩
 t0:=underlying0
 a0:=Tryz.isAgg0
 z0:=Tryz.sizeOf0
 v0:=Tryz.zeroValue0
 t3:=underlying3
 a3:=Tryz.isAgg3
 z3:=Tryz.sizeOf3
 v3:=Tryz.zeroValue3
 t4:=underlying4
 a4:=Tryz.isAgg4
 z4:=Tryz.sizeOf4
 v4:=Tryz.zeroValue4
 t5:=underlying5
 a5:=Tryz.isAgg5
 z5:=Tryz.sizeOf5
 v5:=Tryz.zeroValue5
 t9:=underlying9
 a9:=Tryz.isAgg9
 z9:=Tryz.sizeOf9
 v9:=Tryz.zeroValue9
 t22:=underlying22
 a22:=Tryz.isAgg22
 z22:=Tryz.sizeOf22
 v22:=Tryz.zeroValue22
 t25:=underlying142
 a25:=Tryz.isAgg142
 z25:=Tryz.sizeOf142
 v25:=Tryz.zeroValue142
 t39:=underlying139
 a39:=Tryz.isAgg139
 z39:=Tryz.sizeOf139
 v39:=Tryz.zeroValue139
 t45:=underlying151
 a45:=Tryz.isAgg151
 z45:=Tryz.sizeOf151
 v45:=Tryz.zeroValue151
 t46:=underlying152
 a46:=Tryz.isAgg152
 z46:=Tryz.sizeOf152
 v46:=Tryz.zeroValue152
 t50:=underlying106
 a50:=Tryz.isAgg106
 z50:=Tryz.sizeOf106
 v50:=Tryz.zeroValue106
 t53:=underlying100
 a53:=Tryz.isAgg100
 z53:=Tryz.sizeOf100
 v53:=Tryz.zeroValue100
 t55:=underlying159
 a55:=Tryz.isAgg159
 z55:=Tryz.sizeOf159
 v55:=Tryz.zeroValue159
 t66:=underlying166
 a66:=Tryz.isAgg166
 z66:=Tryz.sizeOf166
 v66:=Tryz.zeroValue166
 t70:=underlying170
 a70:=Tryz.isAgg170
 z70:=Tryz.sizeOf170
 v70:=Tryz.zeroValue170
 t76:=underlying184
 a76:=Tryz.isAgg184
 z76:=Tryz.sizeOf184
 v76:=Tryz.zeroValue184
 t77:=underlying185
 a77:=Tryz.isAgg185
 z77:=Tryz.sizeOf185
 v77:=Tryz.zeroValue185}
def Tryz.sortRe_ren:Go.Shelf.Ren:=⟨fun|6=>170|15=>107|14=>179|28=>134|29=>135|20=>188|21=>189|22=>190|23=>191|24=>192|25=>193|26=>194|27=>195|46=>201|47=>152|48=>153|49=>202|50=>203|57=>205|n=>n,fun|22=>23|24=>25|25=>144|3=>3|39=>139|0=>0|53=>100|55=>159|4=>4|46=>152|45=>151|50=>106|5=>5|9=>9|66=>166|70=>170|76=>184|77=>185|n=>n,fun|n=>n⟩
theorem Tryz.sortRe:Go.Proofs.SlLaysF0.n6 prog Tryz.sortRe_ren:={
 mixed:=by kernel_rfl
 f6:=⟨Tryz.f170.name,qD,func170.trans (congrArg some qK)⟩
 f14:=⟨Tryz.f179.name,qD,func179.trans (congrArg some qK)⟩
 f15:=func107.trans (congrArg some qK)
 f20:=⟨Tryz.f188.name,qD,func188.trans (congrArg some qK)⟩
 f21:=⟨Tryz.f189.name,qD,func189.trans (congrArg some qK)⟩
 f22:=⟨Tryz.f190.name,qD,func190.trans (congrArg some qK)⟩
 f23:=⟨Tryz.f191.name,qD,func191.trans (congrArg some qK)⟩
 f24:=⟨Tryz.f192.name,qD,func192.trans (congrArg some qK)⟩
 f25:=⟨Tryz.f193.name,qD,func193.trans (congrArg some qK)⟩
 f26:=⟨Tryz.f194.name,qD,func194.trans (congrArg some qK)⟩
 f27:=⟨Tryz.f195.name,qD,func195.trans (congrArg some qK)⟩
 f28:=func134.trans (congrArg some qK)
 f29:=func135.trans (congrArg some qK)
 f46:=⟨Tryz.f201.name,qD,func201.trans (congrArg some qK)⟩
 f47:=func152.trans (congrArg some qK)
 f48:=func153.trans (congrArg some qK)
 f49:=⟨Tryz.f202.name,qD,func202.trans (congrArg some qK)⟩
 f50:=⟨Tryz.f203.name,qD,func203.trans (congrArg some qK)⟩
 f57:=⟨Tryz.f205.name,qD,func205.trans (congrArg some qK)⟩
 t0:=underlying0
 a0:=Tryz.isAgg0
 z0:=Tryz.sizeOf0
 v0:=Tryz.zeroValue0
 t3:=underlying3
 a3:=Tryz.isAgg3
 z3:=Tryz.sizeOf3
 v3:=Tryz.zeroValue3
 t4:=underlying4
 a4:=Tryz.isAgg4
 z4:=Tryz.sizeOf4
 v4:=Tryz.zeroValue4
 t5:=underlying5
 a5:=Tryz.isAgg5
 z5:=Tryz.sizeOf5
 v5:=Tryz.zeroValue5
 t9:=underlying9
 a9:=Tryz.isAgg9
 z9:=Tryz.sizeOf9
 v9:=Tryz.zeroValue9
 t22:=underlying23
 a22:=Tryz.isAgg23
 z22:=Tryz.sizeOf23
 v22:=Tryz.zeroValue23
 t25:=underlying144
 a25:=Tryz.isAgg144
 z25:=Tryz.sizeOf144
 v25:=Tryz.zeroValue144
 t39:=underlying139
 a39:=Tryz.isAgg139
 z39:=Tryz.sizeOf139
 v39:=Tryz.zeroValue139
 t45:=underlying151
 a45:=Tryz.isAgg151
 z45:=Tryz.sizeOf151
 v45:=Tryz.zeroValue151
 t46:=underlying152
 a46:=Tryz.isAgg152
 z46:=Tryz.sizeOf152
 v46:=Tryz.zeroValue152
 t50:=underlying106
 a50:=Tryz.isAgg106
 z50:=Tryz.sizeOf106
 v50:=Tryz.zeroValue106
 t53:=underlying100
 a53:=Tryz.isAgg100
 z53:=Tryz.sizeOf100
 v53:=Tryz.zeroValue100
 t55:=underlying159
 a55:=Tryz.isAgg159
 z55:=Tryz.sizeOf159
 v55:=Tryz.zeroValue159
 t66:=underlying166
 a66:=Tryz.isAgg166
 z66:=Tryz.sizeOf166
 v66:=Tryz.zeroValue166
 t70:=underlying170
 a70:=Tryz.isAgg170
 z70:=Tryz.sizeOf170
 v70:=Tryz.zeroValue170
 t76:=underlying184
 a76:=Tryz.isAgg184
 z76:=Tryz.sizeOf184
 v76:=Tryz.zeroValue184
 t77:=underlying185
 a77:=Tryz.isAgg185
 z77:=Tryz.sizeOf185
 v77:=Tryz.zeroValue185}
def Tryz.itoaS_ren:Go.Shelf.Ren:=⟨fun|171=>118|243=>148|246=>174|283=>183|284=>184|285=>185|286=>186|129=>135|317=>197|318=>198|319=>199|320=>200|337=>95|338=>204|n=>n,fun|3=>3|9=>9|2=>2|4=>4|171=>193|0=>0|53=>159|37=>105|5=>5|173=>195|212=>205|51=>100|20=>20|213=>206|46=>139|232=>148|233=>210|n=>n,fun|17=>1|18=>0|19=>2|n=>n⟩
theorem Tryz.itoaS:Go.Proofs.LaysM.n171 prog Tryz.itoaS_ren:={
 mixed:=by kernel_rfl
 f129:=func135.trans (congrArg some qK)
 f171:=func118.trans (congrArg some qK)
 f243:=func148.trans (congrArg some qK)
 f246:=func174.trans (congrArg some qK)
 f283:=func183.trans (congrArg some qK)
 f284:=func184.trans (congrArg some qK)
 f285:=func185.trans (congrArg some qK)
 f286:=func186.trans (congrArg some qK)
 f317:=func197.trans (congrArg some qK)
 f318:=func198.trans (congrArg some qK)
 f319:=func199.trans (congrArg some qK)
 f320:=func200.trans (congrArg some qK)
 f337:=func95.trans (congrArg some qK)
 f338:=func204.trans (congrArg some qK)
 t0:=underlying0
 a0:=Tryz.isAgg0
 z0:=Tryz.sizeOf0
 v0:=Tryz.zeroValue0
 t2:=underlying2
 a2:=Tryz.isAgg2
 z2:=Tryz.sizeOf2
 v2:=Tryz.zeroValue2
 t3:=underlying3
 a3:=Tryz.isAgg3
 z3:=Tryz.sizeOf3
 v3:=Tryz.zeroValue3
 t4:=underlying4
 a4:=Tryz.isAgg4
 z4:=Tryz.sizeOf4
 v4:=Tryz.zeroValue4
 t5:=underlying5
 a5:=Tryz.isAgg5
 z5:=Tryz.sizeOf5
 v5:=Tryz.zeroValue5
 t9:=underlying9
 a9:=Tryz.isAgg9
 z9:=Tryz.sizeOf9
 v9:=Tryz.zeroValue9
 t20:=underlying20
 a20:=Tryz.isAgg20
 z20:=Tryz.sizeOf20
 v20:=Tryz.zeroValue20
 t37:=underlying105
 a37:=Tryz.isAgg105
 z37:=Tryz.sizeOf105
 v37:=Tryz.zeroValue105
 t46:=underlying139
 a46:=Tryz.isAgg139
 z46:=Tryz.sizeOf139
 v46:=Tryz.zeroValue139
 t51:=underlying100
 a51:=Tryz.isAgg100
 z51:=Tryz.sizeOf100
 v51:=Tryz.zeroValue100
 t53:=underlying159
 a53:=Tryz.isAgg159
 z53:=Tryz.sizeOf159
 v53:=Tryz.zeroValue159
 t171:=underlying193
 a171:=Tryz.isAgg193
 z171:=Tryz.sizeOf193
 v171:=Tryz.zeroValue193
 t173:=underlying195
 a173:=Tryz.isAgg195
 z173:=Tryz.sizeOf195
 v173:=Tryz.zeroValue195
 t212:=underlying205
 a212:=Tryz.isAgg205
 z212:=Tryz.sizeOf205
 v212:=Tryz.zeroValue205
 t213:=underlying206
 a213:=Tryz.isAgg206
 z213:=Tryz.sizeOf206
 t232:=underlying148
 a232:=Tryz.isAgg148
 z232:=Tryz.sizeOf148
 v232:=Tryz.zeroValue148
 t233:=underlying210
 a233:=Tryz.isAgg210
 z233:=Tryz.sizeOf210
 v233:=Tryz.zeroValue210
 g17:=by kernel_rfl
 g18:=by kernel_rfl
 g19:=by kernel_rfl
 i0:=by kernel_rfl
 i2:=by kernel_rfl
 i3:=by kernel_rfl
 i4:=by kernel_rfl
 i5:=by kernel_rfl
 i9:=by kernel_rfl
 i20:=by kernel_rfl
 i37:=by kernel_rfl
 i46:=by kernel_rfl
 i51:=by kernel_rfl
 i53:=by kernel_rfl
 i171:=by kernel_rfl
 i173:=by kernel_rfl
 i212:=by kernel_rfl
 i232:=by kernel_rfl
 i233:=by kernel_rfl
 m17:=by kernel_rfl
 m18:=by kernel_rfl
 m19:=by kernel_rfl}
def Tryz.mapCl_ren:Go.Shelf.Ren:=⟨fun|5=>88|7=>117|n=>n,fun|23=>118|25=>3|3=>9|4=>4|20=>20|n=>n,fun|n=>n⟩
theorem Tryz.mapCl:Go.Proofs.SlLaysW.n5 prog Tryz.mapCl_ren:={
 mixed:=by kernel_rfl
 f5:=⟨Tryz.f88.name,qD,func88.trans (congrArg some qK)⟩
 f7:=func117.trans (congrArg some qK)
 t4:=underlying4
 a4:=Tryz.isAgg4
 z4:=Tryz.sizeOf4
 v4:=Tryz.zeroValue4
 t20:=underlying20
 a20:=Tryz.isAgg20
 z20:=Tryz.sizeOf20
 v20:=Tryz.zeroValue20
 t23:=underlying118
 a23:=Tryz.isAgg118
 z23:=Tryz.sizeOf118
 v23:=Tryz.zeroValue118}
def Tryz.sortI_ren:Go.Shelf.Ren:=⟨fun|189=>65|125=>107|257=>106|128=>134|129=>135|294=>125|295=>126|296=>127|297=>128|298=>129|299=>130|216=>131|300=>132|301=>133|328=>151|329=>152|330=>153|331=>154|332=>155|215=>156|343=>175|n=>n,fun|28=>46|3=>3|46=>139|0=>0|51=>100|53=>159|4=>4|183=>152|182=>151|131=>106|5=>5|9=>9|218=>166|222=>170|228=>184|229=>185|n=>n,fun|n=>n⟩
theorem Tryz.sortI:Go.Proofs.Lays.n189 prog Tryz.sortI_ren:={
 mixed:=by kernel_rfl
 f125:=func107.trans (congrArg some qK)
 f128:=func134.trans (congrArg some qK)
 f129:=func135.trans (congrArg some qK)
 f189:=func65.trans (congrArg some qK)
 f215:=func156.trans (congrArg some qK)
 f216:=func131.trans (congrArg some qK)
 f257:=func106.trans (congrArg some qK)
 f294:=func125.trans (congrArg some qK)
 f295:=func126.trans (congrArg some qK)
 f296:=func127.trans (congrArg some qK)
 f297:=func128.trans (congrArg some qK)
 f298:=func129.trans (congrArg some qK)
 f299:=func130.trans (congrArg some qK)
 f300:=func132.trans (congrArg some qK)
 f301:=func133.trans (congrArg some qK)
 f328:=func151.trans (congrArg some qK)
 f329:=func152.trans (congrArg some qK)
 f330:=func153.trans (congrArg some qK)
 f331:=func154.trans (congrArg some qK)
 f332:=func155.trans (congrArg some qK)
 f343:=func175.trans (congrArg some qK)
 t0:=underlying0
 a0:=Tryz.isAgg0
 z0:=Tryz.sizeOf0
 v0:=Tryz.zeroValue0
 t3:=underlying3
 a3:=Tryz.isAgg3
 z3:=Tryz.sizeOf3
 v3:=Tryz.zeroValue3
 t4:=underlying4
 a4:=Tryz.isAgg4
 z4:=Tryz.sizeOf4
 v4:=Tryz.zeroValue4
 t5:=underlying5
 a5:=Tryz.isAgg5
 z5:=Tryz.sizeOf5
 v5:=Tryz.zeroValue5
 t9:=underlying9
 a9:=Tryz.isAgg9
 z9:=Tryz.sizeOf9
 v9:=Tryz.zeroValue9
 t28:=underlying46
 a28:=Tryz.isAgg46
 z28:=Tryz.sizeOf46
 v28:=Tryz.zeroValue46
 t46:=underlying139
 a46:=Tryz.isAgg139
 z46:=Tryz.sizeOf139
 v46:=Tryz.zeroValue139
 t51:=underlying100
 a51:=Tryz.isAgg100
 z51:=Tryz.sizeOf100
 v51:=Tryz.zeroValue100
 t53:=underlying159
 a53:=Tryz.isAgg159
 z53:=Tryz.sizeOf159
 v53:=Tryz.zeroValue159
 t131:=underlying106
 a131:=Tryz.isAgg106
 z131:=Tryz.sizeOf106
 v131:=Tryz.zeroValue106
 t182:=underlying151
 a182:=Tryz.isAgg151
 z182:=Tryz.sizeOf151
 v182:=Tryz.zeroValue151
 t183:=underlying152
 a183:=Tryz.isAgg152
 z183:=Tryz.sizeOf152
 v183:=Tryz.zeroValue152
 t218:=underlying166
 a218:=Tryz.isAgg166
 z218:=Tryz.sizeOf166
 v218:=Tryz.zeroValue166
 t222:=underlying170
 a222:=Tryz.isAgg170
 z222:=Tryz.sizeOf170
 v222:=Tryz.zeroValue170
 t228:=underlying184
 a228:=Tryz.isAgg184
 z228:=Tryz.sizeOf184
 v228:=Tryz.zeroValue184
 t229:=underlying185
 a229:=Tryz.isAgg185
 z229:=Tryz.sizeOf185
 v229:=Tryz.zeroValue185}
def Tryz.compI_ren:Go.Shelf.Ren:=⟨fun|20=>66|n=>n,fun|22=>46|3=>3|4=>4|0=>0|n=>n,fun|n=>n⟩
theorem Tryz.compI:Go.Proofs.Lays2.n20 prog Tryz.compI_ren:={
 mixed:=by kernel_rfl
 f20:=func66.trans (congrArg some qK)
 t0:=underlying0
 a0:=Tryz.isAgg0
 z0:=Tryz.sizeOf0
 v0:=Tryz.zeroValue0
 t3:=underlying3
 a3:=Tryz.isAgg3
 z3:=Tryz.sizeOf3
 v3:=Tryz.zeroValue3
 t4:=underlying4
 a4:=Tryz.isAgg4
 z4:=Tryz.sizeOf4
 v4:=Tryz.zeroValue4
 t22:=underlying46
 a22:=Tryz.isAgg46
 z22:=Tryz.sizeOf46
 v22:=Tryz.zeroValue46
 i3:=by kernel_rfl}
end Go.Proofs
namespace Go.Proofs
open Go Go.Eng
set_option maxRecDepth 100000
theorem Ay:Df prog 3 1:=by unfold Df;kernel_rfl
theorem Xr:LS prog 3 8:=by unfold LS;kernel_rfl
theorem Iw:Ex prog 3 (.int .i64 0):=by unfold Ex;kernel_rfl
theorem Al:DW prog 3=true:=by kernel_rfl
theorem Sk:Df prog 4 1:=by unfold Df;kernel_rfl
theorem Ou:DW prog 4=true:=by kernel_rfl
theorem U6:Df prog 5 1:=by unfold Df;kernel_rfl
theorem YJ:LS prog 5 1:=by unfold LS;kernel_rfl
theorem X':Ex prog 5 (.int .u8 0):=by unfold Ex;kernel_rfl
theorem Xl:DW prog 5=true:=by kernel_rfl
theorem Xz:Ex prog 9 (.string ByteArray.empty):=by unfold Ex;kernel_rfl
theorem CM:Df prog 22 1:=by unfold Df;kernel_rfl
theorem WJ:LS prog 22 24:=by unfold LS;kernel_rfl
theorem QM:Ex prog 22 (.slice none 0 0):=by unfold Ex;kernel_rfl
theorem Cb:DW prog 22=true:=by kernel_rfl
theorem CG:Df prog 23 1:=by unfold Df;kernel_rfl
theorem B0:DW prog 23=true:=by kernel_rfl
theorem AH:Df prog 25 6:=by unfold Df;kernel_rfl
theorem LC:LS prog 25 80:=by unfold LS;kernel_rfl
theorem A9:Ex prog 25 (.agg #[(.int .i64 0),(.slice none 0 0),(.slice none 0 0),(.int .i64 0),(.int .i64 0),(.bool false)]):=by unfold Ex;kernel_rfl
theorem Ad:Hh prog 25=true:=by kernel_rfl
theorem Sn:Df prog 28 1:=by unfold Df;kernel_rfl
theorem XS:Ex prog 28 (.int .i64 0):=by unfold Ex;kernel_rfl
theorem P3:DW prog 28=true:=by kernel_rfl
theorem Sl:Df prog 34 1:=by unfold Df;kernel_rfl
theorem XR:Ex prog 34 (.slice none 0 0):=by unfold Ex;kernel_rfl
theorem K2:DW prog 34=true:=by kernel_rfl
theorem KS:Df prog 46 1:=by unfold Df;kernel_rfl
theorem K1:DW prog 46=true:=by kernel_rfl
theorem Fv:Df prog 63 1:=by unfold Df;kernel_rfl
theorem Gn:DW prog 63=true:=by kernel_rfl
theorem QV:Df prog 65 11:=by unfold Df;kernel_rfl
theorem XQ:Ex prog 65 (.agg #[(.int .i64 0),(.slice none 0 0),(.slice none 0 0),(.int .i64 0),(.int .i64 0),(.bool false),(.int .i64 0),(.slice none 0 0),(.map none),(.int .i64 0),(.int .i64 0)]):=by unfold Ex;kernel_rfl
theorem WK:Hh prog 65=true:=by kernel_rfl
theorem BU:Df prog 80 2:=by unfold Df;kernel_rfl
theorem O':LS prog 80 16:=by unfold LS;kernel_rfl
theorem Ed:Ex prog 80 (.agg #[(.int .i64 0),(.int .i64 0)]):=by unfold Ex;kernel_rfl
theorem Ew:Hh prog 80=true:=by kernel_rfl
theorem QU:Df prog 94 2:=by unfold Df;kernel_rfl
theorem Xq:LS prog 94 16:=by unfold LS;kernel_rfl
theorem V8:Ex prog 94 (.agg #[(.int .i64 0),(.int .i64 0)]):=by unfold Ex;kernel_rfl
theorem Xv:Hh prog 94=true:=by kernel_rfl
theorem CP:Df prog 100 1:=by unfold Df;kernel_rfl
theorem EE:DW prog 100=true:=by kernel_rfl
theorem Ep:Df prog 101 1:=by unfold Df;kernel_rfl
theorem XG:LS prog 101 8:=by unfold LS;kernel_rfl
theorem SS:Ex prog 101 (.pointer none):=by unfold Ex;kernel_rfl
theorem Eb:DW prog 101=true:=by kernel_rfl
theorem Mk:Ex prog 117 (.pointer none):=by unfold Ex;kernel_rfl
theorem Pa:Df prog 118 1:=by unfold Df;kernel_rfl
theorem NH:DW prog 118=true:=by kernel_rfl
theorem WZ:Df prog 120 7:=by unfold Df;kernel_rfl
theorem Mr:Df prog 132 25:=by unfold Df;kernel_rfl
theorem WM:Ex prog 132 (.agg #[(.int .u32 0),(.int .u32 0),(.int .u32 0),(.int .u32 0),(.int .u32 0),(.int .u32 0),(.int .u32 0),(.int .u32 0),(.int .u32 0),(.int .u32 0),(.int .u32 0),(.int .u32 0),(.int .u32 0),(.int .u32 0),(.int .u32 0),(.int .u32 0),(.int .u32 0),(.int .u32 0),(.int .u32 0),(.int .u32 0),(.int .u32 0),(.int .u32 0),(.int .u32 0),(.int .u32 0),(.int .u32 0)]):=by unfold Ex;kernel_rfl
theorem Ug:Hh prog 132=true:=by kernel_rfl
theorem mixed:prog.follows .mixedOrders=true:=by kernel_rfl
end Go.Proofs
namespace Go.Proofs
open Go Go.Eng
set_option maxRecDepth 100000
theorem PP {S:Type} (F:S→Re→Bool×S) (Inv:S→World→Prop) (M:Nat→Prop) (bd:Nat) (fv:Value) (wb:World)
    (hM:∀b,M b→wb.heap.size≤b∧b<bd) (hst:∀s w w',Inv s w→Ae w w'→Inv s w')
    (hf:∀s w t vs,bd≤w.heap.size→Ae wb w→Inv s w→A4 wb t vs→Bh prog fv #[.agg vs.toArray] w fun v w'=>v=.bool (F s t).1∧Chg M w w'∧Inv (F s t).2 w') :
    ∀n t,t.size≤n→∀s w0 vs,bd≤w0.heap.size→Ae wb w0→Inv s w0→A4 wb t vs→
      Bi prog 69 #[.agg vs.toArray,fv] w0 fun v w'=>v=.bool (CU F t s).1∧Chg M w0 w'∧Inv (CU F t s).2 w':=by
  have ad:∀{w w':World},Ae wb w→Chg M w w'→Ae wb w':=fun e c=>Chg.step e c fun x hx hm=>by have:=(hM x hm).1;omega
  intro n
  induction n with
  | zero=>intro t ht;have:=t.size_pos;omega
  | succ n ih=>
  intro t hn s w0 vs hbd hE hI ht;obtain ⟨sa,sc,aa,ac,rfl,ak,ap,ag⟩:=ht.form;rw[Ee];refine EY func69 rfl ntmps69 (Qo rfl) ?_;have E:Chg M w0 w0:=Chg.refl _ _;refine AA (BL (v:=(.agg (R6 t sa sc aa ac))) (c:=(R6 t sa sc aa ac)) qD rfl rfl ?_);intro b1 w1 N1;have F1:=N1.ge E;replace hI:=hst _ _ _ hI N1.ext;replace E:=E.ext N1.ext;have B1:=N1.blk;refine qA _ rfl (AB (AG (AA (qM _ rfl (qV (AK (vs:=[(I6 t.kind),(.slice sa t.set.length sc),(.slice aa t.args.length ac),(I6 t.mn),(I6 t.mx),(.bool t.neg)]) rfl Ad AH rfl (B1.cells rfl)) (DN qD rfl rfl (hf s _ t _ (by have:=N1.size;omega) (hE.trans N1.ext) hI ht) ?_))))));rintro _ w2 ⟨rfl,C2,hI⟩;replace B1:=C2.keep (fun h=>by have:=(hM _ h).2;omega) B1;replace E:=E.trans C2;have hE2:Ae wb w2:=ad hE E;have z2:bd≤w2.heap.size:=by have:=C2.size;have:=N1.size;omega
  refine qV (Dg rfl) (AB (A_ rfl (fun h=>?_) (fun h=>?_)))
  · have kh:=h;replace h:=by simpa using h
    refine AA (qA _ rfl (AB (AJ (AP (AV results69 (v:=(.bool false)) rfl ?_)))));exact ⟨by rw[if_neg (by simp[h])],E,by rw[if_neg (by simp[h])];exact hI⟩
  · have kh:=h;replace h:=by simpa using h
    rw[if_pos (by simpa using h)];generalize (F s t).2=s1 at hI⊢;refine AO (AC (AG (AA (qF b1 0 2 rfl underlying25 rfl CG rfl (qV (AL rfl B0 (B1.cell rfl)) (qV (Aa underlying23 rfl) (qM _ rfl (AB (AU (Av (fun nn_ σ W3=>∃(k:Nat) (s':S),(∃jj_,σ=Bj jj_ [(1,fv),(12,(.slice aa t.args.length ac)),(13,(I6 (t.args.length:Int))),(14,(I6 (k:Int)))])∧Chg M w0 W3∧BH W3 b1 (R6 t sa sc aa ac) 25∧(k≤t.args.length)∧(bd≤W3.heap.size)∧(Inv s' W3)∧(CO F t.args s1=CO F (t.args.drop k) s')∧nn_=t.args.length - k) (n:=t.args.length - 0) ?_ ?_))))))))))
    · exact ⟨0,s1,Am.out ⟨rfl,rfl,rfl,rfl,trivial⟩,E,B1,Nat.zero_le _,z2,hI,rfl,rfl⟩
    · clear E B1;rintro _ _ W3 ⟨k,s',⟨j3,rfl⟩,E,B1,hk,hz,hI,ab,rfl⟩;refine AA (qV (BE rfl rfl) (AB (AG (qC rfl (fun ai=>?_) (fun ai=>?_)))))
      · have ae:k<t.args.length:=qO
        obtain ⟨x,hx⟩:∃x,t.args[k]?=some x:=⟨_,List.getElem?_eq_getElem ae⟩;obtain ⟨b,o,rfl,ah⟩:∃b o,aa=some ⟨b,o,none⟩∧CB wb b o t.args:=by
          rcases ag with h|h
          · rw[h] at ae;simp at ae
          · exact h
        obtain ⟨us,ao,af⟩:=ah.get hx;have an:Ae wb _:=ad hE E;refine AO (AC (AG (AU (AA (qV (AN (b:=b) (o:=o) (len:=t.args.length) (cap:=ac) (i:=k) (o':=o+k*6) rfl rfl rfl underlying23 AH qO qO) (qV (AK rfl Ad AH af.len (ao.ext an)) ?_))))));have hsz:=Re.size_arg hx;refine As (v:=(.agg us.toArray)) (c:=us.toArray) (n:=6) qD A9 rfl AH rfl rfl (by simpa using af.len) (by simpa using A4.one af) ?_;intro b5 w5 N5;have F5:=N5.ge E;have O5_b1:=N5.lt B1;replace B1:=N5.keep B1;replace hI:=hst _ _ _ hI N5.ext;replace E:=E.ext N5.ext;have B5:=N5.blk;refine AB (AA (qV (AK rfl Ad AH af.len (B5.cells qP)) (qM _ rfl (qE rfl (AI func69 kQ kQ rfl) (ih x qO s' _ us (by have:=N5.size;omega) (ad hE E) hI af) ?_))));rintro _ w9 ⟨rfl,C9,hI⟩;replace B1:=C9.keep (fun h=>by have:=(hM _ h).2;omega) B1;replace B5:=C9.keep (fun h=>by have:=(hM _ h).2;omega) B5;replace E:=E.trans C9;have am:t.args.drop k=x::t.args.drop (k+1):=by rw[List.drop_eq_getElem_cons ae];rw[List.getElem?_eq_getElem ae] at hx;cases hx;rfl
        rw[am,C'] at ab;refine qV (Dg rfl) (AB (A_ rfl (fun h2=>?_) (fun h2=>?_)))
        · have aj:=h2;replace h2:=by simpa using h2
          refine AA (qA _ rfl (AB (AJ (Ac (AP (AP (Ac (AP (AV results69 (v:=(.bool false)) rfl ?_)))))))));exact ⟨by rw[ab,if_neg (by simp[h2])],E,by rw[ab,if_neg (by simp[h2])];exact hI⟩
        · have aj:=h2;replace h2:=by simpa using h2
          rw[if_pos (by simpa using h2)] at ab;refine AO (AQ (AC (AR (qV (Ax rfl rfl (A8 qO)) (qM _ rfl (AB (AC ?_)))))));exact ⟨t.args.length - (k+1),qO,k+1,(CU F x s').2,Am.out ⟨rfl,rfl,rfl,rfl,trivial⟩,E,B1,qO,(by have:=C9.size;have:=N5.size;omega),hI,ab,rfl⟩
      · have al:k=t.args.length:=qO
        rw[al,List.drop_length] at ab;refine Aw (AZ (AZ (Ap (AC (AA (qA _ rfl (AB (AJ (AV results69 (v:=(.bool true)) rfl ?_)))))))));exact ⟨by rw[ab];rfl,E,by rw[ab];exact hI⟩
end Go.Proofs
namespace Go.Proofs
open Go Go.Eng
set_option maxRecDepth 100000
def Fd (s:Int×Int):Bool:=(decide (0<=s.1) && decide (s.1<=s.2)) && decide (s.2<=1114111)
theorem Un (s:Int×Int) (n:World) :
 Bi prog 105 #[.agg #[.int .i64 s.1,.int .i64 s.2]] n λv w=>v=.bool (Fd s)∧Ae n w:=by
 refine qR func105 O ntmps105 O (λE=>(AA (BL (v:=(.agg #[(I6 s.1),(I6 s.2)])) (c:=#[(I6 s.1),(I6 s.2)]) qD O O ?_)));intro k w1 l;replace E:=E.ext l.ext;have j:=l.blk;refine qA _ O (AB (AA (qF k 0 0 O underlying80 O Ay O (qV (AL O Al (j.cell O)) ?_))));obtain ⟨a,f⟩:∃e,(decide ((0:Int)<=s.1))=e:=⟨_,O⟩;refine qV ((FX O O).trans (by rw[f];try rfl)) (qM _ O (qG (.bool a) (yU a (P6 k 0)) (by cases a<;>first|exact gA|exact gB|exact .inl ⟨O,AY O underlying80 O Ay O⟩) (qG (.bool a) (yU a (I6 s.1)) (by cases a<;>first|exact gA|exact gB|exact .inl ⟨O,AL O Al (j.cell O)⟩) (qG (.bool a) (yU a (P6 k 1)) (by cases a<;>first|exact gA|exact gB|exact .inl ⟨O,AY O underlying80 O Ay O⟩) (qG (.bool a) (yU a (I6 s.2)) (by cases a<;>first|exact gA|exact gB|exact .inl ⟨O,AL O Al (j.cell O)⟩) ?_)))));obtain ⟨o,h⟩:∃e,(decide ((s.1:Int)<=s.2))=e:=⟨_,O⟩;refine qG (.bool a) (yU a (.bool o)) (by cases a<;>first|exact gA|exact gB|exact .inl ⟨O,(Jf O O).trans (by rw[h];try rfl)⟩) ?_;obtain ⟨b,i⟩:∃e,(a && o)=e:=⟨_,O⟩;refine qV (Aq (v:=.bool b) O (by rw[<-i];cases a<;>rfl)) (qM _ O (qG (.bool b) (yU b (P6 k 1)) (by cases b<;>first|exact gA|exact gB|exact .inl ⟨O,AY O underlying80 O Ay O⟩) (qG (.bool b) (yU b (I6 s.2)) (by cases b<;>first|exact gA|exact gB|exact .inl ⟨O,AL O Al (j.cell O)⟩) ?_)));obtain ⟨m,g⟩:∃e,(decide ((s.2:Int)<=1114111))=e:=⟨_,O⟩;refine qG (.bool b) (yU b (.bool m)) (by cases b<;>first|exact gA|exact gB|exact .inl ⟨O,(Jf O O).trans (by rw[g];try rfl)⟩) ?_;obtain ⟨p,d⟩:∃e,(b && m)=e:=⟨_,O⟩;refine qV (Aq (v:=.bool p) O (by rw[<-d];cases b<;>rfl)) (qA _ O (AB ?_));subst d;subst g;subst i;subst h;subst f;refine AJ (AV results105 (v:=(.bool (((decide ((0:Int)<=s.1)) && (decide ((s.1:Int)<=s.2))) && (decide ((s.2:Int)<=1114111))))) O ?_);exact ⟨O,E⟩
def J5 (k n:Int):Bool:=if k=3∨k=4∨k=7 then decide (2<=n) else if k=5∨k=6∨k=8∨k=9∨k=10 then decide (n=1) else decide (n=0)
def EM (t:Re):Bool:=
 (((J5 t.kind t.args.length && (decide (t.kind=2) || decide ((t.set.length:Int)=0))) && ((decide (t.kind=6) || decide (t.kind=9)) || decide (t.mn=0))) && (decide (t.kind=6) || decide (t.mx=0))) && (decide (t.kind=10) || !t.neg)
theorem XA (wb w0:World) (t:Re) (vs:List Value) (ht:A4 wb t vs) :
 Bi prog 123 #[.agg vs.toArray] w0 λv w=>v=.bool (EM t)∧Ae w0 w:=by
 obtain ⟨sa,sc,aa,ac,rfl,hset,hlen,hargs⟩:=ht.form;refine qR func123 O ntmps123 O (λE=>(AA (BL (v:=(.agg (R6 t sa sc aa ac))) (c:=(R6 t sa sc aa ac)) qD O O ?_)));intro m w1 N1;replace E:=E.ext N1.ext;have l:=N1.blk;refine qA _ O (AB (AA (qF m 0 2 O underlying25 O CG O (qV (AL O B0 (l.cell O)) (qV (Aa underlying23 O) (qA _ O (AB (AA (qM _ O (qV (Aj O O) (qA _ O (AB (JV (λσ W2=>∃(f:Bool),(∃jj_,σ=Bj jj_ [(1,(P6 m 0)),(4,(.bool f))])∧Chg Ak w0 W2∧BH W2 m (R6 t sa sc aa ac) 25∧(f=J5 t.kind t.args.length)) ?_ ?_)))))))))))))
 .skip
  refine AA (qF m 0 0 O underlying25 O Ay O (qV (AL O Al (l.cell O)) (AB (AU (AG (AA (qV (Aj O O) (qA _ O (AB (qC O (λQ=>?_) (λQ=>?_)))))))))))
  .have D:=decide_eq_true Q;refine AO (AC (Az (BC D) (AR (qM _ O (qV (FX O O) (qA _ O (AB (AQ (AC ?_)))))))));exact ⟨(decide ((2:Int)<=((t.args.length:Nat):Int))),Am.out ⟨O,O,trivial⟩,E,l,(by unfold J5;(repeat' split)<;>first|rfl|omega)⟩
  .have D:=decide_eq_false Q;refine AA (qV (Aj O O) (qA _ O (AB (qC O (λW=>?_) (λW=>?_)))))
   .have G:=decide_eq_true W;refine AO (AC (Az (BC G) (AR (qM _ O (qV (FX O O) (qA _ O (AB (AQ (AC ?_)))))))));exact ⟨(decide ((2:Int)<=((t.args.length:Nat):Int))),Am.out ⟨O,O,trivial⟩,E,l,(by unfold J5;(repeat' split)<;>first|rfl|omega)⟩
   .have G:=decide_eq_false W;refine AR (qV (Aj O O) (qA _ O (AB (AC (qC O (λaj=>?_) (λaj=>?_))))))
    .refine AR (qM _ O (qV (FX O O) (qA _ O (AB (AQ (AC ?_))))));exact ⟨(decide ((2:Int)<=((t.args.length:Nat):Int))),Am.out ⟨O,O,trivial⟩,E,l,(by unfold J5;(repeat' split)<;>first|rfl|omega)⟩
    .refine AG (AA (qV (Aj O O) (qA _ O (AB (qC O (λR=>?_) (λR=>?_))))))
     .have n:=decide_eq_true R;refine AO (AC (Az (BC n) (AR (qM _ O (qV (Aj O O) (qA _ O (AB (AQ (AC ?_)))))))));exact ⟨(decide ((((t.args.length:Nat):Int):Int)=1)),Am.out ⟨O,O,trivial⟩,E,l,(by unfold J5;(repeat' split)<;>first|rfl|omega)⟩
     .have n:=decide_eq_false R;refine AA (qV (Aj O O) (qA _ O (AB (qC O (λT=>?_) (λT=>?_)))))
      .have B:=decide_eq_true T;refine AO (AC (Az (BC B) (AR (qM _ O (qV (Aj O O) (qA _ O (AB (AQ (AC ?_)))))))));exact ⟨(decide ((((t.args.length:Nat):Int):Int)=1)),Am.out ⟨O,O,trivial⟩,E,l,(by unfold J5;(repeat' split)<;>first|rfl|omega)⟩
      .have B:=decide_eq_false T;refine AA (qV (Aj O O) (qA _ O (AB (qC O (λU=>?_) (λU=>?_)))))
       .have K:=decide_eq_true U;refine AO (AC (Az (BC K) (AR (qM _ O (qV (Aj O O) (qA _ O (AB (AQ (AC ?_)))))))));exact ⟨(decide ((((t.args.length:Nat):Int):Int)=1)),Am.out ⟨O,O,trivial⟩,E,l,(by unfold J5;(repeat' split)<;>first|rfl|omega)⟩
       .have K:=decide_eq_false U;refine AA (qV (Aj O O) (qA _ O (AB (qC O (λS=>?_) (λS=>?_)))))
        .have C:=decide_eq_true S;refine AO (AC (Az (BC C) (AR (qM _ O (qV (Aj O O) (qA _ O (AB (AQ (AC ?_)))))))));exact ⟨(decide ((((t.args.length:Nat):Int):Int)=1)),Am.out ⟨O,O,trivial⟩,E,l,(by unfold J5;(repeat' split)<;>first|rfl|omega)⟩
        .have C:=decide_eq_false S;refine AR (qV (Aj O O) (qA _ O (AB (AC (qC O (λae=>?_) (λae=>?_))))))
         .refine AR (qM _ O (qV (Aj O O) (qA _ O (AB (AQ (AC ?_))))));exact ⟨(decide ((((t.args.length:Nat):Int):Int)=1)),Am.out ⟨O,O,trivial⟩,E,l,(by unfold J5;(repeat' split)<;>first|rfl|omega)⟩
         .refine AO (AQ (AC ?_));exact ⟨(decide ((((t.args.length:Nat):Int):Int)=0)),Am.out ⟨O,O,trivial⟩,E,l,(by unfold J5;(repeat' split)<;>first|rfl|omega)⟩
 .clear E l;rintro _ W2 ⟨f,⟨j2,rfl⟩,E,l,ak⟩;refine AA (qM _ O (qM _ O (qG (.bool f) (yU f (P6 m 0)) (by cases f<;>first|exact gA|exact gB|exact .inl ⟨O,AY O underlying25 O Ay O⟩) (qG (.bool f) (yU f (I6 t.kind)) (by cases f<;>first|exact gA|exact gB|exact .inl ⟨O,AL O Al (l.cell O)⟩) ?_))));obtain ⟨g,o⟩:∃e,(decide ((t.kind:Int)=2))=e:=⟨_,O⟩;refine qG (.bool f) (yU f (.bool g)) (by cases f<;>first|exact gA|exact gB|exact .inl ⟨O,(Aj O O).trans (by rw[o];try rfl)⟩) (qG (.bool f) (yU f (.bool g)) (by cases f<;>first|exact gA|exact gB|exact .inl ⟨O,Ai O⟩) (qG (yU f (.bool g)) (yU f (nU g (P6 m 1))) (by cases f<;>cases g<;>first|exact gA|exact gB|exact .inl ⟨O,AY O underlying25 O CM O⟩) (qG (yU f (.bool g)) (yU f (nU g (.slice sa t.set.length sc))) (by cases f<;>cases g<;>first|exact gA|exact gB|exact .inl ⟨O,AL O Cb (l.cell O)⟩) (qG (yU f (.bool g)) (yU f (nU g (I6 (t.set.length:Int)))) (by cases f<;>cases g<;>first|exact gA|exact gB|exact .inl ⟨O,Aa underlying22 O⟩) ?_))));obtain ⟨ag,L⟩:∃e,(decide ((((t.set.length:Nat):Int):Int)=0))=e:=⟨_,O⟩;refine qG (yU f (.bool g)) (yU f (nU g (.bool ag))) (by cases f<;>cases g<;>first|exact gA|exact gB|exact .inl ⟨O,(Aj O O).trans (by rw[L];try rfl)⟩) ?_;obtain ⟨Z,s⟩:∃e,(g || ag)=e:=⟨_,O⟩;refine qG (.bool f) (yU f (.bool Z)) (by cases f<;>first|exact gA|exact gB|exact .inl ⟨O,Aq (v:=.bool Z) O (by rw[<-s];cases g<;>rfl)⟩) ?_;obtain ⟨a,p⟩:∃e,(f && Z)=e:=⟨_,O⟩;refine qV (Aq (v:=.bool a) O (by rw[<-p];cases f<;>rfl)) (qM _ O (qG (.bool a) (yU a (P6 m 0)) (by cases a<;>first|exact gA|exact gB|exact .inl ⟨O,AY O underlying25 O Ay O⟩) (qG (.bool a) (yU a (I6 t.kind)) (by cases a<;>first|exact gA|exact gB|exact .inl ⟨O,AL O Al (l.cell O)⟩) ?_)));obtain ⟨i,H⟩:∃e,(decide ((t.kind:Int)=6))=e:=⟨_,O⟩;refine qG (.bool a) (yU a (.bool i)) (by cases a<;>first|exact gA|exact gB|exact .inl ⟨O,(Aj O O).trans (by rw[H];try rfl)⟩) (qG (.bool a) (yU a (.bool i)) (by cases a<;>first|exact gA|exact gB|exact .inl ⟨O,Ai O⟩) (qG (yU a (.bool i)) (yU a (nU i (P6 m 0))) (by cases a<;>cases i<;>first|exact gA|exact gB|exact .inl ⟨O,AY O underlying25 O Ay O⟩) (qG (yU a (.bool i)) (yU a (nU i (I6 t.kind))) (by cases a<;>cases i<;>first|exact gA|exact gB|exact .inl ⟨O,AL O Al (l.cell O)⟩) ?_)));obtain ⟨ad,u⟩:∃e,(decide ((t.kind:Int)=9))=e:=⟨_,O⟩;refine qG (yU a (.bool i)) (yU a (nU i (.bool ad))) (by cases a<;>cases i<;>first|exact gA|exact gB|exact .inl ⟨O,(Aj O O).trans (by rw[u];try rfl)⟩) ?_;obtain ⟨h,M⟩:∃e,(i || ad)=e:=⟨_,O⟩;refine qG (.bool a) (yU a (.bool h)) (by cases a<;>first|exact gA|exact gB|exact .inl ⟨O,Aq (v:=.bool h) O (by rw[<-M];cases i<;>rfl)⟩) (qG (.bool a) (yU a (.bool h)) (by cases a<;>first|exact gA|exact gB|exact .inl ⟨O,Ai O⟩) (qG (yU a (.bool h)) (yU a (nU h (P6 m 3))) (by cases a<;>cases h<;>first|exact gA|exact gB|exact .inl ⟨O,AY O underlying25 O Ay O⟩) (qG (yU a (.bool h)) (yU a (nU h (I6 t.mn))) (by cases a<;>cases h<;>first|exact gA|exact gB|exact .inl ⟨O,AL O Al (l.cell O)⟩) ?_)));obtain ⟨ah,N⟩:∃e,(decide ((t.mn:Int)=0))=e:=⟨_,O⟩;refine qG (yU a (.bool h)) (yU a (nU h (.bool ah))) (by cases a<;>cases h<;>first|exact gA|exact gB|exact .inl ⟨O,(Aj O O).trans (by rw[N];try rfl)⟩) ?_;obtain ⟨ab,I⟩:∃e,(h || ah)=e:=⟨_,O⟩;refine qG (.bool a) (yU a (.bool ab)) (by cases a<;>first|exact gA|exact gB|exact .inl ⟨O,Aq (v:=.bool ab) O (by rw[<-I];cases h<;>rfl)⟩) ?_;obtain ⟨d,r⟩:∃e,(a && ab)=e:=⟨_,O⟩;refine qV (Aq (v:=.bool d) O (by rw[<-r];cases a<;>rfl)) (qM _ O (qG (.bool d) (yU d (P6 m 0)) (by cases d<;>first|exact gA|exact gB|exact .inl ⟨O,AY O underlying25 O Ay O⟩) (qG (.bool d) (yU d (I6 t.kind)) (by cases d<;>first|exact gA|exact gB|exact .inl ⟨O,AL O Al (l.cell O)⟩) ?_)));obtain ⟨k,A⟩:∃e,(decide ((t.kind:Int)=6))=e:=⟨_,O⟩;refine qG (.bool d) (yU d (.bool k)) (by cases d<;>first|exact gA|exact gB|exact .inl ⟨O,(Aj O O).trans (by rw[A];try rfl)⟩) (qG (.bool d) (yU d (.bool k)) (by cases d<;>first|exact gA|exact gB|exact .inl ⟨O,Ai O⟩) (qG (yU d (.bool k)) (yU d (nU k (P6 m 4))) (by cases d<;>cases k<;>first|exact gA|exact gB|exact .inl ⟨O,AY O underlying25 O Ay O⟩) (qG (yU d (.bool k)) (yU d (nU k (I6 t.mx))) (by cases d<;>cases k<;>first|exact gA|exact gB|exact .inl ⟨O,AL O Al (l.cell O)⟩) ?_)));obtain ⟨af,P⟩:∃e,(decide ((t.mx:Int)=0))=e:=⟨_,O⟩;refine qG (yU d (.bool k)) (yU d (nU k (.bool af))) (by cases d<;>cases k<;>first|exact gA|exact gB|exact .inl ⟨O,(Aj O O).trans (by rw[P];try rfl)⟩) ?_;obtain ⟨V,x⟩:∃e,(k || af)=e:=⟨_,O⟩;refine qG (.bool d) (yU d (.bool V)) (by cases d<;>first|exact gA|exact gB|exact .inl ⟨O,Aq (v:=.bool V) O (by rw[<-x];cases k<;>rfl)⟩) ?_;obtain ⟨b,q⟩:∃e,(d && V)=e:=⟨_,O⟩;refine qV (Aq (v:=.bool b) O (by rw[<-q];cases d<;>rfl)) (qM _ O (qG (.bool b) (yU b (P6 m 0)) (by cases b<;>first|exact gA|exact gB|exact .inl ⟨O,AY O underlying25 O Ay O⟩) (qG (.bool b) (yU b (I6 t.kind)) (by cases b<;>first|exact gA|exact gB|exact .inl ⟨O,AL O Al (l.cell O)⟩) ?_)));obtain ⟨j,J⟩:∃e,(decide ((t.kind:Int)=10))=e:=⟨_,O⟩;refine qG (.bool b) (yU b (.bool j)) (by cases b<;>first|exact gA|exact gB|exact .inl ⟨O,(Aj O O).trans (by rw[J];try rfl)⟩) (qG (.bool b) (yU b (.bool j)) (by cases b<;>first|exact gA|exact gB|exact .inl ⟨O,Ai O⟩) (qG (yU b (.bool j)) (yU b (nU j (P6 m 5))) (by cases b<;>cases j<;>first|exact gA|exact gB|exact .inl ⟨O,AY O underlying25 O Sk O⟩) (qG (yU b (.bool j)) (yU b (nU j (.bool t.neg))) (by cases b<;>cases j<;>first|exact gA|exact gB|exact .inl ⟨O,AL O Ou (l.cell O)⟩) ?_)));obtain ⟨ai,y⟩:∃e,(!t.neg)=e:=⟨_,O⟩;refine qG (yU b (.bool j)) (yU b (nU j (.bool ai))) (by cases b<;>cases j<;>first|exact gA|exact gB|exact .inl ⟨O,(Dg O).trans (by rw[y];try rfl)⟩) ?_;obtain ⟨X,z⟩:∃e,(j || ai)=e:=⟨_,O⟩;refine qG (.bool b) (yU b (.bool X)) (by cases b<;>first|exact gA|exact gB|exact .inl ⟨O,Aq (v:=.bool X) O (by rw[<-z];cases j<;>rfl)⟩) ?_;obtain ⟨al,F⟩:∃e,(b && X)=e:=⟨_,O⟩;refine qV (Aq (v:=.bool al) O (by rw[<-F];cases b<;>rfl)) (qA _ O (AB ?_));subst F;subst z;subst y;subst J;subst q;subst x;subst P;subst A;subst r;subst I;subst N;subst M;subst u;subst H;subst p;subst s;subst L;subst o;refine AJ (AV results123 (v:=(.bool ((((f && ((decide ((t.kind:Int)=2)) || (decide ((((t.set.length:Nat):Int):Int)=0)))) && (((decide ((t.kind:Int)=6)) || (decide ((t.kind:Int)=9))) || (decide ((t.mn:Int)=0)))) && ((decide ((t.kind:Int)=6)) || (decide ((t.mx:Int)=0)))) && ((decide ((t.kind:Int)=10)) || (!t.neg))))) O ?_);subst ak;exact ⟨O,E⟩
def EV:Option Int->List (Int×Int)->Int
  | _,[]=>0
  | p,s::r=>if Fd s=false then 1 else if (match p with|some h=>decide (s.1<h+2)|none=>false)=true then 3 else EV (some s.2) r
theorem Ek (p:Option Int) (s:Int×Int) (r:List (Int×Int)):EV p (s::r)=if Fd s=false then 1 else if (match p with|some h=>decide (s.1<h+2)|none=>false)=true then 3 else EV (some s.2) r:=rfl
def BT (l:List (Int×Int)):Int:=if 16<l.length then 2 else EV none l
def Dy (l:List (Int×Int)) (k:Nat):Option Int:=if k=0 then none else (l[k - 1]?).map (·.2)
theorem Td {l:List (Int×Int)} {k:Nat} {s:Int×Int} (h:l[k]?=some s):Dy l (k+1)=some s.2:=by
 unfold Dy;simp[h]
theorem Xg {l:List (Int×Int)} {k:Nat} {s:Int×Int} {p:Int} (a:0<k->∃q,l[k - 1]?=some q∧q.2=p∧Dy l k=some p)
 (b:(decide ((0:Int)<((k:Nat):Int)) && decide (s.1<p+2))=false):¬(match Dy l k with|some h=>decide (s.1<h+2)|none=>false)=true:=by
 by_cases c:0<k
 .obtain ⟨q,_,_,d⟩:=a c;rw[d];simp at b⊢;exact b c
 .have:Dy l k=none:=by unfold Dy;rw[if_pos qO]
  rw[this];simp
theorem OA (w0:World) (v:Value) (l:List (Int×Int)) (hs:BD w0 v l) :
  Bi prog 64 #[v] w0 fun v w=>v=.int .i64 (BT l)∧Ae w0 w:=by
 obtain ⟨a,c,rfl⟩:=BR.form hs;have au:l.length≤9223372036854775807:=by simpa using BR.le hs
 simp only[List.length_map] at hs⊢;refine qR func64 rfl ntmps64 rfl (fun E=>(AA (qA _ rfl (AB (AG (AA (qM _ rfl (qV (Aa underlying22 rfl) (qV (D0 rfl rfl) (AB (qC rfl (fun aw=>?_) (fun aw=>?_))))))))))))
 ·refine AA (qA _ rfl (AB (AJ (AP (AV results64 (v:=(.int .i64 2)) rfl ?_)))));exact ⟨by unfold BT;rw[if_pos qO],E⟩
 ·have an:BT l=EV none l:=by unfold BT;rw[if_neg qO]
  rw[an];refine AO (AC (AG (AA (qM _ rfl (qV (Aa underlying22 rfl) (qM _ rfl (AB (AU (Av (fun nn_ σ W2=>∃(k:Nat),(∃jj_,σ=Bj jj_ [(0,(.slice a l.length c)),(8,(.slice a l.length c)),(9,(I6 (l.length:Int))),(10,(I6 (k:Int)))])∧Chg Ak w0 W2∧(k≤l.length)∧(EV none l=EV (Dy l k) (l.drop k))∧(∀h,Dy l k=some h→0≤h∧h≤1114111)∧nn_=l.length - k) (n:=l.length - 0) ?_ ?_)))))))))
  ·exact ⟨0,Am.out ⟨rfl,rfl,rfl,rfl,trivial⟩,E,Nat.zero_le _,rfl,(by intro h hh;simp[Dy] at hh),rfl⟩
  ·clear E;rintro _ _ W2 ⟨k,⟨j2,rfl⟩,E,hk,aa,aq,rfl⟩;refine AA (qV (BE rfl rfl) (AB (AG (qC rfl (fun al=>?_) (fun al=>?_)))))
   ·have ad:k<l.length:=qO
    obtain ⟨s,af⟩:∃s,l[k]?=some s:=⟨_,List.getElem?_eq_getElem ad⟩;obtain ⟨b,o,rfl,ab⟩:=Bd hs qO;have ax:l.drop k=s::l.drop (k+1):=by rw[List.drop_eq_getElem_cons ad];rw[List.getElem?_eq_getElem ad] at af;cases af;rfl
    rw[ax] at aa;refine AO (AC (AG (AU (AA (qM _ rfl (qV (AN (b:=b) (o:=o) (len:=l.length) (cap:=c) (i:=k) (o':=o+k*2) rfl rfl rfl underlying22 BU qO qO) (qV (AK rfl Ew BU rfl ((ab k s af).ext E)) (Bg (c:=#[(I6 0),(I6 0)]) qD Ed rfl ?_))))))));intro b4 w4 N4;have F4:=N4.ge E;replace E:=E.ext N4.ext;have B4:=N4.blk;refine qA _ rfl (Ab (b:=b4) (o:=0) (c':=#[(I6 s.1),(I6 s.2)]) rfl rfl qS BU rfl B4 qL rfl ?_);intro w5 S5;replace E:=S5.step E qQ;replace B4:=S5.blk;refine AB (AG (AA (qV (AK (vs:=[(I6 s.1),(I6 s.2)]) rfl Ew BU rfl (B4.cells rfl)) (qE rfl (AI func105 kQ kQ rfl) (Un s _) ?_))));rintro _ w9 ⟨rfl,X9⟩;replace B4:=X9.keep B4;replace E:=E.ext X9;refine qV (Dg rfl) (AB (A_ rfl (fun hv=>?_) (fun hv=>?_)))
    ·have ar:=hv;replace hv:=by simpa using hv
     refine AA (qA _ rfl (AB (AJ (AP (Ac (AP (AP (Ac (AP (AV results64 (v:=(.int .i64 1)) rfl ?_))))))))));exact ⟨by rw[aa];rw[Ek,if_pos hv],E⟩
    ·have ar:=hv;replace hv:=by simpa using hv
     have ai:Fd s=true:=by simpa using hv
     have am:0≤s.2∧s.2≤1114111:=by unfold Fd at ai;simp at ai;omega
     obtain ⟨p,ae⟩:∃p,(Dy l k).getD 0=p:=⟨_,rfl⟩;have ah:0<k→∃q,l[k - 1]?=some q∧q.2=p∧Dy l k=some p:=by
      intro h0;have h1:k - 1<l.length:=qO
      have h2:Dy l k=some (l[k - 1]).2:=by unfold Dy;rw[if_neg qO,List.getElem?_eq_getElem h1];rfl
      rw[h2] at ae;simp at ae;exact ⟨_,List.getElem?_eq_getElem h1,ae,by rw[h2,ae]⟩
     have hpb:0≤p∧p≤1114111:=by
      by_cases h0:0<k
      ·obtain ⟨q,_,_,h3⟩:=ah h0;exact aq p h3
      ·have:Dy l k=none:=by unfold Dy;rw[if_pos qO]
       rw[this] at ae;simp at ae;omega
     refine AO (AC (El 13 mixed qK ?_));intro w7 X7 _;replace B4:=X7.keep B4;replace E:=E.ext X7;refine qT (Ai rfl) ?_;obtain ⟨e8,ac⟩:∃e,(decide ((0:Int)<((k:Nat):Int)))=e:=⟨_,rfl⟩;refine qT ((D0 rfl rfl).trans (by rw[ac];try rfl)) (qT (Ai rfl) (Bm (oj:=_) (gv:=(.bool e8)) (u:=(yU e8 (P6 b4 0))) rfl rfl qD qD rfl (by cases e8<;>first|exact gA|exact gB|exact .inl ⟨rfl,AY rfl underlying80 rfl Ay rfl⟩) (Bm (oj:=_) (gv:=(.bool e8)) (u:=(yU e8 (I6 s.1))) rfl rfl qD qD rfl (by cases e8<;>first|exact gA|exact gB|exact .inl ⟨rfl,AL rfl Al (B4.cell rfl)⟩) (Bm (oj:=_) (gv:=(.bool e8)) (u:=(yU e8 (.slice (some ⟨b,o,none⟩) l.length c))) rfl rfl qD qD rfl (by cases e8<;>first|exact gA|exact gB|exact .inl ⟨rfl,Ai rfl⟩) (Bm (oj:=_) (gv:=(.bool e8)) (u:=(yU e8 (I6 (k:Int)))) rfl rfl qD qD rfl (by cases e8<;>first|exact gA|exact gB|exact .inl ⟨rfl,Ai rfl⟩) (Bm (oj:=_) (gv:=(.bool e8)) (u:=(yU e8 (I6 ((k:Int) - 1)))) rfl rfl qD qD rfl (by cases e8<;>first|exact gA|exact gB|exact .inl ⟨rfl,DI (c:=(k:Int) - 1) rfl rfl (A8 (by have:=of_decide_eq_true ac;omega))⟩) (Bm (oj:=_) (gv:=(.bool e8)) (u:=(yU e8 (.pointer (some ⟨b,o+(k - 1)*2,none⟩)))) rfl rfl qD qD rfl (by cases e8<;>first|exact gA|exact gB|exact .inl ⟨rfl,AN (i:=k - 1) rfl rfl (by have:=of_decide_eq_true ac;omega) underlying22 BU (by have:=of_decide_eq_true ac;omega) qO⟩) (Bm (oj:=_) (gv:=(.bool e8)) (u:=(yU e8 (.pointer (some ⟨b,o+(k - 1)*2+1,none⟩)))) rfl rfl qD qD rfl (by cases e8<;>first|exact gA|exact gB|exact .inl ⟨rfl,AY rfl underlying80 rfl Ay rfl⟩) (Bm (oj:=_) (gv:=(.bool e8)) (u:=(yU e8 (I6 p))) rfl rfl qD qD rfl (by cases e8<;>first|exact gA|exact gB|exact .inl ⟨rfl,AL rfl Al ((by have:=of_decide_eq_true ac;obtain ⟨q,hq,rfl,_⟩:=ah qO;exact ((ab (k - 1) q hq).ext E).at1))⟩) (Bm (oj:=_) (gv:=(.bool e8)) (u:=(yU e8 (I6 (p+2)))) rfl rfl qD qD rfl (by cases e8<;>first|exact gA|exact gB|exact .inl ⟨rfl,Ax (c:=p+2) rfl rfl (A8 (by have:=of_decide_eq_true ac;omega))⟩) ?_))))))))));obtain ⟨e9,ak⟩:∃e,(decide ((s.1:Int)<p+2))=e:=⟨_,rfl⟩;refine Bm (oj:=_) (gv:=(.bool e8)) (u:=(yU e8 (.bool e9))) rfl rfl qD qD rfl (by cases e8<;>first|exact gA|exact gB|exact .inl ⟨rfl,(BE rfl rfl).trans (by rw[ak];try rfl)⟩) (C8 ?_);obtain ⟨ao,ag⟩:∃e,(e8 && e9)=e:=⟨_,rfl⟩;refine qV (Aq (v:=.bool ao) rfl (by rw[←ag];cases e8<;>rfl)) (AB ?_);subst ag;subst ak;subst ac;refine A_ rfl (fun hf=>?_) (fun hf=>?_)
     ·have av:=hf;have aj:0<k∧s.1<p+2:=by simpa using hf
      obtain ⟨q,_,_,h3⟩:=ah aj.1;refine AA (qA _ rfl (AB (AJ (Ac (AP (AP (Ac (AP (AV results64 (v:=(.int .i64 3)) rfl ?_)))))))));exact ⟨by rw[aa];rw[Ek,if_neg (by simp[ai]),h3,if_pos (by simp[aj.2])],E⟩
     ·have av:=hf;refine AO (AQ (AC (AR (qV (Ax rfl rfl (A8 qO)) (qM _ rfl (AB (AC ?_)))))));exact ⟨l.length - (k+1),qO,k+1,Am.out ⟨rfl,rfl,rfl,rfl,trivial⟩,E,qO,(by rw[aa];rw[Ek,if_neg (by simp[ai]),if_neg ?_,Td af];exact Xg ah hf),(by intro h hh;rw[Td af] at hh;cases hh;exact am),rfl⟩
   ·have ap:k=l.length:=qO
    rw[ap,List.drop_length] at aa;refine Aw (AZ (AZ (Ap (AC (AA (qA _ rfl (AB (AJ (AV results64 (v:=(.int .i64 0)) rfl ?_)))))))));exact ⟨by rw[aa];rfl,E⟩
end Go.Proofs
namespace Go.Proofs
open Go Go.Eng
set_option maxRecDepth 100000
def CH (t:Re):Int:=if t.kind<0∨10<t.kind then 1 else if EM t=false then 3 else if t.kind=2 then (if BT t.set≠0 then BT t.set else if (t.set.length:Int)=0 then 3 else 0)
 else if t.kind=6 then (if t.mn<0∨t.mx<t.mn∨8<t.mx then 1 else 0) else if t.kind=9 then (if t.mn<0∨9<t.mn then 1 else 0) else 0
theorem Wq (K U:World) (t:Re) (vs:List Value) (V:A4 K t vs) (hE:Ae K U) :
 Bi prog 102 #[.agg vs.toArray] U λv w=>v=.int .i64 (CH t)∧Ae U w:=by
 have N:=V;obtain ⟨sa,sc,aa,ac,rfl,s,hlen,hargs⟩:=V.form;refine qR func102 O ntmps102 O (λE=>(AA (BL (v:=(.agg (R6 t sa sc aa ac))) (c:=(R6 t sa sc aa ac)) qD O O ?_)));intro h w1 W;replace E:=E.ext W.ext;have f:=W.blk;refine qA _ O (AB (AG (AA (qF h 0 0 O underlying25 O Ay O (qV (AL O Al (f.cell O)) ?_)))));obtain ⟨g,r⟩:∃e,(decide ((t.kind:Int)<0))=e:=⟨_,O⟩;refine qV ((BE O O).trans (by rw[r];try rfl)) (qM _ O (qG (.bool g) (nU g (P6 h 0)) (by cases g<;>first|exact gA|exact gB|exact .inl ⟨O,AY O underlying25 O Ay O⟩) (qG (.bool g) (nU g (I6 t.kind)) (by cases g<;>first|exact gA|exact gB|exact .inl ⟨O,AL O Al (f.cell O)⟩) ?_)));obtain ⟨Z,x⟩:∃e,(decide ((10:Int)<t.kind))=e:=⟨_,O⟩;refine qG (.bool g) (nU g (.bool Z)) (by cases g<;>first|exact gA|exact gB|exact .inl ⟨O,(D0 O O).trans (by rw[x];try rfl)⟩) ?_;obtain ⟨e4,y⟩:∃e,(g || Z)=e:=⟨_,O⟩;refine qV (Aq (v:=.bool e4) O (by rw[<-y];cases g<;>rfl)) (AB ?_);subst y;subst x;subst r;refine A_ O (λC=>?_) (λC=>?_)
 .have S:=C;simp at C;refine AA (qA _ O (AB (AJ (AP (AV results102 (v:=(.int .i64 1)) O ?_)))));exact ⟨Bc (by unfold CH;rw[if_pos qO]),E⟩
 .have S:=C;simp at C;refine AO (AC (AG (AA (qV (AK (vs:=[(I6 t.kind),(.slice sa t.set.length sc),(.slice aa t.args.length ac),(I6 t.mn),(I6 t.mx),(.bool t.neg)]) O Ad AH O (f.cells O)) (qE O (AI func123 kQ kQ O) (XA K _ t _ N) ?_)))));rintro _ w9 ⟨rfl,X⟩;replace f:=X.keep f;replace E:=E.ext X;refine qV (Dg O) (AB (A_ O (λi=>?_) (λi=>?_)))
  .have T:=i;replace i:=by simpa using i
   refine AA (qA _ O (AB (AJ (AP (AV results102 (v:=(.int .i64 3)) O ?_)))));exact ⟨Bc (by unfold CH;rw[if_neg qO,if_pos i]),E⟩
  .have T:=i;replace i:=by simpa using i
   have hN:CH t=if t.kind=2 then (if BT t.set≠0 then BT t.set else if (t.set.length:Int)=0 then 3 else 0) else if t.kind=6 then (if t.mn<0∨t.mx<t.mn∨8<t.mx then 1 else 0) else if t.kind=9 then (if t.mn<0∨9<t.mn then 1 else 0) else 0:=by unfold CH;rw[if_neg qO,if_neg (by simp[i])]
   rw[hN];refine AO (AC (AG (AA (qF h 0 0 O underlying25 O Ay O (qV (AL O Al (f.cell O)) (AB (AU (AA (qV (Aj O O) (qA _ O (AB (qC O (λJ=>?_) (λJ=>?_)))))))))))))
   .rw[if_pos J];refine AG (AA (qF h 0 1 O underlying25 O CM O (qV (AL O Cb (f.cell O)) (qE O (AI func64 kQ kQ O) (OA _ _ t.set ((s.ext hE).ext E)) ?_))));rintro _ w10 ⟨rfl,F⟩;replace f:=F.keep f;replace E:=E.ext F;refine qA _ O (AB (AA (qM _ O (qV (Cy O O) (AB (qC O (λQ=>?_) (λQ=>?_)))))))
    .refine AA (qM _ O (qA _ O (AB (AJ (AP (Ac (AP (AV results102 (v:=(.int .i64 (BT t.set))) O ?_))))))));exact ⟨Bc (by rw[if_pos Q]),E⟩
    .rw[if_neg Q];refine AO (AC (AA (qF h 0 1 O underlying25 O CM O (qV (AL O Cb (f.cell O)) (qV (Aa underlying22 O) (qV (Aj O O) (AB (qC O (λR=>?_) (λR=>?_)))))))))
     .refine AA (qA _ O (AB (AJ (Ac (AP (AV results102 (v:=(.int .i64 3)) O ?_))))));exact ⟨Bc (by rw[if_pos R]),E⟩
     .refine AO (AQ (AC (AA (qA _ O (AB (AJ (AV results102 (v:=(.int .i64 0)) O ?_)))))));exact ⟨Bc (by rw[if_neg R]),E⟩
   .rw[if_neg J];refine AA (qV (Aj O O) (qA _ O (AB (qC O (λG=>?_) (λG=>?_)))))
    .rw[if_pos G];refine AA (qF h 0 3 O underlying25 O Ay O (qV (AL O Al (f.cell O)) ?_));obtain ⟨a,l⟩:∃e,(decide ((t.mn:Int)<0))=e:=⟨_,O⟩;refine qV ((BE O O).trans (by rw[l];try rfl)) (qM _ O (qG (.bool a) (nU a (P6 h 3)) (by cases a<;>first|exact gA|exact gB|exact .inl ⟨O,AY O underlying25 O Ay O⟩) (qG (.bool a) (nU a (I6 t.mn)) (by cases a<;>first|exact gA|exact gB|exact .inl ⟨O,AL O Al (f.cell O)⟩) (qG (.bool a) (nU a (P6 h 4)) (by cases a<;>first|exact gA|exact gB|exact .inl ⟨O,AY O underlying25 O Ay O⟩) (qG (.bool a) (nU a (I6 t.mx)) (by cases a<;>first|exact gA|exact gB|exact .inl ⟨O,AL O Al (f.cell O)⟩) ?_)))));obtain ⟨z,n⟩:∃e,(decide ((t.mx:Int)<t.mn))=e:=⟨_,O⟩;refine qG (.bool a) (nU a (.bool z)) (by cases a<;>first|exact gA|exact gB|exact .inl ⟨O,(D0 O O).trans (by rw[n];try rfl)⟩) ?_;obtain ⟨b,j⟩:∃e,(a || z)=e:=⟨_,O⟩;refine qV (Aq (v:=.bool b) O (by rw[<-j];cases a<;>rfl)) (qM _ O (qG (.bool b) (nU b (P6 h 4)) (by cases b<;>first|exact gA|exact gB|exact .inl ⟨O,AY O underlying25 O Ay O⟩) (qG (.bool b) (nU b (I6 t.mx)) (by cases b<;>first|exact gA|exact gB|exact .inl ⟨O,AL O Al (f.cell O)⟩) ?_)));obtain ⟨A,q⟩:∃e,(decide ((8:Int)<t.mx))=e:=⟨_,O⟩;refine qG (.bool b) (nU b (.bool A)) (by cases b<;>first|exact gA|exact gB|exact .inl ⟨O,(D0 O O).trans (by rw[q];try rfl)⟩) ?_;obtain ⟨M,k⟩:∃e,(b || A)=e:=⟨_,O⟩;refine qV (Aq (v:=.bool M) O (by rw[<-k];cases b<;>rfl)) (AB ?_);subst k;subst q;subst j;subst n;subst l;refine A_ O (λB=>?_) (λB=>?_)
     .have I:=B;simp at B;refine AA (qA _ O (AB (AJ (Ac (AP (AV results102 (v:=(.int .i64 1)) O ?_))))));exact ⟨Bc (by rw[if_pos qO]),E⟩
     .have I:=B;simp at B;refine AO (AQ (AC (AA (qA _ O (AB (AJ (AV results102 (v:=(.int .i64 0)) O ?_)))))));exact ⟨Bc (by rw[if_neg qO]),E⟩
    .rw[if_neg G];refine AA (qV (Aj O O) (qA _ O (AB (qC O (λL=>?_) (λL=>?_)))))
     .rw[if_pos L];refine AA (qF h 0 3 O underlying25 O Ay O (qV (AL O Al (f.cell O)) ?_));obtain ⟨d,p⟩:∃e,(decide ((t.mn:Int)<0))=e:=⟨_,O⟩;refine qV ((BE O O).trans (by rw[p];try rfl)) (qM _ O (qG (.bool d) (nU d (P6 h 3)) (by cases d<;>first|exact gA|exact gB|exact .inl ⟨O,AY O underlying25 O Ay O⟩) (qG (.bool d) (nU d (I6 t.mn)) (by cases d<;>first|exact gA|exact gB|exact .inl ⟨O,AL O Al (f.cell O)⟩) ?_)));obtain ⟨u,m⟩:∃e,(decide ((9:Int)<t.mn))=e:=⟨_,O⟩;refine qG (.bool d) (nU d (.bool u)) (by cases d<;>first|exact gA|exact gB|exact .inl ⟨O,(D0 O O).trans (by rw[m];try rfl)⟩) ?_;obtain ⟨H,o⟩:∃e,(d || u)=e:=⟨_,O⟩;refine qV (Aq (v:=.bool H) O (by rw[<-o];cases d<;>rfl)) (AB ?_);subst o;subst m;subst p;refine A_ O (λD=>?_) (λD=>?_)
      .have P:=D;simp at D;refine AA (qA _ O (AB (AJ (Ac (AP (AV results102 (v:=(.int .i64 1)) O ?_))))));exact ⟨Bc (by rw[if_pos qO]),E⟩
      .have P:=D;simp at D;refine AO (AQ (AC (AA (qA _ O (AB (AJ (AV results102 (v:=(.int .i64 0)) O ?_)))))));exact ⟨Bc (by rw[if_neg qO]),E⟩
     .rw[if_neg L];refine AO (AQ (AC (AA (qA _ O (AB (AJ (AV results102 (v:=(.int .i64 0)) O ?_)))))));exact ⟨O,E⟩
def P9:Int->Re->Bool×Int:=λs _=>(true,IntKind.i64.wrap (s+1))
mutual
theorem Na:∀(t:Re) (s:Int),0<=s->s+t.size<=9223372036854775807->CU P9 t s=(true,s+t.size)
 | .mk k set args mn mx ng,s,h0,h1=>by
  simp only[Re.size] at h1⊢;rw[Ee];simp only[P9,if_true,Re.args];rw[A8 qO];rw[Ld args (s+1) qO qO];simp;omega
theorem Ld:∀(a:List Re) (s:Int),0<=s->s+Re.sizes a<=9223372036854775807->CO P9 a s=(true,s+Re.sizes a)
 | [],s,_,_=>by simp[CO,Re.sizes]
 | t::a,s,h0,h1=>by
  simp only[Re.sizes] at h1⊢;rw[C',Na t s h0 qO];simp only[if_true];rw[Ld a _ qO qO];simp;omega
end
theorem U5 (wb w0:World) (t:Re) (vs:List Value) (ht:A4 wb t vs) (b:Nat) (s:Int) (hB:BH w0 b #[.int .i64 s] 3) :
  Bi prog 150 #[.agg vs.toArray,.pointer (some ⟨b,0,none⟩)] w0 fun v w=>v=.bool true∧Chg (fun x=>x=b) w0 w∧BH w b #[.int .i64 (IntKind.i64.wrap (s+1))] 3:=by
 have ht0:=ht;obtain ⟨sa,sc,aa,ac,rfl,ad,ae,ab⟩:=ht.form;refine EY func150 rfl ntmps150 (Qo rfl) ?_;have E:Chg (fun x=>x=b) w0 w0:=Chg.refl _ _;refine AA (BL (v:=(.agg (R6 t sa sc aa ac))) (c:=(R6 t sa sc aa ac)) qD rfl rfl ?_);intro b1 w1 N1;have F1:=N1.ge E;have O1_b:=N1.lt hB;replace hB:=N1.keep hB;replace E:=E.ext N1.ext;have B1:=N1.blk;refine qA _ rfl (AB (AA (qV (AL rfl Al (hB.cell rfl)) (qV (Ax (c:=IntKind.i64.wrap (s+1)) rfl rfl (rfl)) (Bb (b:=b) (o:=0) (c':=#[(I6 (IntKind.i64.wrap (s+1)))]) (v:=(I6 (IntKind.i64.wrap (s+1)))) rfl rfl rfl Ay hB qP rfl ?_)))));intro w2 S2;replace B1:=S2.keep qO B1;replace E:=S2.step E qQ;replace hB:=S2.blk;refine AB (AA (qA _ rfl (AB (AJ (AV results150 (v:=(.bool true)) rfl ?_)))));exact ⟨rfl,E,hB⟩
theorem WY (w0:World) (t:Re) (vs:List Value) (ht:A4 w0 t vs) (hs:t.size≤9223372036854775807) :
  Bi prog 121 #[.agg vs.toArray] w0 fun v w=>v=.int .i64 t.size∧Ae w0 w:=by
 have ae:=ht;have hw:=Na t 0 qO qO;obtain ⟨sa,sc,aa,ac,rfl,ad,af,ab⟩:=ht.form;refine qR func121 rfl ntmps121 rfl (fun E=>(AA (BL (v:=(.agg (R6 t sa sc aa ac))) (c:=(R6 t sa sc aa ac)) qD rfl rfl ?_)));intro b1 w1 N1;have F1:=N1.ge E;replace E:=E.ext N1.ext;have B1:=N1.blk;refine qA _ rfl (AB (AA (As (v:=(I6 0)) (c:=#[(I6 0)]) (n:=1) qD Iw rfl Ay rfl rfl rfl qS ?_)));intro b2 w2 N2;have F2:=N2.ge E;have O2_b1:=N2.lt B1;replace B1:=N2.keep B1;replace E:=E.ext N2.ext;have B2:=N2.blk;refine AB (AA (qV (AK (vs:=[(I6 t.kind),(.slice sa t.set.length sc),(.slice aa t.args.length ac),(I6 t.mn),(I6 t.mx),(.bool t.neg)]) rfl Ad AH rfl (B1.cells rfl)) (qV (Dx rfl rfl) ?_)));have hf:∀(s:Int) (w:World) (t:Re) (vs:List Value),b2+1≤w.heap.size→Ae w0 w→BH w b2 #[.int .i64 s] 3→A4 w0 t vs→Bh prog (.func (.func 150) #[] #[.pointer (some ⟨b2,0,none⟩)]) #[.agg vs.toArray] w fun v w'=>v=.bool (P9 s t).1∧Chg (fun x=>x=b2) w w'∧BH w' b2 #[.int .i64 (P9 s t).2] 3:=fun s w t vs _ _ hI ht=>Bh.mk (first:=#[]) (cap:=#[.pointer (some ⟨b2,0,none⟩)]) (args:=#[.agg vs.toArray]) func150 kQ kQ rfl (U5 w0 w t vs ht b2 s hI);refine qE rfl (AI func69 kQ kQ rfl) (PP P9 (fun s w=>BH w b2 #[.int .i64 s] 3) (fun x=>x=b2) (b2+1) _ w0 (fun b hb=>qO) (fun s w w' hI e=>e.keep hI) hf t.size t (Nat.le_refl _) 0 _ _ (by have:=B2.lt;omega) E B2 ae) ?_;rintro _ w3 ⟨rfl,C3,B3⟩;replace B1:=C3.keep qO B1;replace E:=E.step C3 (by intro x hx hm;omega);refine AB (AA (qV (AL rfl Al (B3.cell rfl)) (qA _ rfl (AB (AJ (AV results121 (v:=(.int .i64 ((CU P9 t 0).2))) rfl ?_))))));exact ⟨by rw[hw];simp,E⟩
end Go.Proofs
namespace Go.Proofs
open Go Go.Eng
set_option maxRecDepth 100000
theorem Pz (j:World) (v fv:Value) (l:List (Int)) (p:Int->Bool) (q:BZ j v l) (A:∀(w:World) (x:Int),Ae j w->x∈l->Bh prog fv #[.int .i64 x] w λr w'=>r=.bool (p x)∧Ae w w') :
 Bi prog 116 #[v,fv] j λr w=>r=.int .i64 (IA p l)∧Ae j w:=by
 obtain ⟨a,c,rfl⟩:=BR.form q;have hlen:l.length<=9223372036854775807:=by simpa using BR.le q
 simp only[List.length_map] at q⊢;refine qR func116 O ntmps116 O (λE=>(AA (qA _ O (AB (AG (AA (qM _ O (qV (Aa underlying46 O) (qM _ O (AB (AU (Av (λnn_ σ z=>∃(k:Nat),(∃jj_,σ=Bj jj_ [(0,(.slice a l.length c)),(1,fv),(7,(I6 (l.length:Int))),(8,(I6 (k:Int)))])∧Chg Ak j z∧(k<=l.length)∧(∀(i:Nat) (y:Int),i<k->l[i]?=some y->p y=false)∧nn_=l.length - k) (n:=l.length - 0) ?_ ?_))))))))))))
 .exact ⟨0,Am.out ⟨O,O,O,O,trivial⟩,E,Nat.zero_le _,(λi y h=>absurd h (Nat.not_lt_zero _)),O⟩
 .clear E;rintro _ _ z ⟨k,⟨j1,rfl⟩,E,hk,e,rfl⟩;refine AA (qV (BE O O) (AB (AG (qC O (λs=>?_) (λs=>?_)))))
  .obtain ⟨x,m⟩:=AX (l:=l) (i:=k) qO;obtain ⟨b,o,rfl,d⟩:=DE q qO;refine AO (AC (AG (AU (AA (qM _ O (qA _ O (AB (AA (qM _ O (qM _ O (qM _ O (qV (AN (b:=b) (o:=o) (len:=l.length) (cap:=c) (i:=k) (o':=o+k) O O O underlying46 Ay qO qO) (qV (AL O Al (E.cell (λf=>f) (d k x m))) (DN qD O O (A _ x E (List.mem_of_getElem? m)) ?_))))))))))))));rintro _ w9 ⟨rfl,B⟩;replace E:=E.ext B;refine AB (A_ O (λg=>?_) (λg=>?_))
   .have t:=g;refine AA (qM _ O (qA _ O (AB (AJ (Ac (AP (AP (Ac (AP (AV results116 (v:=(.int .i64 ((k:Nat):Int))) O ?_))))))))));exact ⟨Bc (HZ m g e).symm,E⟩
   .have t:=g;refine AO (AQ (AC (AR (qV (Ax O O (A8 qO)) (qM _ O (AB (AC ?_)))))));exact ⟨l.length - (k+1),qO,k+1,Am.out ⟨O,O,O,O,trivial⟩,E,qO,FP m g e,O⟩
  .have hkk:k=l.length:=qO
   refine Aw (AZ (AZ (Ap (AC (AA (qA _ O (AB (AJ (AV results116 (v:=(.int .i64 (-1))) O ?_)))))))));exact ⟨Bc (HA λi y u=>e i y (by have:=AM u;omega) u).symm,E⟩
theorem P0 (a:World) (v fv:Value) (l:List (Int)) (p:Int->Bool) (d:BZ a v l) (b:∀(w:World) (x:Int),Ae a w->x∈l->Bh prog fv #[.int .i64 x] w λr w'=>r=.bool (p x)∧Ae w w') :
 Bi prog 85 #[v,fv] a λr w=>r=.bool (l.any p)∧Ae a w:=by
 refine qR func85 O ntmps85 O (λE=>(AA (qA _ O (AB (AA (qM v O (qM _ O (qE O (AI func116 kQ kQ O) (Pz _ v fv l p d b) ?_))))))));rintro _ w9 ⟨rfl,c⟩;replace E:=E.ext c;refine qV (FX O O) (qA _ O (AB (AJ (AV results85 (v:=(.bool (decide ((0:Int)<=IA p l)))) O ?_))));exact ⟨BO (Ha p l),E⟩
theorem Nh (g:World) (v fv:Value) (l:List (Int×Int)) (p:Int×Int->Bool) (j:BD g v l) (z:∀(w:World) (x:Int×Int),Ae g w->x∈l->Bh prog fv #[.agg #[.int .i64 x.1,.int .i64 x.2]] w λr w'=>r=.bool (p x)∧Ae w w') :
 Bi prog 136 #[v,fv] g λr w=>r=.int .i64 (IA p l)∧Ae g w:=by
 obtain ⟨a,c,rfl⟩:=BR.form j;have hlen:l.length<=9223372036854775807:=by simpa using BR.le j
 simp only[List.length_map] at j⊢;refine qR func136 O ntmps136 O (λE=>(AA (qA _ O (AB (AG (AA (qM _ O (qV (Aa underlying22 O) (qM _ O (AB (AU (Av (λnn_ σ u=>∃(k:Nat),(∃jj_,σ=Bj jj_ [(0,(.slice a l.length c)),(1,fv),(7,(I6 (l.length:Int))),(8,(I6 (k:Int)))])∧Chg Ak g u∧(k<=l.length)∧(∀(i:Nat) (y:Int×Int),i<k->l[i]?=some y->p y=false)∧nn_=l.length - k) (n:=l.length - 0) ?_ ?_))))))))))))
 .exact ⟨0,Am.out ⟨O,O,O,O,trivial⟩,E,Nat.zero_le _,(λi y h=>absurd h (Nat.not_lt_zero _)),O⟩
 .clear E;rintro _ _ u ⟨k,⟨j1,rfl⟩,E,hk,e,rfl⟩;refine AA (qV (BE O O) (AB (AG (qC O (λq=>?_) (λq=>?_)))))
  .obtain ⟨x,m⟩:=AX (l:=l) (i:=k) qO;obtain ⟨b,o,rfl,d⟩:=Bd j qO;refine AO (AC (AG (AU (AA (qM _ O (qA _ O (AB (AA (qM _ O (qM _ O (qM _ O (qV (AN (b:=b) (o:=o) (len:=l.length) (cap:=c) (i:=k) (o':=o+k*2) O O O underlying22 BU qO qO) (qV (AK O Ew BU O ((d k x m).ext E)) (DN qD O O (z _ x E (List.mem_of_getElem? m)) ?_))))))))))))));rintro _ w9 ⟨rfl,A⟩;replace E:=E.ext A;refine AB (A_ O (λf=>?_) (λf=>?_))
   .have s:=f;refine AA (qM _ O (qA _ O (AB (AJ (Ac (AP (AP (Ac (AP (AV results136 (v:=(.int .i64 ((k:Nat):Int))) O ?_))))))))));exact ⟨Bc (HZ m f e).symm,E⟩
   .have s:=f;refine AO (AQ (AC (AR (qV (Ax O O (A8 qO)) (qM _ O (AB (AC ?_)))))));exact ⟨l.length - (k+1),qO,k+1,Am.out ⟨O,O,O,O,trivial⟩,E,qO,FP m f e,O⟩
  .have hkk:k=l.length:=qO
   refine Aw (AZ (AZ (Ap (AC (AA (qA _ O (AB (AJ (AV results136 (v:=(.int .i64 (-1))) O ?_)))))))));exact ⟨Bc (HA λi y t=>e i y (by have:=AM t;omega) t).symm,E⟩
theorem Nj (a:World) (v fv:Value) (l:List (Int×Int)) (p:Int×Int->Bool) (d:BD a v l) (b:∀(w:World) (x:Int×Int),Ae a w->x∈l->Bh prog fv #[.agg #[.int .i64 x.1,.int .i64 x.2]] w λr w'=>r=.bool (p x)∧Ae w w') :
 Bi prog 108 #[v,fv] a λr w=>r=.bool (l.any p)∧Ae a w:=by
 refine qR func108 O ntmps108 O (λE=>(AA (qA _ O (AB (AA (qM v O (qM _ O (qE O (AI func136 kQ kQ O) (Nh _ v fv l p d b) ?_))))))));rintro _ w9 ⟨rfl,c⟩;replace E:=E.ext c;refine qV (FX O O) (qA _ O (AB (AJ (AV results108 (v:=(.bool (decide ((0:Int)<=IA p l)))) O ?_))));exact ⟨BO (Ha p l),E⟩
theorem Xi (j:World) (s:Int×Int) (r:Int) (b:Nat) (h:BH j b #[.int .i64 r] 3) :
 Bi prog 109 #[.agg #[.int .i64 s.1,.int .i64 s.2],.pointer (some ⟨b,0,none⟩)] j λv w=>v=.bool (decide (s.1<=r) && decide (r<=s.2))∧Ae j w:=by
 refine qR func109 O ntmps109 O (λE=>(AA (BL (v:=(.agg #[(I6 s.1),(I6 s.2)])) (c:=#[(I6 s.1),(I6 s.2)]) qD O O ?_)));intro l w1 i;replace h:=i.keep h;replace E:=E.ext i.ext;have k:=i.blk;refine qA _ O (AB (AA (qF l 0 0 O underlying80 O Ay O (qV (AL O Al (k.cell O)) (qV (AL O Al (h.cell O)) ?_)))));obtain ⟨a,d⟩:∃e,(decide ((s.1:Int)<=r))=e:=⟨_,O⟩;refine qV ((Jf O O).trans (by rw[d];try rfl)) (qM _ O (qG (.bool a) (yU a (I6 r)) (by cases a<;>first|exact gA|exact gB|exact .inl ⟨O,AL O Al (h.cell O)⟩) (qG (.bool a) (yU a (P6 l 1)) (by cases a<;>first|exact gA|exact gB|exact .inl ⟨O,AY O underlying80 O Ay O⟩) (qG (.bool a) (yU a (I6 s.2)) (by cases a<;>first|exact gA|exact gB|exact .inl ⟨O,AL O Al (k.cell O)⟩) ?_))));obtain ⟨m,f⟩:∃e,(decide ((r:Int)<=s.2))=e:=⟨_,O⟩;refine qG (.bool a) (yU a (.bool m)) (by cases a<;>first|exact gA|exact gB|exact .inl ⟨O,(Jf O O).trans (by rw[f];try rfl)⟩) ?_;obtain ⟨n,g⟩:∃e,(a && m)=e:=⟨_,O⟩;refine qV (Aq (v:=.bool n) O (by rw[<-g];cases a<;>rfl)) (qA _ O (AB ?_));subst g;subst f;subst d;refine AJ (AV results109 (v:=(.bool ((decide ((s.1:Int)<=r)) && (decide ((r:Int)<=s.2))))) O ?_);exact ⟨O,E⟩
theorem Vf (b:World) (v:Value) (l:List (Int×Int)) (r:Int) (h:BD b v l) :
 Bi prog 67 #[v,.int .i64 r] b λu w=>u=.bool (Cu l r)∧Ae b w:=by
 refine qR func67 O ntmps67 O (λE=>(AA (BL (v:=(I6 r)) (c:=#[(I6 r)]) qD O O ?_)));intro f w1 d;replace E:=E.ext d.ext;have a:=d.blk;refine qA _ O (AB (AA (qM v O (qV (Dx O O) (qE O (AI func108 kQ kQ O) (Nj _ v _ l (λs=>decide (s.1<=r) && decide (r<=s.2)) (h.ext E) (λw x g _=>Bh.mk (first:=#[]) (cap:=#[.pointer (some ⟨f,0,none⟩)]) func109 kQ kQ O (Xi w x r f (g.keep a)))) ?_)))));rintro _ w9 ⟨rfl,e⟩;replace a:=e.keep a;replace E:=E.ext e;refine qA _ O (AB (AJ (AV results67 (v:=(.bool (Cu l r))) O ?_)));exact ⟨O,E⟩
def CA (r:Int):Bool:=decide (0<=r) && decide (r<=1114111)
theorem Sw (r:Int) (g:World):Bi prog 87 #[.int .i64 r] g λu w=>u=.bool (CA r)∧Ae g w:=by
 refine qR func87 O ntmps87 O (λE=>(AA (qA _ O (AB (AA (qM _ O ?_))))));obtain ⟨a,d⟩:∃e,(decide ((0:Int)<=r))=e:=⟨_,O⟩;refine qV ((FX O O).trans (by rw[d];try rfl)) (qM _ O (qG (.bool a) (yU a (I6 r)) (by cases a<;>first|exact gA|exact gB|exact .inl ⟨O,Ai O⟩) ?_));obtain ⟨f,c⟩:∃e,(decide ((r:Int)<=1114111))=e:=⟨_,O⟩;refine qG (.bool a) (yU a (.bool f)) (by cases a<;>first|exact gA|exact gB|exact .inl ⟨O,(Jf O O).trans (by rw[c];try rfl)⟩) ?_;obtain ⟨h,b⟩:∃e,(a && f)=e:=⟨_,O⟩;refine qV (Aq (v:=.bool h) O (by rw[<-b];cases a<;>rfl)) (qA _ O (AB ?_));subst b;subst c;subst d;refine AJ (AV results87 (v:=(.bool ((decide ((0:Int)<=r)) && (decide ((r:Int)<=1114111))))) O ?_);exact ⟨O,E⟩
theorem Sv (r:Int) (a:World):Bi prog 86 #[.int .i64 r] a λu w=>u=.bool (!CA r)∧Ae a w:=by
 refine qR func86 O ntmps86 O (λE=>(AA (qA _ O (AB (AA (qM _ O (qE O (AI func87 kQ kQ O) (Sw r _) ?_)))))));rintro _ w9 ⟨rfl,b⟩;replace E:=E.ext b;refine qV (Dg O) (qA _ O (AB (AJ (AV results86 (v:=(.bool (!(CA r)))) O ?_))));exact ⟨O,E⟩
theorem QY (a:World) (v:Value) (l:List Int) (c:BZ a v l) :
 Bi prog 50 #[v] a λu w=>u=.bool (!(l.any λr=>!CA r))∧Ae a w:=by
 refine qR func50 O ntmps50 O (λE=>(AA (qA _ O (AB (AA (qM v O (qE O (AI func85 kQ kQ O) (P0 _ v _ l (λr=>!CA r) c (λw x hE _=>Bh.mk (first:=#[]) (cap:=#[]) func86 kQ kQ O (Sv x w))) ?_)))))));rintro _ w9 ⟨rfl,b⟩;replace E:=E.ext b;refine qV (Dg O) (qA _ O (AB (AJ (AV results50 (v:=(.bool (!(l.any λr=>!CA r)))) O ?_))));exact ⟨O,E⟩
end Go.Proofs
namespace Go.Proofs
open Go Go.Eng
set_option maxRecDepth 100000
theorem HW (m:Nat) (h:m<4294967296):(BitVec.ofInt 32 (m:Int)).toNat=m:=by
 rw[BitVec.toNat_ofInt];omega
theorem HG {P:Program} {w:World} (m n:Nat) (a:m<4294967296) (hn:n<4294967296):(Op.intBits .and .u32 (m:Int) (n:Int)).run P w=.ok (.int .u32 ((m &&& n:Nat):Int)) w:=by
 have h1:m &&& n<4294967296:=Nat.lt_of_le_of_lt Nat.and_le_left a;show Result.ok (Value.int .u32 (IntKind.u32.wrap ((BitVec.ofInt 32 (m:Int) &&& BitVec.ofInt 32 (n:Int):BitVec 32).toNat:Int))) w=_;rw[BitVec.toNat_and,HW m a,HW n hn,PQ qO]
theorem RB {P:Program} {w:World} (m n:Nat) (a:m<4294967296) (hn:n<4294967296):(Op.intBits .or .u32 (m:Int) (n:Int)).run P w=.ok (.int .u32 ((m ||| n:Nat):Int)) w:=by
 have h1:m ||| n<4294967296:=Nat.or_lt_two_pow (n:=32) a hn;show Result.ok (Value.int .u32 (IntKind.u32.wrap ((BitVec.ofInt 32 (m:Int) ||| BitVec.ofInt 32 (n:Int):BitVec 32).toNat:Int))) w=_;rw[BitVec.toNat_or,HW m a,HW n hn,PQ qO]
theorem Jr {P:Program} {w:World} (m n:Nat) (a:m<4294967296) (hn:n<4294967296):(Op.intBits .andNot .u32 (m:Int) (n:Int)).run P w=.ok (.int .u32 ((m &&& (4294967295 - n):Nat):Int)) w:=by
 have h1:m &&& (4294967295 - n)<4294967296:=Nat.lt_of_le_of_lt Nat.and_le_left a;show Result.ok (Value.int .u32 (IntKind.u32.wrap ((BitVec.ofInt 32 (m:Int) &&& ~~~ BitVec.ofInt 32 (n:Int):BitVec 32).toNat:Int))) w=_;rw[BitVec.toNat_and,BitVec.toNat_not,HW m a,HW n hn];simp only[Nat.reducePow,Nat.reduceSub];rw[PQ qO]
def QS:List Nat:=[0,1,28,2,29,14,24,3,30,22,20,15,25,17,4,8,31,27,13,23,21,19,16,7,26,12,18,6,11,5,10,9]
def HI (w:World):Prop:=∀(i v:Nat),QS[i]?=some v->w.cell? ⟨0,i,none⟩=some (.int .u8 (v:Int))
theorem HI.ext {w w':World} (h:HI w) (e:Ae w w'):HI w':=λi v a=>e.cell (h i v a)
def Lf (k:Nat):Nat:=((2 ^ k*125613361) % 4294967296) / 134217728
theorem WS:∀k,k<32->QS[Lf k]?=some k∧Lf k<32:=qD
theorem Wt {x k m:Nat} (h:x=2 ^ (k+1)*m+2 ^ k) (hx:x<4294967296):k<32:=by
 rcases Nat.lt_or_ge k 32 with a|a
 .exact a
 .have:=Nat.pow_le_pow_right (n:=2) qO a;omega
theorem XU (f:World) (x k m:Nat) (g:x=2 ^ (k+1)*m+2 ^ k) (e:x<4294967296) (l:HI f) :
 Bi prog 95 #[.int .u32 (x:Int)] f λv w=>v=.int .i64 (k:Int)∧w=f:=by
 have h:=Wt g e;have hp:=Nat.two_pow_pos k;have h0:0<x:=qO
 have hn:=VR g e;simp only[Nat.reducePow] at hn;obtain ⟨j,hi⟩:=WS k h;have hpl:2 ^ k<4294967296:=Nat.pow_lt_pow_right (n:=32) qO h;refine qR func95 O ntmps95 O (λE=>(AA (qA (I6 0) O (AB (AG (AA (qM (.int .u32 (x:Int)) O (qV (Aj (k:=.u32) (a:=(x:Int)) (b:=0) O O) (AB ?_)))))))));have d:(decide (((x:Int):Int)=0))=false:=by simp;omega
 refine Ah (BC d) (AO (AC (AA (qM (.int .u32 (x:Int)) O (qM (.int .u32 (x:Int)) O (qV (Xb (k:=.u32) (n:=(x:Int)) (c:=((4294967296 - x:Nat):Int)) O (by simp only[IntKind.wrap,IntKind.bits,IntKind.signed,Int.reducePow,Bool.false_and,Bool.false_eq_true,if_false];omega)) (qV (Gd (k:=.u32) (a:=(x:Int)) (b:=((4294967296 - x:Nat):Int)) (v:=.int .u32 ((2 ^ k:Nat):Int)) O O qP ((HG x (4294967296 - x) e qO).trans (by rw[hn]))) (qV (Xc (k:=.u32) (a:=((2 ^ k:Nat):Int)) (b:=125613361) (c:=(((2 ^ k*125613361) % 4294967296:Nat):Int)) O O (by simp only[IntKind.wrap,IntKind.bits,IntKind.signed,Int.reducePow,Bool.false_and,Bool.false_eq_true,if_false];omega)) (qV (WA (k:=.u32) (a:=(((2 ^ k*125613361) % 4294967296:Nat):Int)) (b:=27) (c:=((Lf k:Nat):Int)) (k':=.u64) O O qO (by unfold Lf;simp only[IntKind.bits];rw[Int.fdiv_eq_ediv_of_nonneg _ qD,show (2:Int) ^ min (Int.toNat 27) 32=134217728 from qD];omega)) (qV (BW (b:=0) (o:=0) (i:=Lf k) (o':=Lf k) O O O underlying148 U6 qO qO) (qV (AL (v:=(.int .u8 (k:Int))) O Xl (l _ _ j)) (qV (I8 (k:=.u8) (k':=.i64) (n:=(k:Int)) (c:=(k:Int)) ⟨_,underlying5⟩ underlying3 O (A8 qO)) (qA (I6 (k:Int)) O (AB (AJ (AV results95 (v:=(.int .i64 ((k:Nat):Int))) O ?_))))))))))))))));exact ⟨O,O⟩
def Af (R:Nat->Nat->Bool):Array Value:=((List.range 25).map λi=>Value.int .u32 ((BF 25 (R i):Nat):Int)).toArray
theorem DA (R:Nat->Nat->Bool):(Af R).size=25:=by simp[Af]
theorem CX (R:Nat->Nat->Bool) {i:Nat} (h:i<25):(Af R)[i]?=some (.int .u32 ((BF 25 (R i):Nat):Int)):=by simp[Af,h]
theorem Dw {R R':Nat->Nat->Bool} {i:Nat} {v:Int} (hi:i<25) (d:v=((BF 25 (R' i):Nat):Int)) (e:∀b,b<25->b≠i->∀j,j<25->R' b j=R b j) :
 (Af R).setIfInBounds i (.int .u32 v)=Af R':=by
 apply Array.ext';apply List.ext_getElem?;intro j;simp only[Af,Array.toList_setIfInBounds,List.getElem?_set,List.length_map,List.length_range,List.getElem?_map];by_cases c:i=j
 .subst c;simp[hi,d]
 .simp only[c,if_false];by_cases a:j<25
  .simp[a,DD (e j a (Ne.symm c))]
  .simp[a]
theorem BM {R R':Nat->Nat->Bool} (h:∀i,i<25->∀j,j<25->R i j=R' i j):Af R=Af R':=by
 simp only[Af];congr 1;apply List.map_congr_left;intro i hi;simp at hi;rw[DD (h i hi)]
abbrev TR:Nat:=132
theorem DM (f:Nat->Bool):BF 25 f<4294967296:=Nat.lt_of_lt_of_le (Eh 25 f) qD
theorem Sq {k:Nat} (h:k<=25):IntKind.u32.wrap (1*2 ^ (min ((k:Int)).toNat IntKind.u32.bits))=((2 ^ k:Nat):Int):=by
 have a:(2:Nat) ^ k<=2 ^ 25:=Nat.pow_le_pow_right qO h;have b:min ((k:Int)).toNat IntKind.u32.bits=k:=by simp[IntKind.bits];omega
 rw[b,Int.one_mul,show ((2:Int) ^ k)=((2 ^ k:Nat):Int) from qP];simp only[Nat.reducePow] at a;generalize (2:Nat) ^ k=p at a⊢;exact PQ qO
theorem J2 (w0:World) (n:Nat) (hn:n≤24) :
  Bi prog 98 #[.int .i64 (n:Int)] w0 fun v w=>∃b,v=.pointer (some ⟨b,0,none⟩)∧w0.heap.size≤b∧BH w b (Af (J7 n)) TR∧Ae w0 w:=by
 refine qR func98 rfl ntmps98 rfl (fun E=>(AA (qA _ rfl (AB (AA (qV (BJ (ps:=[]) (v:=(.agg #[(.int .u32 0),(.int .u32 0),(.int .u32 0),(.int .u32 0),(.int .u32 0),(.int .u32 0),(.int .u32 0),(.int .u32 0),(.int .u32 0),(.int .u32 0),(.int .u32 0),(.int .u32 0),(.int .u32 0),(.int .u32 0),(.int .u32 0),(.int .u32 0),(.int .u32 0),(.int .u32 0),(.int .u32 0),(.int .u32 0),(.int .u32 0),(.int .u32 0),(.int .u32 0),(.int .u32 0),(.int .u32 0)])) rfl qK) (BL (v:=(.agg #[(.int .u32 0),(.int .u32 0),(.int .u32 0),(.int .u32 0),(.int .u32 0),(.int .u32 0),(.int .u32 0),(.int .u32 0),(.int .u32 0),(.int .u32 0),(.int .u32 0),(.int .u32 0),(.int .u32 0),(.int .u32 0),(.int .u32 0),(.int .u32 0),(.int .u32 0),(.int .u32 0),(.int .u32 0),(.int .u32 0),(.int .u32 0),(.int .u32 0),(.int .u32 0),(.int .u32 0),(.int .u32 0)])) (c:=#[(.int .u32 0),(.int .u32 0),(.int .u32 0),(.int .u32 0),(.int .u32 0),(.int .u32 0),(.int .u32 0),(.int .u32 0),(.int .u32 0),(.int .u32 0),(.int .u32 0),(.int .u32 0),(.int .u32 0),(.int .u32 0),(.int .u32 0),(.int .u32 0),(.int .u32 0),(.int .u32 0),(.int .u32 0),(.int .u32 0),(.int .u32 0),(.int .u32 0),(.int .u32 0),(.int .u32 0),(.int .u32 0)]) qD rfl rfl ?_)))))));intro b1 w1 N1;have F1:=N1.ge E;replace E:=E.ext N1.ext;have B1:=N1.blk;refine qA _ rfl (AB (AG (AA (qM _ rfl (qV (Ax rfl rfl (A8 qO)) (qM _ rfl (AB (AU ?_))))))));replace B1:BH w1 b1 (Af fun _ _=>false) TR:=B1;refine Av (fun nn_ σ W2=>∃(k:Nat),(∃jj_,σ=Bj jj_ [(3,(P6 b1 0)),(8,(I6 ((n:Int)+1))),(9,(I6 (k:Int)))])∧Chg Ak w0 W2∧BH W2 b1 (Af fun i j=>decide (i<k) && decide (j=i)) 132∧(k≤n+1)∧nn_=n+1 - k) (n:=n+1 - 0) ?_ ?_
 ·exact ⟨0,Am.out ⟨rfl,rfl,rfl,trivial⟩,E,B1,Nat.zero_le _,rfl⟩
 ·clear E B1;rintro _ _ W2 ⟨k,⟨j2,rfl⟩,E,B1,hk,rfl⟩;refine AA (qV (BE rfl rfl) (AB (AG (qC rfl (fun aa=>?_) (fun aa=>?_)))))
  ·refine AO (AC (AG (AU (AA (qM _ rfl (qA _ rfl (AB (E4 6 mixed qK ?_))))))));intro w4 X4 _;replace B1:=X4.keep B1;replace E:=E.ext X4;refine qT (Ai rfl) (qT (Ai rfl) (qT (Ai rfl) (qT (OB (c:=((2 ^ k:Nat):Int)) rfl rfl qO (Sq qO)) (qT (Ag rfl) (qT (BW (b:=b1) (o:=0) (i:=k) (o':=k) rfl rfl rfl underlying132 CP qO qO) (C8 (Bb (b:=b1) (o:=k) (c':=Af fun i j=>decide (i<k+1) && decide (j=i)) (v:=(.int .u32 ((2 ^ k:Nat):Int))) rfl rfl rfl CP B1 (by rw[DA];omega) (Dw qO (by rw[Kn (n:=25) (i:=k) qO];simp) (fun i' _ hne j _=>by rw[Bool.eq_iff_iff];simp;omega)) ?_)))))));intro w5 S5;replace E:=S5.step E qQ;replace B1:=S5.blk;refine AB (AQ (AC (AR (qV (Ax rfl rfl (A8 qO)) (qM _ rfl (AB (AC ?_)))))));exact ⟨n+1 - (k+1),qO,k+1,Am.out ⟨rfl,rfl,rfl,trivial⟩,E,B1,qO,rfl⟩
  ·obtain rfl:k=n+1:=qO
   have hR:Af (fun i j=>decide (i<n+1) && decide (j=i))=Af (J7 n):=BM fun i _ j _=>by unfold J7;rw[Bool.eq_iff_iff];simp;omega
   refine Aw (AZ (AZ (Ap (AC (AA (qM _ rfl (qA _ rfl (AB (AJ (AV results98 (v:=(.pointer (some ⟨b1,0,none⟩))) rfl ?_))))))))));exact ⟨b1,rfl,qO,by rw[←hR];exact B1,E⟩
end Go.Proofs
namespace Go.Proofs
open Go Go.Eng
set_option maxRecDepth 100000
def G5 (A B:Nat->Nat->Bool) (n i p:Nat):Nat->Nat->Bool:=λi' k=>
 if i'<i then Bw A B n i' k else if i'=i then (List.range p).any λj=>A i j && B j k else false
theorem HH {f:Nat->Bool} {p q:Nat} (h:∀j,p<=j->j<q->f j=false) (hpq:p<=q):(List.range q).any f=(List.range p).any f:=by
 rw[Bool.eq_iff_iff];simp only[List.any_eq_true,List.mem_range];constructor
 .rintro ⟨j,c,a⟩;rcases Nat.lt_or_ge j p with b|b
  .exact ⟨j,b,a⟩
  .rw[h j b c] at a;cases a
 .rintro ⟨j,c,a⟩;exact ⟨j,qO,a⟩
theorem LF {f:Nat->Bool} {p:Nat}:(List.range (p+1)).any f=((List.range p).any f || f p):=by
 rw[List.range_succ];simp
theorem Og {A:Nat->Bool} {p x k m:Nat} (g:x=BF 25 λj=>A j && decide (p<=j)) (d:x=2 ^ (k+1)*m+2 ^ k) :
 k<25∧A k=true∧p<=k∧(∀j,p<=j->j<k->A j=false)∧x &&& (x - 1)=BF 25 λj=>A j && decide (k+1<=j):=by
 have hb:∀j,x.testBit j=(decide (j<25) && (A j && decide (p<=j))):=λj=>by rw[g,D3]
 have c:=IQ d k;rw[hb] at c;simp at c;have a:∀j,p<=j->j<k->A j=false:=λj b e=>by
  have:=IQ d j;rw[hb,if_pos qO] at this;have f:j≠k:=qO
  simpa[show j<25 by omega,b,f] using this
 refine ⟨c.1,c.2.1,c.2.2,a,FH ?_ λj i=>?_⟩
 .exact Nat.lt_of_le_of_lt Nat.and_le_left (g▸Eh 25 _)
 .rw[Rj d,hb,Bool.eq_iff_iff];simp only[i,decide_true,Bool.true_and,Bool.and_eq_true,decide_eq_true_eq];constructor
  .rintro ⟨⟨b,e⟩,h3⟩;refine ⟨b,?_⟩;rcases Nat.lt_or_ge j k with h|h
   .rw[a j e h] at b;cases b
   .omega
  .rintro ⟨b,e⟩;exact ⟨⟨b,qO⟩,qO⟩
theorem Rc {A B:Nat->Nat->Bool} {n i p k:Nat} (a:∀j,p<=j->j<k->A i j=false) (b:p<=k) (f:A i k=true) (c:Nat) :
 (G5 A B n i p i c || B k c)=G5 A B n i (k+1) i c:=by
 simp only[G5,Nat.lt_irrefl,if_false,if_true];rw[LF,HH (p:=p) (q:=k) (λj d e=>by simp[a j d e]) b,f];simp
theorem TU {A B:Nat->Nat->Bool} {n i p:Nat} (hi:i<=n) (g:p<=25) (c:BF 25 (λj=>A i j && decide (p<=j))=0):Af (G5 A B n i p)=Af (G5 A B n (i+1) 0):=by
 apply BM;intro d _ k _;rw[IP] at c;simp only[G5];by_cases a:d<i
 .rw[if_pos a,if_pos qO]
 .rw[if_neg a];by_cases b:d=i
  .subst b;rw[if_pos O,if_pos qO];simp only[Bw,hi,decide_true,Bool.true_and];exact (HH (λj e f=>by have:=c j f;simp[e] at this;simp[this]) g).symm
  .rw[if_neg b,if_neg qO];split<;>simp
theorem Mp (w0:World) (ba bb n:Nat) (A B:Nat→Nat→Bool) (hn:n≤24) (hA:BH w0 ba (Af A) TR) (hB:BH w0 bb (Af B) TR) (hT:HI w0) :
  Bi prog 99 #[.pointer (some ⟨ba,0,none⟩),.pointer (some ⟨bb,0,none⟩),.int .i64 (n:Int)] w0
   fun v w=>∃b,v=.pointer (some ⟨b,0,none⟩)∧w0.heap.size≤b∧BH w b (Af (Bw A B n)) TR∧Ae w0 w:=by
 have la:=hA.lt;have lb:=hB.lt;refine qR func99 rfl ntmps99 rfl (fun E=>(AA (qA _ rfl (AB (AA (qV (BJ (ps:=[]) (v:=(.agg #[(.int .u32 0),(.int .u32 0),(.int .u32 0),(.int .u32 0),(.int .u32 0),(.int .u32 0),(.int .u32 0),(.int .u32 0),(.int .u32 0),(.int .u32 0),(.int .u32 0),(.int .u32 0),(.int .u32 0),(.int .u32 0),(.int .u32 0),(.int .u32 0),(.int .u32 0),(.int .u32 0),(.int .u32 0),(.int .u32 0),(.int .u32 0),(.int .u32 0),(.int .u32 0),(.int .u32 0),(.int .u32 0)])) rfl qK) (BL (v:=(.agg #[(.int .u32 0),(.int .u32 0),(.int .u32 0),(.int .u32 0),(.int .u32 0),(.int .u32 0),(.int .u32 0),(.int .u32 0),(.int .u32 0),(.int .u32 0),(.int .u32 0),(.int .u32 0),(.int .u32 0),(.int .u32 0),(.int .u32 0),(.int .u32 0),(.int .u32 0),(.int .u32 0),(.int .u32 0),(.int .u32 0),(.int .u32 0),(.int .u32 0),(.int .u32 0),(.int .u32 0),(.int .u32 0)])) (c:=#[(.int .u32 0),(.int .u32 0),(.int .u32 0),(.int .u32 0),(.int .u32 0),(.int .u32 0),(.int .u32 0),(.int .u32 0),(.int .u32 0),(.int .u32 0),(.int .u32 0),(.int .u32 0),(.int .u32 0),(.int .u32 0),(.int .u32 0),(.int .u32 0),(.int .u32 0),(.int .u32 0),(.int .u32 0),(.int .u32 0),(.int .u32 0),(.int .u32 0),(.int .u32 0),(.int .u32 0),(.int .u32 0)]) qD rfl rfl ?_)))))));intro b1 w1 N1;have F1:=N1.ge E;have O1_ba:=N1.lt hA;have O1_bb:=N1.lt hB;replace hA:=N1.keep hA;replace hB:=N1.keep hB;replace E:=E.ext N1.ext;have B1:=N1.blk;refine qA _ rfl (AB (AG (AA (qM _ rfl (qV (Ax rfl rfl (A8 qO)) (qM _ rfl (AB (AU ?_))))))));replace B1:BH w1 b1 (Af (G5 A B n 0 0)) TR:=by have h0:Af (G5 A B n 0 0)=Af (fun _ _=>false):=BM (fun i _ j _=>by simp[G5]);rw[h0];exact B1
 refine Av (fun nn_ σ W2=>∃(i:Nat),(∃jj_,σ=Bj jj_ [(0,(P6 ba 0)),(1,(P6 bb 0)),(7,(P6 b1 0)),(13,(I6 ((n:Int)+1))),(14,(I6 (i:Int)))])∧Chg Ak w0 W2∧BH W2 ba (Af A) TR∧BH W2 bb (Af B) TR∧BH W2 b1 (Af (G5 A B n i 0)) 132∧(i≤n+1)∧nn_=n+1 - i) (n:=n+1 - 0) ?_ ?_
 ·exact ⟨0,Am.out ⟨rfl,rfl,rfl,rfl,rfl,trivial⟩,E,hA,hB,B1,Nat.zero_le _,rfl⟩
 ·clear E hA hB B1;rintro _ _ W2 ⟨i,⟨j2,rfl⟩,E,hA,hB,B1,hi,rfl⟩;refine AA (qV (BE rfl rfl) (AB (AG (qC rfl (fun ae=>?_) (fun ae=>?_)))))
  ·refine AO (AC (AG (AU (AA (qM _ rfl (qA _ rfl (AB (AA (qM _ rfl (qM _ rfl (qV (Ag rfl) (qV (BW (b:=ba) (o:=0) (i:=i) (o':=i) rfl rfl rfl underlying132 CP qO qO) (qV (AL (v:=(.int .u32 ((BF 25 (fun j=>A i j && decide (0≤j)):Nat):Int))) rfl EE ((hA.cell (CX A qO)).trans (by rw[DD (g:=fun j=>A i j && decide (0≤j)) (fun j _=>qP)]))) (qA _ rfl (AB (AU (Av (fun nn_ σ W4=>∃(p:Nat),(∃jj_,σ=Bj jj_ [(0,(P6 ba 0)),(1,(P6 bb 0)),(7,(P6 b1 0)),(8,(I6 (i:Int))),(13,(I6 ((n:Int)+1))),(14,(I6 (i:Int))),(9,(.int .u32 ((BF 25 (fun j=>A i j && decide (p≤j)):Nat):Int)))])∧Chg Ak w0 W4∧BH W4 ba (Af A) TR∧BH W4 bb (Af B) TR∧BH W4 b1 (Af (G5 A B n i p)) 132∧(p≤25)∧nn_=25 - p) (n:=25 - 0) ?_ ?_)))))))))))))))))
   ·exact ⟨0,Am.out ⟨rfl,rfl,rfl,rfl,rfl,rfl,rfl,trivial⟩,E,hA,hB,B1,Nat.zero_le _,rfl⟩
   ·clear E hA hB B1;rintro _ _ W4 ⟨p,⟨j4,rfl⟩,E,hA,hB,B1,hp,rfl⟩;obtain ⟨x,hx⟩:∃x,x=BF 25 (fun j=>A i j && decide (p≤j)):=⟨_,rfl⟩;have ad:x<4294967296:=hx▸DM _;rw[←hx];refine AG (AA (qM _ rfl (qV (Cy rfl rfl) (AB (qC rfl (fun ac=>?_) (fun ac=>?_))))))
    ·obtain ⟨k,m,hl⟩:=OU x qO;obtain ⟨af,ah,ag,ab,aa⟩:=Og hx hl;refine AO (AC (AG (AU (E4 14 mixed qK ?_))));intro w6 X6 _;replace hA:=X6.keep hA;replace hB:=X6.keep hB;replace B1:=X6.keep B1;replace E:=E.ext X6;refine qT (Ai rfl) (qT (Ai rfl) (qT (Ag rfl) (qT (BW (b:=b1) (o:=0) (i:=i) (o':=i) rfl rfl rfl underlying132 CP qO qO) (qT (AL rfl EE (B1.cell (CX _ qO))) (qT (Ai rfl) (qT (Ai rfl) (SK (v:=(I6 (k:Int))) rfl rfl qD (AI func95 kQ kQ rfl) (XU _ x k m hl ad (hT.ext E)) (qT (Ag rfl) (qT (BW (b:=bb) (o:=0) (i:=k) (o':=k) rfl rfl rfl underlying132 CP qO qO) (qT (AL rfl EE (hB.cell (CX _ qO))) (qT (Gd (v:=.int .u32 ((BF 25 (G5 A B n i (k+1) i):Nat):Int)) rfl rfl qP ((RB _ _ (DM _) (DM _)).trans (by rw[Qi,DD (fun c _=>Rc ab ag ah c)]))) (qT (Ag rfl) (qT (BW (b:=b1) (o:=0) (i:=i) (o':=i) rfl rfl rfl underlying132 CP qO qO) (C8 ?_))))))))))))));refine Bb (b:=b1) (o:=i) (c':=Af (G5 A B n i (k+1))) (v:=(.int .u32 ((BF 25 (G5 A B n i (k+1) i):Nat):Int))) rfl rfl rfl CP B1 (by rw[DA];omega) (Dw qO rfl (fun i' _ ac j _=>by simp[G5,ac])) ?_;intro w7 S7;replace hA:=S7.keep qO hA;replace hB:=S7.keep qO hB;replace E:=S7.step E qQ;replace B1:=S7.blk;refine AB (AQ (AC (AR (qM _ rfl (qM _ rfl (qV (DI (c:=((x - 1:Nat):Int)) rfl rfl (by rw[PQ qO];omega)) (qV (Gd (v:=.int .u32 ((BF 25 (fun j=>A i j && decide (k+1≤j)):Nat):Int)) rfl rfl qP ((HG _ _ ad qO).trans (by rw[aa]))) (qA _ rfl (AB (AC ?_))))))))));exact ⟨25 - (k+1),qO,k+1,Am.out ⟨rfl,rfl,rfl,rfl,rfl,rfl,rfl,trivial⟩,E,hA,hB,B1,qO,rfl⟩
    ·have hz:x=0:=qO
     rw[TU qO hp (hx▸hz)] at B1;refine Aw (AZ (AZ (Ap (AQ (AC (AR (qV (Ax rfl rfl (A8 qO)) (qM _ rfl (AB (AC ?_))))))))));exact ⟨n+1 - (i+1),qO,i+1,Am.out ⟨rfl,rfl,rfl,rfl,rfl,trivial⟩,E,hA,hB,B1,qO,rfl⟩
  ·obtain rfl:i=n+1:=qO
   have hR:Af (G5 A B n (n+1) 0)=Af (Bw A B n):=BM fun i _ j _=>by unfold G5;split;rfl;simp[Bw];omega
   refine Aw (AZ (AZ (Ap (AC (AA (qM _ rfl (qA _ rfl (AB (AJ (AV results99 (v:=(.pointer (some ⟨b1,0,none⟩))) rfl ?_))))))))));exact ⟨b1,rfl,qO,by rw[←hR];exact B1,E⟩
theorem Ka (R:Nat->Nat->Bool):∀u∈(Af R).toList,u.oneCell'=true:=by
 intro u a;simp only[Af,List.mem_map,List.mem_range] at a;obtain ⟨i,_,rfl⟩:=a;rfl
theorem TW {A B:Nat->Nat->Bool} {w:World} {b t:Nat} (h:BH w b (Af A).toList.toArray t):BH w b (Af λi j=>if i<0 then LR A B i j else A i j) t:=by
 have a:Af (λi j=>if i<0 then LR A B i j else A i j)=Af A:=BM λi _ j _=>qP
 rw[a];simpa using h
theorem Wm (w0:World) (ba bb:Nat) (A B:Nat→Nat→Bool) (hA:BH w0 ba (Af A) TR) (hB:BH w0 bb (Af B) TR) :
  Bi prog 100 #[.pointer (some ⟨ba,0,none⟩),.pointer (some ⟨bb,0,none⟩)] w0
   fun v w=>∃b,v=.pointer (some ⟨b,0,none⟩)∧w0.heap.size≤b∧BH w b (Af (LR A B)) TR∧Ae w0 w:=by
 have la:=hA.lt;have lb:=hB.lt;refine qR func100 rfl ntmps100 rfl (fun E=>(AA (qA _ rfl (AB (AA (qM _ rfl (qV (Ag rfl) (qV (AK (vs:=(Af A).toList) rfl Ug Mr (by simp[Af]) (hA.cells (by simp only[List.drop_zero];exact List.take_length))) (As (v:=(.agg ((Af A).toList.toArray))) (c:=((Af A).toList.toArray)) (n:=25) qD WM rfl Mr rfl rfl (by simpa using by simp[Af]) (by simpa using Ka A) ?_)))))))));intro b1 w1 N1;have F1:=N1.ge E;have O1_ba:=N1.lt hA;have O1_bb:=N1.lt hB;replace hA:=N1.keep hA;replace hB:=N1.keep hB;replace E:=E.ext N1.ext;have B1:=N1.blk;refine AB (AG (AA (qM _ rfl (AB (AU ?_)))));replace B1:BH w1 b1 (Af fun i j=>if i<0 then LR A B i j else A i j) TR:=TW B1;refine Av (fun nn_ σ W2=>∃(i:Nat),(∃jj_,σ=Bj jj_ [(1,(P6 bb 0)),(5,(P6 b1 0)),(10,(I6 (i:Int)))])∧Chg Ak w0 W2∧BH W2 ba (Af A) TR∧BH W2 bb (Af B) TR∧BH W2 b1 (Af fun i' j=>if i'<i then LR A B i' j else A i' j) 132∧(i≤25)∧nn_=25 - i) (n:=25 - 0) ?_ ?_
 ·exact ⟨0,Am.out ⟨rfl,rfl,rfl,trivial⟩,E,hA,hB,B1,Nat.zero_le _,rfl⟩
 ·clear E hA hB B1;rintro _ _ W2 ⟨i,⟨j2,rfl⟩,E,hA,hB,B1,hi,rfl⟩;refine AA (qV (BE rfl rfl) (AB (AG (qC rfl (fun aa=>?_) (fun aa=>?_)))))
  ·refine AO (AC (AG (AU (AA (qM _ rfl (qA _ rfl (AB (E4 10 mixed qK ?_))))))));intro w4 X4 _;replace hA:=X4.keep hA;replace hB:=X4.keep hB;replace B1:=X4.keep B1;replace E:=E.ext X4;refine qT (Ai rfl) (qT (BW (b:=b1) (o:=0) (i:=i) (o':=i) rfl rfl rfl underlying132 CP qO qO) (qT (AL (v:=(.int .u32 ((BF 25 (A i):Nat):Int))) rfl EE ((B1.cell (CX _ qO)).trans qP)) (qT (Ai rfl) (qT (Ai rfl) (qT (Ag rfl) (qT (BW (b:=bb) (o:=0) (i:=i) (o':=i) rfl rfl rfl underlying132 CP qO qO) (qT (AL rfl EE (hB.cell (CX _ qO))) (qT (Gd (v:=.int .u32 ((BF 25 (LR A B i):Nat):Int)) rfl rfl qP ((RB _ _ (DM _) (DM _)).trans (by rw[Qi];rfl))) (qT (BW (b:=b1) (o:=0) (i:=i) (o':=i) rfl rfl rfl underlying132 CP qO qO) (C8 (Bb (b:=b1) (o:=i) (c':=Af fun i' j=>if i'<i+1 then LR A B i' j else A i' j) (v:=(.int .u32 ((BF 25 (LR A B i):Nat):Int))) rfl rfl rfl CP B1 (by rw[DA];omega) (Dw qO qP (fun i' _ hne j _=>by by_cases h:i'<i;rw[if_pos h,if_pos qO];rw[if_neg h,if_neg qO])) ?_)))))))))));intro w5 S5;replace hA:=S5.keep qO hA;replace hB:=S5.keep qO hB;replace E:=S5.step E qQ;replace B1:=S5.blk;refine AB (AQ (AC (AR (qV (Ax rfl rfl (A8 qO)) (qM _ rfl (AB (AC ?_)))))));exact ⟨25 - (i+1),qO,i+1,Am.out ⟨rfl,rfl,rfl,trivial⟩,E,hA,hB,B1,qO,rfl⟩
  ·obtain rfl:i=25:=qO
   have hR:Af (fun i' j=>if i'<25 then LR A B i' j else A i' j)=Af (LR A B):=BM fun i h j _=>by rw[if_pos h]
   refine Aw (AZ (AZ (Ap (AC (AA (qA _ rfl (AB (AJ (AV results100 (v:=(.pointer (some ⟨b1,0,none⟩))) rfl ?_)))))))));exact ⟨b1,rfl,qO,by rw[←hR];exact B1,E⟩
end Go.Proofs
namespace Go.Proofs
open Go Go.Eng
set_option maxRecDepth 100000
mutual
def CY:Re->Prop
  | .mk k set args mn mx ng=>CH (.mk k set args mn mx ng)=0∧DB args
def DB:List Re->Prop
  | []=>True
  | t::ts=>CY t∧DB ts
end
theorem JA {b:List Re} (h:DB b) {i:Nat} {x:Re} (a:b[i]?=some x):CY x:=by
 induction b generalizing i with
 | nil=>simp at a
 | cons t b ih=>
  simp only[DB] at h;cases i with
  | zero=>simp at a;subst a;exact h.1
  | succ i=>exact ih h.2 (by simpa using a)
theorem E9 {t:Re} (h:CY t):CH t=0:=by cases t;simp only[CY] at h;exact h.1
theorem DL {t:Re} (h:CY t):DB t.args:=by cases t;simp only[CY] at h;exact h.2
theorem GD {t:Re} (h:CY t):0<=t.kind∧t.kind<=10∧EM t=true:=by
 have:=E9 h;unfold CH at this;split at this
 .omega
 .rename_i hk
  split at this
  .omega
  .rename_i a;exact ⟨qO,qO,by simpa using a⟩
theorem GC {t:Re} (h:CY t) (b:t.kind=5∨t.kind=6∨t.kind=8∨t.kind=9∨t.kind=10):t.args.length=1:=by
 obtain ⟨_,_,a⟩:=GD h;simp only[EM,Bool.and_eq_true] at a;have:=a.1.1.1.1;unfold J5 at this;rw[if_neg qO,if_pos b] at this;simp at this;omega
theorem OO {t:Re} (h:CY t) (b:t.kind=3∨t.kind=4∨t.kind=7):2<=t.args.length:=by
 obtain ⟨_,_,a⟩:=GD h;simp only[EM,Bool.and_eq_true] at a;have:=a.1.1.1.1;unfold J5 at this;rw[if_pos b] at this;simp at this;omega
theorem TX {t:Re} (h:CY t) (b:t.kind=6):0<=t.mn∧t.mn<=t.mx∧t.mx<=8:=by
 have:=E9 h;obtain ⟨h1,h2,a⟩:=GD h;unfold CH at this;rw[if_neg qO,if_neg (by simp[a]),if_neg qO,if_pos b] at this;split at this<;>omega
def Fe (lo:Nat) (w:World) (ptrs:List Value) (Rs:List Rl):Prop:=
 ptrs.length=Rs.length∧∀(i:Nat) (R:Rl),Rs[i]?=some R->∃b,ptrs[i]?=some (.pointer (some ⟨b,0,none⟩))∧BH w b (Af R) TR∧lo<=b
theorem Fe.ext {lo:Nat} {w w':World} {a:List Value} {c:List Rl} (h:Fe lo w a c) (e:Ae w w'):Fe lo w' a c:=
 ⟨h.1,λi R d=>let ⟨b,h1,h2,h3⟩:=h.2 i R d;⟨b,h1,e.keep h2,h3⟩⟩
theorem Fe.chg {lo:Nat} {M:Nat->Prop} {w w':World} {a:List Value} {c:List Rl} (h:Fe lo w a c) (e:Chg M w w') (d:∀b R,BH w b (Af R) TR->¬M b):Fe lo w' a c:=
 ⟨h.1,λi R f=>let ⟨b,h1,h2,h3⟩:=h.2 i R f;⟨b,h1,e.keep (d b R h2) h2,h3⟩⟩
theorem Fe.snoc {lo:Nat} {w:World} {a:List Value} {f:List Rl} (h:Fe lo w a f) {b:Nat} {R:Rl} (k:BH w b (Af R) TR) (g:lo<=b):Fe lo w (a++[.pointer (some ⟨b,0,none⟩)]) (f++[R]):=by
 refine ⟨by simp[h.1],λi R' hi=>?_⟩;rcases Nat.lt_or_ge i f.length with c|e
 .rw[List.getElem?_append_left c] at hi;obtain ⟨b',m,j,l⟩:=h.2 i R' hi;exact ⟨b',by rw[List.getElem?_append_left (by rw[h.1];exact c)];exact m,j,l⟩
 .rw[List.getElem?_append_right e] at hi;have d:i - f.length=0:=by have:=AM hi;simp at this;omega
  rw[d] at hi;simp at hi;subst hi;exact ⟨b,by rw[List.getElem?_append_right (by rw[h.1];exact e),h.1,d];rfl,k,g⟩
theorem OL {w:World} {base e size n:Nat} {v:Value} {xs:List Value} (h:w.ownsRow base e size v n xs) {g:Nat} (b:v.ownBlock=some g) {c:Array Value} {t:TypeId} (a:BH w g c t):t=e:=by
 rcases h.2 with ⟨rfl,_⟩|⟨g',cap,cur,rfl,_,d,_⟩
 .simp[Value.ownBlock] at b
 .simp[Value.ownBlock] at b;subst b;unfold BH at a;rw[d] at a;simp only[Option.some.injEq,Obj.cells.injEq] at a;exact a.2.1.symm
abbrev TP:Nat:=101
theorem JL {α β:Type} {f:β->α->β} {a:β} {L:List α} {i:Nat} {x:α} (h:L[i]?=some x):(L.take (i+1)).foldl f a=f ((L.take i).foldl f a) x:=by
 rw[List.take_add_one,h];simp
theorem CR (t:Re):t.args.length<t.size:=by
 rw[Re.size_eq];have:∀a:List Re,a.length<=Re.sizes a:=by
  intro a
  induction a with
  | nil=>simp
  | cons x r ih=>have:=x.size_pos;simp[Re.sizes];omega
 have:=this t.args;omega
theorem GM {α:Type} {L:List α} {x d:α} (h:L[0]?=some x):L.headD d=x:=by cases L<;>simp_all
theorem Nb {p:Nat} (h0:0<p) (h:p<=4294967296):IntKind.u32.wrap ((p:Int) - 1)=((p - 1:Nat):Int):=by
 rw[PQ qO];omega
theorem OI {k:Nat} (h:k<=25):0<2 ^ k∧2 ^ k<=33554432:=⟨Nat.two_pow_pos k,(Nat.pow_le_pow_right qO h:2 ^ k<=2 ^ 25)⟩
theorem MD (m:Nat) (ng:Bool):(decide (((m:Nat):Int)≠0) != ng)=(decide (m≠0) != ng):=by
 have:decide (((m:Nat):Int)≠0)=decide (m≠0):=by rw[Bool.eq_iff_iff];simp
 rw[this]
theorem TY {n i:Nat} (hi:i<=n) (hn:n<=24) (f:Nat->Bool) :
 ((2 ^ (n+1) - 1) &&& (4294967295 - (2 ^ i - 1))) &&& (4294967295 - BF 25 f)=BF 25 λj=>(decide (i<=j) && decide (j<=n)) && !f j:=by
 have e:2 ^ (n+1)<=2 ^ 25:=Nat.pow_le_pow_right qO qO;have a:2 ^ i<=2 ^ 24:=Nat.pow_le_pow_right qO qO;have hpos:=Nat.two_pow_pos i;have hposn:=Nat.two_pow_pos (n+1);have b:=Eh 25 f;refine FH ?_ λj c=>?_
 .refine Nat.lt_of_le_of_lt Nat.and_le_left (Nat.lt_of_le_of_lt Nat.and_le_left ?_);simp only[Nat.reducePow] at e⊢;omega
 .have h:4294967295 - (2 ^ i - 1)=2 ^ 32 - ((2 ^ i - 1)+1):=by simp only[Nat.reducePow];omega
  have d:4294967295 - BF 25 f=2 ^ 32 - (BF 25 f+1):=by simp only[Nat.reducePow] at b⊢;omega
  have g:(2 ^ 32 - ((2 ^ i - 1)+1)).testBit j=(decide (j<32) && !(2 ^ i - 1).testBit j):=Nat.testBit_two_pow_sub_succ (by simp only[Nat.reducePow] at a⊢;omega) j;have b3:(2 ^ 32 - (BF 25 f+1)).testBit j=(decide (j<32) && !(BF 25 f).testBit j):=Nat.testBit_two_pow_sub_succ (by simp only[Nat.reducePow] at b⊢;omega) j;rw[h,d,Nat.testBit_and,Nat.testBit_and,g,b3,Nat.testBit_two_pow_sub_one,Nat.testBit_two_pow_sub_one,D3];rw[Bool.eq_iff_iff];simp[c,show j<32 by omega];intro _;omega
theorem Xe (text:List Int) (hn:text.length≤24):∀N,N≤1000000→∀t,t.size≤N→CY t→∀(w0:World) (vs:List Value) (vt:Value),A4 w0 t vs→BZ w0 vt text→HI w0→
    Bi prog 61 #[.agg vs.toArray,vt] w0 fun v w=>∃b,v=.pointer (some ⟨b,0,none⟩)∧w0.heap.size≤b∧BH w b (Af (Ar text t)) TR∧Ae w0 w:=by
  intro N
  induction N with
  | zero=>intro _ t ht;have:=t.size_pos;omega
  | succ N ih=>
  intro hNb t hN au w0 vs vt ht bf hT;have ht0:=ht;obtain ⟨sa,sc,aa,ac,rfl,b7,cx,a3⟩:=ht.form;obtain ⟨ta,tc,rfl⟩:=BR.form bf;simp only[List.length_map] at bf⊢;have hR:=N_ text t;have hal:=CR t;refine qR func61 rfl ntmps61 rfl (fun E=>(AA (BL (v:=(.agg (R6 t sa sc aa ac))) (c:=(R6 t sa sc aa ac)) qD rfl rfl ?_)));intro b1 w1 N1;have F1:=N1.ge E;replace E:=E.ext N1.ext;have B1:=N1.blk;refine qA _ rfl (AB (AA (qM _ rfl (qV (Aa underlying46 rfl) (qA _ rfl (AB (AA (qA _ rfl (AB (AG (AA (qF b1 0 2 rfl underlying25 rfl CG rfl (qV (AL rfl B0 (B1.cell rfl)) (qV (Aa underlying23 rfl) (qM _ rfl (AB (AU ?_)))))))))))))))));obtain ⟨base,cp⟩:∃base,base=w1.heap.size:=⟨_,rfl⟩;have hb1:b1<base:=by have:=B1.lt;omega
  have hb0:w0.heap.size≤base:=by have:=N1.size;omega
  refine Av (fun nn_ σ W2=>∃(k:Nat) (la:Option Addr) (lc:Nat) (aj:List Value),(∃jj_,σ=Bj jj_ [(1,(.slice ta text.length tc)),(2,(P6 b1 0)),(5,(I6 (text.length:Int))),(26,(.slice aa t.args.length ac)),(27,(I6 (t.args.length:Int))),(28,(I6 (k:Int))),(6,(.slice la k lc))])∧Chg Ak w0 W2∧BH W2 b1 (R6 t sa sc aa ac) 25∧(k≤t.args.length)∧(W2.ownsRow base TP 1 (.slice la k lc) k aj)∧(Fe w0.heap.size W2 aj ((t.args.take k).map (Ar text)))∧(base≤W2.heap.size)∧nn_=t.args.length - k) (n:=t.args.length - 0) ?_ ?_
  · exact ⟨0,none,0,[],Am.out ⟨rfl,rfl,rfl,rfl,rfl,rfl,rfl,trivial⟩,E,B1,Nat.zero_le _,World.ownsRow_nil _ _ _ _,⟨rfl,fun i R h=>by simp at h⟩,qO,rfl⟩
  · clear E B1;rintro _ _ W2 ⟨k,la,lc,aj,⟨j2,rfl⟩,E,B1,hk,ad,ah,ar,rfl⟩;refine AA (qV (BE rfl rfl) (AB (AG (qC rfl (fun c0=>?_) (fun c0=>?_)))))
    · obtain ⟨x,hx⟩:=AX (l:=t.args) (i:=k) qO;obtain ⟨ab,ao,rfl,b9⟩:∃b o,aa=some ⟨b,o,none⟩∧CB w0 b o t.args:=by
        rcases a3 with h|h
        · rw[h] at hx;simp at hx
        · exact h
      obtain ⟨us,cv,bc⟩:=b9.get hx;have hsz:=Re.size_arg hx;have cy:=JA (DL au) hx;refine AO (AC (AG (AU (AA (qV (AN (b:=ab) (o:=ao) (len:=t.args.length) (cap:=ac) (i:=k) (o':=ao+k*6) rfl rfl rfl underlying23 AH qO qO) (qV (AK rfl Ad AH bc.len (cv.ext E)) (As (v:=(.agg us.toArray)) (c:=us.toArray) (n:=6) qD A9 rfl AH rfl rfl (by simpa using bc.len) (by simpa using A4.one bc) ?_)))))));intro b4 w4 N4;have F4:=N4.ge E;have O4_b1:=N4.lt B1;replace B1:=N4.keep B1;replace ad:=BG ad N4.ext;replace ah:=ah.ext N4.ext;replace ar:=Nat.le_trans ar N4.ext.size;replace E:=E.ext N4.ext;have B4:=N4.blk;refine AB (AR (qM _ rfl (qV (AK rfl Ad AH bc.len (B4.cells qP)) (qM _ rfl (qE rfl (AI func61 kQ kQ rfl) (ih qO x qO cy _ us _ (A4.ext E x bc) (bf.ext E) (hT.ext E)) ?_)))));rintro _ w9 ⟨bq,rfl,cz,Bq,X9⟩;replace B1:=X9.keep B1;replace B4:=X9.keep B4;replace ad:=BG ad X9;replace ah:=ah.ext X9;replace ar:=Nat.le_trans ar X9.size;replace E:=E.ext X9;refine A3 (ps:=[(0,(P6 bq 0))]) (c:=#[(P6 bq 0)]) qD rfl underlying130 Ep SS qD qD qK ?_;intro b5 w5 N5;have F5:=N5.ge E;have O5_b1:=N5.lt B1;have O5_b4:=N5.lt B4;have O5_bq:=N5.lt Bq;replace B1:=N5.keep B1;replace B4:=N5.keep B4;replace Bq:=N5.keep Bq;replace ad:=BG ad N5.ext;replace ah:=ah.ext N5.ext;replace ar:=Nat.le_trans ar N5.ext.size;replace E:=E.ext N5.ext;have B5:=N5.blk;refine CQ (base:=base) (n:=k) (m:=1) (xs:=aj) (news:=[(P6 bq 0)]) (size:=1) (bytes:=8) (v:=(.slice la k lc)) qD underlying130 Ep XG SS rfl qD rfl ad rfl (rfl) (B5.cells rfl) qS (by unfold maxLen;omega) qO (ar) ?_;intro v9 w10 co a8 Dv9;replace B1:=a8.keep (fun h=>by have:=(ad.lt _ h).1;omega) B1;replace E:=E.step a8 (fun x hx h=>absurd (ad.lt x h).1 qO);obtain ⟨c1,cw,rfl⟩:=Be co;have ct:=a8.keep (fun h=>absurd (OL ad h Bq) qD) Bq;have bv:=(ah.chg a8 (fun b R hB h=>absurd (OL ad h hB) qD)).snoc ct (by have:=N4.size;have:=N4.eq;omega);have cd:=Nat.le_trans ar a8.size;refine qA _ rfl (AB (AQ (AC (AR (qV (Ax rfl rfl (A8 qO)) (qM _ rfl (AB (AC ?_))))))));exact ⟨t.args.length - (k+1),qO,k+1,c1,cw,aj++[.pointer (some ⟨bq,0,none⟩)],Am.out ⟨rfl,rfl,rfl,rfl,rfl,rfl,rfl,trivial⟩,E,B1,qO,co,(by rw[List.take_add_one,hx];simpa using bv),cd,rfl⟩
    · obtain rfl:k=t.args.length:=qO
      rw[List.take_length] at ah;have hz2:w0.heap.size≤W2.heap.size:=E.size;have aq:0<t.args.length→∃g,la=some ⟨g,0,none⟩∧BA W2 g 0 aj:=fun h=>let ⟨g,h1,_,h2⟩:=DZ ad h;⟨g,h1,h2⟩;have E2:Chg Ak W2 W2:=Chg.refl _ _;refine Aw (AZ (AZ (Ap (AC (AA (qV (BJ (ps:=[]) (v:=(.agg #[(.int .u32 0),(.int .u32 0),(.int .u32 0),(.int .u32 0),(.int .u32 0),(.int .u32 0),(.int .u32 0),(.int .u32 0),(.int .u32 0),(.int .u32 0),(.int .u32 0),(.int .u32 0),(.int .u32 0),(.int .u32 0),(.int .u32 0),(.int .u32 0),(.int .u32 0),(.int .u32 0),(.int .u32 0),(.int .u32 0),(.int .u32 0),(.int .u32 0),(.int .u32 0),(.int .u32 0),(.int .u32 0)])) rfl qK) (BL (v:=(.agg #[(.int .u32 0),(.int .u32 0),(.int .u32 0),(.int .u32 0),(.int .u32 0),(.int .u32 0),(.int .u32 0),(.int .u32 0),(.int .u32 0),(.int .u32 0),(.int .u32 0),(.int .u32 0),(.int .u32 0),(.int .u32 0),(.int .u32 0),(.int .u32 0),(.int .u32 0),(.int .u32 0),(.int .u32 0),(.int .u32 0),(.int .u32 0),(.int .u32 0),(.int .u32 0),(.int .u32 0),(.int .u32 0)])) (c:=#[(.int .u32 0),(.int .u32 0),(.int .u32 0),(.int .u32 0),(.int .u32 0),(.int .u32 0),(.int .u32 0),(.int .u32 0),(.int .u32 0),(.int .u32 0),(.int .u32 0),(.int .u32 0),(.int .u32 0),(.int .u32 0),(.int .u32 0),(.int .u32 0),(.int .u32 0),(.int .u32 0),(.int .u32 0),(.int .u32 0),(.int .u32 0),(.int .u32 0),(.int .u32 0),(.int .u32 0),(.int .u32 0)]) qD rfl rfl ?_)))))));intro b6 w6 N6;have F6:=N6.ge E;have F6_E2:=N6.ge E2;have O6_b1:=N6.lt B1;replace B1:=N6.keep B1;replace E:=E.ext N6.ext;have B6:=N6.blk;replace E2:=E2.ext N6.ext;refine qA _ rfl (AB (AG (AA (qF b1 0 0 rfl underlying25 rfl Ay rfl (qV (AL rfl Al (B1.cell rfl)) (AB (AU (AA (qV (Aj rfl rfl) (qA _ rfl (AB (qC rfl (fun h1=>?_) (fun h1=>?_)))))))))))))
      · have hK:Ar text t=J7 text.length:=by rw[hR];simp[Gz,h1]
        refine AA (qM _ rfl (qE rfl (AI func98 kQ kQ rfl) (J2 _ text.length hn) ?_));rintro _ w9 ⟨bq,rfl,cz,Bq,X9⟩;replace B1:=X9.keep B1;replace B6:=X9.keep B6;replace E:=E.ext X9;replace E2:=E2.ext X9;refine qA _ rfl (AB (AJ (Ac (AP (AV results61 (v:=(.pointer (some ⟨bq,0,none⟩))) rfl ?_)))));exact ⟨bq,rfl,by have:=N6.size;omega,by rw[hK];exact Bq,E⟩
      · replace B6:BH w6 b6 (Af Gf) TR:=B6;refine AA (qV (Aj rfl rfl) (qA _ rfl (AB (qC rfl (fun h2=>?_) (fun h2=>?_)))))
        · have hK:Ar text t=G3 text t.set:=by rw[hR];simp[Gz,h2]
          rw[show Af Gf=Af (fun i' j=>decide (i'<0) && G3 text t.set i' j) from BM fun i _ j _=>by simp[Gf]] at B6;refine AA (qM _ rfl (qV (Aa underlying46 rfl) (qM _ rfl (AB (AU (Av (fun nn_ σ W9=>∃(i:Nat),(∃jj_,σ=Bj jj_ [(2,(P6 b1 0)),(9,(P6 b6 0)),(49,(.slice ta text.length tc)),(50,(I6 (text.length:Int))),(51,(I6 (i:Int)))])∧Chg Ak w0 W9∧Chg Ak W2 W9∧BH W9 b1 (R6 t sa sc aa ac) 25∧BH W9 b6 (Af fun i' j=>decide (i'<i) && G3 text t.set i' j) TR∧(i≤text.length)∧nn_=text.length - i) (n:=text.length - 0) ?_ ?_))))))
          · exact ⟨0,Am.out ⟨rfl,rfl,rfl,rfl,rfl,trivial⟩,E,E2,B1,B6,Nat.zero_le _,rfl⟩
          · clear E E2 B1 B6;rintro _ _ W9 ⟨i,⟨j9,rfl⟩,E,E2,B1,B6,hi,rfl⟩;refine AA (qV (BE rfl rfl) (AB (AG (qC rfl (fun cf=>?_) (fun cf=>?_)))))
            · obtain ⟨c,hc⟩:=AX (l:=text) (i:=i) qO;obtain ⟨tb,to,rfl,c5⟩:=DE bf qO;refine AO (AC (AG (AU (AA (qM _ rfl (qV (AN (b:=tb) (o:=to) (len:=text.length) (cap:=tc) (i:=i) (o':=to+i) rfl rfl rfl underlying46 Ay qO qO) (qV (AL rfl Al (E.cell (fun f=>f) (c5 i c hc))) (qA _ rfl (qA _ rfl (AB (AA (qF b1 0 1 rfl underlying25 rfl CM rfl (qV (AL rfl Cb (B1.cell rfl)) (qM _ rfl (qE rfl (AI func67 kQ kQ rfl) (Vf _ (.slice sa t.set.length sc) t.set c (b7.ext E)) ?_)))))))))))))));rintro _ w19 ⟨rfl,be⟩;replace B1:=be.keep B1;replace B6:=be.keep B6;replace E:=E.ext be;replace E2:=E2.ext be;refine AB (A_ rfl (fun a6=>?_) (fun a6=>?_))
              · have cj:=a6;refine E4 7 mixed qK ?_;intro w12 br _;replace B1:=br.keep B1;replace B6:=br.keep B6;replace E:=E.ext br;replace E2:=E2.ext br;refine qT (Ai rfl) (qT (Ai rfl) (qT (Ai rfl) (qT (Ax rfl rfl (A8 qO)) (qT (OB (c:=((2 ^ (i+1):Nat):Int)) rfl rfl qO (Sq (k:=i+1) qO)) (qT (Ag rfl) (qT (BW (b:=b6) (o:=0) (i:=i) (o':=i) rfl rfl rfl underlying132 CP qO qO) (C8 (Bb (b:=b6) (o:=i) (c':=Af fun i' j=>decide (i'<i+1) && G3 text t.set i' j) (v:=(.int .u32 ((2 ^ (i+1):Nat):Int))) rfl rfl rfl CP B6 (by rw[DA];omega) (Dw qO (by rw[Kn (n:=25) (i:=i+1) qO,DD (g:=fun j=>decide (i<i+1) && G3 text t.set i j) (fun j _=>by simp[G3,hc,a6])]) (fun i' _ cg j _=>by rw[Bool.eq_iff_iff];simp;omega)) ?_))))))));intro w13 bg;replace B1:=bg.keep qO B1;replace E:=bg.step E qQ;replace E2:=bg.step E2 (Or.inl qO);replace B6:=bg.blk;refine AB (AQ (AC (AR (qV (Ax rfl rfl (A8 qO)) (qM _ rfl (AB (AC ?_)))))));exact ⟨text.length - (i+1),qO,i+1,Am.out ⟨rfl,rfl,rfl,rfl,rfl,trivial⟩,E,E2,B1,B6,qO,rfl⟩
              · have cj:=a6;rw[show Af (fun i' j=>decide (i'<i) && G3 text t.set i' j)=Af (fun i' j=>decide (i'<i+1) && G3 text t.set i' j) from BM fun i' _ j _=>by rcases Nat.lt_trichotomy i' i with h|h|h;simp[h,show i'<i+1 by omega];subst h;simp[G3,hc,a6];simp[show ¬i'<i by omega,show ¬i'<i+1 by omega]] at B6;refine AO (AQ (AC (AR (qV (Ax rfl rfl (A8 qO)) (qM _ rfl (AB (AC ?_)))))));exact ⟨text.length - (i+1),qO,i+1,Am.out ⟨rfl,rfl,rfl,rfl,rfl,trivial⟩,E,E2,B1,B6,qO,rfl⟩
            · obtain rfl:i=text.length:=qO
              rw[show Af (fun i' j=>decide (i'<text.length) && G3 text t.set i' j)=Af (G3 text t.set) from BM fun i' _ j _=>by by_cases h:i'<text.length;simp[h];simp[h,G3]] at B6;refine Aw (AZ (AZ (Ap (AQ (AC (AA (qM _ rfl (qA _ rfl (AB (AJ (AV results61 (v:=(.pointer (some ⟨b6,0,none⟩))) rfl ?_)))))))))));exact ⟨b6,rfl,qO,by rw[hK];exact B6,E⟩
        · refine AA (qV (Aj rfl rfl) (qA _ rfl (AB (qC rfl (fun h3=>?_) (fun h3=>?_)))))
          · have hK:Ar text t=(t.args.map (Ar text)).foldl (fun a x=>Bw a x text.length) (J7 text.length):=by rw[hR];simp[Gz,h3]
            refine AA (qM _ rfl (qE rfl (AI func98 kQ kQ rfl) (J2 _ text.length hn) ?_));rintro _ cn ⟨bo,rfl,cq,Bo,ai⟩;replace B1:=ai.keep B1;replace B6:=ai.keep B6;replace E:=E.ext ai;replace E2:=E2.ext ai;have am:w0.heap.size≤bo:=by have:=N6.size;omega
            refine qA _ rfl (AB (AA (qM _ rfl (qV (Aa underlying130 rfl) (qM _ rfl (AB (AU (Av (fun nn_ σ a1=>∃(i:Nat) (ob:Nat),(∃jj_,σ=Bj jj_ [(5,(I6 (text.length:Int))),(72,(.slice la t.args.length lc)),(73,(I6 (t.args.length:Int))),(74,(I6 (i:Int))),(9,(P6 ob 0))])∧Chg Ak w0 a1∧Chg Ak W2 a1∧BH a1 b1 (R6 t sa sc aa ac) 25∧BH a1 b6 (Af Gf) TR∧(i≤t.args.length)∧(w0.heap.size≤ob)∧(BH a1 ob (Af (((t.args.map (Ar text)).take i).foldl (fun a x=>Bw a x text.length) (J7 text.length))) TR)∧nn_=t.args.length - i) (n:=t.args.length - 0) ?_ ?_))))))))
            · exact ⟨0,bo,Am.out ⟨rfl,rfl,rfl,rfl,rfl,trivial⟩,E,E2,B1,B6,Nat.zero_le _,am,Bo,rfl⟩
            · clear E E2 B1 B6;rintro _ _ a1 ⟨i,ob,⟨j15,rfl⟩,E,E2,B1,B6,hi,ap,Bo,rfl⟩;refine AA (qV (BE rfl rfl) (AB (AG (qC rfl (fun bw=>?_) (fun bw=>?_)))))
              · obtain ⟨R,an⟩:=AX (l:=t.args.map (Ar text)) (i:=i) (by simp;omega);obtain ⟨g,rfl,hg⟩:=aq qO;obtain ⟨bx,ba,Bx,_⟩:=ah.2 i R an;refine AO (AC (AG (AU (AA (qV (AN (b:=g) (o:=0) (len:=t.args.length) (cap:=lc) (i:=i) (o':=0+i) rfl rfl rfl underlying130 Ep qO qO) (qV (AL rfl Eb (E2.cell (fun f=>f) (hg i _ ba))) (qA _ rfl (AB (AR (qM _ rfl (qM _ rfl (qM _ rfl (qE rfl (AI func99 kQ kQ rfl) (Mp _ ob bx text.length _ R hn Bo (E2.keep (fun f=>f) Bx) (hT.ext E)) ?_)))))))))))));rintro _ b2 ⟨ay,rfl,aw,al,ae⟩;replace B1:=ae.keep B1;replace B6:=ae.keep B6;replace E:=E.ext ae;replace E2:=E2.ext ae;refine qA _ rfl (AB (AQ (AC (AR (qV (Ax rfl rfl (A8 qO)) (qM _ rfl (AB (AC ?_))))))));exact ⟨t.args.length - (i+1),qO,i+1,ay,Am.out ⟨rfl,rfl,rfl,rfl,rfl,trivial⟩,E,E2,B1,B6,qO,(by have:=Bo.lt;omega),(by rw[JL an];exact al),rfl⟩
              · obtain rfl:i=t.args.length:=qO
                rw[List.take_of_length_le qP] at Bo;refine Aw (AZ (AZ (Ap (AQ (AC (AA (qM _ rfl (qA _ rfl (AB (AJ (AV results61 (v:=(.pointer (some ⟨ob,0,none⟩))) rfl ?_)))))))))));exact ⟨ob,rfl,ap,by rw[hK];exact Bo,E⟩
          · refine AA (qV (Aj rfl rfl) (qA _ rfl (AB (qC rfl (fun h4=>?_) (fun h4=>?_)))))
            · have hK:Ar text t=(t.args.map (Ar text)).foldl LR Gf:=by rw[hR];simp[Gz,h4]
              refine AA (qM _ rfl (qV (Aa underlying130 rfl) (qM _ rfl (AB (AU (Av (fun nn_ σ a0=>∃(i:Nat) (ob:Nat),(∃jj_,σ=Bj jj_ [(85,(.slice la t.args.length lc)),(86,(I6 (t.args.length:Int))),(87,(I6 (i:Int))),(9,(P6 ob 0))])∧Chg Ak w0 a0∧Chg Ak W2 a0∧BH a0 b1 (R6 t sa sc aa ac) 25∧BH a0 b6 (Af Gf) TR∧(i≤t.args.length)∧(w0.heap.size≤ob)∧(BH a0 ob (Af (((t.args.map (Ar text)).take i).foldl LR Gf)) TR)∧nn_=t.args.length - i) (n:=t.args.length - 0) ?_ ?_))))))
              · exact ⟨0,b6,Am.out ⟨rfl,rfl,rfl,rfl,trivial⟩,E,E2,B1,B6,Nat.zero_le _,qO,B6,rfl⟩
              · clear E E2 B1 B6;rintro _ _ a0 ⟨i,ob,⟨j18,rfl⟩,E,E2,B1,B6,hi,ap,Bo,rfl⟩;refine AA (qV (BE rfl rfl) (AB (AG (qC rfl (fun b8=>?_) (fun b8=>?_)))))
                · obtain ⟨R,an⟩:=AX (l:=t.args.map (Ar text)) (i:=i) (by simp;omega);obtain ⟨g,rfl,hg⟩:=aq qO;obtain ⟨bx,ba,Bx,_⟩:=ah.2 i R an;refine AO (AC (AG (AU (AA (qV (AN (b:=g) (o:=0) (len:=t.args.length) (cap:=lc) (i:=i) (o':=0+i) rfl rfl rfl underlying130 Ep qO qO) (qV (AL rfl Eb (E2.cell (fun f=>f) (hg i _ ba))) (qA _ rfl (AB (AR (qM _ rfl (qM _ rfl (qE rfl (AI func100 kQ kQ rfl) (Wm _ ob bx _ R Bo (E2.keep (fun f=>f) Bx)) ?_))))))))))));rintro _ b2 ⟨ay,rfl,aw,al,ae⟩;replace B1:=ae.keep B1;replace B6:=ae.keep B6;replace E:=E.ext ae;replace E2:=E2.ext ae;refine qA _ rfl (AB (AQ (AC (AR (qV (Ax rfl rfl (A8 qO)) (qM _ rfl (AB (AC ?_))))))));exact ⟨t.args.length - (i+1),qO,i+1,ay,Am.out ⟨rfl,rfl,rfl,rfl,trivial⟩,E,E2,B1,B6,qO,(by have:=Bo.lt;omega),(by rw[JL an];exact al),rfl⟩
                · obtain rfl:i=t.args.length:=qO
                  rw[List.take_of_length_le qP] at Bo;refine Aw (AZ (AZ (Ap (AQ (AC (AA (qM _ rfl (qA _ rfl (AB (AJ (AV results61 (v:=(.pointer (some ⟨ob,0,none⟩))) rfl ?_)))))))))));exact ⟨ob,rfl,ap,by rw[hK];exact Bo,E⟩
            · refine AA (qV (Aj rfl rfl) (qA _ rfl (AB (qC rfl (fun h7=>?_) (fun h7=>?_)))))
              · have h2a:=OO au qO;obtain ⟨g,rfl,hg⟩:=aq qO;obtain ⟨R0,ag⟩:=AX (l:=t.args.map (Ar text)) (i:=0) (by simp;omega);obtain ⟨bz,ak,Bz,az⟩:=ah.2 0 R0 ag;have hK:Ar text t=(t.args.map (Ar text)).foldl G0 R0:=by rw[hR,←GM (d:=Gf) ag];simp only[Gz,h7];rfl
                refine AA (qM _ rfl (qM _ rfl (qV (AN (b:=g) (o:=0) (len:=t.args.length) (cap:=lc) (i:=0) (o':=0) rfl rfl rfl underlying130 Ep qO qO) (qV (AL rfl Eb (E2.cell (fun f=>f) (hg 0 _ ak))) (qV (Ag rfl) (qV (AK (vs:=(Af R0).toList) rfl Ug Mr (by simp[Af]) ((E2.keep (fun f=>f) Bz).cells (by simp only[List.drop_zero];exact List.take_length))) (qV (Ag rfl) (Ab (b:=b6) (o:=0) (n:=25) (c':=Af R0) (vs:=((Af R0).toList.toArray)) rfl rfl (by simpa using Ka R0) Mr (by simp[Af]) B6 (by rw[DA];decide) (by simp[Af]) ?_))))))));intro w21 bp;replace B1:=bp.keep qO B1;replace E:=bp.step E qQ;replace E2:=bp.step E2 (Or.inl qO);replace B6:=bp.blk;rw[show R0=((t.args.map (Ar text)).take 0).foldl G0 R0 from rfl] at B6;refine AB (AA (qM _ rfl (qV (Aa underlying130 rfl) (qM _ rfl (AB (AU (Av (fun nn_ σ a4=>∃(i:Nat),(∃jj_,σ=Bj jj_ [(9,(P6 b6 0)),(104,(.slice (some ⟨g,0,none⟩) t.args.length lc)),(105,(I6 (t.args.length:Int))),(106,(I6 (i:Int)))])∧Chg Ak w0 a4∧Chg Ak W2 a4∧BH a4 b1 (R6 t sa sc aa ac) 25∧BH a4 b6 (Af (((t.args.map (Ar text)).take i).foldl G0 R0)) TR∧(i≤t.args.length)∧nn_=t.args.length - i) (n:=t.args.length - 0) ?_ ?_)))))))
                · exact ⟨0,Am.out ⟨rfl,rfl,rfl,rfl,trivial⟩,E,E2,B1,B6,Nat.zero_le _,rfl⟩
                · clear E E2 B1 B6;rintro _ _ a4 ⟨i,⟨j22,rfl⟩,E,E2,B1,B6,hi,rfl⟩;refine AA (qV (BE rfl rfl) (AB (AG (qC rfl (fun cc=>?_) (fun cc=>?_)))))
                  · obtain ⟨R,an⟩:=AX (l:=t.args.map (Ar text)) (i:=i) (by simp;omega);obtain ⟨bx,ba,Bx,_⟩:=ah.2 i R an;have cl:=JL (f:=G0) (a:=R0) an;generalize ((t.args.map (Ar text)).take i).foldl G0 R0=A at B6 cl;refine AO (AC (AG (AU (AA (qV (AN (b:=g) (o:=0) (len:=t.args.length) (cap:=lc) (i:=i) (o':=0+i) rfl rfl rfl underlying130 Ep qO qO) (qV (AL rfl Eb (E2.cell (fun f=>f) (hg i _ ba))) (qA _ rfl (AB (AA (qM _ rfl (AB (AU ?_))))))))))));rw[show Af A=Af (fun i' j=>if i'<0 then G0 A R i' j else A i' j) from BM fun i' _ j _=>qP] at B6;refine Av (fun nn_ σ a7=>∃(p:Nat),(∃jj_,σ=Bj jj_ [(9,(P6 b6 0)),(17,(P6 bx 0)),(104,(.slice (some ⟨g,0,none⟩) t.args.length lc)),(105,(I6 (t.args.length:Int))),(106,(I6 (i:Int))),(110,(I6 (p:Int)))])∧Chg Ak w0 a7∧Chg Ak W2 a7∧BH a7 b1 (R6 t sa sc aa ac) 25∧BH a7 b6 (Af fun i' j=>if i'<p then G0 A R i' j else A i' j) TR∧(p≤25)∧nn_=25 - p) (n:=25 - 0) ?_ ?_
                    · exact ⟨0,Am.out ⟨rfl,rfl,rfl,rfl,rfl,rfl,trivial⟩,E,E2,B1,B6,Nat.zero_le _,rfl⟩
                    · clear E E2 B1 B6;rintro _ _ a7 ⟨p,⟨j24,rfl⟩,E,E2,B1,B6,hp,rfl⟩;refine AA (qV (BE rfl rfl) (AB (AG (qC rfl (fun cb=>?_) (fun cb=>?_)))))
                      · refine AO (AC (AG (AU (AA (qM _ rfl (qA _ rfl (AB (E4 13 mixed qK ?_))))))));intro w26 bj _;replace B1:=bj.keep B1;replace B6:=bj.keep B6;replace E:=E.ext bj;replace E2:=E2.ext bj;refine qT (Ai rfl) (qT (Ai rfl) (qT (Ag rfl) (qT (BW (b:=b6) (o:=0) (i:=p) (o':=p) rfl rfl rfl underlying132 CP qO qO) (qT (AL (v:=(.int .u32 ((BF 25 (A p):Nat):Int))) rfl EE ((B6.cell (CX _ qO)).trans qP)) (qT (Ai rfl) (qT (Ai rfl) (qT (Ag rfl) (qT (BW (b:=bx) (o:=0) (i:=p) (o':=p) rfl rfl rfl underlying132 CP qO qO) (qT (AL rfl EE ((E2.keep (fun f=>f) Bx).cell (CX _ qO))) (qT (Gd (v:=.int .u32 ((BF 25 (G0 A R p):Nat):Int)) rfl rfl qP ((HG _ _ (DM _) (DM _)).trans (by rw[Tg];rfl))) (qT (Ag rfl) (qT (BW (b:=b6) (o:=0) (i:=p) (o':=p) rfl rfl rfl underlying132 CP qO qO) (C8 (Bb (b:=b6) (o:=p) (c':=Af fun i' j=>if i'<p+1 then G0 A R i' j else A i' j) (v:=(.int .u32 ((BF 25 (G0 A R p):Nat):Int))) rfl rfl rfl CP B6 (by rw[DA];omega) (Dw qO qP (fun i' _ cg j _=>by by_cases h:i'<p;rw[if_pos h,if_pos qO];rw[if_neg h,if_neg qO])) ?_))))))))))))));intro w27 bk;replace B1:=bk.keep qO B1;replace E:=bk.step E qQ;replace E2:=bk.step E2 (Or.inl qO);replace B6:=bk.blk;refine AB (AQ (AC (AR (qV (Ax rfl rfl (A8 qO)) (qM _ rfl (AB (AC ?_)))))));exact ⟨25 - (p+1),qO,p+1,Am.out ⟨rfl,rfl,rfl,rfl,rfl,rfl,trivial⟩,E,E2,B1,B6,qO,rfl⟩
                      · obtain rfl:p=25:=qO
                        rw[show Af (fun i' j=>if i'<25 then G0 A R i' j else A i' j)=Af (G0 A R) from BM fun i h j _=>by rw[if_pos h],←cl] at B6;refine Aw (AZ (AZ (Ap (AQ (AC (AR (qV (Ax rfl rfl (A8 qO)) (qM _ rfl (AB (AC ?_))))))))));exact ⟨t.args.length - (i+1),qO,i+1,Am.out ⟨rfl,rfl,rfl,rfl,trivial⟩,E,E2,B1,B6,qO,rfl⟩
                  · obtain rfl:i=t.args.length:=qO
                    rw[List.take_of_length_le qP] at B6;refine Aw (AZ (AZ (Ap (AQ (AC (AA (qM _ rfl (qA _ rfl (AB (AJ (AV results61 (v:=(.pointer (some ⟨b6,0,none⟩))) rfl ?_)))))))))));exact ⟨b6,rfl,qO,by rw[hK];exact B6,E⟩
              · refine AA (qV (Aj rfl rfl) (qA _ rfl (AB (qC rfl (fun h8=>?_) (fun h8=>?_)))))
                · have bm:=GC au qO;obtain ⟨g,rfl,hg⟩:=aq qO;obtain ⟨R0,ag⟩:=AX (l:=t.args.map (Ar text)) (i:=0) (by simp;omega);obtain ⟨bz,ak,Bz,az⟩:=ah.2 0 R0 ag;have hK:Ar text t=IL text.length R0:=by rw[hR,←GM (d:=Gf) ag];simp only[Gz,h8];rfl
                  rw[show Af Gf=Af (fun i' j=>decide (i'<0) && IL text.length R0 i' j) from BM fun i _ j _=>by simp[Gf]] at B6;refine AA (qM _ rfl (qV (Ax rfl rfl (A8 qO)) (qM _ rfl (AB (AU (Av (fun nn_ σ bd=>∃(i:Nat),(∃jj_,σ=Bj jj_ [(5,(I6 (text.length:Int))),(6,(.slice (some ⟨g,0,none⟩) t.args.length lc)),(9,(P6 b6 0)),(131,(I6 ((text.length:Int)+1))),(132,(I6 (i:Int)))])∧Chg Ak w0 bd∧Chg Ak W2 bd∧BH bd b1 (R6 t sa sc aa ac) 25∧BH bd b6 (Af fun i' j=>decide (i'<i) && IL text.length R0 i' j) TR∧(i≤text.length+1)∧nn_=text.length+1 - i) (n:=text.length+1 - 0) ?_ ?_))))))
                  · exact ⟨0,Am.out ⟨rfl,rfl,rfl,rfl,rfl,trivial⟩,E,E2,B1,B6,Nat.zero_le _,rfl⟩
                  · clear E E2 B1 B6;rintro _ _ bd ⟨i,⟨j29,rfl⟩,E,E2,B1,B6,hi,rfl⟩;refine AA (qV (BE rfl rfl) (AB (AG (qC rfl (fun ca=>?_) (fun ca=>?_)))))
                    · have cr:=OI (k:=text.length+1) qO;have c3:=OI (k:=i) qO;refine AO (AC (AG (AU (AA (qM _ rfl (qA _ rfl (AB (E4 20 mixed qK ?_))))))));intro w31 bh _;replace B1:=bh.keep B1;replace B6:=bh.keep B6;replace E:=E.ext bh;replace E2:=E2.ext bh;refine qT (Ai rfl) (qT (Ai rfl) (qT (Ai rfl) (qT (Ax rfl rfl (A8 qO)) (qT (OB (c:=((2 ^ (text.length+1):Nat):Int)) rfl rfl qO (Sq (k:=text.length+1) qO)) (qT (DI (c:=((2 ^ (text.length+1) - 1:Nat):Int)) rfl rfl (Nb cr.1 qO)) (qT (Ai rfl) (qT (OB (c:=((2 ^ i:Nat):Int)) rfl rfl qO (Sq (k:=i) qO)) (qT (DI (c:=((2 ^ i - 1:Nat):Int)) rfl rfl (Nb c3.1 qO)) (qT (Gd (v:=.int .u32 (((2 ^ (text.length+1) - 1) &&& (4294967295 - (2 ^ i - 1)):Nat):Int)) rfl rfl qP (Jr _ _ qO qO)) (qT (Ai rfl) (qT (AN (b:=g) (o:=0) (len:=t.args.length) (cap:=lc) (i:=0) (o':=0) rfl rfl rfl underlying130 Ep qO qO) (qT (AL rfl Eb (E2.cell (fun f=>f) (hg 0 _ ak))) (qT (Ai rfl) (qT (Ag rfl) ?_))))))))))))));refine qT (BW (b:=bz) (o:=0) (i:=i) (o':=i) rfl rfl rfl underlying132 CP qO qO) (qT (AL rfl EE ((E2.keep (fun f=>f) Bz).cell (CX _ qO))) (qT (Gd (k:=.u32) (a:=(((2 ^ (text.length+1) - 1) &&& (4294967295 - (2 ^ i - 1)):Nat):Int)) (b:=((BF 25 (R0 i):Nat):Int)) (v:=.int .u32 ((BF 25 (fun j=>(decide (i≤j) && decide (j≤text.length)) && !R0 i j):Nat):Int)) rfl rfl qP ((Jr _ _ (Nat.lt_of_le_of_lt Nat.and_le_left qO) (DM _)).trans (by rw[TY qO hn]))) (qT (Ag rfl) (qT (BW (b:=b6) (o:=0) (i:=i) (o':=i) rfl rfl rfl underlying132 CP qO qO) (C8 (Bb (b:=b6) (o:=i) (c':=Af fun i' j=>decide (i'<i+1) && IL text.length R0 i' j) (v:=(.int .u32 ((BF 25 (fun j=>(decide (i≤j) && decide (j≤text.length)) && !R0 i j):Nat):Int))) rfl rfl rfl CP B6 (by rw[DA];omega) (Dw qO (by rw[DD (g:=fun j=>decide (i<i+1) && IL text.length R0 i j) (fun j _=>by simp[IL,show i≤text.length by omega])]) (fun i' _ cg j _=>by rw[Bool.eq_iff_iff];simp;omega)) ?_))))));intro w32 bi;replace B1:=bi.keep qO B1;replace E:=bi.step E qQ;replace E2:=bi.step E2 (Or.inl qO);replace B6:=bi.blk;refine AB (AQ (AC (AR (qV (Ax rfl rfl (A8 qO)) (qM _ rfl (AB (AC ?_)))))));exact ⟨text.length+1 - (i+1),qO,i+1,Am.out ⟨rfl,rfl,rfl,rfl,rfl,trivial⟩,E,E2,B1,B6,qO,rfl⟩
                    · obtain rfl:i=text.length+1:=qO
                      rw[show Af (fun i' j=>decide (i'<text.length+1) && IL text.length R0 i' j)=Af (IL text.length R0) from BM fun i' _ j _=>by by_cases h:i'<text.length+1;simp[h];simp[h,IL,show ¬i'≤text.length by omega]] at B6;refine Aw (AZ (AZ (Ap (AQ (AC (AA (qM _ rfl (qA _ rfl (AB (AJ (AV results61 (v:=(.pointer (some ⟨b6,0,none⟩))) rfl ?_)))))))))));exact ⟨b6,rfl,qO,by rw[hK];exact B6,E⟩
                · refine AA (qV (Aj rfl rfl) (qA _ rfl (AB (qC rfl (fun h5=>?_) (fun h5=>?_)))))
                  · have bm:=GC au qO;obtain ⟨g,rfl,hg⟩:=aq qO;obtain ⟨R0,ag⟩:=AX (l:=t.args.map (Ar text)) (i:=0) (by simp;omega);obtain ⟨bz,ak,Bz,az⟩:=ah.2 0 R0 ag;have hK:Ar text t=D7 text.length R0 (text.length+1):=by rw[hR,←GM (d:=Gf) ag];simp only[Gz,h5];rfl
                    refine AA (qM _ rfl (qE rfl (AI func98 kQ kQ rfl) (J2 _ text.length hn) ?_));rintro _ cn ⟨bo,rfl,cq,Bo,ai⟩;replace B1:=ai.keep B1;replace B6:=ai.keep B6;replace E:=E.ext ai;replace E2:=E2.ext ai;have am:w0.heap.size≤bo:=by have:=N6.size;omega
                    refine qA _ rfl (AB (AA (qM _ rfl (qV (Ax rfl rfl (A8 qO)) (qM _ rfl (AB (AU (Av (fun nn_ σ a2=>∃(i:Nat) (ob:Nat),(∃jj_,σ=Bj jj_ [(5,(I6 (text.length:Int))),(6,(.slice (some ⟨g,0,none⟩) t.args.length lc)),(161,(I6 ((text.length:Int)+1))),(162,(I6 (i:Int))),(9,(P6 ob 0))])∧Chg Ak w0 a2∧Chg Ak W2 a2∧BH a2 b1 (R6 t sa sc aa ac) 25∧BH a2 b6 (Af Gf) TR∧(i≤text.length+1)∧(w0.heap.size≤ob)∧(BH a2 ob (Af (D7 text.length R0 i)) TR)∧nn_=text.length+1 - i) (n:=text.length+1 - 0) ?_ ?_))))))))
                    · exact ⟨0,bo,Am.out ⟨rfl,rfl,rfl,rfl,rfl,trivial⟩,E,E2,B1,B6,Nat.zero_le _,am,Bo,rfl⟩
                    · clear E E2 B1 B6;rintro _ _ a2 ⟨i,ob,⟨j34,rfl⟩,E,E2,B1,B6,hi,ap,Bo,rfl⟩;refine AA (qV (BE rfl rfl) (AB (AG (qC rfl (fun ch=>?_) (fun ch=>?_)))))
                      · have c4:=Bo.lt;refine AO (AC (AG (AU (AR (qM _ rfl (qM _ rfl (qM _ rfl (qV (AN (b:=g) (o:=0) (len:=t.args.length) (cap:=lc) (i:=0) (o':=0) rfl rfl rfl underlying130 Ep qO qO) (qV (AL rfl Eb (E2.cell (fun f=>f) (hg 0 _ ak))) (qM _ rfl (qE rfl (AI func99 kQ kQ rfl) (Mp _ ob bz text.length _ R0 hn Bo (E2.keep (fun f=>f) Bz) (hT.ext E)) ?_)))))))))));rintro _ b2 ⟨cu,rfl,c2,cs,ae⟩;replace B1:=ae.keep B1;replace B6:=ae.keep B6;replace Bo:=ae.keep Bo;replace E:=E.ext ae;replace E2:=E2.ext ae;refine qE rfl (AI func100 kQ kQ rfl) (Wm _ ob cu _ _ Bo cs) ?_;rintro _ cm ⟨ay,rfl,aw,al,af⟩;replace B1:=af.keep B1;replace B6:=af.keep B6;replace Bo:=af.keep Bo;replace E:=E.ext af;replace E2:=E2.ext af;refine qA _ rfl (AB (AQ (AC (AR (qV (Ax rfl rfl (A8 qO)) (qM _ rfl (AB (AC ?_))))))));exact ⟨text.length+1 - (i+1),qO,i+1,ay,Am.out ⟨rfl,rfl,rfl,rfl,rfl,trivial⟩,E,E2,B1,B6,qO,(by have:=ae.size;omega),al,rfl⟩
                      · obtain rfl:i=text.length+1:=qO
                        refine Aw (AZ (AZ (Ap (AQ (AC (AA (qM _ rfl (qA _ rfl (AB (AJ (AV results61 (v:=(.pointer (some ⟨ob,0,none⟩))) rfl ?_)))))))))));exact ⟨ob,rfl,ap,by rw[hK];exact Bo,E⟩
                  · refine AA (qV (Aj rfl rfl) (qA _ rfl (AB (qC rfl (fun h6=>?_) (fun h6=>?_)))))
                    · have bm:=GC au qO;have hrp:=TX au h6;obtain ⟨g,rfl,hg⟩:=aq qO;obtain ⟨R0,ag⟩:=AX (l:=t.args.map (Ar text)) (i:=0) (by simp;omega);obtain ⟨bz,ak,Bz,az⟩:=ah.2 0 R0 ag;have hK:Ar text t=I4 text.length R0 t.mn (t.mx+1).toNat:=by rw[hR,←GM (d:=Gf) ag];simp only[Gz,h6];rfl
                      refine AA (qM _ rfl (qE rfl (AI func98 kQ kQ rfl) (J2 _ text.length hn) ?_));rintro _ cn ⟨bo,rfl,cq,Bo,ai⟩;replace B1:=ai.keep B1;replace B6:=ai.keep B6;replace E:=E.ext ai;replace E2:=E2.ext ai;have am:w0.heap.size≤bo:=by have:=N6.size;omega
                      refine qA _ rfl (AB (AA (qF b1 0 4 rfl underlying25 rfl Ay rfl (qV (AL rfl Al (B1.cell rfl)) (qV (Ax rfl rfl (A8 qO)) (qM _ rfl (AB (AU (Av (fun nn_ σ ax=>∃(i:Nat) (ob:Nat) (pb:Nat),(∃jj_,σ=Bj jj_ [(2,(P6 b1 0)),(5,(I6 (text.length:Int))),(6,(.slice (some ⟨g,0,none⟩) t.args.length lc)),(179,(I6 (t.mx+1))),(180,(I6 (i:Int))),(9,(P6 ob 0)),(20,(P6 pb 0))])∧Chg Ak w0 ax∧Chg Ak W2 ax∧BH ax b1 (R6 t sa sc aa ac) 25∧BH ax b6 (Af Gf) TR∧(i≤(t.mx+1).toNat)∧(w0.heap.size≤ob)∧(BH ax ob (Af (I4 text.length R0 t.mn i)) TR)∧(BH ax pb (Af (I9 text.length R0 i)) TR)∧nn_=(t.mx+1).toNat - i) (n:=(t.mx+1).toNat - 0) ?_ ?_)))))))))
                      · exact ⟨0,b6,bo,Am.out ⟨rfl,rfl,rfl,rfl,rfl,rfl,rfl,trivial⟩,E,E2,B1,B6,Nat.zero_le _,qO,B6,Bo,rfl⟩
                      · clear E E2 B1 B6;rintro _ _ ax ⟨i,ob,pb,⟨j37,rfl⟩,E,E2,B1,B6,hi,ap,Bo,Bp,rfl⟩;refine AA (qV (BE rfl rfl) (AB (AG (qC rfl (fun bt=>?_) (fun bt=>?_)))))
                        · have c4:=Bo.lt;refine AO (AC (AG (AU (AA (qM _ rfl (qA _ rfl (AB (AG (AA (qM _ rfl (qF b1 0 3 rfl underlying25 rfl Ay rfl (qV (AL rfl Al (B1.cell rfl)) (qV (FX rfl rfl) (AB (qC rfl (fun ck=>?_) (fun ck=>?_))))))))))))))))
                          · refine AR (qM _ rfl (qM _ rfl (qE rfl (AI func100 kQ kQ rfl) (Wm _ ob pb _ _ Bo Bp) ?_)));rintro _ b2 ⟨ay,rfl,aw,al,ae⟩;replace B1:=ae.keep B1;replace B6:=ae.keep B6;replace Bo:=ae.keep Bo;replace Bp:=ae.keep Bp;replace E:=E.ext ae;replace E2:=E2.ext ae;refine qA _ rfl (AB (AC (AR (qM _ rfl (qM _ rfl (qV (AN (b:=g) (o:=0) (len:=t.args.length) (cap:=lc) (i:=0) (o':=0) rfl rfl rfl underlying130 Ep qO qO) (qV (AL rfl Eb (E2.cell (fun f=>f) (hg 0 _ ak))) (qM _ rfl (qE rfl (AI func99 kQ kQ rfl) (Mp _ pb bz text.length _ R0 hn Bp (E2.keep (fun f=>f) Bz) (hT.ext E)) ?_)))))))));rintro _ cm ⟨b3,rfl,ci,bu,af⟩;replace B1:=af.keep B1;replace B6:=af.keep B6;replace Bo:=af.keep Bo;replace Bp:=af.keep Bp;replace al:=af.keep al;replace E:=E.ext af;replace E2:=E2.ext af;refine qA _ rfl (AB (AQ (AC (AR (qV (Ax rfl rfl (A8 qO)) (qM _ rfl (AB (AC ?_))))))));exact ⟨(t.mx+1).toNat - (i+1),qO,i+1,ay,b3,Am.out ⟨rfl,rfl,rfl,rfl,rfl,rfl,rfl,trivial⟩,E,E2,B1,B6,qO,qO,(by rw[I4,if_pos ck];exact al),bu,rfl⟩
                          · refine AO (AC (AR (qM _ rfl (qM _ rfl (qV (AN (b:=g) (o:=0) (len:=t.args.length) (cap:=lc) (i:=0) (o':=0) rfl rfl rfl underlying130 Ep qO qO) (qV (AL rfl Eb (E2.cell (fun f=>f) (hg 0 _ ak))) (qM _ rfl (qE rfl (AI func99 kQ kQ rfl) (Mp _ pb bz text.length _ R0 hn Bp (E2.keep (fun f=>f) Bz) (hT.ext E)) ?_))))))));rintro _ cm ⟨b3,rfl,ci,bu,af⟩;replace B1:=af.keep B1;replace B6:=af.keep B6;replace Bo:=af.keep Bo;replace Bp:=af.keep Bp;replace E:=E.ext af;replace E2:=E2.ext af;refine qA _ rfl (AB (AQ (AC (AR (qV (Ax rfl rfl (A8 qO)) (qM _ rfl (AB (AC ?_))))))));exact ⟨(t.mx+1).toNat - (i+1),qO,i+1,ob,b3,Am.out ⟨rfl,rfl,rfl,rfl,rfl,rfl,rfl,trivial⟩,E,E2,B1,B6,qO,ap,(by rw[I4,if_neg ck];exact Bo),bu,rfl⟩
                        · obtain rfl:i=(t.mx+1).toNat:=qO
                          refine Aw (AZ (AZ (Ap (AQ (AC (AA (qM _ rfl (qA _ rfl (AB (AJ (AV results61 (v:=(.pointer (some ⟨ob,0,none⟩))) rfl ?_)))))))))));exact ⟨ob,rfl,ap,by rw[hK];exact Bo,E⟩
                    · refine AA (qV (Aj rfl rfl) (qA _ rfl (AB (qC rfl (fun h9=>?_) (fun h9=>?_)))))
                      · have bm:=GC au qO;obtain ⟨g,rfl,hg⟩:=aq qO;obtain ⟨R0,ag⟩:=AX (l:=t.args.map (Ar text)) (i:=0) (by simp;omega);obtain ⟨bz,ak,Bz,az⟩:=ah.2 0 R0 ag;have hK:Ar text t=R0:=by rw[hR,←GM (d:=Gf) ag];simp only[Gz,h9];rfl
                        refine AA (qM _ rfl (qV (AN (b:=g) (o:=0) (len:=t.args.length) (cap:=lc) (i:=0) (o':=0) rfl rfl rfl underlying130 Ep qO qO) (qV (AL rfl Eb (E2.cell (fun f=>f) (hg 0 _ ak))) (qA _ rfl (AB (AJ (Ac (AP (AV results61 (v:=(.pointer (some ⟨bz,0,none⟩))) rfl ?_)))))))));exact ⟨bz,rfl,az,by rw[hK];exact E2.keep (fun f=>f) Bz,E⟩
                      · refine AA (qV (Aj rfl rfl) (qA _ rfl (AB (qC rfl (fun b0=>?_) (fun b0=>?_)))))
                        · have bm:=GC au qO;obtain ⟨g,rfl,hg⟩:=aq qO;obtain ⟨R0,ag⟩:=AX (l:=t.args.map (Ar text)) (i:=0) (by simp;omega);obtain ⟨bz,ak,Bz,az⟩:=ah.2 0 R0 ag;have hK:Ar text t=FJ text.length R0 t.neg:=by rw[hR,←GM (d:=Gf) ag];simp only[Gz,b0];rfl
                          rw[show Af Gf=Af (fun i' j=>decide (i'<0) && FJ text.length R0 t.neg i' j) from BM fun i _ j _=>by simp[Gf]] at B6;refine AA (qM _ rfl (qV (Ax rfl rfl (A8 qO)) (qM _ rfl (AB (AU (Av (fun nn_ σ a9=>∃(i:Nat),(∃jj_,σ=Bj jj_ [(2,(P6 b1 0)),(6,(.slice (some ⟨g,0,none⟩) t.args.length lc)),(9,(P6 b6 0)),(205,(I6 ((text.length:Int)+1))),(206,(I6 (i:Int)))])∧Chg Ak w0 a9∧Chg Ak W2 a9∧BH a9 b1 (R6 t sa sc aa ac) 25∧BH a9 b6 (Af fun i' j=>decide (i'<i) && FJ text.length R0 t.neg i' j) TR∧(i≤text.length+1)∧nn_=text.length+1 - i) (n:=text.length+1 - 0) ?_ ?_))))))
                          · exact ⟨0,Am.out ⟨rfl,rfl,rfl,rfl,rfl,trivial⟩,E,E2,B1,B6,Nat.zero_le _,rfl⟩
                          · clear E E2 B1 B6;rintro _ _ a9 ⟨i,⟨j42,rfl⟩,E,E2,B1,B6,hi,rfl⟩;refine AA (qV (BE rfl rfl) (AB (AG (qC rfl (fun a5=>?_) (fun a5=>?_)))))
                            · refine AO (AC (AG (AU (AA (qM _ rfl (qA _ rfl (AB (El 10 mixed qK ?_))))))));intro w44 bl _;replace B1:=bl.keep B1;replace B6:=bl.keep B6;replace E:=E.ext bl;replace E2:=E2.ext bl;refine qT (Ai rfl) (qT (AN (b:=g) (o:=0) (len:=t.args.length) (cap:=lc) (i:=0) (o':=0) rfl rfl rfl underlying130 Ep qO qO) (qT (AL rfl Eb (E2.cell (fun f=>f) (hg 0 _ ak))) (qT (Ai rfl) (qT (Ag rfl) (qT (BW (b:=bz) (o:=0) (i:=i) (o':=i) rfl rfl rfl underlying132 CP qO qO) (qT (AL rfl EE ((E2.keep (fun f=>f) Bz).cell (CX _ qO))) (qT (Cy rfl rfl) (qT (AY (b:=b1) (o:=0) (o':=5) rfl underlying25 rfl Sk rfl) (qT (AL (v:=(.bool t.neg)) rfl Ou (B1.cell rfl)) (C8 (qV (My (p:=decide ((((BF 25 (R0 i):Nat):Int):Int)≠0)) (q:=t.neg) underlying4 rfl rfl) (AB (A_ (b:=(decide ((((BF 25 (R0 i):Nat):Int):Int)≠0)) != t.neg) rfl (fun bb=>?_) (fun bb=>?_))))))))))))))
                              · have ce:=bb;have av:(decide (BF 25 (R0 i)≠0) != t.neg)=true:=by rw[←bb,MD]
                                refine E4 6 mixed qK ?_;intro w46 bn _;replace B1:=bn.keep B1;replace B6:=bn.keep B6;replace E:=E.ext bn;replace E2:=E2.ext bn;refine qT (Ai rfl) (qT (Ai rfl) (qT (Ai rfl) (qT (OB (k:=.u32) (a:=1) (b:=(i:Int)) (c:=((2 ^ i:Nat):Int)) (k':=.i64) rfl rfl qO (Sq (k:=i) qO)) (qT (Ag (a:=⟨b6,0,none⟩) rfl) (qT (BW (b:=b6) (o:=0) (i:=i) (o':=i) rfl rfl rfl underlying132 CP qO qO) (C8 (Bb (b:=b6) (o:=i) (c':=Af fun i' j=>decide (i'<i+1) && FJ text.length R0 t.neg i' j) (v:=(.int .u32 ((2 ^ i:Nat):Int))) rfl rfl rfl CP B6 (by rw[DA];omega) (Dw qO (by rw[Kn (n:=25) (i:=i) qO,DD (g:=fun j=>decide (i<i+1) && FJ text.length R0 t.neg i j) (fun j _=>by simp only[FJ,av,Bool.and_true];simp[show i≤text.length by omega])]) (fun i' _ cg j _=>by rw[Bool.eq_iff_iff];simp;omega)) ?_)))))));intro w47 bs;replace B1:=bs.keep qO B1;replace E:=bs.step E qQ;replace E2:=bs.step E2 (Or.inl qO);replace B6:=bs.blk;refine AB (AQ (AC (AR (qV (Ax (k:=.i64) (a:=(i:Int)) (b:=1) (c:=(i:Int)+1) rfl rfl (A8 qO)) (qM (I6 ((i:Int)+1)) rfl (AB (AC ?_)))))));exact ⟨text.length+1 - (i+1),qO,i+1,Am.out ⟨rfl,rfl,rfl,rfl,rfl,trivial⟩,E,E2,B1,B6,qO,rfl⟩
                              · have ce:=bb;have av:(decide (BF 25 (R0 i)≠0) != t.neg)=false:=by rw[←bb,MD]
                                rw[show Af (fun i' j=>decide (i'<i) && FJ text.length R0 t.neg i' j)=Af (fun i' j=>decide (i'<i+1) && FJ text.length R0 t.neg i' j) from BM fun i' _ j _=>by rcases Nat.lt_trichotomy i' i with h|h|h;simp[h,show i'<i+1 by omega];subst h;simp only[FJ,av,Bool.and_false];simp[show ¬i'<i by omega,show ¬i'<i+1 by omega]] at B6;refine AO (AQ (AC (AR (qV (Ax rfl rfl (A8 qO)) (qM _ rfl (AB (AC ?_)))))));exact ⟨text.length+1 - (i+1),qO,i+1,Am.out ⟨rfl,rfl,rfl,rfl,rfl,trivial⟩,E,E2,B1,B6,qO,rfl⟩
                            · obtain rfl:i=text.length+1:=qO
                              rw[show Af (fun i' j=>decide (i'<text.length+1) && FJ text.length R0 t.neg i' j)=Af (FJ text.length R0 t.neg) from BM fun i' _ j _=>by by_cases h:i'<text.length+1;simp[h];simp[h,FJ,show ¬i'≤text.length by omega]] at B6;refine Aw (AZ (AZ (Ap (AQ (AC (AA (qM _ rfl (qA _ rfl (AB (AJ (AV results61 (v:=(.pointer (some ⟨b6,0,none⟩))) rfl ?_)))))))))));exact ⟨b6,rfl,qO,by rw[hK];exact B6,E⟩
                        · have hK:Ar text t=Gf:=by rw[hR];simp[Gz,h1,h2,h3,h4,h5,h6,h7,h8,h9,b0]
                          refine AO (AQ (AC (AA (qM _ rfl (qA _ rfl (AB (AJ (AV results61 (v:=(.pointer (some ⟨b6,0,none⟩))) rfl ?_))))))));exact ⟨b6,rfl,qO,by rw[hK];exact B6,E⟩
theorem NO {d:World} {aa:Option Addr} {a:List Re} (h:a=[]∨∃b o,aa=some ⟨b,o,none⟩∧CB d b o a) (c:0<a.length):∃b o,aa=some ⟨b,o,none⟩∧CB d b o a:=by
 rcases h with h|h
 .rw[h] at c;simp at c
 .exact h
end Go.Proofs
namespace Go.Proofs
open Go Go.Eng Go.Lib
set_option maxRecDepth 100000
--BEGIN
abbrev Mj:=List UInt8
def Py (c:UInt8):Prop:=48<=c.toNat∧c.toNat<=57
def Po (u:Mj):Prop:=∀c,u.head?=some c->¬Py c
theorem Q2 {d:Nat} (h:d<10):Py (UInt8.ofNat (48+d)):=by
 unfold Py;rw[UInt8.toNat_ofNat'];omega
theorem UP (u:Nat):∀c∈decDigits u,Py c:=by
 induction u using Nat.strongRecOn with
 | _ u ih=>
  rw[decDigits];split
  .intro c a;rw[List.mem_singleton.1 a];exact Q2 (by assumption)
  .intro c a;rcases List.mem_append.1 a with h|h
   .exact ih (u / 10) qO c h
   .rw[List.mem_singleton.1 h];exact Q2 qO
def Uo (l:Mj):Nat:=l.foldl (λv c=>v*10+(c.toNat - 48)) 0
theorem QQ (u:Nat):Uo (decDigits u)=u:=by
 induction u using Nat.strongRecOn with
 | _ u ih=>
  rw[decDigits];split
  .show 0*10+((UInt8.ofNat (48+u)).toNat - 48)=u;rw[UInt8.toNat_ofNat'];omega
  .unfold Uo;rw[List.foldl_append];show (Uo (decDigits (u / 10)))*10+((UInt8.ofNat (48+u % 10)).toNat - 48)=u;rw[ih (u / 10) qO,UInt8.toNat_ofNat'];omega
theorem O0:∀{l m u v:Mj},(∀c∈l,Py c)->(∀c∈m,Py c)->Po u->Po v->l++u=m++v->l=m∧u=v
 | [],[],_,_,_,_,_,_,e=>⟨O,e⟩
 | [],c::m,u,v,_,hm,hu,_,e=>by
  have b:u=c::(m++v):=e;exact absurd (hm c List.mem_cons_self) (hu c (by rw[b];rfl))
 | c::l,[],u,v,hl,_,_,hv,e=>by
  have b:c::(l++u)=v:=e;exact absurd (hl c List.mem_cons_self) (hv c (by rw[<-b];rfl))
 | c::l,d::m,u,v,hl,hm,hu,hv,e=>by
  rw[List.cons_append,List.cons_append,List.cons.injEq] at e;obtain ⟨f,g⟩:=O0 (λc a=>hl c (List.mem_cons_of_mem _ a)) (λc a=>hm c (List.mem_cons_of_mem _ a)) hu hv e.2;exact ⟨by rw[e.1,f],g⟩
theorem FL {a b:Int} {u v:Mj} (ha:0<=a) (hb:0<=b) (g:Po u) (c:Po v) (e:itoa a++u=itoa b++v):a=b∧u=v:=by
 unfold itoa at e;rw[if_neg qO,if_neg qO] at e;obtain ⟨d,f⟩:=O0 (UP _) (UP _) g c e;have h:=congrArg Uo d;rw[QQ,QQ] at h;exact ⟨qO,f⟩
theorem Da {c:UInt8} {u:Mj} (h:c.toNat<48):Po (c::u):=λd hd a=>by
 cases hd;unfold Py at a;omega
def Dh:List (Int×Int)->Mj
  | []=>[]
  | p::s=>32::(itoa p.1++45::(itoa p.2++Dh s))
mutual
def Hz:Re->Mj
  | .mk k s a m x _=>40::(itoa k++32::(itoa m++32::(itoa x++(Dh s++(C0 a++[41])))))
def C0:List Re->Mj
  | []=>[]
  | t::ts=>Hz t++C0 ts
end
mutual
def JX:Re->Prop
  | .mk k s a m x g=>0<=k∧0<=m∧0<=x∧(∀p∈s,0<=p.1∧0<=p.2)∧g=false∧Is a
def Is:List Re->Prop
  | []=>True
  | t::ts=>JX t∧Is ts
end
theorem JF (t:Re):∃u,Hz t=40::u:=by cases t;rw[Hz];exact ⟨_,O⟩
def Lj (u:Mj):Prop:=∃c v,u=c::v∧(c=40∨c=41)
theorem Lj.no {u:Mj} (h:Lj u):Po u:=by
 obtain ⟨c,v,rfl,rfl|rfl⟩:=h
 .exact Da qD
 .exact Da qD
theorem IU (s:List (Int×Int)) {u:Mj} (h:Lj u):Po (Dh s++u):=by
 cases s with
 | nil=>exact h.no
 | cons p s=>exact Da qD
theorem Jj:∀{s t:List (Int×Int)} {u v:Mj},(∀p∈s,0<=p.1∧0<=p.2)->(∀p∈t,0<=p.1∧0<=p.2)->Lj u->Lj v->Dh s++u=Dh t++v->s=t∧u=v
 | [],[],_,_,_,_,_,_,e=>⟨O,e⟩
 | [],q::t,u,v,_,_,hu,_,e=>by
  obtain ⟨c,w,rfl,d⟩:=hu;have a:c::w=32::((itoa q.1++45::(itoa q.2++Dh t))++v):=e;rw[List.cons.injEq] at a;rcases d with rfl|rfl<;>exact absurd a.1 qD
 | p::s,[],u,v,_,_,_,hv,e=>by
  obtain ⟨c,w,rfl,d⟩:=hv;have a:32::((itoa p.1++45::(itoa p.2++Dh s))++u)=c::w:=e;rw[List.cons.injEq] at a;rcases d with rfl|rfl<;>exact absurd a.1 qD
 | p::s,q::t,u,v,hs,ht,hu,hv,e=>by
  have a:32::(itoa p.1++(45::(itoa p.2++(Dh s++u))))=32::(itoa q.1++(45::(itoa q.2++(Dh t++v)))):=by simpa[Dh] using e
  rw[List.cons.injEq] at a;have h:=hs p List.mem_cons_self;have f:=ht q List.mem_cons_self;obtain ⟨l,g⟩:=FL h.1 f.1 (Da qD) (Da qD) a.2;rw[List.cons.injEq] at g;obtain ⟨i,j⟩:=FL h.2 f.2 (IU s hu) (IU t hv) g.2;obtain ⟨k,m⟩:=Jj (λp b=>hs p (List.mem_cons_of_mem _ b)) (λp b=>ht p (List.mem_cons_of_mem _ b)) hu hv j;exact ⟨by rw[k,show p=q from Prod.ext l i],m⟩
theorem Gk (a:List Re) (u:Mj):Lj (C0 a++41::u):=by
 cases a with
 | nil=>exact ⟨41,u,O,.inr O⟩
 | cons t c=>
  obtain ⟨w,b⟩:=JF t;exact ⟨40,w++(C0 c++41::u),by rw[C0,b];simp,.inl O⟩
mutual
theorem Kq:∀(t t':Re) (u v:Mj),JX t->JX t'->Hz t++u=Hz t'++v->t=t'∧u=v
 | .mk k s a m x g,.mk k' s' a' m' x' g',u,v,h,h',e=>by
  obtain ⟨D,E,w,y,r,z⟩:=h;obtain ⟨f,d,c,l,b,j⟩:=h';simp only[Hz,List.cons_append,List.append_assoc,List.nil_append,List.cons.injEq,true_and] at e;obtain ⟨F,n⟩:=FL D f (Da qD) (Da qD) e;simp only[List.cons.injEq,true_and] at n;obtain ⟨G,o⟩:=FL E d (Da qD) (Da qD) n;simp only[List.cons.injEq,true_and] at o;obtain ⟨B,A⟩:=FL w c (IU s (Gk a u)) (IU s' (Gk a' v)) o;obtain ⟨C,q⟩:=Jj y l (Gk a u) (Gk a' v) A;obtain ⟨p,i⟩:=Jk a a' u v z j q;exact ⟨by rw[F,G,B,C,p,r,b],i⟩
theorem Jk:∀(a a':List Re) (u v:Mj),Is a->Is a'->C0 a++41::u=C0 a'++41::v->a=a'∧u=v
 | [],[],u,v,_,_,e=>by
  simp only[C0,List.nil_append,List.cons.injEq,true_and] at e;exact ⟨O,e⟩
 | [],t::ts,u,v,_,_,e=>by
  obtain ⟨w,b⟩:=JF t;rw[C0,C0,b] at e;simp at e
 | t::ts,[],u,v,_,_,e=>by
  obtain ⟨w,b⟩:=JF t;rw[C0,C0,b] at e;simp at e
 | t::ts,t'::ts',u,v,h,h',e=>by
  simp only[C0,List.append_assoc] at e;obtain ⟨f,c⟩:=Kq t t' _ _ h.1 h'.1 e;obtain ⟨g,d⟩:=Jk ts ts' u v h.2 h'.2 c;exact ⟨by rw[f,g],d⟩
end
theorem Tx {t t':Re} (h:JX t) (a:JX t') (e:Hz t=Hz t'):t=t':=(Kq t t' [] [] h a (by rw[e])).1
--END
end Go.Proofs
namespace Go.Proofs
open Go Go.Eng
set_option maxRecDepth 100000
theorem QD (x n:Int) (hn:0<n):(if x.tmod n<0 then x.tmod n+n else x.tmod n)=x % n:=by
 have h:=Int.tmod_eq_emod (a:=x) (b:=n);have h1:=Int.emod_nonneg x (Int.ne_of_gt hn);have h2:=Int.emod_lt_of_pos x hn;have h3:n.natAbs=n:=qO
 split at h<;>split<;>omega
theorem J_ (x n:Int) (hn:0<n) (hm:n<=2000) (a:World) :
 Bi prog 21 #[.int .i64 x,.int .i64 n] a λv w=>v=.int .i64 (x % n)∧w=a:=by
 have hb:=QD x n hn;have h1:=Int.emod_nonneg x (Int.ne_of_gt hn);have h2:=Int.emod_lt_of_pos x hn;refine qR func21 O ntmps21 O (λE=>(AA (qA _ O (AB (AA (qM _ O (qM _ O (qV (XZ (c:=x.tmod n) O O qO O) (qA _ O (AB (AG (AA (qM _ O (qV (BE O O) (AB (qC O (λh=>?_) (λh=>?_)))))))))))))))))
 .rw[if_pos h] at hb;refine AR (qM _ O (qM _ O (qV (Ax O O (A8 qO)) (qA _ O (AB (AC (AA (qM _ O (qA _ O (AB (AJ (AV results21 (v:=(.int .i64 ((x.tmod n)+n))) O ?_))))))))))));exact ⟨by rw[hb],O⟩
 .rw[if_neg h] at hb;refine AO (AC (AA (qM _ O (qA _ O (AB (AJ (AV results21 (v:=(.int .i64 (x.tmod n))) O ?_)))))));exact ⟨by rw[hb],O⟩
end Go.Proofs
namespace Go.Proofs
open Go Go.Eng
set_option maxRecDepth 100000
def Dc (most:Int):Int×Int->Re->Bool×(Int×Int):=λs t=>
 let n:=IntKind.i64.wrap (s.1+1)
 let e:=if most<n then 2 else CH t
 (decide (e=0),(n,e))
def Cj (t:Re) (most:Int):Int:=(CU (Dc most) t (0,0)).2.2
theorem Vj (r l:World) (t:Re) (vs:List Value) (z:A4 r t vs) (A:Ae r l) (g i f:Nat) (s:Int×Int) (most:Int) (h0:r.heap.size<=i) (h12:i<g) (h13:g<f)
 (d:BH l g #[.int .i64 s.1] 3) (e:BH l i #[.int .i64 most] 3) (a:BH l f #[.int .i64 s.2] 28) :
 Bi prog 101 #[.agg vs.toArray,.pointer (some ⟨g,0,none⟩),.pointer (some ⟨i,0,none⟩),.pointer (some ⟨f,0,none⟩)] l
  λv w=>v=.bool (Dc most s t).1∧Chg (λx=>x=g∨x=f) l w∧BH w g #[.int .i64 (Dc most s t).2.1] 3∧BH w i #[.int .i64 most] 3∧BH w f #[.int .i64 (Dc most s t).2.2] 28:=by
 have y:=z;obtain ⟨sa,sc,aa,ac,rfl,hset,hlen,hargs⟩:=z.form;refine EY func101 O ntmps101 (Qo O) ?_;have E:Chg (λx=>x=g∨x=f) l l:=Chg.refl _ _;refine AA (BL (v:=(.agg (R6 t sa sc aa ac))) (c:=(R6 t sa sc aa ac)) qD O O ?_);intro b1 w1 k;have O1_b1':=k.lt d;have O1_b2':=k.lt e;have O1_b3':=k.lt a;replace d:=k.keep d;replace e:=k.keep e;replace a:=k.keep a;replace E:=E.ext k.ext;have j:=k.blk;refine qA _ O (AB (AG (AA (qV (AL O Al (d.cell O)) (qV (Ax (c:=IntKind.i64.wrap (s.1+1)) O O (O)) (Bb (b:=g) (o:=0) (c':=#[(I6 (IntKind.i64.wrap (s.1+1)))]) (v:=(I6 (IntKind.i64.wrap (s.1+1)))) O O O Ay d qP O ?_))))));intro w2 m;replace e:=m.keep qO e;replace a:=m.keep qO a;replace j:=m.keep qO j;replace E:=m.step E qQ;replace d:=m.blk;refine AB (AA (qV (AL O Al (d.cell O)) (qV (AL O Al (e.cell O)) (qV (D0 O O) (AB (qC O (λh=>?_) (λh=>?_)))))))
 .refine AR (Bb (b:=f) (o:=0) (c':=#[(I6 2)]) (v:=(I6 2)) O O O Sn a qP O ?_);intro w4 n;replace d:=n.keep qO d;replace e:=n.keep qO e;replace j:=n.keep qO j;replace E:=n.step E qQ;replace a:=n.blk;refine AB (AC (AA (qV (AL O P3 (a.cell O)) (qV (Aj O O) (qA _ O (AB (AJ (AV results101 (v:=(.bool false)) O ?_))))))));exact ⟨by simp[Dc,h],E,by simpa[Dc] using d,e,by simpa[Dc,h] using a⟩
 .refine AR (qV (AK (vs:=[(I6 t.kind),(.slice sa t.set.length sc),(.slice aa t.args.length ac),(I6 t.mn),(I6 t.mx),(.bool t.neg)]) O Ad AH O (j.cells O)) (qE O (AI func102 kQ kQ O) (Wq r _ t _ y (Chg.step A E λx hx u=>by rcases u with u|u<;>omega)) ?_));rintro _ w9 ⟨rfl,q⟩;replace d:=q.keep d;replace e:=q.keep e;replace a:=q.keep a;replace j:=q.keep j;replace E:=E.ext q;refine Bb (b:=f) (o:=0) (c':=#[(I6 (CH t))]) (v:=(I6 (CH t))) O O O Sn a qP O ?_;intro w5 p;replace d:=p.keep qO d;replace e:=p.keep qO e;replace j:=p.keep qO j;replace E:=p.step E qQ;replace a:=p.blk;refine AB (AC (AA (qV (AL O P3 (a.cell O)) (qV (Aj O O) (qA _ O (AB (AJ (AV results101 (v:=(.bool (decide ((CH t:Int)=0)))) O ?_))))))));exact ⟨by simp[Dc,h],E,by simpa[Dc] using d,e,by simpa[Dc,h] using a⟩
theorem UD (w0:World) (t:Re) (vs:List Value) (ht:A4 w0 t vs) (most:Int) :
  Bi prog 62 #[.agg vs.toArray,.int .i64 most] w0 fun v w=>v=.int .i64 (Cj t most)∧Ae w0 w:=by
 have ad:=ht;obtain ⟨sa,sc,aa,ac,rfl,ae,af,ab⟩:=ht.form;refine qR func62 rfl ntmps62 rfl (fun E=>(AA (BL (v:=(.agg (R6 t sa sc aa ac))) (c:=(R6 t sa sc aa ac)) qD rfl rfl ?_)));intro b1 w1 N1;have F1:=N1.ge E;replace E:=E.ext N1.ext;have B1:=N1.blk;refine BL (v:=(I6 most)) (c:=#[(I6 most)]) qD rfl rfl ?_;intro b2 w2 N2;have F2:=N2.ge E;have O2_b1:=N2.lt B1;replace B1:=N2.keep B1;replace E:=E.ext N2.ext;have B2:=N2.blk;refine qA _ rfl (AB (AA (Bg (c:=#[(I6 0)]) qD Iw rfl ?_)));intro b3 w3 N3;have F3:=N3.ge E;have O3_b1:=N3.lt B1;have O3_b2:=N3.lt B2;replace B1:=N3.keep B1;replace B2:=N3.keep B2;replace E:=E.ext N3.ext;have B3:=N3.blk;refine Bg (c:=#[(I6 0)]) qD XS rfl ?_;intro b4 w4 N4;have F4:=N4.ge E;have O4_b1:=N4.lt B1;have O4_b2:=N4.lt B2;have O4_b3:=N4.lt B3;replace B1:=N4.keep B1;replace B2:=N4.keep B2;replace B3:=N4.keep B3;replace E:=E.ext N4.ext;have B4:=N4.blk;refine Bb (b:=b3) (o:=0) (c':=#[(I6 0)]) (v:=(I6 0)) rfl rfl rfl Ay B3 qP rfl ?_;intro w5 S5;replace B1:=S5.keep qO B1;replace B2:=S5.keep qO B2;replace B4:=S5.keep qO B4;replace E:=S5.step E qQ;replace B3:=S5.blk;refine Bb (b:=b4) (o:=0) (c':=#[(I6 0)]) (v:=(I6 0)) rfl rfl rfl Sn B4 qP rfl ?_;intro w6 S6;replace B1:=S6.keep qO B1;replace B2:=S6.keep qO B2;replace B3:=S6.keep qO B3;replace E:=S6.step E qQ;replace B4:=S6.blk;refine AB (AA (qV (AK (vs:=[(I6 t.kind),(.slice sa t.set.length sc),(.slice aa t.args.length ac),(I6 t.mn),(I6 t.mx),(.bool t.neg)]) rfl Ad AH rfl (B1.cells rfl)) (qV (Dx rfl rfl) ?_)));have hf:∀(s:Int×Int) (w:World) (t:Re) (vs:List Value),b4+1≤w.heap.size→Ae w0 w→(BH w b3 #[.int .i64 s.1] 3∧BH w b2 #[.int .i64 most] 3∧BH w b4 #[.int .i64 s.2] 28)→A4 w0 t vs→Bh prog (.func (.func 101) #[] #[.pointer (some ⟨b3,0,none⟩),.pointer (some ⟨b2,0,none⟩),.pointer (some ⟨b4,0,none⟩)]) #[.agg vs.toArray] w fun v w'=>v=.bool (Dc most s t).1∧Chg (fun x=>x=b3∨x=b4) w w'∧(BH w' b3 #[.int .i64 (Dc most s t).2.1] 3∧BH w' b2 #[.int .i64 most] 3∧BH w' b4 #[.int .i64 (Dc most s t).2.2] 28):=fun s w t vs _ hE hI ht=>Bh.mk (first:=#[]) (cap:=#[.pointer (some ⟨b3,0,none⟩),.pointer (some ⟨b2,0,none⟩),.pointer (some ⟨b4,0,none⟩)]) (args:=#[.agg vs.toArray]) func101 kQ kQ rfl (Vj w0 w t vs ht hE b3 b2 b4 s most qO qO qO hI.1 hI.2.1 hI.2.2);refine qE rfl (AI func69 kQ kQ rfl) (PP (Dc most) (fun s w=>BH w b3 #[.int .i64 s.1] 3∧BH w b2 #[.int .i64 most] 3∧BH w b4 #[.int .i64 s.2] 28) (fun x=>x=b3∨x=b4) (b4+1) _ w0 (fun b hb=>qO) (fun s w w' hI e=>⟨e.keep hI.1,e.keep hI.2.1,e.keep hI.2.2⟩) hf t.size t (Nat.le_refl _) (0,0) _ _ (by have:=B4.lt;omega) E ⟨B3,B2,B4⟩ ad) ?_;rintro _ w9 ⟨rfl,C9,B3',B2',B4'⟩;replace B1:=C9.keep qO B1;replace E:=E.step C9 (by intro x hx hm;omega);refine AB (AA (qV (AL rfl P3 (B4'.cell rfl)) (qA _ rfl (AB (AJ (AV results62 (v:=(.int .i64 ((CU (Dc most) t (0,0)).2.2))) rfl ?_))))));exact ⟨rfl,E⟩
theorem Q9 (d:World) (t:Re) (vs:List Value) (e:A4 d t vs) :
 Bi prog 24 #[.agg vs.toArray] d λv w=>v=.int .i64 (Cj t 40)∧Ae d w:=by
 have a:=e;obtain ⟨sa,sc,aa,ac,rfl,hset,hlen,hargs⟩:=e.form;refine qR func24 O ntmps24 O (λE=>(AA (BL (v:=(.agg (R6 t sa sc aa ac))) (c:=(R6 t sa sc aa ac)) qD O O ?_)));intro b1 w1 f;replace E:=E.ext f.ext;have b:=f.blk;refine qA _ O (AB (AA (qV (AK (vs:=[(I6 t.kind),(.slice sa t.set.length sc),(.slice aa t.args.length ac),(I6 t.mn),(I6 t.mx),(.bool t.neg)]) O Ad AH O (b.cells O)) (qE O (AI func62 kQ kQ O) (UD _ t _ (A4.ext E t a) 40) ?_))));rintro _ w9 ⟨rfl,g⟩;replace b:=g.keep b;replace E:=E.ext g;refine qA _ O (AB (AJ (AV results24 (v:=(.int .i64 (Cj t 40))) O ?_)));exact ⟨O,E⟩
end Go.Proofs
namespace Go.Proofs
open Go Go.Eng
set_option maxRecDepth 100000
theorem Q0 {most:Int} {n e:Int} (t:Re) (h0:0<=n) (h1:n<=1000000):Dc most (n,e) t=(decide ((if most<n+1 then 2 else CH t)=0),(n+1,if most<n+1 then 2 else CH t)):=by
 simp only[Dc];rw[A8 qO]
mutual
theorem Ov {most:Int} (c:most<=1000000):∀(t:Re) (n e:Int),0<=n->n+t.size<=most->CY t->CU (Dc most) t (n,e)=(true,(n+t.size,0))
 | .mk k set args mn mx ng,n,e,h0,h1,hok=>by
  simp only[Re.size] at h1⊢;rw[Ee,Q0 _ h0 qO];have hn:=E9 hok;have a:¬most<n+1:=qO
  simp only[if_neg a,hn,decide_true,if_true,Re.args];have b:=DL hok;simp only[Re.args] at b;rw[MR c args (n+1) 0 qO qO b rfl];simp;omega
theorem MR {most:Int} (b:most<=1000000):∀(a:List Re) (n e:Int),0<=n->n+Re.sizes a<=most->DB a->e=0->CO (Dc most) a (n,e)=(true,(n+Re.sizes a,0))
 | [],n,e,_,_,_,he=>by simp[CO,Re.sizes,he]
 | t::a,n,e,h0,h1,hok,he=>by
  simp only[Re.sizes] at h1⊢;simp only[DB] at hok;rw[C',Ov b t n e h0 qO hok.1];simp only[if_true];rw[MR b a _ _ qO qO hok.2 rfl];simp;omega
end
mutual
theorem Qz {most:Int} (g:most<=1000000):∀(t:Re) (n e:Int),0<=n->n<=most->(CU (Dc most) t (n,e)).1=true->CY t∧n+t.size<=most∧(CU (Dc most) t (n,e)).2=(n+t.size,0)
 | .mk k set args mn mx ng,n,e,h0,h1,h=>by
  rw[Ee,Q0 _ h0 qO] at h⊢;by_cases d:(if most<n+1 then 2 else CH (.mk k set args mn mx ng))=0
  .have f:¬most<n+1:=by intro i;rw[if_pos i] at d;omega
   rw[if_neg f] at d;simp only[if_neg f,d,decide_true,if_true,Re.args] at h⊢;obtain ⟨a,b,c⟩:=Ow g args (n+1) 0 qO qO h O;refine ⟨by simp only[CY];exact ⟨d,a⟩,by simp only[Re.size];omega,by rw[c];simp only[Re.size];simp;omega⟩
  .simp[d] at h
theorem Ow {most:Int} (g:most<=1000000):∀(d:List Re) (n e:Int),0<=n->n<=most->(CO (Dc most) d (n,e)).1=true->e=0->DB d∧n+Re.sizes d<=most∧(CO (Dc most) d (n,e)).2=(n+Re.sizes d,0)
 | [],n,e,_,h1,_,he=>by simp[CO,Re.sizes,DB,he];omega
 | t::d,n,e,h0,h1,h,he=>by
  rw[C'] at h⊢;by_cases f:(CU (Dc most) t (n,e)).1=true
  .rw[if_pos f] at h⊢;obtain ⟨a,b,c⟩:=Qz g t n e h0 h1 f;rw[c] at h⊢;obtain ⟨a',b',c'⟩:=Ow g d _ _ qO b h O;exact ⟨by simp only[DB];exact ⟨a,a'⟩,by simp only[Re.sizes];omega,by rw[c'];simp only[Re.sizes];simp;omega⟩
  .rw[if_neg f] at h;simp at h
end
mutual
theorem MS {most:Int}:∀(t:Re) (s:Int×Int),(CU (Dc most) t s).1=decide ((CU (Dc most) t s).2.2=0)
 | .mk k set args mn mx ng,s=>by
  rw[Ee];by_cases a:(Dc most s (.mk k set args mn mx ng)).1=true
  .rw[if_pos a];exact K3 args _ (by simpa[Dc] using a)
  .rw[if_neg a];have b:(Dc most s (.mk k set args mn mx ng)).1=false:=by simpa using a
   simp only[Dc] at b⊢;exact b.symm
theorem K3 {most:Int}:∀(b:List Re) (s:Int×Int),s.2=0->(CO (Dc most) b s).1=decide ((CO (Dc most) b s).2.2=0)
 | [],s,h=>by simp[CO,h]
 | t::b,s,h=>by
  rw[C'];have:=MS (most:=most) t s;by_cases a:(CU (Dc most) t s).1=true
  .rw[if_pos a];rw[a] at this;exact K3 b _ (by simpa using this.symm)
  .rw[if_neg a];have c:(CU (Dc most) t s).1=false:=by simpa using a
   rw[c] at this;exact this
end
theorem DF {t:Re} {most:Int} (e:0<=most) (d:most<=1000000):Cj t most=0↔CY t∧(t.size:Int)<=most:=by
 unfold Cj;constructor
 .intro h;have c:=MS (most:=most) t (0,0);rw[h] at c;obtain ⟨a,b,_⟩:=Qz d t 0 0 (Int.le_refl 0) e (by simpa using c);exact ⟨a,qO⟩
 .rintro ⟨a,b⟩;rw[Ov d t 0 0 (Int.le_refl 0) qO a]
def B' (t:Re) (text:List Int):Int:=if Cj t 40≠0 then Cj t 40 else if 24<text.length then 2 else if (text.any λr=>!CA r)=true then 1 else 0
theorem OJ (g:World) (t:Re) (vs:List Value) (l:Value) (text:List Int) (j:A4 g t vs) (b:BZ g l text) :
 Bi prog 60 #[.agg vs.toArray,l] g λv w=>v=.int .i64 (B' t text)∧Ae g w:=by
 have h:=j;obtain ⟨sa,sc,aa,ac,rfl,hset,hlen,hargs⟩:=j.form;obtain ⟨ta,tc,rfl⟩:=BR.form b;simp only[List.length_map] at b⊢;refine qR func60 O ntmps60 O (λE=>(AA (BL (v:=(.agg (R6 t sa sc aa ac))) (c:=(R6 t sa sc aa ac)) qD O O ?_)));intro b1 w1 k;replace E:=E.ext k.ext;have e:=k.blk;refine qA _ O (AB (AG (AA (qV (AK (vs:=[(I6 t.kind),(.slice sa t.set.length sc),(.slice aa t.args.length ac),(I6 t.mn),(I6 t.mx),(.bool t.neg)]) O Ad AH O (e.cells O)) (qE O (AI func24 kQ kQ O) (Q9 _ t _ (A4.ext E t h)) ?_)))));rintro _ w9 ⟨rfl,m⟩;replace e:=m.keep e;replace E:=E.ext m;refine qA _ O (AB (AA (qM _ O (qV (Cy O O) (AB (qC O (λf=>?_) (λf=>?_)))))))
 .refine AA (qM _ O (qA _ O (AB (AJ (AP (AV results60 (v:=(.int .i64 (Cj t 40))) O ?_))))));exact ⟨Bc (by unfold B';rw[if_pos f]),E⟩
 .refine AO (AC (AG (AA (qM _ O (qV (Aa underlying46 O) (qV (D0 O O) (AB (qC O (λn=>?_) (λn=>?_)))))))))
  .refine AA (qA _ O (AB (AJ (AP (AV results60 (v:=(.int .i64 2)) O ?_)))));exact ⟨Bc (by unfold B';rw[if_neg f,if_pos qO]),E⟩
  .refine AO (AC (AG (AA (qM _ O (qE O (AI func50 kQ kQ O) (QY _ _ text (b.ext E)) ?_)))));rintro _ w19 ⟨rfl,d⟩;replace e:=d.keep e;replace E:=E.ext d;refine qV (Dg O) (AB (A_ O (λa=>?_) (λa=>?_)))
   .have i:=a;replace a:=by simpa using a
    replace a:=by simpa using a
    refine AA (qA _ O (AB (AJ (AP (AV results60 (v:=(.int .i64 1)) O ?_)))));exact ⟨Bc (by unfold B';rw[if_neg f,if_neg qO,if_pos (by simpa using a)]),E⟩
   .have i:=a;replace a:=by simpa using a
    replace a:=by simpa using a
    refine AO (AC (AA (qA _ O (AB (AJ (AV results60 (v:=(.int .i64 0)) O ?_))))));exact ⟨Bc (by unfold B';rw[if_neg f,if_neg qO,if_neg (by simpa using a)]),E⟩
def L5 (p:Nat×Nat):List Value:=[.int .i64 (p.1:Int),.int .i64 (p.2:Int)]
def NS (w:World) (v:Value) (l:List (Nat×Nat)):Prop:=BR w 2 v (l.map L5)
def Hu (R:Rl) (i p:Nat):List (Nat×Nat):=((List.range p).filter (R i)).map λj=>(i,j)
def D_ (R:Rl) (n:Nat):List (Nat×Nat):=(List.range n).flatMap λi=>Hu R i 25
theorem Jh (R:Rl) (n:Nat):D_ R (n+1)=D_ R n++Hu R n 25:=by simp[D_,List.range_succ]
theorem Lv {R:Rl} {i p q:Nat} (h:∀j,p<=j->j<q->R i j=false) (a:p<=q):Hu R i q=Hu R i p:=by
 unfold Hu;congr 1;obtain ⟨d,rfl⟩:=Nat.exists_eq_add_of_le a;clear a
 induction d with
 | zero=>rfl
 | succ d ih=>
  rw[<-Nat.add_assoc,List.range_succ,List.filter_append,ih λj b h2=>h j b qO];simp[h (p+d) qO qO]
theorem RW {R:Rl} {i p:Nat} (h:R i p=true):Hu R i (p+1)=Hu R i p++[(i,p)]:=by
 unfold Hu;rw[List.range_succ,List.filter_append];simp[h]
theorem Rb (R:Rl) (n:Nat):(D_ R n).length<=n*25:=by
 induction n with
 | zero=>simp[D_]
 | succ n ih=>
  rw[Jh,List.length_append];have:(Hu R n 25).length<=25:=by
   unfold Hu;simp only[List.length_map];exact Nat.le_trans (List.length_filter_le _ _) qP
  omega
theorem VB (R:Rl) (i p:Nat):(Hu R i p).length<=p:=by
 unfold Hu;simp only[List.length_map];exact Nat.le_trans (List.length_filter_le _ _) qP
def FQ (R:Rl) (i p:Nat):List (Nat×Nat):=D_ R i++Hu R i p
theorem V1 (R:Rl) (i p:Nat):(FQ R i p).length<=i*25+p:=by
 have h1:=Rb R i;have h2:=VB R i p;unfold FQ;rw[List.length_append];omega
theorem Uh {R:Rl} {i p k:Nat} (a:∀j,p<=j->j<k->R i j=false) (b:p<=k) (c:R i k=true):FQ R i (k+1)=FQ R i p++[(i,k)]:=by
 unfold FQ;rw[RW c,Lv a b,List.append_assoc]
theorem V2 {R:Rl} {i p:Nat} (d:p<=25) (a:BF 25 (λj=>R i j && decide (p<=j))=0):FQ R i p=FQ R (i+1) 0:=by
 rw[IP] at a;unfold FQ;rw[Jh,<-Lv (R:=R) (i:=i) (p:=p) (q:=25) (λj b c=>by have:=a j c;simpa[b] using this) d];simp[Hu]
theorem VL (C:World) (t:Re) (vs:List Value) (vt:Value) (text:List Int) (ht:A4 C t vs) (y:BZ C vt text) (hT:HI C) :
 Bi prog 57 #[.agg vs.toArray,vt] C λv w=>∃a c,v=.tuple #[.slice a (if B' t text=0 then D_ (Ar text t) (text.length+1) else []).length c,.int .i64 (B' t text)]∧
  NS w (.slice a (if B' t text=0 then D_ (Ar text t) (text.length+1) else []).length c) (if B' t text=0 then D_ (Ar text t) (text.length+1) else [])∧Ae C w:=by
 have M:=ht;obtain ⟨sa,sc,aa,ac,rfl,hset,hlen,hargs⟩:=ht.form;obtain ⟨ta,tc,rfl⟩:=BR.form y;simp only[List.length_map] at y⊢;refine qR func57 O ntmps57 O (λE=>(AA (BL (v:=(.agg (R6 t sa sc aa ac))) (c:=(R6 t sa sc aa ac)) qD O O ?_)));intro b1 w1 N1;replace E:=E.ext N1.ext;have e:=N1.blk;refine qA _ O (qA _ O (AB (AG (AA (qV (AK (vs:=[(I6 t.kind),(.slice sa t.set.length sc),(.slice aa t.args.length ac),(I6 t.mn),(I6 t.mx),(.bool t.neg)]) O Ad AH O (e.cells O)) (qM _ O (qE O (AI func60 kQ kQ O) (OJ _ t _ _ text (A4.ext E t M) (y.ext E)) ?_)))))));rintro _ w9 ⟨rfl,X9⟩;replace e:=X9.keep e;replace E:=E.ext X9;refine qA _ O (AB (AA (qM _ O (qV (Cy O O) (AB (qC O (λh0=>?_) (λh0=>?_)))))))
 .refine AA (qM _ O (qA _ O (qA _ O (AB (AJ (AP (Bf results57 (v:=(.slice none 0 0)) (v':=(.int .i64 (B' t text))) O O ?_)))))));exact ⟨none,0,by rw[if_neg h0];rfl,by rw[if_neg h0];exact BR.nil _ _ _ _,E⟩
 .have S:B' t text=0:=qO
  have F:CY t∧(t.size:Int)<=40∧text.length<=24:=by
   have B:=S;unfold B' at B;by_cases h1:Cj t 40=0
   .rw[if_neg qO] at B;obtain ⟨a,b⟩:=(DF qD qD).1 h1;refine ⟨a,b,?_⟩;split at B<;>omega
   .rw[if_pos h1] at B;omega
  obtain ⟨F,hsz,hn⟩:=F;refine AO (AC (AA (qV (AK (vs:=[(I6 t.kind),(.slice sa t.set.length sc),(.slice aa t.args.length ac),(I6 t.mn),(I6 t.mx),(.bool t.neg)]) O Ad AH O (e.cells O)) (qM _ O (qE O (AI func61 kQ kQ O) (Xe text hn 40 qD t qO F _ _ _ (A4.ext E t M) (y.ext E) (hT.ext E)) ?_)))));rintro _ V ⟨G,rfl,hbm,l,K⟩;replace e:=K.keep e;replace E:=E.ext K;rw[S,if_pos rfl];obtain ⟨base,hbase⟩:∃base,base=V.heap.size:=⟨_,O⟩;have hb1:b1<base:=by have:=e.lt;omega
  have hbm1:G<base:=by have:=l.lt;omega
  have hb0:C.heap.size<=base:=by have:=E.size;omega
  refine qA _ O (AB (AA (qA _ O (AB (AG (AA (qM _ O (qV (Aa underlying46 O) (qV (Ax O O (A8 qO)) (qM _ O (AB (AU (Av (λnn_ σ J=>∃(i:Nat) (s:Option Addr) (q:Nat),(∃jj_,σ=Bj jj_ [(7,(P6 G 0)),(22,(I6 ((text.length:Int)+1))),(23,(I6 (i:Int))),(8,(.slice s ((FQ (Ar text t) i 0).length) q))])∧Chg Ak C J∧BH J b1 (R6 t sa sc aa ac) 25∧BH J G (Af (Ar text t)) TR∧(i<=text.length+1)∧(J.ownsRow base 94 2 (.slice s (FQ (Ar text t) i 0).length q) (FQ (Ar text t) i 0).length ((FQ (Ar text t) i 0).map L5).flatten)∧(base<=J.heap.size)∧nn_=text.length+1 - i) (n:=text.length+1 - 0) ?_ ?_)))))))))))))
  .exact ⟨0,none,0,Am.out ⟨O,O,O,O,trivial⟩,E,e,l,Nat.zero_le _,World.ownsRow_nil _ _ _ _,qO,O⟩
  .clear E e l;rintro _ _ J ⟨i,s,q,⟨j3,rfl⟩,E,e,l,hi,d,f,rfl⟩;refine AA (qV (BE O O) (AB (AG (qC O (λT=>?_) (λT=>?_)))))
   .refine AO (AC (AG (AU (AA (qM _ O (qA _ O (AB (AA (qM _ O (qM _ O (qV (Ag O) (qV (BW (b:=G) (o:=0) (i:=i) (o':=i) O O O underlying132 CP qO qO) (qV (AL (v:=(.int .u32 ((BF 25 (λj=>Ar text t i j && decide (0<=j)):Nat):Int))) O EE ((l.cell (CX _ qO)).trans (by rw[DD (g:=λj=>Ar text t i j && decide (0<=j)) (λj _=>qP)]))) (qA _ O (AB (AU (Av (λnn_ σ I=>∃(p:Nat) (s:Option Addr) (q:Nat),(∃jj_,σ=Bj jj_ [(7,(P6 G 0)),(9,(I6 (i:Int))),(22,(I6 ((text.length:Int)+1))),(23,(I6 (i:Int))),(10,(.int .u32 ((BF 25 (λj=>Ar text t i j && decide (p<=j)):Nat):Int))),(8,(.slice s ((FQ (Ar text t) i p).length) q))])∧Chg Ak C I∧BH I b1 (R6 t sa sc aa ac) 25∧BH I G (Af (Ar text t)) TR∧(p<=25)∧(I.ownsRow base 94 2 (.slice s (FQ (Ar text t) i p).length q) (FQ (Ar text t) i p).length ((FQ (Ar text t) i p).map L5).flatten)∧(base<=I.heap.size)∧nn_=25 - p) (n:=25 - 0) ?_ ?_)))))))))))))))))
    .exact ⟨0,s,q,Am.out ⟨O,O,O,O,O,O,trivial⟩,E,e,l,Nat.zero_le _,d,f,O⟩
    .clear E e l;rintro _ _ I ⟨p,s,q,⟨j5,rfl⟩,E,e,l,hp,d,f,rfl⟩;obtain ⟨x,P⟩:∃x,x=BF 25 (λj=>Ar text t i j && decide (p<=j)):=⟨_,O⟩;have L:x<4294967296:=P▸DM _;have hal:=V1 (Ar text t) i p;rw[<-P];refine AG (AA (qM _ O (qV (Cy O O) (AB (qC O (λZ=>?_) (λZ=>?_))))))
     .obtain ⟨k,m,hl⟩:=OU x qO;obtain ⟨hk25,W,U,N,u⟩:=Og P hl;refine AO (AC (AG (AU (AR (qM _ O (qM _ O (qM _ O (qE O (AI func95 kQ kQ O) (XU _ x k m hl L (hT.ext E)) ?_))))))));rintro _ _ ⟨rfl,rfl⟩;refine qV (BJ (ps:=[(0,(I6 (i:Int))),(1,(I6 (k:Int)))]) (v:=(.agg #[(I6 (i:Int)),(I6 (k:Int))])) O qK) (A3 (ps:=[(0,(.agg #[(I6 (i:Int)),(I6 (k:Int))]))]) (c:=#[(I6 (i:Int)),(I6 (k:Int))]) qD O underlying91 QU V8 qD qD qK ?_);intro b7 w7 H;replace e:=H.keep e;replace l:=H.keep l;replace d:=BG d H.ext;replace f:=Nat.le_trans f H.ext.size;replace E:=E.ext H.ext;have B7:=H.blk;refine CQ (base:=base) (n:=(FQ (Ar text t) i p).length) (m:=1) (xs:=((FQ (Ar text t) i p).map L5).flatten) (news:=[(I6 (i:Int)),(I6 (k:Int))]) (size:=2) (bytes:=16) (v:=(.slice s ((FQ (Ar text t) i p).length) q)) qD underlying91 QU Xq V8 O qD O d O (O) (B7.cells O) qS (by unfold maxLen;omega) qO (f) ?_;intro v9 w29 z A Dv9;replace e:=A.keep (λh=>by have:=(d.lt _ h).1;omega) e;replace l:=A.keep (λh=>by have:=(d.lt _ h).1;omega) l;replace E:=E.step A (λx P h=>absurd (d.lt x h).1 qO);obtain ⟨X,ab,rfl⟩:=Be z;have R:=Uh N U W;have D:(FQ (Ar text t) i p).length+1=(FQ (Ar text t) i (k+1)).length:=by rw[R];simp
      rw[D] at z⊢;refine qA _ O (AB (AQ (AC (AR (qM _ O (qM _ O (qV (DI (c:=((x - 1:Nat):Int)) O O (by rw[PQ qO];omega)) (qV (Gd (v:=.int .u32 ((BF 25 (λj=>Ar text t i j && decide (k+1<=j)):Nat):Int)) O O qP ((HG _ _ L qO).trans (by rw[u]))) (qA _ O (AB (AC ?_)))))))))));exact ⟨25 - (k+1),qO,k+1,X,ab,Am.out ⟨O,O,O,O,O,O,trivial⟩,E,e,l,qO,(by rw[R] at z⊢;simpa[L5] using z),Nat.le_trans f A.size,O⟩
     .have hz:x=0:=qO
      have he:=V2 hp (P▸hz);rw[he] at d⊢;refine Aw (AZ (AZ (Ap (AQ (AC (AR (qV (Ax O O (A8 qO)) (qM _ O (AB (AC ?_))))))))));exact ⟨text.length+1 - (i+1),qO,i+1,s,q,Am.out ⟨O,O,O,O,trivial⟩,E,e,l,qO,d,f,O⟩
   .obtain rfl:i=text.length+1:=qO
    have Q:FQ (Ar text t) (text.length+1) 0=D_ (Ar text t) (text.length+1):=by simp[FQ,Hu]
    rw[Q] at d⊢;refine Aw (AZ (AZ (Ap (AC (AA (qM _ O (qA _ O (qA _ O (AB (AJ (Bf results57 (v:=(.slice s ((D_ (Ar text t) (text.length+1)).length) q)) (v':=(.int .i64 0)) O O ?_)))))))))));exact ⟨s,q,O,EA d (by intro r hr;simp only[List.mem_map] at hr;obtain ⟨p,_,rfl⟩:=hr;rfl) qP qD,E⟩
end Go.Proofs
namespace Go.Eng
open Go
abbrev G2:=Value->World->Prop
def EI (F:G2):Prop:=∀v w w',Ae w w'->F v w->F v w'
inductive Fact where
  | eq (v:Value)
  | re (t:Re)
  | res (ts:List Re)
  | gen (F:G2) (h:EI F)
def Fact.In:Fact->G2
  | .eq u,v,_=>v=u
  | .re t,v,w=>∃vs,v=.agg vs.toArray∧A4 w t vs
  | .res ts,v,w=>∃b,v=.slice (some ⟨b,0,none⟩) ts.length ts.length∧CB w b 0 ts
  | .gen F _,v,w=>F v w
theorem Fact.ext {F:Fact} {v:Value} {w w':World} (h:F.In v w) (e:Ae w w'):F.In v w':=by
 cases F with
 | eq u=>exact h
 | re t=>obtain ⟨vs,a,c⟩:=h;exact ⟨vs,a,A4.ext e t c⟩
 | res ts=>obtain ⟨b,a,c⟩:=h;exact ⟨b,a,CB.ext e ts c⟩
 | gen F hF=>exact hF _ _ _ e h
def Jy (P:Program) (N:Nat) (o:Oper) (R:G2) (σ:CC) (w:World):Prop:=
 ∀dz a,Ok dz N a->DQ a=σ->∀(Q:Exit->Act->World->Prop) (K:Act->World->Prop),(∀v w',Ae w w'->R v w'->K (a.put o.dst v) w')->o.wp P a w K Q
def Holds (ds:List Nat) (Fs:List Fact) (j:Nat) (σ:CC) (w:World):Prop:=∀d F,ds[j]?=some d->Fs[j]?=some F->F.In (σ d) w
def KA (ds:List Nat) (o:Oper) (σ:CC):Prop:=∀j b,o.guard=some (j,b)->∃d,ds[j]?=some d∧σ d=.bool b
def Uj (ds:List Nat) (o:Oper) (σ:CC):Prop:=∃j b d,o.guard=some (j,b)∧ds[j]?=some d∧(σ d=.bool (!b)∨σ d=undef)
section
variable {P : Program} {N : Nat} {o : Oper} {R : G2} {σ : CC} {w : World}
theorem AW {v:Value} {w':World} (e:(execOp (ev σ) o).run P w=.ok (.value v) w') (d:Ae w w') (h:R v w'):Jy P N o R σ w:=by
 intro dz a ha b Q K c;unfold Oper.wp;rw[DK,b,e];simp only[Oper.upon];exact c _ _ d h
theorem A7 {f:FuncId} {args:Array Value} (d:(execOp (ev σ) o).run P w=.ok (.enter f args) w) (b:Bi P f args w λv w'=>R v w'∧Ae w w'):Jy P N o R σ w:=by
 intro dz a ha c Q K g;unfold Oper.wp;rw[DK,c,d];simp only[Oper.upon];refine Calls.mono b ?_;rintro e w' ⟨v,rfl,r,x⟩;exact g _ _ x r
theorem AD {ds:List Nat} (h:o.guard=none):KA ds o σ:=λj b a=>by rw[h] at a;cases a
end
def EG (N i:Nat) (o:Oper) (d:Nat) (ws:List Nat):Bool:=
 (match o.dst with|some d'=>Nat.beq d' d|none=>false) && Nat.blt d N && (o.after.all λe=>!Region.binds .any e || Nat.blt e.on i) && ws.all λj=>o.after.any λe=>Region.binds .any e && Nat.beq e.on j
def Jw (N:Nat):Nat->List Oper->List Nat->List (List Nat)->Bool
  | _,[],[],[]=>true
  | i,o::l,d::ds,ws::wss=>EG N i o d ws && Jw N (i+1) l ds wss
  | _,_,_,_=>false
def Ge:List Nat->Bool
  | []=>true
  | d::ds=>!ds.contains d && Ge ds
theorem Ct:∀{ds:List Nat},Ge ds=true->∀{i j d:Nat},ds[i]?=some d->ds[j]?=some d->i=j
 | [],_,i,_,_,h,_=>by simp at h
 | x::ds,hn,i,j,d,hi,hj=>by
  simp only[Ge,Bool.and_eq_true,Bool.not_eq_true',List.contains_eq_mem,decide_eq_false_iff_not] at hn;cases i with
  | zero=>
   cases j with
   | zero=>rfl
   | succ j=>simp at hi hj;subst hi;exact absurd (List.mem_of_getElem? hj) hn.1
  | succ i=>
   cases j with
   | zero=>simp at hi hj;subst hj;exact absurd (List.mem_of_getElem? hi) hn.1
   | succ j=>simp at hi hj;rw[Ct hn.2 hi hj]
theorem HD {N:Nat}:∀{i:Nat} {l:List Oper} {ds:List Nat} {a:List (List Nat)},Jw N i l ds a=true->∀{j:Nat} {o:Oper},l[j]?=some o->∃d ws,ds[j]?=some d∧a[j]?=some ws∧EG N (i+j) o d ws=true
 | _,[],_,_,_,j,o,h=>by simp at h
 | i,x::l,[],_,hB,_,_,_=>by simp[Jw] at hB
 | i,x::l,d::ds,[],hB,_,_,_=>by simp[Jw] at hB
 | i,x::l,d::ds,ws::a,hB,j,o,h=>by
  simp only[Jw,Bool.and_eq_true] at hB;cases j with
  | zero=>simp at h;subst h;exact ⟨d,ws,O,O,hB.1⟩
  | succ j=>
   simp at h;obtain ⟨g,b,c,e,f⟩:=HD hB.2 h;exact ⟨g,b,by simpa using c,by simpa using e,by rw[show i+(j+1)=i+1+j from qO];exact f⟩
theorem O2 {N:Nat}:∀{i:Nat} {l:List Oper} {ds:List Nat} {a:List (List Nat)},Jw N i l ds a=true->ds.length=l.length
 | _,[],[],[],_=>rfl
 | _,[],[],_::_,hB=>by simp[Jw] at hB
 | _,[],_::_,_,hB=>by simp[Jw] at hB
 | i,x::l,[],_,hB=>by simp[Jw] at hB
 | i,x::l,d::ds,[],hB=>by simp[Jw] at hB
 | i,x::l,d::ds,ws::a,hB=>by
  simp only[Jw,Bool.and_eq_true] at hB;simp[O2 hB.2]
def KB (P:Program) (N:Nat) (ds:List Nat) (Fs:List Fact) (σ:CC) (w:World) (o:Oper) (ws:List Nat) (F:Fact):Prop:=
 ∀σ' w',Ae w w'->(∀t,ds.contains t=false->σ' t=σ t)->(∀j,ws.contains j=true->Holds ds Fs j σ' w')->(KA ds o σ'∧Jy P N o F.In σ' w')∨(Uj ds o σ'∧F.In undef w')
inductive DagSteps (P:Program) (N:Nat) (ds:List Nat) (Fs:List Fact) (σ:CC) (w:World):List Oper->List (List Nat)->List Fact->Prop where
  | nil:DagSteps P N ds Fs σ w [] [] []
  | cons {o:Oper} {ws:List Nat} {F:Fact} {l:List Oper} {wss:List (List Nat)} {Gs:List Fact}:KB P N ds Fs σ w o ws F->DagSteps P N ds Fs σ w l wss Gs->DagSteps P N ds Fs σ w (o::l) (ws::wss) (F::Gs)
theorem DagSteps.get {P:Program} {N:Nat} {ds:List Nat} {e:List Fact} {σ:CC} {w:World}:∀{l:List Oper} {d:List (List Nat)} {f:List Fact},DagSteps P N ds e σ w l d f->∀{j:Nat} {o:Oper},l[j]?=some o->∃ws F,d[j]?=some ws∧f[j]?=some F∧KB P N ds e σ w o ws F
 | _,_,_,.nil,j,o,h=>by simp at h
 | _,_,_,.cons h1 h2,0,o,h=>by simp at h;subst h;exact ⟨_,_,O,O,h1⟩
 | _,_,_,.cons h1 h2,j+1,o,h=>by
  obtain ⟨ws,F,a,b,c⟩:=h2.get (j:=j) (by simpa using h);exact ⟨ws,F,by simpa using a,by simpa using b,c⟩
theorem LJ {P:Program} {N:Nat} {Q:Dn} {σ:CC} {w:World} {id:Nat} {l:List Oper} (ds:List Nat) (ah:List (List Nat)) (Fs:List Fact) {Gs:List Fact} (hG:Fs=Gs) (hm:P.follows .mixedOrders=true) (hB:Jw N 0 l ds ah=true) (hn:Ge ds=true)
 (T:∀D,Ae w D->DagSteps P N ds Fs σ D l ah Gs)
 (k:∀σ' w',Ae w w'->(∀t,ds.contains t=false->σ' t=σ t)->(∀j,Holds ds Fs j σ' w')->Q .normal σ' w'):Wp P N (.region id l.toArray true) Q σ w:=by
 intro dz a y B;refine wp_region_any hm ?_;obtain ⟨D,ab⟩:∃D:World,D={w with drawn:=w.drawn+1}:=⟨_,O⟩;have ac:Ae w D:=by rw[ab];exact GO w
 rw[<-ab];have af:=T D ac;rw[<-hG] at af;have hlen:=O2 hB;have an:∀(m:Nat) (listed:Array Bool) (a:Act) (w':World),listed.size=l.length->listed.toList.count false<=m->Ok dz N a->Ae D w'->(∀t,ds.contains t=false->DQ a t=σ t)->(∀j,listed.getD j false=true->Holds ds Fs j (DQ a) w')->
  wpAny P .any l.toArray (Dk dz N Q) m listed a w':=by
  intro m;have S:∀(listed:Array Bool) (a:Act) (w':World),listed.size=l.length->Ok dz N a->Ae D w'->(∀t,ds.contains t=false->DQ a t=σ t)->(∀j,listed.getD j false=true->Holds ds Fs j (DQ a) w')->listed.toList.count false=0->Dk dz N Q .normal a w':=by
   intro listed a w' hs y V R X hc;refine ⟨y,k _ _ (ac.trans V) R λj=>?_⟩;intro d F hd hF;have g:j<listed.size:=by have:=AM hd;omega
   refine X j ?_ d F hd hF;rw[List.count_eq_zero] at hc;have:listed[j]≠false:=λh=>hc (by rw[<-h];exact Array.getElem_mem_toList g);simp only[Array.getD_eq_getD_getElem?,Array.getElem?_eq_getElem g,Option.getD_some];simpa using this
  induction m with
  | zero=>
   intro listed a w' hs hc y V R X;have U:listed.toList.count false=0:=qO
   refine ⟨?_,S listed a w' hs y V R X U⟩;rw[List.eq_nil_iff_forall_not_mem];intro i hi;obtain ⟨h1,o,J,_⟩:=mem_ready.1 hi;have g:i<listed.size:=by have:=(Array.getElem?_eq_some_iff.1 J).1;simp at this;omega
   simp only[Array.getD_eq_getD_getElem?,Array.getElem?_eq_getElem g,Option.getD_some] at h1;rw[List.count_eq_zero] at U;exact U (by rw[<-h1];exact Array.getElem_mem_toList g)
  | succ m ih=>
   intro listed a w' hs hc y V R X;refine ⟨λhr=>S listed a w' hs y V R X ?_,λi hi=>?_⟩
   .-- none is ready: S are listed
    have ag:∀i,i<listed.size->listed.getD i true=true:=by
     intro i
     induction i using Nat.strongRecOn with
     | _ i ihi=>
      intro hi;cases hv:listed.getD i true with
      | true=>rfl
      | false=>
       exfalso;obtain ⟨o,ho⟩:=AX (l:=l) (i:=i) qO;obtain ⟨d,ws,_,_,h3⟩:=HD hB ho;have:i∈Region.ready .any l.toArray listed:=by
        refine mem_ready.2 ⟨hv,o,by simpa using ho,λe B hb=>?_⟩;simp only[EG,Bool.and_eq_true,Array.all_eq_true_iff_forall_mem,Bool.or_eq_true,Bool.not_eq_true',Nat.zero_add] at h3;have:=(h3.1.2 e B).resolve_left (by simp[hb]);have r:e.on<i:=by simpa[Nat.blt_eq] using this
        have h4:=ihi e.on r qO;have g:e.on<listed.size:=qO
        simpa only[Array.getD_eq_getD_getElem?,Array.getElem?_eq_getElem g,Option.getD_some] using h4
       rw[hr] at this;cases this
    rw[List.count_eq_zero];intro ad;obtain ⟨i,hi,B⟩:=List.getElem_of_mem ad;have g:i<listed.size:=by simpa using hi
    have:=ag i g;simp only[Array.getD_eq_getD_getElem?,Array.getElem?_eq_getElem g,Option.getD_some] at this;simp at B;rw[this] at B;cases B
   .obtain ⟨h1,o,J,h3⟩:=mem_ready.1 hi;have ho:l[i]?=some o:=by simpa using J
    have hil:i<l.length:=AM ho;obtain ⟨d,ws,hd,ak,h4⟩:=HD hB ho;obtain ⟨ws',F,H,hF,Z⟩:=af.get ho;rw[ak] at H;cases H;simp only[EG,Bool.and_eq_true,List.all_eq_true,Array.any_eq_true',Array.all_eq_true_iff_forall_mem,Bool.or_eq_true,Bool.not_eq_true',Nat.zero_add] at h4;obtain ⟨⟨⟨n,L⟩,_⟩,K⟩:=h4;have n:o.dst=some d:=by
     split at n
     .rename_i I h;rw[h,Nat.eq_of_beq_eq_true n]
     .cases n
    have L:d<N:=by simpa[Nat.blt_eq] using L
    have hH:∀j,ws.contains j=true->Holds ds Fs j (DQ a) w':=by
     intro j g;have ao:j∈ws:=by simpa using g
     obtain ⟨e,B,hb⟩:=K j ao;obtain ⟨aj,aq⟩:=hb;have:e.on=j:=Nat.eq_of_beq_eq_true aq;exact X j (this▸h3 e B aj)
    have G:∀v w2,Ae w' w2->F.In v w2->wpAny P .any l.toArray (Dk dz N Q) m (listed.setIfInBounds i true) (a.put o.dst v) w2:=by
     intro v w2 aa hv;have E:DQ (a.put o.dst v)=Eo (DQ a) d v:=by rw[n];exact EF y L v
     refine ih _ _ _ (by simpa using hs) ?_ (y.put _ _) (V.trans aa) ?_ ?_
     .have ap:i<listed.toList.length:=by simp;omega
      have hl:listed.toList[i]=false:=by
       have g:i<listed.size:=qO
       simp only[Array.getD_eq_getD_getElem?,Array.getElem?_eq_getElem g,Option.getD_some] at h1;simpa using h1
      rw[Array.toList_setIfInBounds,List.count_set ap,hl,if_pos (by rfl),if_neg qD];omega
     .intro t ht;rw[E,<-R t ht];simp only[Eo];cases hb:Nat.beq t d
      .rfl
      .exfalso;have:t=d:=Nat.eq_of_beq_eq_true hb;subst this;have:=List.mem_of_getElem? hd;simp[this] at ht
     .intro j g I F' C W;rw[E];by_cases M:j=i
      .subst M;rw[hd] at C;cases C;rw[hF] at W;cases W;simp only[Eo,Nat.beq_refl,cond_true];exact hv
      .have al:Nat.beq I d=false:=by
        cases hb:Nat.beq I d
        .rfl
        .exfalso;have:I=d:=Nat.eq_of_beq_eq_true hb;subst this;exact M (Ct hn C hd)
       simp only[Eo,al,cond_false];rw[getD_set_ne _ (Ne.symm M)] at g;exact Fact.ext (X j g I F' C W) aa
    rcases Z (DQ a) w' V R hH with ⟨hg,am⟩|⟨⟨j,b,z,u,A,s⟩,ae⟩
    .have hw:Region.wanted o (yielded l.toArray a.tmps)=true:=by
      cases u:o.guard with
      | none=>simp[Region.wanted,u]
      | some p=>
       obtain ⟨j,b⟩:=p;obtain ⟨z,A,s⟩:=hg j b u;obtain ⟨oj,x⟩:=AX (l:=l) (i:=j) (by have:=AM A;omega);obtain ⟨ai,_,q,_,h5⟩:=HD hB x;rw[A] at q;cases q;simp only[EG,Bool.and_eq_true] at h5;obtain ⟨⟨⟨c,f⟩,_⟩,_⟩:=h5;have c:oj.dst=some z:=by
        split at c
        .rename_i I h;rw[h,Nat.eq_of_beq_eq_true c]
        .cases c
       have f:z<N:=by simpa[Nat.blt_eq] using f
       have h6:a.tmps[z]?=some (Value.bool b):=by
        have J:a.tmps.getD z undef=.bool b:=s;have r:z<a.tmps.size:=by rw[y.size];exact f
        rw[Array.getElem?_eq_getElem r];simpa[r] using J
       simp[Region.wanted,u,yielded,x,c,h6]
     unfold wpOp;simp only[J,hw,if_true];exact Or.inl (am _ a y O _ _ G)
    .have hw:Region.wanted o (yielded l.toArray a.tmps)=false:=by
      obtain ⟨oj,x⟩:=AX (l:=l) (i:=j) (by have:=AM A;omega);obtain ⟨ai,_,q,_,h5⟩:=HD hB x;rw[A] at q;cases q;simp only[EG,Bool.and_eq_true] at h5;obtain ⟨⟨⟨c,f⟩,_⟩,_⟩:=h5;have c:oj.dst=some z:=by
       split at c
       .rename_i I h;rw[h,Nat.eq_of_beq_eq_true c]
       .cases c
      have f:z<N:=by simpa[Nat.blt_eq] using f
      have r:z<a.tmps.size:=by rw[y.size];exact f
      have h6:a.tmps[z]?=some (DQ a z):=by
       rw[Array.getElem?_eq_getElem r];simp[DQ,r]
      rcases s with s|s
      .rw[s] at h6;cases b<;>simp[Region.wanted,u,yielded,x,c,h6]
      .rw[s] at h6;simp[Region.wanted,u,yielded,x,c,h6,undef]
     unfold wpOp;simp only[J,hw,Bool.false_eq_true,if_false];exact G undef w' (Ae.refl _) ae
 refine an _ _ _ _ qP qP y (Ae.refl _) (λt _=>by rw[B]) ?_;intro j g;exfalso;simp only[Array.getD_eq_getD_getElem?,Array.getElem?_replicate] at g;split at g<;>simp at g
theorem G9 {x a:Value} (h:x=a):[x]=[a]:=by rw[h]
theorem G8 {x y a b:Value} (h:x=a) (c:y=b):[x,y]=[a,b]:=by rw[h,c]
theorem YG {x y z a b c:Value} (h:x=a) (e:y=b) (d:z=c):[x,y,z]=[a,b,c]:=by rw[h,e,d]
section
variable {P : Program} {N : Nat} {σ : CC} {w : World} {dst : Option Tmp} {ty : TypeId} {pos : String} {af : Array Edge} {g : Option (Nat × Bool)} {t : TypeId} {x y : Operand}
theorem CV {e:TypeId} {len n:Nat} {z:Value} {parts:List (Nat×Operand)} {ps:List (Nat×Value)} {c:Array Value} (k:(parts.map λ(i,x)=>(i,ev σ x))=ps) (j:P.underlying t=some (.slice e)) (h:Df P e n) (f:Ex P e z) (d:¬(len*n > 2 ^ 24)) (b:len*n≠0)
 (a:Instr.fill (λi=>some (i*n,n)) ((Array.range (len*n)).map (z.cells[· % z.cells.size]!)) ps=some c) :
 (execOp (ev σ) ⟨dst,.buildSlice t len parts.toArray,ty,pos,af,g⟩).run P w=.ok (.value (.slice (some ⟨w.heap.size,0,none⟩) len len)) {w with heap:=w.heap.push (.cells c e (0,0))}:=by
 subst k;simp only[execOp,Instr.buildSlice,List.map_toArray,Sem.run_bind,run_underlying j,Result.andThen_ok,h.run,d,b,if_false,Sem.run_pure,f.run,a];simp[newRow]
end
theorem LN {P:Program} {N:Nat} {R:G2} {σ:CC} {w:World} {dst:Option Tmp} {z:Operand} {args:List Operand} {tys:Array TypeId} {ty:TypeId} {pos:String} {af:Array Edge} {g:Option (Nat×Bool)} {fv:Value} {vs:List Value}
 (e:ev σ z=fv) (d:args.map (ev σ)=vs) (a:Bh P fv vs.toArray w λv w'=>R v w'∧Ae w w'):Jy P N ⟨dst,.call ⟨.value z,args.toArray,tys⟩,ty,pos,af,g⟩ R σ w:=by
 obtain ⟨f,fn,first,cap,rfl,b,hn,hb,c⟩:=a;exact A7 (Qd e b hn hb d O) c
end Go.Eng
namespace Go.Eng
open Go
inductive FactT (M:Nat->Prop) where
  | eq (v:Value)
  | gen (F:G2) (h:∀v w w',Chg M w w'->F v w->F v w')
  | own (F:G2) (h:∀v w w',Ae w w'->F v w->F v w')
  | till (F:G2) (h:∀v w w',Ae w w'->F v w->F v w')
def FactT.In {M:Nat->Prop}:FactT M->G2
  | .eq u,v,_=>v=u
  | .gen F _,v,w=>F v w
  | .own F _,v,w=>F v w
  | .till F _,v,w=>F v w
def FactT.At {M:Nat->Prop} (done:Bool):FactT M->G2
  | .till F _,v,w=>done=false->F v w
  | F,v,w=>F.In v w
theorem FactT.at_in {M:Nat->Prop} {F:FactT M} {v:Value} {w:World} (h:F.In v w) (a:Bool):F.At a v w:=by
 cases F<;>first|exact h|exact λ_=>h
theorem FactT.at_false {M:Nat->Prop} {F:FactT M} {v:Value} {w:World} (h:F.At false v w):F.In v w:=by
 cases F<;>first|exact h|exact h O
def FactT.isOwn {M:Nat->Prop}:FactT M->Bool
  | .own _ _=>true
  | _=>false
theorem FactT.chg {M:Nat->Prop} {F:FactT M} {v:Value} {w w':World} {a:Bool} (h:F.At a v w) (e:Chg M w w') (b:F.isOwn=false):F.At true v w':=by
 cases F with
 | eq u=>exact h
 | gen F hF=>exact hF _ _ _ e h
 | own F hF=>cases b
 | till F hF=>intro hd;cases hd
theorem FactT.ext {M:Nat->Prop} {F:FactT M} {v:Value} {w w':World} {a:Bool} (h:F.At a v w) (e:Ae w w'):F.At a v w':=by
 cases F with
 | eq u=>exact h
 | gen F hF=>exact hF _ _ _ (Ae.chg e) h
 | own F hF=>exact hF _ _ _ e h
 | till F hF=>exact λhd=>hF _ _ _ e (h hd)
def TT {M:Nat->Prop} (c:Nat):Nat->List (FactT M)->Bool
  | _,[]=>true
  | i,F::l=>(!F.isOwn || Nat.beq i c) && TT c (i+1) l
theorem OM {M:Nat->Prop} {c:Nat}:∀{i:Nat} {l:List (FactT M)},TT c i l=true->∀{j:Nat} {F:FactT M},l[j]?=some F->i+j≠c->F.isOwn=false
 | _,[],_,_,_,h,_=>by simp at h
 | i,G::l,hB,0,F,h,hne=>by
  simp at h;subst h;simp only[TT,Bool.and_eq_true,Bool.or_eq_true,Bool.not_eq_true'] at hB;rcases hB.1 with h|h
  .exact h
  .exact absurd (Nat.eq_of_beq_eq_true h) hne
 | i,G::l,hB,j+1,F,h,hne=>by
  simp only[TT,Bool.and_eq_true] at hB;simp at h;exact OM hB.2 h qO
def En (M:Nat->Prop) (P:Program) (N:Nat) (o:Oper) (R:G2) (σ:CC) (w:World):Prop:=
 ∀dz a,Ok dz N a->DQ a=σ->∀(Q:Exit->Act->World->Prop) (K:Act->World->Prop),(∀v w',Chg M w w'->R v w'->K (a.put o.dst v) w')->o.wp P a w K Q
def NU {M:Nat->Prop} (ds:List Nat) (Fs:List (FactT M)) (done:Bool) (j:Nat) (σ:CC) (w:World):Prop:=∀d F,ds[j]?=some d->Fs[j]?=some F->F.At done (σ d) w
section
variable {M : Nat → Prop} {P : Program} {N : Nat} {o : Oper} {R : G2} {σ : CC} {w : World}
theorem Ba {v:Value} {w':World} (e:(execOp (ev σ) o).run P w=.ok (.value v) w') (d:Chg M w w') (h:R v w'):En M P N o R σ w:=by
 intro dz a ha b Q K c;unfold Oper.wp;rw[DK,b,e];simp only[Oper.upon];exact c _ _ d h
theorem HK {f:FuncId} {args:Array Value} (d:(execOp (ev σ) o).run P w=.ok (.enter f args) w) (b:Bi P f args w λv w'=>R v w'∧Chg M w w'):En M P N o R σ w:=by
 intro dz a ha c Q K g;unfold Oper.wp;rw[DK,c,d];simp only[Oper.upon];refine Calls.mono b ?_;rintro e w' ⟨v,rfl,r,x⟩;exact g _ _ x r
end
def Ig (N i:Nat) (o:Oper) (d:Nat) (ws:List Nat):Bool:=
 (match o.dst with|some d'=>Nat.beq d' d && Nat.blt d N|none=>Nat.ble N d) && (o.after.all λe=>!Region.binds .any e || Nat.blt e.on i) && (ws.all λj=>o.after.any λe=>Region.binds .any e && Nat.beq e.on j) && o.guard.isNone
def Gy (N:Nat):Nat->List Oper->List Nat->List (List Nat)->Bool
  | _,[],[],[]=>true
  | i,o::l,d::ds,ws::wss=>Ig N i o d ws && Gy N (i+1) l ds wss
  | _,_,_,_=>false
theorem He {N:Nat}:∀{i:Nat} {l:List Oper} {ds:List Nat} {a:List (List Nat)},Gy N i l ds a=true->∀{j:Nat} {o:Oper},l[j]?=some o->∃d ws,ds[j]?=some d∧a[j]?=some ws∧Ig N (i+j) o d ws=true
 | _,[],_,_,_,j,o,h=>by simp at h
 | i,x::l,[],_,hB,_,_,_=>by simp[Gy] at hB
 | i,x::l,d::ds,[],hB,_,_,_=>by simp[Gy] at hB
 | i,x::l,d::ds,ws::a,hB,j,o,h=>by
  simp only[Gy,Bool.and_eq_true] at hB;cases j with
  | zero=>simp at h;subst h;exact ⟨d,ws,O,O,hB.1⟩
  | succ j=>
   simp at h;obtain ⟨g,b,c,e,f⟩:=He hB.2 h;exact ⟨g,b,by simpa using c,by simpa using e,by rw[show i+(j+1)=i+1+j from qO];exact f⟩
theorem MV {N:Nat}:∀{i:Nat} {l:List Oper} {ds:List Nat} {a:List (List Nat)},Gy N i l ds a=true->ds.length=l.length
 | _,[],[],[],_=>rfl
 | _,[],[],_::_,hB=>by simp[Gy] at hB
 | _,[],_::_,_,hB=>by simp[Gy] at hB
 | i,x::l,[],_,hB=>by simp[Gy] at hB
 | i,x::l,d::ds,[],hB=>by simp[Gy] at hB
 | i,x::l,d::ds,ws::a,hB=>by
  simp only[Gy,Bool.and_eq_true] at hB;simp[MV hB.2]
def Jq (c:Nat) (wss:List (List Nat)) (i:Nat):Bool:=Nat.beq i c || (wss.getD c []).contains i
def valOf (o:Oper) (v:Value):Value:=match o.dst with
  | some _=>v
  | none=>undef
def PN {M:Nat->Prop} (P:Program) (N:Nat) (ds:List Nat) (Fs:List (FactT M)) (σ:CC) (w:World) (own calm:Bool) (o:Oper) (ws:List Nat) (F:FactT M):Prop:=
 ∀σ' w',Chg (bif calm then Ak else M) w w'->(∀t,ds.contains t=false->σ' t=σ t)->(∀j,ws.contains j=true->NU ds Fs (!calm) j σ' w')->En (bif own then M else Ak) P N o (λv w=>F.In (Go.Eng.valOf o v) w) σ' w'
inductive DagStepsT {M:Nat->Prop} (P:Program) (N:Nat) (ds:List Nat) (Fs:List (FactT M)) (σ:CC) (w:World) (c:Nat) (all:List (List Nat)):Nat->List Oper->List (List Nat)->List (FactT M)->Prop where
  | nil {i:Nat}:DagStepsT P N ds Fs σ w c all i [] [] []
  | cons {i:Nat} {o:Oper} {ws:List Nat} {F:FactT M} {l:List Oper} {wss:List (List Nat)} {Gs:List (FactT M)}:PN P N ds Fs σ w (Nat.beq i c) (Jq c all i) o ws F->DagStepsT P N ds Fs σ w c all (i+1) l wss Gs->DagStepsT P N ds Fs σ w c all i (o::l) (ws::wss) (F::Gs)
theorem DagStepsT.get {M:Nat->Prop} {P:Program} {N:Nat} {ds:List Nat} {f:List (FactT M)} {σ:CC} {w:World} {c:Nat} {e:List (List Nat)}:∀{i:Nat} {l:List Oper} {d:List (List Nat)} {g:List (FactT M)},DagStepsT P N ds f σ w c e i l d g->∀{j:Nat} {o:Oper},l[j]?=some o->∃ws F,d[j]?=some ws∧g[j]?=some F∧PN P N ds f σ w (Nat.beq (i+j) c) (Jq c e (i+j)) o ws F
 | _,_,_,_,.nil,j,o,h=>by simp at h
 | _,_,_,_,.cons h1 h2,0,o,h=>by simp at h;subst h;exact ⟨_,_,O,O,h1⟩
 | i,_,_,_,.cons h1 h2,j+1,o,h=>by
  obtain ⟨ws,F,a,b,c⟩:=h2.get (j:=j) (by simpa using h);exact ⟨ws,F,by simpa using a,by simpa using b,by rw[show i+(j+1)=i+1+j from qO];exact c⟩
def IY (n m:Nat):Array Bool:=(List.replicate n true++List.replicate (m - n) false).toArray
theorem K8 {l:List Bool} {n i:Nat} (hi:i<n) (hl:n<=l.length) (c:l[i]?=some false):((l.set i true).take n).count false+1=(l.take n).count false:=by
 have a:i<(l.take n).length:=by simp;omega
 rw[List.take_set,List.count_set a];have:(l.take n)[i]=false:=by
  have b:(l.take n)[i]?=some false:=by rw[List.getElem?_take_of_lt hi];exact c
  rw[List.getElem?_eq_getElem a] at b;simpa using b
 rw[this,if_pos (by rfl),if_neg qD];have:0<(l.take n).count false:=by
  rw[List.count_pos_iff];rw[<-this];exact List.getElem_mem a
 omega
theorem T8 {l:List Bool} {n:Nat} (hl:n<=l.length) (b:(l.take n).count false=0) (c:∀t,n<=t->t<l.length->l[t]?=some false):l=List.replicate n true++List.replicate (l.length - n) false:=by
 apply List.ext_getElem?;intro i;rcases Nat.lt_or_ge i n with h|h
 .rw[List.getElem?_append_left (by simpa using h),List.getElem?_replicate,if_pos h];have hi:i<l.length:=qO
  rw[List.getElem?_eq_getElem hi];cases hv:l[i] with
  | true=>rfl
  | false=>
   exfalso;rw[List.count_eq_zero] at b;apply b;have:(l.take n)[i]?=some false:=by rw[List.getElem?_take_of_lt h,List.getElem?_eq_getElem hi,hv]
   exact List.mem_of_getElem? this
 .rw[List.getElem?_append_right (by simpa using h),List.getElem?_replicate,List.length_replicate];rcases Nat.lt_or_ge i l.length with a|a
  .rw[if_pos qO,c i h a]
  .rw[if_neg qO,List.getElem?_eq_none a]
theorem NP {P:Program} {N:Nat} {Q:Dn} {σ:CC} {w:World} {id:Nat} {l:List Oper} (M:Nat->Prop) (n c:Nat) (ds:List Nat) (p:List (List Nat)) (Fs:List (FactT M)) {Gs:List (FactT M)} (hG:Fs=Gs) (hO:TT c 0 Gs=true) (hm:P.follows .mixedOrders=true) (hB:Gy N 0 (l.take n) ds p=true) (hn:Ge ds=true)
 (hT:(decide (n<l.length) && Region.sinkB .any l.toArray n && Region.chainB .any l.toArray n && Region.seqB .any l.toArray (l.length - n) n (IY n l.length))=true)
 (ad:∀x,Ae w x->DagStepsT P N ds Fs σ x c p 0 (l.take n) p Gs)
 (k:∀σ' x w',Ae w x->Chg M x w'->(∀t,ds.contains t=false->σ' t=σ t)->(∀j,NU ds Fs true j σ' w')->DT P N l.toArray (Q .normal) Q (l.drop n) σ' w'):Wp P N (.region id l.toArray true) Q σ w:=by
 intro dz a V L;have eQ:Dk dz N (Li (Q .normal) Q)=Dk dz N Q:=by funext e a w;cases e<;>rfl
 refine wp_region_any hm ?_;obtain ⟨x,am⟩:∃x:World,x={w with drawn:=w.drawn+1}:=⟨_,O⟩;have an:Ae w x:=by rw[am];exact GO w
 rw[<-am];have aq:=ad x an;rw[<-hG] at aq;simp only[Bool.and_eq_true,decide_eq_true_eq] at hT;obtain ⟨⟨⟨ay,hs⟩,hc⟩,ak⟩:=hT;have K:∀{q:Bool} {u u':World},Chg (bif q then M else Ak) u u'->Chg M u u':=fun {q u u'} h=>by cases q with|true=>exact h|false=>exact Ae.chg h
 have hlen:ds.length=n:=by rw[MV hB];simp;omega
 have a5:∀(m:Nat) (listed:Array Bool) (a:Act) (w':World),(listed.toList.take n).count false=m->HeadInv .any l.toArray n listed->Ok dz N a->Chg (bif listed.getD c false then M else Ak) x w'->(∀t,ds.contains t=false->DQ a t=σ t)->(∀j,listed.getD j false=true->NU ds Fs (listed.getD c false) j (DQ a) w')->
  wpAny P .any l.toArray (Dk dz N Q) (m+(l.length - n)) listed a w':=by
  intro m
  induction m with
  | zero=>
   intro listed a w' a2 r V hx hu hh;have ai:listed.size=l.length:=by simpa using r.size
   have hl:listed=IY n l.length:=by
    apply Array.ext';rw[IY];have:=T8 (l:=listed.toList) (n:=n) (by simp;omega) a2 (by
     intro t B U;have af:t<listed.size:=by simpa using U
     have:=r.tail t B (by simpa[ai] using af);simp only[Array.getD_eq_getD_getElem?,Array.getElem?_eq_getElem af,Option.getD_some] at this;simp[af,this])
    rw[this];simp[ai]
   rw[Nat.zero_add];have B:=k (DQ a) x w' an (K hx) hu (λj d F hd J=>by
    have C:j<n:=by have:=AM hd;omega
    have U:=hh j (by
     rw[hl,IY];simp[Array.getD_eq_getD_getElem?,List.getElem?_append_left,C]) d F hd J
    cases F with
    | till F J=>intro hd;cases hd
    | eq u=>exact U
    | gen F J=>exact U
    | own F J=>exact U) dz a V O
   rw[eQ] at B;have:=wpAny_of_seq (P:=P) (md:=.any) (ops:=l.toArray) (Q':=Dk dz N Q) (l.drop n) n listed a w' (λj=>by simp[List.getElem?_drop]) (by rw[List.length_drop,hl];exact ak) B
   rwa [List.length_drop] at this
  | succ m ih=>
   intro listed a w' hcm r V hx hu hh;have ai:listed.size=l.length:=by simpa using r.size
   obtain ⟨i0,W,ag⟩:∃i,i<n∧listed.getD i true=false:=by
    have:0<(listed.toList.take n).count false:=qO
    rw[List.count_pos_iff] at this;obtain ⟨i,hi,L⟩:=List.getElem_of_mem this;have E:i<n:=by simp at hi;omega
    refine ⟨i,E,?_⟩;have y:i<listed.size:=by simp at hi;omega
    simp only[Array.getD_eq_getD_getElem?,Array.getElem?_eq_getElem y,Option.getD_some];simpa using L
   rw[show m+1+(l.length - n)=(m+(l.length - n))+1 by omega];refine ⟨λhr=>?_,λi hi=>?_⟩
   .exfalso;have au:∀i,i<n->listed.getD i true=true:=by
     intro i
     induction i using Nat.strongRecOn with
     | _ i ihi=>
      intro hi;cases hv:listed.getD i true with
      | true=>rfl
      | false=>
       exfalso;obtain ⟨o,ho⟩:=AX (l:=l) (i:=i) qO;have T:(l.take n)[i]?=some o:=by rw[List.getElem?_take_of_lt hi];exact ho
       obtain ⟨d,ws,_,_,h3⟩:=He hB T;have:i∈Region.ready .any l.toArray listed:=by
        refine mem_ready.2 ⟨hv,o,by simpa using ho,λe L hb=>?_⟩;simp only[Ig,Bool.and_eq_true,Array.all_eq_true_iff_forall_mem,Bool.or_eq_true,Bool.not_eq_true',Nat.zero_add] at h3;have:=(h3.1.1.2 e L).resolve_left (by simp[hb]);have av:e.on<i:=by simpa[Nat.blt_eq] using this
        have h4:=ihi e.on av qO;have C:e.on<listed.size:=qO
        simpa only[Array.getD_eq_getD_getElem?,Array.getElem?_eq_getElem C,Option.getD_some] using h4
       rw[hr] at this;cases this
    rw[au i0 W] at ag;cases ag
   .have E:i<n:=by
     rcases Nat.lt_or_ge i n with h|h
     .exact h
     .exact absurd hi (tail_waits hs hc (by simpa using ay) r _ i0 O W ag i h)
    obtain ⟨B,o,U,h3⟩:=mem_ready.1 hi;have y:i<listed.size:=qO
    have ho:l[i]?=some o:=by simpa using U
    have T:(l.take n)[i]?=some o:=by rw[List.getElem?_take_of_lt E];exact ho
    obtain ⟨d,ws,hd,aw,h4⟩:=He hB T;obtain ⟨ws',F,Z,J,G⟩:=aq.get T;rw[aw] at Z;cases Z;simp only[Nat.zero_add] at G;simp only[Ig,Bool.and_eq_true,List.all_eq_true,Array.any_eq_true',Array.all_eq_true_iff_forall_mem,Bool.or_eq_true,Bool.not_eq_true',Nat.zero_add] at h4;obtain ⟨⟨⟨f,_⟩,ab⟩,ae⟩:=h4;have ae:o.guard=none:=by simpa using ae
    -- what is sure to come ahead of the change
    have D:Jq c p i=true->listed.getD c false=false:=by
     intro b;simp only[Jq,Bool.or_eq_true] at b;rcases b with b|b
     .have:i=c:=Nat.eq_of_beq_eq_true b;subst this;exact getD_both B
     .cases hlc:listed.getD c false with
      | false=>rfl
      | true=>
       exfalso;have az:c<n:=by
        rcases Nat.lt_or_ge c n with h|h
        .exact h
        .rcases Nat.lt_or_ge c l.length with h'|h'
         .have:=getD_both (r.tail c h (by simpa using h'));rw[this] at hlc;cases hlc
         .simp[Array.getElem?_eq_none (show listed.size<=c by omega)] at hlc
       obtain ⟨oc,al⟩:=AX (l:=l) (i:=c) qO;have aj:(l.take n)[c]?=some oc:=by rw[List.getElem?_take_of_lt az];exact al
       obtain ⟨dc,a8,_,ap,X⟩:=He hB aj;have a0:p.getD c []=a8:=by simp[ap]
       rw[a0] at b;simp only[Ig,Bool.and_eq_true,List.all_eq_true,Array.any_eq_true',Nat.zero_add] at X;obtain ⟨e,L,aa,ah⟩:=X.1.2 i (by simpa using b);have ba:e.on=i:=Nat.eq_of_beq_eq_true ah;have:=r.closed c oc (by simpa using al) hlc e L aa;rw[ba,getD_both B] at this;cases this
    have hH:∀j,ws.contains j=true->NU ds Fs (!Jq c p i) j (DQ a) w':=by
     intro j C I F' A z;have a6:j∈ws:=by simpa using C
     obtain ⟨e,L,hb⟩:=ab j a6;obtain ⟨aa,ah⟩:=hb;have:e.on=j:=Nat.eq_of_beq_eq_true ah;have X:=hh j (this▸h3 e L aa) I F' A z;cases b:Jq c p i with
     | true=>rw[D b] at X;exact X
     | false=>
      cases F' with
      | till F J=>intro hd;cases hd
      | eq u=>exact X
      | gen F J=>exact X
      | own F J=>exact X
    have S:(∀R,Chg (bif Nat.beq i c then M else Ak) w' R->Chg (bif (listed.setIfInBounds i true).getD c false then M else Ak) x R):=by
     intro R g;by_cases s:i=c
     .subst s;rw[Nat.beq_refl] at g;have hg:(listed.setIfInBounds i true).getD i false=true:=by simp[Array.getD_eq_getD_getElem?,y]
      rw[hg];exact (K hx).trans g
     .have hb:Nat.beq i c=false:=by cases hb:Nat.beq i c;rfl;exact absurd (Nat.eq_of_beq_eq_true hb) s
      rw[hb] at g;rw[getD_set_ne _ s];exact hx.ext g
    have ar:∀v R,Chg (bif Nat.beq i c then M else Ak) w' R->F.In (Go.Eng.valOf o v) R->wpAny P .any l.toArray (Dk dz N Q) (m+(l.length - n)) (listed.setIfInBounds i true) (a.put o.dst v) R:=by
     intro v R g hv;have H:(∀t,t≠d->DQ (a.put o.dst v) t=DQ a t)∧DQ (a.put o.dst v) d=Go.Eng.valOf o v:=by
      cases hod:o.dst with
      | none=>
       rw[hod] at f;have ax:N<=d:=Nat.le_of_ble_eq_true f;refine ⟨λt _=>rfl,?_⟩;simp only[Go.Eng.valOf,hod];show a.tmps.getD d undef=undef;have:a.tmps.size<=d:=by rw[V.size];exact ax
       simp[Array.getElem?_eq_none this]
      | some I=>
       rw[hod] at f;simp only[Bool.and_eq_true] at f;have a9:I=d:=Nat.eq_of_beq_eq_true f.1;have a3:d<N:=by simpa[Nat.blt_eq] using f.2
       subst a9;rw[EF V a3 v];refine ⟨λt ht=>?_,?_⟩
       .have:Nat.beq t I=false:=by cases hb:Nat.beq t I;rfl;exact absurd (Nat.eq_of_beq_eq_true hb) ht
        simp[Eo,this]
       .simp[Eo,Go.Eng.valOf,hod]
     refine ih _ _ _ ?_ (r.set hi E) (V.put _ _) (S R g) ?_ ?_
     .have hl:listed.toList[i]?=some false:=by
       simp only[Array.getD_eq_getD_getElem?,Array.getElem?_eq_getElem y,Option.getD_some] at B;simp[y,B]
      have:=K8 (l:=listed.toList) E (by simp;omega) hl;rw[Array.toList_setIfInBounds];omega
     .intro t ht;rw[H.1 t (λh=>by
       subst h;have:=List.mem_of_getElem? hd;simp[this] at ht),hu t ht]
     .intro j C I F' A z;by_cases ac:j=i
      .subst ac;rw[hd] at A;cases A;rw[J] at z;cases z;rw[H.2];exact FactT.at_in hv _
      .have a1:I≠d:=by
        intro h;subst h;exact ac (Ct hn A hd)
       rw[H.1 I a1];rw[getD_set_ne _ (Ne.symm ac)] at C;have h6:=hh j C I F' A z;by_cases s:i=c
       .have hg:(listed.setIfInBounds i true).getD c false=true:=by rw[<-s];simp[Array.getD_eq_getD_getElem?,y]
        rw[hg];exact FactT.chg h6 (K g) (OM hO (by rw[<-hG];exact z) qO)
       .have hb:Nat.beq i c=false:=by
         cases hb:Nat.beq i c
         .rfl
         .exact absurd (Nat.eq_of_beq_eq_true hb) s
        rw[hb] at g;rw[getD_set_ne _ s];exact FactT.ext h6 g
    have a7:Chg (bif Jq c p i then Ak else M) x w':=by
     cases b:Jq c p i with
     | true=>rw[D b] at hx;exact hx
     | false=>exact K hx
    have a4:=G (DQ a) w' a7 hu hH;have hw:Region.wanted o (yielded l.toArray a.tmps)=true:=by simp[Region.wanted,ae]
    unfold wpOp;simp only[U,hw,if_true];exact Or.inl (a4 _ a V O _ _ ar)
 have ao:HeadInv .any l.toArray n (Array.replicate l.toArray.size false):=
  ⟨qP,λj oj _ hl=>(by rw[getD_replicate_false] at hl;cases hl),λt _ ht=>getD_in (by simpa using ht) (getD_replicate_false _ _)⟩
 have B:=a5 n (Array.replicate l.toArray.size false) a x (by simp;omega) ao V (by rw[getD_replicate_false];exact Chg.refl _ _) (λt _=>by rw[L]) (λj C=>by rw[getD_replicate_false] at C;cases C);have e3:n+(l.length - n)=l.toArray.size:=by simp;omega
 rw[e3] at B;exact B
end Go.Eng
namespace Go.Proofs
open Go Go.Eng
set_option maxRecDepth 100000
section
variable {P : Program} {σ : CC} {w : World} {dst : Option Tmp} {ty : TypeId} {pos : String} {af : Array Edge} {g : Option (Nat × Bool)} {t t' e : TypeId} {x y : Operand}
theorem Ke {a:Option Addr} {n c n' c':Nat} (b:P.underlying t=some (.slice e)) (hx:ev σ x=.slice a n c) (hy:ev σ y=.slice none n' c') :
 (execOp (ev σ) ⟨dst,.binOp .eql t x y t',ty,pos,af,g⟩).run P w=.ok (.value (.bool a.isNone)) w:=by
 have h:(Op.equalIn 10000 t (.slice a n c) (.slice none n' c')).run P w=.ok a.isNone w:=by
  rw[Op.equalIn];cases a<;>simp[run_underlying b]
 cases a<;>simp_all[execOp,eqGuard,binOp,Op.equal,Op.maxDepth]
theorem Lx {s:Operand} {a a':Option Addr} {n c c' size:Nat} (h:P.underlying t=some (.slice e)) (f:Df P e size) (b:ev σ s=.slice a n c) (hn:n<=c) (d:ev σ x=.slice a' 0 c') :
 (execOp (ev σ) ⟨dst,.call ⟨.builtin .append,#[s,x],#[t,t]⟩,ty,pos,af,g⟩).run P w=.ok (.value (.slice a n c)) w:=by
 have hz:size*0=0:=Nat.mul_zero _;cases a<;>cases a'<;>simp[execOp,resolve,invoke,builtin,Builtin.append_,b,d,run_underlying h,f.run,Builtin.lenOf,Builtin.firstCells,loadCells,loadCellsFrom,storeCells,hn]
theorem G4 {N:Nat} {Q:Dn} {K:CC->World->Prop} {ops:Array Oper} {rest:List Oper} {d size:Nat} (a:d<N) (g:P.underlying t=some (.slice e)) (f:Df P e size)
 (k:∀b w',New w w' b #[] e->DT P N ops K Q rest (Eo σ d (.slice (some ⟨b,0,none⟩) 0 0)) w'):DT P N ops K Q (⟨some d,.buildSlice t 0 #[],ty,pos,af,none⟩::rest) σ w:=by
 refine Bn (v:=.slice (some ⟨w.heap.size,0,none⟩) 0 0) (w':={w with heap:=w.heap.push (.cells #[] e (0,0))}) O O a ?_ (k _ _ (New.mk' w #[] e));have c:Array.range 0=#[]:=rfl;simp[execOp,Instr.buildSlice,run_underlying g,f.run,Instr.fill,newRow,c]
end
theorem HU {w:World} {b e base size:Nat} (h:BH w b #[] e) (hb:base<=b):w.ownsRow base e size (.slice (some ⟨b,0,none⟩) 0 0) 0 []:=
 ⟨qP,.inr ⟨b,0,#[],O,hb,h,Nat.le_refl _,by simp[maxLen],qP,qP⟩⟩
theorem W0 (m:World) (v:Value) (x:Int) (l:List Int) (j:BZ m v l) :
 Bi prog 124 #[v,.int .i64 x] m λr w=>r=.int .i64 (IA (λy=>decide (x=y)) l)∧Ae m w:=by
 obtain ⟨a,c,rfl⟩:=BR.form j;have hlen:l.length<=9223372036854775807:=by simpa using BR.le j
 simp only[List.length_map] at j⊢;refine qR func124 O ntmps124 O (λE=>(AA (qA _ O (AB (AG (AA (qM _ O (qV (Aa underlying46 O) (qM _ O (AB (AU (Av (λnn_ σ s=>∃(k:Nat),(∃jj_,σ=Bj jj_ [(0,(.slice a l.length c)),(1,(I6 x)),(7,(I6 (l.length:Int))),(8,(I6 (k:Int)))])∧Chg Ak m s∧(k<=l.length)∧(∀(i:Nat) (y:Int),i<k->l[i]?=some y->decide (x=y)=false)∧nn_=l.length - k) (n:=l.length - 0) ?_ ?_))))))))))))
 .exact ⟨0,Am.out ⟨O,O,O,O,trivial⟩,E,Nat.zero_le _,(λi y h=>absurd h (Nat.not_lt_zero _)),O⟩
 .clear E;rintro _ _ s ⟨k,⟨j1,rfl⟩,E,hk,e,rfl⟩;refine AA (qV (BE O O) (AB (AG (qC O (λp=>?_) (λp=>?_)))))
  .obtain ⟨y,g⟩:=AX (l:=l) (i:=k) qO;obtain ⟨b,o,rfl,d⟩:=DE j qO;refine AO (AC (AG (AU (AA (qM _ O (qA _ O (AB (AA (qM _ O (qM _ O (qM _ O (qV (AN (b:=b) (o:=o) (len:=l.length) (cap:=c) (i:=k) (o':=o+k) O O O underlying46 Ay qO qO) (qV (AL O Al (E.cell (λf=>f) (d k y g))) (qV (Aj O O) (AB (qC O (λq=>?_) (λq=>?_)))))))))))))))))
   .refine AA (qM _ O (qA _ O (AB (AJ (Ac (AP (AP (Ac (AP (AV results124 (v:=(.int .i64 ((k:Nat):Int))) O ?_))))))))));exact ⟨Bc (HZ g (by simpa using q) e).symm,E⟩
   .refine AO (AQ (AC (AR (qV (Ax O O (A8 qO)) (qM _ O (AB (AC ?_)))))));exact ⟨l.length - (k+1),qO,k+1,Am.out ⟨O,O,O,O,trivial⟩,E,qO,FP g (by simpa using q) e,O⟩
  .have hkk:k=l.length:=qO
   refine Aw (AZ (AZ (Ap (AC (AA (qA _ O (AB (AJ (AV results124 (v:=(.int .i64 (-1))) O ?_)))))))));exact ⟨Bc (HA λi y g=>e i y (by have:=AM g;omega) g).symm,E⟩
theorem W_ (a:World) (v:Value) (x:Int) (l:List Int) (c:BZ a v l) :
 Bi prog 104 #[v,.int .i64 x] a λr w=>r=.bool (l.contains x)∧Ae a w:=by
 refine qR func104 O ntmps104 O (λE=>(AA (qA _ O (AB (AA (qM v O (qM _ O (qE O (AI func124 kQ kQ O) (W0 _ v x l c) ?_))))))));rintro _ w9 ⟨rfl,b⟩;replace E:=E.ext b;refine qV (FX O O) (qA _ O (AB (AJ (AV results104 (v:=(.bool (decide ((0:Int)<=IA (λy=>decide (x=y)) l)))) O ?_))));exact ⟨BO ((Ha _ l).trans (by rw[List.contains_eq_any_beq];congr 1)),E⟩
end Go.Proofs
namespace Go.Proofs
open Go Go.Eng
set_option maxRecDepth 100000
theorem IJ {P:Program} {w:World} {e:TypeId} {cs:Array Value} {o:Nat} {v:Value} (a:DW P e=true) (b:cs[o]?=some v):(part e cs o).run P w=.ok v w:=by
 simp[part,DW.run a,b]
theorem NE {α:Type} {l m:List α} (hl:l.length=m.length) (h:∀i,i<l.length->l[i]?=m[i]?):l=m:=by
 apply List.ext_getElem?;intro i;rcases Nat.lt_or_ge i l.length with a|a
 .exact h i a
 .rw[List.getElem?_eq_none a,List.getElem?_eq_none qO]
section
variable {P : Program} {σ : CC} {w : World} {dst : Option Tmp} {ty : TypeId} {pos : String} {af : Array Edge} {g : Option (Nat × Bool)} {t t' e : TypeId} {x y : Operand}
theorem NJ {m n : Field} (d : Nat) (a b c f : Int) (B : P.stoodInHeld t = false) (A : P.underlying t = some (.struct #[m, n])) (g : m.name ≠ "_") (h : n.name ≠ "_") (j : m.offset = 0) (i : n.offset = 1) (o : m.type = e) (r : n.type = e) (z : P.underlying e = some (.int .i64)) (v : DW P e = true) :
 (Op.equalIn (d+2) t (.agg #[.int .i64 a,.int .i64 b]) (.agg #[.int .i64 c,.int .i64 f])).run P w=.ok (decide (a=c) && decide (b=f)) w:=by
 have p:∀x y:Int,(Op.equalIn (d+1) e (.int .i64 x) (.int .i64 y)).run P w=.ok (x == y) w:=λx y=>run_equalIn_int w d e .i64 .i64 x y z;have q:∀x y:Int,(part e #[.int .i64 x,.int .i64 y] 0).run P w=.ok (.int .i64 x) w:=λx y=>IJ v O;have s:∀x y:Int,(part e #[.int .i64 x,.int .i64 y] 1).run P w=.ok (.int .i64 y) w:=λx y=>IJ v O;have u:(program).run P w=.ok P w:=rfl;rw[Op.equalIn];simp only[Sem.run_bind,run_underlying A,Result.andThen_ok,u,B];by_cases k:a=c
 .by_cases l:b=f
  .simp[g,h,j,i,o,r,q,s,p,k,l]
  .simp[g,h,j,i,o,r,q,s,p,k,l]
 .simp[g,h,j,i,o,r,q,s,p,k]
theorem RZ {d i : Field} {a b c f : Int} (u : P.stoodInHeld t = false) (s : P.underlying t = some (.struct #[d, i])) (j : d.name ≠ "_") (k : i.name ≠ "_") (m : d.offset = 0) (l : i.offset = 1) (o : d.type = e) (v : i.type = e) (p : P.underlying e = some (.int .i64)) (n : DW P e = true) (z : P.eqGuardType P.depth t = false)
 (q:ev σ x=.agg #[.int .i64 a,.int .i64 b]) (r:ev σ y=.agg #[.int .i64 c,.int .i64 f]) :
 (execOp (ev σ) ⟨dst,.binOp .neq t x y t',ty,pos,af,g⟩).run P w=.ok (.value (.bool (!(decide (a=c) && decide (b=f))))) w:=by
 have h:=NJ (P:=P) (w:=w) 9998 a b c f u s j k m l o v p n;simp only[execOp,q,r,Sem.run_bind,run_eqGuard_agg w .neq t x y _ _ z,Result.andThen_ok,run_neq_struct,h];rfl
end
theorem Vk:prog.eqGuardType prog.depth 80=false:=by kernel_rfl
theorem RH:prog.stoodInHeld 80=false:=by kernel_rfl
theorem Se (j:World) (F D:Value) (c d:List (Int×Int)) (r:BD j F c) (x:BD j D d) :
 Bi prog 73 #[F,D] j λv w=>v=.bool (decide (c=d))∧Ae j w:=by
 obtain ⟨L,C,rfl⟩:=BR.form r;obtain ⟨I,G,rfl⟩:=BR.form x;have hb1:c.length<=9223372036854775807:=by simpa using BR.le r
 simp only[List.length_map] at r x⊢;refine qR func73 O ntmps73 O (λE=>(AA (qA _ O (AB (AG (AA (qM _ O (qV (Aa underlying22 O) (qM _ O (qV (Aa underlying22 O) (qV (Cy O O) (AB (qC O (λz=>?_) (λz=>?_))))))))))))))
 .refine AA (qA _ O (AB (AJ (AP (AV results73 (v:=(.bool false)) O ?_)))));exact ⟨BO (by symm;rw[decide_eq_false_iff_not];intro h;rw[h] at z;exact z O),E⟩
 .refine AO (AC (AG (AA (qM _ O (qV (Aa underlying22 O) (qM _ O (AB (AU (Av (λnn_ σ A=>∃(k:Nat),(∃jj_,σ=Bj jj_ [(0,(.slice L c.length C)),(1,(.slice I d.length G)),(12,(I6 (c.length:Int))),(13,(I6 (k:Int)))])∧Chg Ak j A∧(k<=c.length)∧(∀(i:Nat),i<k->c[i]?=d[i]?)∧nn_=c.length - k) (n:=c.length - 0) ?_ ?_)))))))))
  .exact ⟨0,Am.out ⟨O,O,O,O,trivial⟩,E,Nat.zero_le _,(λi h=>absurd h (Nat.not_lt_zero _)),O⟩
  .clear E;rintro _ _ A ⟨k,⟨j2,rfl⟩,E,hk,e,rfl⟩;refine AA (qV (BE O O) (AB (AG (qC O (λs=>?_) (λs=>?_)))))
   .obtain ⟨p,t⟩:=AX (l:=c) (i:=k) qO;obtain ⟨q,m⟩:=AX (l:=d) (i:=k) qO;obtain ⟨M,H,rfl,y⟩:=Bd r qO;obtain ⟨J,B,rfl,u⟩:=Bd x qO;refine AO (AC (AG (AU (AA (qM _ O (qA _ O (AB (El 8 mixed qK ?_))))))));intro w4 K _;replace E:=E.ext K;refine qT (Ai O) (qT (Ai O) (qT (AN (b:=M) (o:=H) (len:=c.length) (cap:=C) (i:=k) (o':=H+k*2) O O O underlying22 BU qO qO) (qT (AK O Ew BU O ((y k p t).ext E)) (qT (Ai O) (qT (Ai O) (qT (AN (b:=J) (o:=B) (len:=d.length) (cap:=G) (i:=k) (o':=B+k*2) O O O underlying22 BU qO qO) (qT (AK O Ew BU O ((u k q m).ext E)) (C8 (Bn (v:=(.bool (!(decide (p.1=q.1) && decide (p.2=q.2))))) O O qD (RZ RH underlying80 qD qD O O O O underlying3 Al Vk O O) (AB (A_ O (λa=>?_) (λa=>?_))))))))))))
    .have g:=a;replace a:=by simpa using a
     refine AA (qA _ O (AB (AJ (Ac (AP (AP (Ac (AP (AV results73 (v:=(.bool false)) O ?_)))))))));exact ⟨BO (by symm;rw[decide_eq_false_iff_not];intro h;subst h;rw[t] at m;cases m;simp at a),E⟩
    .have g:=a;replace a:=by simpa using a
     have f:p=q:=by obtain ⟨p1,p2⟩:=p;obtain ⟨q1,q2⟩:=q;simp at a;simp;exact a
     refine AO (AQ (AC (AR (qV (Ax O O (A8 qO)) (qM _ O (AB (AC ?_)))))));exact ⟨c.length - (k+1),qO,k+1,Am.out ⟨O,O,O,O,trivial⟩,E,qO,(λi hi=>by rcases Nat.lt_or_ge i k with h|h;exact e i h;obtain rfl:i=k:=qO;rw[t,m,f]),O⟩
   .have hkk:k=c.length:=qO
    refine Aw (AZ (AZ (Ap (AC (AA (qA _ O (AB (AJ (AV results73 (v:=(.bool true)) O ?_)))))))));exact ⟨BO (by symm;rw[decide_eq_true_eq];exact NE qO (λi hi=>e i qO)),E⟩
theorem KO {w:World} {b o:Nat} {l:List (Int×Int)} (h:∀i s,l[i]?=some s->BA w b (o+i*2) [.int .i64 s.1,.int .i64 s.2]):BA w b o (l.map BK).flatten:=by
 induction l generalizing o with
 | nil=>intro i v a;simp at a
 | cons s l ih=>
  have c:=h 0 s O;have d:=ih (o:=o+2) (λi u f=>by have:=h (i+1) u (by simpa using f);rwa [show o+(i+1)*2=o+2+i*2 from qO] at this);intro i v a;simp only[List.map_cons,List.flatten_cons] at a;have e:(BK s).length=2:=rfl;rcases Nat.lt_or_ge i 2 with hi|hi
  .rw[List.getElem?_append_left qO] at a;have:=c i v a;simpa using this
  .rw[List.getElem?_append_right qO] at a;have:=d (i - 2) v (by rw[e] at a;exact a)
   rwa [show o+2+(i - 2)=o+i from qO] at this
theorem E7 (l:List (Int×Int)):(l.map BK).flatten.length=l.length*2:=by
 induction l with
 | nil=>rfl
 | cons s l ih=>simp only[List.map_cons,List.flatten_cons,List.length_append,ih,List.length_cons];have:(BK s).length=2:=rfl;omega
theorem Lo (l:List (Int×Int)):∀u∈(l.map BK).flatten,u.oneCell'=true:=by
 intro u a;simp only[List.mem_flatten,List.mem_map] at a;obtain ⟨r,⟨s,_,rfl⟩,a⟩:=a;simp[BK] at a;rcases a with rfl|rfl<;>rfl
def BN (x y:Int):Int:=if x<y then -1 else if y<x then 1 else 0
theorem WC (a:World) (x:Int):Bi prog 156 #[.int .i64 x] a λv w=>v=.bool false∧Ae a w:=by
 refine qR func156 O ntmps156 O (λE=>(AA (qA _ O (AB (AA (qM _ O (qM _ O (qV (Cy O O) (qA _ O (AB (AJ (AV results156 (v:=(.bool (decide ((x:Int)≠x)))) O ?_))))))))))));exact ⟨BO qP,E⟩
theorem EU (d:World) (x y:Int):Bi prog 139 #[.int .i64 x,.int .i64 y] d λv w=>v=.int .i64 (BN x y)∧Ae d w:=by
 refine qR func139 O ntmps139 O (λE=>(AA (qA _ O (AB (AA (qM _ O (qE O (AI func156 kQ kQ O) (WC _ x) ?_)))))));rintro _ w9 ⟨rfl,e⟩;refine qA _ O (AB (AA (qM _ O (qE O (AI func156 kQ kQ O) (WC _ y) ?_))));rintro _ w19 ⟨rfl,b⟩;replace E:=(E.ext e).ext b;refine qA _ O (AB (AG (AA (qM _ O (AB (Ah O (AO (AC (AG (AA (qM _ O (AB (Ah O (AO (AC (AG (AA (qM _ O (qM _ O (qV (BE O O) (AB (qC O (λa=>?_) (λa=>?_)))))))))))))))))))))))
 .refine AA (qA _ O (AB (AJ (AP (AV results139 (v:=(.int .i64 (-1))) O ?_)))));exact ⟨Bc (by unfold BN;rw[if_pos a]),E⟩
 .refine AO (AC (AG (AA (qM _ O (qM _ O (qV (D0 O O) (AB (qC O (λc=>?_) (λc=>?_)))))))))
  .refine AA (qA _ O (AB (AJ (AP (AV results139 (v:=(.int .i64 1)) O ?_)))));exact ⟨Bc (by unfold BN;rw[if_neg a,if_pos c]),E⟩
  .refine AO (AC (AA (qA _ O (AB (AJ (AV results139 (v:=(.int .i64 0)) O ?_))))));exact ⟨Bc (by unfold BN;rw[if_neg a,if_neg c]),E⟩
section
variable {P : Program} {σ : CC} {w : World} {dst : Option Tmp} {ty : TypeId} {pos : String} {af : Array Edge} {g : Option (Nat × Bool)} {tys : Array TypeId} {x y : Operand} {k : IntKind} {a b c : Int}
theorem TJ (f:ev σ x=.int k a) (d:ev σ y=.int k b) (e:max a b=c) :
 (execOp (ev σ) ⟨dst,.call ⟨.builtin .max,#[x,y],tys⟩,ty,pos,af,g⟩).run P w=.ok (.value (.int k c)) w:=by
 subst e;have:(if a<b then b else a)=max a b:=by split<;>omega
 simp[execOp,resolve,invoke,builtin,Builtin.max_,Builtin.max2,f,d,this]
end
end Go.Proofs
namespace Go.Proofs
open Go Go.Eng
set_option maxRecDepth 100000
theorem NK {P:Program} {w:World} {t e:TypeId} (d:Nat) (a b c f:Int) (n:P.underlying t=some (.array 2 e)) (m:P.underlying e=some (.int .i64)) (o:Df P e 1) (l:DW P e=true) :
 (Op.equalIn (d+2) t (.agg #[.int .i64 a,.int .i64 b]) (.agg #[.int .i64 c,.int .i64 f])).run P w=.ok (decide (a=c) && decide (b=f)) w:=by
 have j:∀x y:Int,(Op.equalIn (d+1) e (.int .i64 x) (.int .i64 y)).run P w=.ok (x == y) w:=λx y=>run_equalIn_int w d e .i64 .i64 x y m;have i:∀x y:Int,(part e #[.int .i64 x,.int .i64 y] 0).run P w=.ok (.int .i64 x) w:=λx y=>IJ l O;have k:∀x y:Int,(part e #[.int .i64 x,.int .i64 y] 1).run P w=.ok (.int .i64 y) w:=λx y=>IJ l O;rw[Op.equalIn];simp only[Sem.run_bind,run_underlying n,Result.andThen_ok,o.run];by_cases g:a=c
 .by_cases h:b=f
  .simp[Std.Legacy.Range.forIn_eq_forIn_range',List.range',i,k,j,g,h]
  .simp[Std.Legacy.Range.forIn_eq_forIn_range',List.range',i,k,j,g,h]
 .simp[Std.Legacy.Range.forIn_eq_forIn_range',List.range',i,j,g]
theorem Ra {P:Program} {σ:CC} {w:World} {dst:Option Tmp} {ty:TypeId} {pos:String} {af:Array Edge} {g:Option (Nat×Bool)} {t t' e:TypeId} {x y:Operand} {a b c f:Int}
 (l:P.underlying t=some (.array 2 e)) (i:P.underlying e=some (.int .i64)) (n:Df P e 1) (d:DW P e=true) (m:P.eqGuardType P.depth t=false)
 (j:ev σ x=.agg #[.int .i64 a,.int .i64 b]) (k:ev σ y=.agg #[.int .i64 c,.int .i64 f]) :
 (execOp (ev σ) ⟨dst,.binOp .eql t x y t',ty,pos,af,g⟩).run P w=.ok (.value (.bool (decide (a=c) && decide (b=f)))) w:=by
 have h:=NK (P:=P) (w:=w) 9998 a b c f l i n d;simp only[execOp,j,k,Sem.run_bind,run_eqGuard_agg w .eql t x y _ _ m,Result.andThen_ok,run_eql_struct,h];rfl
theorem OK {w:World} {a:Option Addr} {n c:Nat} {l:List (Nat×Nat)} (h:NS w (.slice a n c) l) (hn:0<n) :
 ∃b o,a=some ⟨b,o,none⟩∧∀(i:Nat) (p:Nat×Nat),l[i]?=some p->BA w b (o+i*2) [.int .i64 ((p.1:Nat):Int),.int .i64 ((p.2:Nat):Int)]:=by
 obtain ⟨b,o,d,h⟩:=BR.at h hn;exact ⟨b,o,d,λi s e=>h i (L5 s) (by simp[e])⟩
theorem Vl:prog.eqGuardType prog.depth 94=false:=by kernel_rfl
end Go.Proofs
