/- Contracts and plain lemmas, part 1. -/
import Derived.Test.YtgmbafkdgmkfoaaGreatDoorZr0
import Derived.Tactics
import Derived.Deep.Quiet
import Derived.Laws.AppendOwn
import Derived.KernelRfl
import Derived.Laws.Entries
import Derived.Laws.Build
import Derived.Below
import Derived.RowKit3
import Derived.StillTail
import Derived.Sort.Grow
import Derived.Deep.Draws
import Derived.Shelf.SlSortCmp.WholeK
import Derived.Shelf.Strconv.Itoa3
import Derived.Shelf.SlMaps.Clone
import Derived.Shelf.Sort.Plain
import Derived.Shelf.Slices.CompactI
import Derived.Test.YtgmbafkdgmkfoaaGreatDoorProg
import Derived.Test.YtgmbafkdgmkfoaaGreatDoorChecked
import Derived.Lib.ItoaNum
import Derived.Laws.StructEq
import Derived.Lib.AppendIntMem
import Derived.Laws.Externs
import Derived.MapKept
import Derived.Laws.BytesArg
import Derived.Defers
import Derived.Recover
import Derived.OpenShut
import Derived.ChangeSlices
import Derived.Test.YtgmbafkdgmkfoaaGreatDoorRows
import Derived.SizedLaws
open Go.Proofs.Tryz
set_option maxHeartbeats 16000000
namespace Go
theorem qO {p : Prop} (h : p := by omega) : p := h
theorem O.{u} {α : Sort u} {a : α} : a = a := rfl
theorem qD {p : Prop} (h : p := by decide) : p := h
theorem qP {p : Prop} (h : p := by simp) : p := h
theorem qK {p : Prop} (h : p := by kernel_rfl) : p := h
end Go
theorem Go.Proofs.kQ {p:Prop} (h:p:=by kernel_rfl):p:=h
theorem Go.Proofs.kH {p:Prop} (h:¬p:=by intro h;first|omega|(dsimp only at h;omega)):¬p:=h
namespace Go.Eng
open Go
abbrev CZ:=Nat->Value
abbrev EF:=Exit->CZ->World->Prop
def Of (σ:CZ) (d:Nat) (v:Value):CZ:=λt=>bif Nat.beq t d then v else σ t
def ev (σ:CZ):Operand->Value
  | .tmp t=>σ t
  | .const v=>v
  | .global g=>.pointer (some ⟨g,0,none⟩)
  | .func f=>.func (.func f) #[] #[]
def Dr (a:Act):CZ:=λt=>a.tmps.getD t undef
def lk (t:Nat):List (Nat×Value)->Value->Value
  | [],d=>d
  | (k,v)::r,d=>bif Nat.beq t k then v else lk t r d
def BW (σ:CZ) (l:List (Nat×Value)):CZ:=λt=>lk t l (σ t)
theorem Td (σ:CZ) (l:List (Nat×Value)) (h:∀p∈l,σ p.1=p.2):BW σ l=σ:=by
 funext t;unfold BW
 induction l with
 | nil=>rfl
 | cons p r ih=>
  obtain ⟨k,v⟩:=p;simp only[lk];cases hb:Nat.beq t k
  .simp only[cond_false];exact ih λp a=>h p (eP _ a)
  .have:t=k:=dY hb;subst this;simp only[cond_true];exact (h (t,v) eJ).symm
def Ak (σ:CZ):List (Nat×Value)->Prop
  | []=>True
  | (k,v)::r=>σ k=v∧Ak σ r
theorem Ak.all {σ:CZ}:∀{l:List (Nat×Value)},Ak σ l->∀p∈l,σ p.1=p.2
 | [],_,_,hp=>by cases hp
 | (k,v)::r,h,p,hp=>by
  cases hp with
  | head=>exact h.1
  | tail _ hp=>exact Ak.all h.2 p hp
theorem Ak.out {σ:CZ} {l:List (Nat×Value)} (h:Ak σ l):∃j,σ=BW j l:=⟨σ,(Td σ l h.all).symm⟩
theorem Dk (a:Act):a.eval=ev (Dr a):=by
 funext x;cases x<;>rfl
structure Ok (dz:List Deferred) (N:Nat) (a:Act):Prop where
  size:a.tmps.size=N
  defers:a.defers=dz
theorem FN {c:List Deferred} {N:Nat} {a:Act} (h:Ok c N a) {d:Nat} (hd:d<N) (v:Value):Dr (a.put (some d) v)=Of (Dr a) d v:=by
 funext t;have hs:=h.size;simp only[Dr,Of,Act.put];cases hb:Nat.beq t d
 .have b:d≠t:=λe=>by subst e;rw[kE] at hb;cases hb
  simp[Array.getElem?_setIfInBounds_ne b]
 .have:t=d:=dY hb;subst this;simp[hs,hd]
theorem Ok.put {b:List Deferred} {N:Nat} {a:Act} (h:Ok b N a) (d:Option Nat) (v:Value):Ok b N (a.put d v):=by
 cases d with
 | none=>exact h
 | some d=>exact ⟨by simp[Act.put,h.size],h.defers⟩
def EJ (dz:List Deferred) (N:Nat) (Q:EF):Exit->Act->World->Prop:=λe a w=>Ok dz N a∧Q e (Dr a) w
def Wp (P:Program) (N:Nat) (c:Code) (Q:EF) (σ:CZ) (w:World):Prop:=
  ∀dz a,Ok dz N a->Dr a=σ->c.wp P (EJ dz N Q) a w
def NE (K:CZ->World->Prop) (Q:EF):EF
  | .normal=>K
  | e=>Q e
def Yy (id:Nat) (Q:EF):EF
  | .exit j=>if j=id then Q .normal else Q (.exit j)
  | e=>Q e
section
variable {P : Program} {N : Nat} {Q : EF} {σ : CZ} {w : World} {K : CZ → World → Prop}
theorem AC (h:K σ w):NE K Q .normal σ w:=h
theorem AZ {j:Nat} (h:Q (.exit j) σ w):NE K Q (.exit j) σ w:=h
theorem AK (h:Q .ret σ w):NE K Q .ret σ w:=h
theorem AV {a:Nat} (h:Q .normal σ w):Yy a Q .normal σ w:=h
theorem Ac {a:Nat} (h:Q .ret σ w):Yy a Q .ret σ w:=h
theorem Ao {a:Nat} (h:Q .normal σ w):Yy a Q (.exit a) σ w:=by unfold Yy;simp only[if_true];exact h
theorem UH {b j:Nat} (a:j≠b) (h:Q (.exit j) σ w):Yy b Q (.exit j) σ w:=by unfold Yy;simp only[a,if_false];exact h
theorem TX {c:Code} {Q':EF} (h:Wp P N c Q σ w) (f:∀e σ w,Q e σ w->Q' e σ w):Wp P N c Q' σ w:=
 λg a b d=>Code.wp_mono (λ_ _ _ ⟨o,q⟩=>⟨o,f _ _ _ q⟩) (h g a b d)
theorem AH {x y:Code} (h:Wp P N x (NE (Wp P N y Q) Q) σ w):Wp P N (.seq x y) Q σ w:=by
 intro b a c d;refine wp_seq (Code.wp_mono ?_ (h b a c d));rintro e a w ⟨o,q⟩;cases e<;>first|exact q b a o rfl|exact ⟨o,q⟩
theorem AM (h:Q .normal σ w):Wp P N .skip Q σ w:=λ_ _ a b=>wp_skip ⟨a,b▸h⟩
theorem Av {a:Nat} (h:Q (.exit a) σ w):Wp P N (.exit a) Q σ w:=λ_ _ b c=>wp_exit ⟨b,c▸h⟩
theorem AO (h:Q .ret σ w):Wp P N .ret Q σ w:=λ_ _ a b=>wp_ret ⟨a,b▸h⟩
theorem AW {b:Nat} {c:Code} (h:Wp P N c (Yy b Q) σ w):Wp P N (.block b c) Q σ w:=by
 intro i a f g;refine wp_block (Code.wp_mono ?_ (h i a f g));rintro e a w ⟨o,q⟩;cases e with
 | exit j=>
  unfold Exit.inBlock;unfold Yy at q;by_cases d:j=b
  .simp only[d,if_true] at q⊢;exact ⟨o,q⟩
  .simp only[d,if_false] at q⊢;exact ⟨o,q⟩
 | normal=>exact ⟨o,q⟩
 | goto l=>exact ⟨o,q⟩
 | ret=>exact ⟨o,q⟩
 | panic c=>exact ⟨o,q⟩
 | outgrown=>exact ⟨o,q⟩
theorem A4 {c:Operand} {x y:Code} {b:Bool} (i:ev σ c=.bool b) (g:b=true->Wp P N x Q σ w) (j:b=false->Wp P N y Q σ w) :
 Wp P N (.cond c x y) Q σ w:=by
 intro e a f d;refine wp_cond_split (t:=b) (by rw[Dk,d];exact i) (λh=>g h e a f d) (λh=>j h e a f d)
theorem Aq {c:Operand} {x y:Code} (a:ev σ c=.bool true) (h:Wp P N x Q σ w):Wp P N (.cond c x y) Q σ w:=
 A4 a (λ_=>h) (λh=>by cases h)
theorem Ae {c:Operand} {x y:Code} (a:ev σ c=.bool false) (h:Wp P N y Q σ w):Wp P N (.cond c x y) Q σ w:=
 A4 a (λh=>by cases h) (λ_=>h)
theorem Ax {c:Code} (I:Nat->CZ->World->Prop) {n:Nat} (A:I n σ w)
 (h:∀n σ w,I n σ w->Wp P N c (NE (λσ' w'=>∃m,m<n∧I m σ' w') Q) σ w):Wp P N (.loop c) Q σ w:=by
 intro u a t B b k cs;have r:∀n a w,Ok u N a->I n (Dr a) w->
  ∃e a' w',EJ u N Q e a' w'∧Arrives P (lone (b.at a (.code c::.inLoop c::k)) cs w) b k cs e a' w':=by
  intro n
  induction n using Nat.strongRecOn with
  | _ n ih=>
   intro a w t v;obtain ⟨e,j,i,⟨o,f⟩,d⟩:=h n _ w v u a t O b (.inLoop c::k) cs;cases e with
   | normal=>
    obtain ⟨m,s,p⟩:=f;obtain ⟨C,z,y,q,g⟩:=ih m s j i o p;exact ⟨C,z,y,q,.of_steps (Steps.trans d (.one step_inLoop)) g⟩
   | exit id=>exact ⟨_,j,i,⟨o,f⟩,.pass (x:=.inLoop c) O (λ_ _=>.inl qP) d⟩
   | goto l=>exact ⟨_,j,i,⟨o,f⟩,.pass (x:=.inLoop c) O (λ_ _=>.inl qP) d⟩
   | ret=>exact ⟨_,j,i,⟨o,f⟩,.pass (x:=.inLoop c) O (λ_ _=>.inl qP) d⟩
   | panic ch=>exact ⟨_,j,i,⟨o,f⟩,.pass (x:=.inLoop c) O (λ_ _=>.inl qP) d⟩
   | outgrown=>exact ⟨_,j,i,⟨o,f⟩,.pass (x:=.inLoop c) O (λ_ _=>.inl qP) d⟩
 obtain ⟨e,a',w',f,d⟩:=r n a w t (B▸A);exact ⟨e,a',w',f,.of_steps (.one step_loop) d⟩
end
def Dp (P:Program) (N:Nat) (ops:Array Oper) (K:CZ->World->Prop) (Q:EF) (l:List Oper) (σ:CZ) (w:World):Prop:=
  ∀dz a,Ok dz N a->Dr a=σ->wpList P ops (EJ dz N (NE K Q)) l a w
section
variable {P : Program} {N : Nat} {Q : EF} {σ : CZ} {w : World} {K : CZ → World → Prop} {ops : Array Oper} {rest : List Oper}
theorem AN {c:Nat} {l:List Oper} (h:Dp P N l.toArray (Q .normal) Q l σ w):Wp P N (.region c l.toArray false) Q σ w:=by
 intro b a d f;refine wp_region_lit ?_;have:=h b a d f;have e:EJ b N (NE (Q .normal) Q)=EJ b N Q:=by funext e a w;cases e<;>rfl
 rwa [e] at this
theorem AA {b:Nat} {l:List Oper} {y:Code} (h:Dp P N l.toArray (Wp P N y Q) Q l σ w):Wp P N (.seq (.region b l.toArray false) y) Q σ w:=by
 refine AH ?_;intro e a c d;exact wp_region_lit (h e a c d)
theorem AB (h:K σ w):Dp P N ops K Q [] σ w:=λdz a b c=>⟨b,by subst c;exact h⟩
theorem CM {o:Oper} (f:o.guard=none) {d:Nat} (hd:o.dst=some d) (e:d<N) {v:Value} {w':World}
 (h:(execOp (ev σ) o).run P w=.ok (.value v) w') (k:Dp P N ops K Q rest (Of σ d v) w'):Dp P N ops K Q (o::rest) σ w:=by
 intro i a b c;refine wpList_plain f λK' g=>?_;unfold Oper.wp;rw[Dk,c,h];simp only[Oper.upon,hd];exact g _ _ (k i _ (b.put _ _) (by rw[FN b e,c]))
theorem H_ {o:Oper} (d:o.guard=none) (hd:o.dst=none) {w':World}
 (f:(execOp (ev σ) o).run P w=.ok .skip w') (k:Dp P N ops K Q rest σ w'):Dp P N ops K Q (o::rest) σ w:=by
 intro g a c b;refine wpList_plain d λK' e=>?_;unfold Oper.wp;rw[Dk,b,f];simp only[Oper.upon,hd];exact e _ _ (k g a c b)
def Bj (P:Program) (f:FuncId) (args:oG) (w:World) (R:Value->World->Prop):Prop:=
  Calls P f args w λe w'=>∃v,e=.returned v∧R v w'
theorem Bj.mono {f:FuncId} {args:oG} {R R':Value->World->Prop} (h:Bj P f args w R) (a:∀v w',R v w'->R' v w'):Bj P f args w R':=
 Calls.mono h λ_ _ ⟨v,e,r⟩=>⟨v,e,a _ _ r⟩
theorem OY {o:Oper} (h:o.guard=none) {d:Nat} (hd:o.dst=some d) (g:d<N) {f:FuncId} {args:oG} {R:Value->World->Prop}
 (l:(execOp (ev σ) o).run P w=.ok (.enter f args) w) (j:Bj P f args w R) (k:∀v w',R v w'->Dp P N ops K Q rest (Of σ d v) w'):Dp P N ops K Q (o::rest) σ w:=by
 intro m a b c;refine wpList_plain h λK' i=>?_;unfold Oper.wp;rw[Dk,c,l];simp only[Oper.upon,hd];refine Calls.mono j ?_;rintro e w' ⟨v,rfl,r⟩;exact i _ _ (k v w' r m _ (b.put _ _) (by rw[FN b g,c]))
theorem AF {dst:Option Tmp} {op:Op} {ty:TypeId} {pos:String} {af:Array Edge} {j:Nat} {b:Bool} {oj:Oper} {c:Nat}
 (p:ops[j]?=some oj) (e:oj.dst=some c) (i:c<N) (o:σ c=.bool b)
 (k:Dp P N ops K Q (⟨dst,op,ty,pos,af,none⟩::rest) σ w):Dp P N ops K Q (⟨dst,op,ty,pos,af,some (j,b)⟩::rest) σ w:=by
 intro m a g h;have f:=k m a g h;have l:Region.wanted ⟨dst,op,ty,pos,af,some (j,b)⟩ (yielded ops a.tmps)=true:=by
  simp only[Region.wanted,yielded,p,e,k_];have:a.tmps[c]?=some (Value.bool b):=by
   have n:a.tmps.getD c undef=.bool b:=by rw[<-o,<-h];rfl
   have d:c<a.tmps.size:=by rw[g.size];exact i
   rw[dV d];simpa[d] using n
  simp[this]
 unfold wpList at f⊢;rw[if_pos l];rw[if_pos (by rfl)] at f;exact f
theorem AD {d:Nat} {op:Op} {ty:TypeId} {pos:String} {af:Array Edge} {j:Nat} {b:Bool} {oj:Oper} {c:Nat} {v:Value}
 (n:ops[j]?=some oj) (e:oj.dst=some c) (hd:d<N) (l:σ c=v) (m:v=.bool (!b)∨v=undef)
 (k:Dp P N ops K Q rest (Of σ d undef) w):Dp P N ops K Q (⟨some d,op,ty,pos,af,some (j,b)⟩::rest) σ w:=by
 intro o a f g;have i:Region.wanted ⟨some d,op,ty,pos,af,some (j,b)⟩ (yielded ops a.tmps)=false:=by
  simp only[Region.wanted,yielded,n,e,k_];have h:a.tmps.getD c undef=v:=by rw[<-l,<-g];rfl
  cases hx:a.tmps[c]? with
  | none=>simp
  | some u=>
   have:u=v:=by simpa[hx] using h
   subst this;rcases m with rfl|rfl
   .cases b<;>simp
   .simp[undef]
 unfold wpList;rw[i,if_neg qP];exact k o _ (f.put _ _) (by rw[FN f hd,g])
theorem M5 {d:Nat} {op:Op} {ty:TypeId} {pos:String} {af:Array Edge} {j:Nat} {b:Bool} {oj:Oper} {c:Nat} {gv u:Value}
 (g:ops[j]?=some oj) (a:oj.dst=some c) (i:c<N) (hd:d<N) (f:σ c=gv)
 (h:(gv=.bool b∧(execOp (ev σ) ⟨some d,op,ty,pos,af,none⟩).run P w=.ok (.value u) w)∨((gv=.bool (!b)∨gv=undef)∧u=undef))
 (k:Dp P N ops K Q rest (Of σ d u) w):Dp P N ops K Q (⟨some d,op,ty,pos,af,some (j,b)⟩::rest) σ w:=by
 rcases h with ⟨e,l⟩|⟨e,rfl⟩
 .exact AF g a i (f.trans e) (CM O O hd l k)
 .exact AD g a hd f e k
end
def W_ (P:Program) (fn:Func) (R:Value->World->Prop):EF
  | .normal,σ,w | .ret,σ,w=>∃v,(∀a:Act,Dr a=σ->(results fn a.tmps).run P w=.ok v w)∧R v w
  | _,_,_=>False
theorem Ew {P:Program} {f:FuncId} {b:Func} {c:Code} {N:Nat} {args:oG} {w:World} {R:Value->World->Prop}
 (g:P.funcs[f]?=some b) (hb:b.body=some c) (hn:b.ntmps=N) (hsz:args.size<=N)
 (h:Wp P N c (W_ P b R) (λt=>args.getD t undef) w):Bj P f args w R:=by
 refine calls_of_wp g hb (Code.wp_mono ?_ (h [] _ ⟨?_,O⟩ ?_))
 .rintro e a w ⟨o,q⟩;cases e<;>simp only[W_] at q
  .obtain ⟨v,d,r⟩:=q;exact ⟨o.defers,v,d a O,v,O,r⟩
  .obtain ⟨v,d,r⟩:=q;exact ⟨o.defers,v,d a O,v,O,r⟩
 .simp[hn];omega
 .funext t;simp only[Dr,eB,mZ];split
  .rfl
  .rename_i hlt
   rw[mH,gG (xs:=args) qO];split<;>rfl
theorem AY {P:Program} {b:Func} {R:Value->World->Prop} {t:Nat} (e:b.results=#[.tmp t]) {σ:CZ} {w:World} {v:Value} (c:σ t=v) (h:R v w):W_ P b R .ret σ w:=
 ⟨v,λa d=>by rw[results_tmp e];subst d;rw[<-c];rfl,h⟩
theorem CA {P:Program} {c:Func} {R:Value->World->Prop} {t u:Nat} (f:c.results=#[.tmp t,.tmp u]) {σ:CZ} {w:World} {v v':Value} (d:σ t=v) (b:σ u=v') (h:R (.tuple #[v,v']) w):W_ P c R .ret σ w:=
 ⟨.tuple #[v,v'],λa e=>by rw[results_tmp2 f];subst e;rw[<-d,<-b];rfl,h⟩
theorem GU {P:Program} {b:Func} {R:Value->World->Prop} (c:b.results=#[]) {σ:CZ} {w:World} (h:R (.tuple #[]) w):W_ P b R .normal σ w:=
 ⟨.tuple #[],λa ha=>by rw[results_none c],h⟩
theorem IW {P:Program} {b:Func} {R:Value->World->Prop} (c:b.results=#[]) {σ:CZ} {w:World} (h:R (.tuple #[]) w):W_ P b R .ret σ w:=
 ⟨.tuple #[],λa ha=>by rw[results_none c],h⟩
structure Chg (M:oD) (w w':World):Prop where
  os:w'.os=w.os
  tape:w'.tape=w.tape
  output:w'.output=w.output
  drw:w.drawn<=w'.drawn
  size:w.heap.size<=w'.heap.size
  blk:∀b,b<w.heap.size->¬M b->w'.heap[b]?=w.heap[b]?
def Aj:Nat->Prop:=λ_=>False
def Ah (w w':World):Prop:=Chg Aj w w'
def BV (w:World) (b:Nat) (c:oG) (t:TypeId):Prop:=w.heap[b]?=some (.cells c t (0,0))
theorem Chg.refl (M:oD) (w:World):Chg M w w:=⟨O,O,O,dU _,dU _,λ_ _ _=>rfl⟩
theorem Ah.refl (w:World):Ah w w:=Chg.refl _ w
theorem Chg.step {M M':oD} {a b c:World} (h:Chg M a b) (k:Chg M' b c) (f:∀x,x<a.heap.size->M' x->M x):Chg M a c:=
 ⟨k.os.trans h.os,k.tape.trans h.tape,k.output.trans h.output,dL h.drw k.drw,dL h.size k.size,
  λx d hn=>(k.blk x (fD d h.size) (λe=>hn (f x d e))).trans (h.blk x d hn)⟩
theorem Chg.trans {M:oD} {a b c:World} (h:Chg M a b) (k:Chg M b c):Chg M a c:=h.step k λ_ _ x=>x
theorem Chg.ext {M:oD} {a b c:World} (h:Chg M a b) (k:Ah b c):Chg M a c:=h.step k λ_ _ x=>x.elim
theorem Ah.trans {a b c:World} (h:Ah a b) (k:Ah b c):Ah a c:=Chg.trans h k
theorem Ah.chg {M:oD} {a b:World} (h:Ah a b):Chg M a b:=⟨h.os,h.tape,h.output,h.drw,h.size,λx c _=>h.blk x c (λf=>f)⟩
theorem Chg.mono {M M':oD} {a b:World} (h:Chg M a b) (d:∀x,x<a.heap.size->M x->M' x):Chg M' a b:=
 ⟨h.os,h.tape,h.output,h.drw,h.size,λx c hn=>h.blk x c λm=>hn (d x c m)⟩
theorem BV.lt {w:World} {b:Nat} {c:oG} {t:TypeId} (h:BV w b c t):b<w.heap.size:=(fT.1 h).1
theorem Chg.keep {M:oD} {w w':World} (h:Chg M w w') {b:Nat} {c:oG} {t:TypeId} (a:¬M b) (hb:BV w b c t):BV w' b c t:=
 (h.blk b hb.lt a).trans hb
theorem Ah.keep {w w':World} (h:Ah w w') {b:Nat} {c:oG} {t:TypeId} (hb:BV w b c t):BV w' b c t:=Chg.keep h (λf=>f) hb
theorem Chg.cell {M:oD} {w w':World} (h:Chg M w w') {a:Addr} {v:Value} (c:¬M a.block) (b:w.cell? a=some v):w'.cell? a=some v:=
 (World.cell?_of_block (w:=w) (h.blk a.block (World.block_lt_of_cell? w a b) c)).trans b
theorem Ah.cell {w w':World} (h:Ah w w') {a:Addr} {v:Value} (b:w.cell? a=some v):w'.cell? a=some v:=Chg.cell h (λf=>f) b
theorem BV.cell {w:World} {b:Nat} {c:oG} {t:TypeId} (h:BV w b c t) {o:Nat} {v:Value} (a:c[o]?=some v):w.cell? ⟨b,o,none⟩=some v:=by
 unfold BV at h;simp[World.cell?,h,a]
theorem Ah.below {w w':World} (h:Ah w w'):RowKit.Below w.heap.size w w':=⟨h.os,h.tape,h.output,h.size,λk a=>h.blk k a λf=>f⟩
theorem Ah.of_below {w w':World} (h:RowKit.Below w.heap.size w w') (hd:w.drawn<=w'.drawn):Ah w w':=⟨h.os,h.tape,h.output,hd,h.size,λk a _=>h.block k a⟩
theorem Ah.grown {w w':World} (h:Ah w w'):∃q os,w'=Sort.grow (w.drewN q) os:=by
 refine ⟨w'.drawn - w.drawn,w'.heap.extract w.heap.size w'.heap.size,?_⟩;have e:=h.os;have d:=h.tape;have b:=h.output;have g:=h.drw;have k:=h.size;have c:=h.blk;obtain ⟨j,tp,dr,o,ou⟩:=w';obtain ⟨a,tp',dr',o',ou'⟩:=w;simp only at e d b g k c;subst e;subst d;subst b;simp only[Sort.grow,World.drewN,World.mk.injEq,and_true,true_and];refine ⟨?_,qO⟩;apply Array.ext_getElem?;intro i;rw[mZ];by_cases hi:i<a.size
 .rw[if_pos hi];exact c i hi λf=>f
 .rw[if_neg hi,Array.getElem?_extract];by_cases h7:i<j.size
  .rw[if_pos qO];congr 1;omega
  .rw[if_neg qO,gG qO]
structure New (w w':World) (b:Nat) (c:oG) (t:TypeId):Prop where
  blk:BV w' b c t
  ext:Ah w w'
  eq:b=w.heap.size
  size:w'.heap.size=w.heap.size+1
theorem New.mk' (w:World) (c:oG) (t:TypeId):New w {w with heap:=w.heap.push (.cells c t (0,0))} w.heap.size c t:=
 ⟨by unfold BV;simp,⟨O,O,O,dU _,qP,λx a _=>by simp[nM,Nat.ne_of_lt a]⟩,O,qP⟩
theorem New.keep {w w':World} {b:Nat} {c:oG} {t:TypeId} (h:New w w' b c t) {b':Nat} {c':oG} {t':TypeId} (hb:BV w b' c' t'):BV w' b' c' t':=h.ext.keep hb
theorem New.lt {w w':World} {b:Nat} {c:oG} {t:TypeId} (h:New w w' b c t) {b':Nat} {c':oG} {t':TypeId} (hb:BV w b' c' t'):b'<b:=by rw[h.eq];exact hb.lt
theorem New.ge {a w w':World} {b:Nat} {c:oG} {t:TypeId} (h:New w w' b c t) {M:oD} (e:Chg M a w):a.heap.size<=b:=by rw[h.eq];exact e.size
structure Put (w w':World) (b:Nat) (c:oG) (t:TypeId):Prop where
  blk:BV w' b c t
  chg:Chg (λx=>x=b) w w'
  size:w'.heap.size=w.heap.size
theorem Put.of_setRow {w:World} {b:Nat} {c:oG} {t:TypeId} (h:BV w b c t) (c':oG):Put w (w.setRow b c') b c' t:=
 ⟨setRow_heap w b c c' t _ h,⟨O,O,O,dU _,by simp[World.setRow],λx _ hn=>setRow_other w b x c' hn⟩,by simp[World.setRow]⟩
theorem Put.keep {w w':World} {b:Nat} {c:oG} {t:TypeId} (h:Put w w' b c t) {b':Nat} {c':oG} {t':TypeId} (a:b'≠b) (hb:BV w b' c' t'):BV w' b' c' t':=h.chg.keep a hb
theorem Put.ext {a w w':World} {b:Nat} {c:oG} {t:TypeId} (h:Put w w' b c t) {M:oD} (e:Chg M a w) (hb:a.heap.size<=b):Chg M a w':=
 e.step h.chg λx hx d=>by subst d;omega
theorem Put.step {a w w':World} {b:Nat} {c:oG} {t:TypeId} (h:Put w w' b c t) {M:oD} (e:Chg M a w) (hb:a.heap.size<=b∨M b):Chg M a w':=
 e.step h.chg λx hx d=>by subst d;rcases hb with hb|hb;omega;exact hb
def BG (w:World) (b o:Nat) (vs:n_):Prop:=∀i v,vs[i]?=some v->w.cell? ⟨b,o+i,none⟩=some v
theorem BG.chg {M:oD} {w w':World} {b o:Nat} {vs:n_} (h:BG w b o vs) (e:Chg M w w') (c:¬M b):BG w' b o vs:=
 λi v a=>e.cell c (h i v a)
theorem BG.ext {w w':World} {b o:Nat} {vs:n_} (h:BG w b o vs) (e:Ah w w'):BG w' b o vs:=h.chg e λf=>f
theorem BV.cells {w:World} {b:Nat} {c:oG} {t:TypeId} (h:BV w b c t) {o:Nat} {vs:n_} (d:(c.toList.drop o).take vs.length=vs):BG w b o vs:=by
 intro i v hi;refine h.cell ?_;have a:i<vs.length:=by
  rcases eI i vs.length with h|h
  .exact h
  .simp[eR h] at hi
 rw[<-d,gL a,jJ] at hi;simpa using hi
def EI (P:Program) (t:TypeId) (n:Nat):Prop:=(P.info? t).map (λi=>i.size)=some n
def Js (P:Program) (t:TypeId) (n:Nat):Prop:=(P.info? t).map (λi=>i.bytes)=some n
def FP (P:Program) (t:TypeId) (z:Value):Prop:=(P.info? t).bind (λi=>i.zero)=some z
def Ed (P:Program) (t:TypeId):Bool:=match P.underlying t with
  | some (.struct _)|some (.array _ _)|none=>false
  | some _=>true
def Jo (P:Program) (t:TypeId):Bool:=match P.underlying t with
  | some (.struct _)|some (.array _ _)=>true
  | _=>false
theorem EI.run {P:Program} {t:TypeId} {n:Nat} (h:EI P t n) (w:World):(sizeOf t).run P w=.ok n w:=by
 unfold EI at h;cases hi:P.info? t with
 | none=>simp[hi] at h
 | some i=>simp[hi] at h;simp[sizeOf,typeInfo,hi,h]
theorem FP.run {P:Program} {t:TypeId} {z:Value} (h:FP P t z) (w:World):(zeroValue t).run P w=.ok z w:=by
 unfold FP at h;cases hi:P.info? t with
 | none=>simp[hi] at h
 | some i=>simp[hi] at h;simp[zeroValue,typeInfo,hi,h]
theorem Ed.run {P:Program} {t:TypeId} (h:Ed P t=true) (w:World):(isAgg t).run P w=.ok false w:=by
 unfold Ed at h;cases hi:P.underlying t with
 | none=>simp[hi] at h
 | some d=>cases d<;>simp[hi] at h<;>simp[isAgg,run_underlying hi]
theorem Jo.run {P:Program} {t:TypeId} (h:Jo P t=true) (w:World):(isAgg t).run P w=.ok true w:=by
 unfold Jo at h;cases hi:P.underlying t with
 | none=>simp[hi] at h
 | some d=>cases d<;>simp[hi] at h<;>simp[isAgg,run_underlying hi]
section
variable {P : Program} {σ : CZ} {w : World} {dst : Option Tmp} {ty : TypeId} {pos : String} {af : Array Edge} {g : Option (Nat × Bool)}
theorem Am {x:Operand} {v:Value} (a:ev σ x=v):(execOp (ev σ) ⟨dst,.move x,ty,pos,af,g⟩).run P w=.ok (.value v) w:=by subst a;rfl
theorem Dg {x:Operand} {v:Value} (a:ev σ x=v):(execOp (ev σ) ⟨dst,.assign x,ty,pos,af,g⟩).run P w=.ok (.value v) w:=by subst a;rfl
theorem Af {c x y:Operand} {b:Bool} {v:Value} (d:ev σ c=.bool b) (a:(if b then ev σ x else ev σ y)=v):(execOp (ev σ) ⟨dst,.pick c x y,ty,pos,af,g⟩).run P w=.ok (.value v) w:=by
 subst a;simp only[execOp,d,asBool];cases b<;>rfl
theorem Ay {x:Operand} {a:Addr} (b:ev σ x=.pointer (some a)):(execOp (ev σ) ⟨dst,.nilCheck x,ty,pos,af,g⟩).run P w=.ok (.value (.pointer (some a))) w:=by
 simp only[execOp,b];rfl
theorem C1 {t:TypeId} {x:Operand} {b:Bool} (a:ev σ x=.bool b):(execOp (ev σ) ⟨dst,.unOp .not t x,ty,pos,af,g⟩).run P w=.ok (.value (.bool (!b))) w:=by
 simp only[execOp,a];rfl
theorem NS {s t:TypeId} {x:Operand} {k a:IntKind} {n c:Int} (hs:∃d,P.underlying s=some d) (e:P.underlying t=some (.int a)) (b:ev σ x=.int k n) (f:a.wrap n=c) :
 (execOp (ev σ) ⟨dst,.convert s t x,ty,pos,af,g⟩).run P w=.ok (.value (.int a c)) w:=by
 obtain ⟨d,hd⟩:=hs;subst f;simp only[execOp,b,convert,Sem.run_bind,run_underlying hd,run_underlying e,Result.andThen_ok];rfl
variable {t t' : TypeId} {x y : Operand} {k : IntKind} {a b c : Int}
theorem A0 (e:ev σ x=.int k a) (d:ev σ y=.int k b) (f:k.wrap (a+b)=c):(execOp (ev σ) ⟨dst,.binOp .add t x y t',ty,pos,af,g⟩).run P w=.ok (.value (.int k c)) w:=by
 subst f;simp only[execOp,e,d,eqGuard,binOp];simp[Op.intArith]
theorem DZ (e:ev σ x=.int k a) (d:ev σ y=.int k b) (f:k.wrap (a - b)=c):(execOp (ev σ) ⟨dst,.binOp .sub t x y t',ty,pos,af,g⟩).run P w=.ok (.value (.int k c)) w:=by
 subst f;simp only[execOp,e,d,eqGuard,binOp];simp[Op.intArith]
theorem aL (e:ev σ x=.int k a) (d:ev σ y=.int k b) (f:k.wrap (a*b)=c):(execOp (ev σ) ⟨dst,.binOp .mul t x y t',ty,pos,af,g⟩).run P w=.ok (.value (.int k c)) w:=by
 subst f;simp only[execOp,e,d,eqGuard,binOp];simp[Op.intArith]
theorem A6 (d:ev σ x=.int k a) (c:ev σ y=.int k b):(execOp (ev σ) ⟨dst,.binOp .lss t x y t',ty,pos,af,g⟩).run P w=.ok (.value (.bool (decide (a<b)))) w:=by
 simp only[execOp,d,c,eqGuard,binOp];simp[Op.intCmp]
theorem ER (d:ev σ x=.int k a) (c:ev σ y=.int k b):(execOp (ev σ) ⟨dst,.binOp .leq t x y t',ty,pos,af,g⟩).run P w=.ok (.value (.bool (decide (a<=b)))) w:=by
 simp only[execOp,d,c,eqGuard,binOp];simp[Op.intCmp]
theorem CN (d:ev σ x=.int k a) (c:ev σ y=.int k b):(execOp (ev σ) ⟨dst,.binOp .gtr t x y t',ty,pos,af,g⟩).run P w=.ok (.value (.bool (decide (b<a)))) w:=by
 simp only[execOp,d,c,eqGuard,binOp];simp[Op.intCmp]
theorem El (d:ev σ x=.int k a) (c:ev σ y=.int k b):(execOp (ev σ) ⟨dst,.binOp .geq t x y t',ty,pos,af,g⟩).run P w=.ok (.value (.bool (decide (b<=a)))) w:=by
 simp only[execOp,d,c,eqGuard,binOp];simp[Op.intCmp]
theorem Ai (d:ev σ x=.int k a) (c:ev σ y=.int k b):(execOp (ev σ) ⟨dst,.binOp .eql t x y t',ty,pos,af,g⟩).run P w=.ok (.value (.bool (decide (a=b)))) w:=by
 have:(a == b)=decide (a=b):=by rw[fZ];simp
 rw[<-this];simp only[execOp,d,c,eqGuard,binOp];simp[Op.intCmp]
theorem Bb (d:ev σ x=.int k a) (c:ev σ y=.int k b):(execOp (ev σ) ⟨dst,.binOp .neq t x y t',ty,pos,af,g⟩).run P w=.ok (.value (.bool (decide (a≠b)))) w:=by
 have:(a != b)=decide (a≠b):=by rw[fZ];simp
 rw[<-this];simp only[execOp,d,c,eqGuard,binOp];simp[Op.intCmp]
theorem Jb {p q:Bool} (d:Nat) (a:P.underlying t=some .bool):(Op.equalIn (d+1) t (.bool p) (.bool q)).run P w=.ok (p == q) w:=by
 simp only[Op.equalIn,Sem.run_bind,run_underlying a,Result.andThen_ok];rfl
theorem ZS {p q:Bool} (c:P.underlying t=some .bool) (b:ev σ x=.bool p) (a:ev σ y=.bool q):(execOp (ev σ) ⟨dst,.binOp .eql t x y t',ty,pos,af,g⟩).run P w=.ok (.value (.bool (p == q))) w:=by
 have h:=Jb (P:=P) (w:=w) (p:=p) (q:=q) 9999 c;simp only[execOp,b,a,eqGuard,binOp,Op.equal,Op.maxDepth];simp[h]
theorem J7 {p q:Bool} (c:P.underlying t=some .bool) (b:ev σ x=.bool p) (a:ev σ y=.bool q):(execOp (ev σ) ⟨dst,.binOp .neq t x y t',ty,pos,af,g⟩).run P w=.ok (.value (.bool (p != q))) w:=by
 have h:=Jb (P:=P) (w:=w) (p:=p) (q:=q) 9999 c;simp only[execOp,b,a,eqGuard,binOp,Op.equal,Op.maxDepth];simp[h,bne]
theorem AT {e:TypeId} {ad:oE} {n cap:Nat} (b:P.underlying t=some (.slice e)) (a:ev σ x=.slice ad n cap) :
 (execOp (ev σ) ⟨dst,.call ⟨.builtin .len,#[x],#[t]⟩,ty,pos,af,g⟩).run P w=.ok (.value (.int .i64 n)) w:=by
 simp only[execOp,resolve,mI,gK,jD,a];simp[invoke,builtin,Builtin.len_,run_underlying b,goInt]
theorem AQ {a:Array Field} {f:Field} {i n b o o':Nat} (c:ev σ x=.pointer (some ⟨b,o,none⟩)) (d:P.underlying t=some (.struct a)) (h:a[i]?=some f) (hs:EI P f.type (n+1)) (e:o+f.offset=o') :
 (execOp (ev σ) ⟨dst,.fieldAddr t x i,ty,pos,af,g⟩).run P w=.ok (.value (.pointer (some ⟨b,o',none⟩))) w:=by
 subst e;simp[execOp,c,Instr.fieldAt,run_underlying d,h,Instr.sureAddr,fieldPlace,hs.run,Addr.add_lit]
theorem AL {e:TypeId} {n b o o' len cap i:Nat} {k:IntKind} {a:Int} (d:ev σ x=.slice (some ⟨b,o,none⟩) len cap) (c:ev σ y=.int k a) (h:a=(i:Int)) (f:P.underlying t=some (.slice e)) (hs:EI P e n) (hi:i<len) (j:o+i*n=o') :
 (execOp (ev σ) ⟨dst,.indexAddr t x y,ty,pos,af,g⟩).run P w=.ok (.value (.pointer (some ⟨b,o',none⟩))) w:=by
 subst j;subst h;have h1:(0:Int)<=(i:Int)∧(i:Int)<(len:Int):=qO
 simp[execOp,d,c,Instr.indexAt,asIntOf,run_underlying f,hs.run,Addr.add_lit,hi]
theorem E' {e:TypeId} {a a':oE} {n len cap lo n' c':Nat} {k:IntKind} {l:Int} (i:P.underlying t=some (.slice e)) (hs:EI P e n) (h:ev σ x=.slice a len cap) (d:ev σ y=.int k l) (b:l=(lo:Int)) (f:lo<=len) (j:(if cap=lo then a else a.map (·.add (lo*n)))=a') (hn:len - lo=n') (c:cap - lo=c') :
 (execOp (ev σ) ⟨dst,.slice t x (some y) none none,ty,pos,af,g⟩).run P w=.ok (.value (.slice a' n' c')) w:=by
 subst j;subst hn;subst c;subst b;have h2:(0:Int)<=(lo:Int)∧(lo:Int)<=(len:Int):=qO
 simp[execOp,h,d,Instr.sliceAt,Instr.slice,run_underlying i,Instr.sliceBounds,Instr.sliceBound,asIntOf,f,hs.run]
theorem J6 {e:TypeId} {a a':oE} {n len cap hi:Nat} {k:IntKind} {l:Int} (f:P.underlying t=some (.slice e)) (hs:EI P e n) (d:ev σ x=.slice a len cap) (b:ev σ y=.int k l) (i:l=(hi:Int)) (c:hi<=cap) (h:(if cap=0 then a else a.map (·.add (0*n)))=a') :
 (execOp (ev σ) ⟨dst,.slice t x none (some y) none,ty,pos,af,g⟩).run P w=.ok (.value (.slice a' hi cap)) w:=by
 subst h;subst i;simp[execOp,d,b,Instr.sliceAt,Instr.slice,run_underlying f,Instr.sliceBounds,Instr.sliceBound,asIntOf,c,hs.run]
theorem AJ {ad:Addr} {v:Value} (a:ev σ x=.pointer (some ad)) (c:Ed P t=true) (b:w.cell? ad=some v) :
 (execOp (ev σ) ⟨dst,.load t x,ty,pos,af,g⟩).run P w=.ok (.value v) w:=by
 simp[execOp,a,Instr.loadAt,Instr.sureAddr,loadVar,Ed.run c,b]
theorem AI {b o n:Nat} {vs:n_} (c:ev σ x=.pointer (some ⟨b,o,none⟩)) (f:Jo P t=true) (hs:EI P t n) (hn:vs.length=n) (d:BG w b o vs) :
 (execOp (ev σ) ⟨dst,.load t x,ty,pos,af,g⟩).run P w=.ok (.value (.agg vs.toArray)) w:=by
 subst hn;have a:=run_loadCells_list (P:=P) w ⟨b,o,none⟩ vs (λj v e=>by rw[Addr.add_lit];exact d j v e);simp[execOp,c,Instr.loadAt,Instr.sureAddr,loadVar,Jo.run f,hs.run,a]
theorem Da {b:Fn} {first a:List Operand} {vs c:n_} (d:first.map (ev σ)=vs) (e:a.map (ev σ)=c) :
 (execOp (ev σ) ⟨dst,.makeFunc b first.toArray a.toArray,ty,pos,af,g⟩).run P w=.ok (.value (.func b vs.toArray c.toArray)) w:=by
 subst d;subst e;simp[execOp,Instr.makeFunc]
theorem BA {i:Nat} {vs:oG} {v:Value} (a:ev σ x=.tuple vs) (b:vs[i]?=some v) :
 (execOp (ev σ) ⟨dst,.extract x i,ty,pos,af,g⟩).run P w=.ok (.value v) w:=by
 simp[execOp,a,Instr.extract,b]
theorem B0 {parts:List (Nat×Operand)} {ps:List (Nat×Value)} {v:Value} (a:(parts.map λ(i,x)=>(i,ev σ x))=ps) (hb:(Instr.build t ps.toArray).run P w=.ok v w) :
 (execOp (ev σ) ⟨dst,.build t parts.toArray,ty,pos,af,g⟩).run P w=.ok (.value v) w:=by
 subst a;simp[execOp,hb]
theorem IJ {f : FuncId} {a : Func} {vs : Array Value} (b : P.funcs[f]? = some a) (hn : (a.name == "runtime.NumGoroutine") = false) (hb : a.body.isNone = false) :
 (callFunc f vs).run P w=.ok (.enter f vs) w:=by
 simp only[callFunc,Sem.run_bind,run_program,Result.andThen_ok,b,hn,hb,gW,if_false];rfl
theorem AS {f : FuncId} {a : Func} {args : List Operand} {tys : Array TypeId} {vs : List Value} (c : P.funcs[f]? = some a) (hn : (a.name == "runtime.NumGoroutine") = false) (hb : a.body.isNone = false) (b : args.map (ev σ) = vs) :
 (execOp (ev σ) ⟨dst,.call ⟨.value (.func f),args.toArray,tys⟩,ty,pos,af,g⟩).run P w=.ok (.enter f vs.toArray) w:=by
 subst b;simp[execOp,resolve,ev,Deferred.ofValue,invoke,IJ c hn hb]
theorem Sl {f : FuncId} {a : Func} {z : Operand} {args : List Operand} {tys : Array TypeId} {first cap ws : Array Value} {vs : List Value} (d : ev σ z = .func (.func f) first cap) (e : P.funcs[f]? = some a) (hn : (a.name == "runtime.NumGoroutine") = false) (hb : a.body.isNone = false) (c : args.map (ev σ) = vs) (b : first ++ vs.toArray ++ cap = ws) :
 (execOp (ev σ) ⟨dst,.call ⟨.value z,args.toArray,tys⟩,ty,pos,af,g⟩).run P w=.ok (.enter f ws) w:=by
 subst c;subst b;simp[execOp,resolve,d,Deferred.ofValue,invoke,IJ e hn hb]
end
section
variable {P : Program} {N : Nat} {Q : EF} {σ : CZ} {w : World} {K : CZ → World → Prop} {ops : Array Oper} {rest : List Oper} {d : Nat} {ty : TypeId} {pos : String} {af : Array Edge} {t : TypeId} {x y : Operand}
theorem BC {v:Value} {c:oG} (f:d<N) (a:ev σ x=v) (e:v.cells=c) (k:∀b w',New w w' b c t->Dp P N ops K Q rest (Of σ d (.pointer (some ⟨b,0,none⟩))) w') :
 Dp P N ops K Q (⟨some d,.box t x,ty,pos,af,none⟩::rest) σ w:=by
 subst e;refine CM (v:=.pointer (some ⟨w.heap.size,0,none⟩)) (w':={w with heap:=w.heap.push (.cells v.cells t (0,0))}) O O f ?_ (k _ _ (New.mk' w v.cells t));simp[execOp,a,Instr.box,newVar,newRow]
theorem BK {z:Value} {c:oG} (e:d<N) (f:FP P t z) (a:z.cells=c) (k:∀b w',New w w' b c t->Dp P N ops K Q rest (Of σ d (.pointer (some ⟨b,0,none⟩))) w') :
 Dp P N ops K Q (⟨some d,.alloc t,ty,pos,af,none⟩::rest) σ w:=by
 subst a;refine CM (v:=.pointer (some ⟨w.heap.size,0,none⟩)) (w':={w with heap:=w.heap.push (.cells z.cells t (0,0))}) O O e ?_ (k _ _ (New.mk' w z.cells t));simp[execOp,Instr.alloc,f.run,newVar,newRow]
theorem CB {b o:Nat} {v:Value} {c c':oG} {e:TypeId} (i:ev σ x=.pointer (some ⟨b,o,none⟩)) (h:ev σ y=v) (f:v.oneCell'=true) (hs:EI P t 1) (g:BV w b c e) (j:o<c.size) (m:c.setIfInBounds o v=c')
 (k:∀w',Put w w' b c' e->Dp P N ops K Q rest σ w'):Dp P N ops K Q (⟨none,.store t x y,ty,pos,af,none⟩::rest) σ w:=by
 subst m;refine H_ (w':=w.setRow b (c.setIfInBounds o v)) O O ?_ (k _ (Put.of_setRow g _));have d:v.cells=#[v]:=by cases v<;>first|rfl|(simp[Value.oneCell'] at f;done)
 have a:=run_storeCells_at P b o e [v] 0 c w g (by simp;omega) (by simpa using f);have l:(c.toList.take (o+0)++[v]++c.toList.drop (o+0+[v].length)).toArray=c.setIfInBounds o v:=by
  apply iJ;simp only[jO,jP,fC];rw[kS,if_pos (by simpa using j)];simp
 rw[l] at a;simp[execOp,i,h,Instr.storeAt,Instr.sureAddr,storeVar,hs.run,d,a]
theorem Aa {b o n:Nat} {vs c c':oG} {e:TypeId} (g:ev σ x=.pointer (some ⟨b,o,none⟩)) (h:ev σ y=.agg vs) (i:∀v∈vs.toList,v.oneCell'=true) (hs:EI P t n) (hn:vs.size=n) (d:BV w b c e) (j:o+n<=c.size) (f:(c.toList.take o++vs.toList++c.toList.drop (o+n)).toArray=c')
 (k:∀w',Put w w' b c' e->Dp P N ops K Q rest σ w'):Dp P N ops K Q (⟨none,.store t x y,ty,pos,af,none⟩::rest) σ w:=by
 subst f;subst hn;refine H_ (w':=w.setRow b _) O O ?_ (k _ (Put.of_setRow d _));have a:=run_storeCells_at P b o e vs.toList 0 c w d (by simpa using j) i;simp only[jO,h_] at a;simp[execOp,g,h,Instr.storeAt,Instr.sureAddr,storeVar,hs.run,Value.cells,a]
theorem As {z v:Value} {n:Nat} {c:oG} {l:TypeId} {h:String} {j:Array Edge} (o:d<N) (r:FP P t z) (f:z.cells.size=n) (hs:EI P t n) (x:ev (Of σ d (.pointer (some ⟨w.heap.size,0,none⟩))) y=v) (q:v.cells=c) (hn:c.size=n) (m:∀u∈c.toList,u.oneCell'=true)
 (k:∀b w',New w w' b c t->Dp P N ops K Q rest (Of σ d (.pointer (some ⟨b,0,none⟩))) w') :
 Dp P N ops K Q (⟨some d,.alloc t,ty,pos,af,none⟩::⟨none,.store t (.tmp d) y,l,h,j,none⟩::rest) σ w:=by
 subst q;refine CM (v:=.pointer (some ⟨w.heap.size,0,none⟩)) (w':={w with heap:=w.heap.push (.cells z.cells t (0,0))}) O O o ?_ ?_
 .simp[execOp,Instr.alloc,r.run,newVar,newRow]
 .refine H_ (w':={w with heap:=w.heap.push (.cells v.cells t (0,0))}) O O ?_ (k _ _ (New.mk' w v.cells t));have A:BV {w with heap:=w.heap.push (.cells z.cells t (0,0))} w.heap.size z.cells t:=(New.mk' w z.cells t).blk;have g:=run_storeCells_at P w.heap.size 0 t v.cells.toList 0 z.cells _ A (by simp[hn,f]) m;have hd:ev (Of σ d (.pointer (some ⟨w.heap.size,0,none⟩))) (.tmp d)=.pointer (some ⟨w.heap.size,0,none⟩):=by simp[ev,Of]
  have s:World.setRow {w with heap:=w.heap.push (.cells z.cells t (0,0))} w.heap.size (z.cells.toList.take (0+0)++v.cells.toList++z.cells.toList.drop (0+0+v.cells.toList.length)).toArray={w with heap:=w.heap.push (.cells v.cells t (0,0))}:=by
   have e:(z.cells.toList.take (0+0)++v.cells.toList++z.cells.toList.drop (0+0+v.cells.toList.length)).toArray=v.cells:=by
    apply iJ;simp[hn,<-f]
   rw[e];simp only[World.setRow];congr 1;apply Array.ext
   .simp
   .intro i m p;simp only[Array.getElem_modify,Array.getElem_push];by_cases hi:i<w.heap.size
    .simp[hi,Nat.ne_of_gt hi]
    .have:i=w.heap.size:=by simp at p;omega
     simp[this]
  rw[s] at g;have a:(storeCells ⟨w.heap.size,0,none⟩ v.cells.toList).run P (w.alloc (.cells z.cells t))=.ok () (w.alloc (.cells v.cells t)):=g;simp[execOp,hd,x,Instr.storeAt,Instr.sureAddr,storeVar,hs.run,hn,a]
theorem Aw {e:TypeId} {len n:Nat} {z:Value} {parts:List (Nat×Operand)} {ps:List (Nat×Value)} {c:oG} (a:d<N) (m:(parts.map λ(i,x)=>(i,ev σ x))=ps) (l:P.underlying t=some (.slice e)) (hs:EI P e n) (h:FP P e z) (f:¬(len*n > 2 ^ 24)) (j:len*n≠0)
 (g:Instr.fill (λi=>some (i*n,n)) ((Array.range (len*n)).map (z.cells[· % z.cells.size]!)) ps=some c)
 (k:∀b w',New w w' b c e->Dp P N ops K Q rest (Of σ d (.slice (some ⟨b,0,none⟩) len len)) w'):Dp P N ops K Q (⟨some d,.buildSlice t len parts.toArray,ty,pos,af,none⟩::rest) σ w:=by
 subst m;refine CM (v:=.slice (some ⟨w.heap.size,0,none⟩) len len) (w':={w with heap:=w.heap.push (.cells c e (0,0))}) O O a ?_ (k _ _ (New.mk' w c e));simp only[execOp,Instr.buildSlice,mI,Sem.run_bind,run_underlying l,Result.andThen_ok,hs.run,f,j,if_false,Sem.run_pure,h.run,g];simp[newRow]
end
theorem Fw {P:Program} {ops:Array Oper} {w:World} {R R':Act->Prop} (h:∀a,R a->R' a):∀(l:List Oper) (a:Act),wpStill P ops w R l a->wpStill P ops w R' l a
 | [],a,hr=>h a hr
 | o::rest,a,hr=>by
  unfold wpStill at hr⊢;split
  .rename_i b
   rw[if_pos b] at hr;exact Oper.still_mono (λa'=>Fw h rest a') hr
  .rename_i b
   rw[if_neg b] at hr;exact Fw h rest _ hr
def dF (P:Program) (N:Nat) (ops:Array Oper) (w:World) (K:CZ->Prop) (l:List Oper) (σ:CZ):Prop:=
  ∀dz a,Ok dz N a->Dr a=σ->wpStill P ops w (λa'=>Ok dz N a'∧K (Dr a')) l a
def Ue (P:Program) (N:Nat) (ops:Array Oper) (w:World) (K:CZ->World->Prop) (Q:EF):Nat->List Oper->CZ->Prop
  | n,l,σ=>dF P N ops w (λσ'=>Dp P N ops K Q (l.drop n) σ' w) (l.take n) σ
section
variable {P : Program} {N : Nat} {Q : EF} {σ : CZ} {w : World} {K : CZ → World → Prop} {ops : Array Oper} {rest : List Oper} {n : Nat}
theorem Gc {l:List Oper} (h:Dp P N ops K Q l σ w):Ue P N ops w K Q 0 l σ:=λdz a b c=>by
 simp only[iK,List.drop_zero];exact ⟨b,c▸h⟩
theorem Yp {o:Oper} (f:o.guard=none) {d:Nat} (hd:o.dst=some d) (e:d<N) {v:Value}
 (g:(execOp (ev σ) o).run P w=.ok (.value v) w) (k:Ue P N ops w K Q n rest (Of σ d v)):Ue P N ops w K Q (n+1) (o::rest) σ:=by
 intro h a b c;simp only[j_,lP];unfold wpStill;rw[if_pos (by simp[Region.wanted,f])];unfold Oper.still;rw[Dk,c,g];refine ⟨O,?_⟩;rw[hd];exact k h _ (b.put _ _) (by rw[FN b e,c])
theorem CV {d:Nat} {op:Op} {ty:TypeId} {pos:String} {af:Array Edge} {j:Nat} {b:Bool} {oj:Oper} {e:Nat} {gv u:Value}
 (o:ops[j]?=some oj) (c:oj.dst=some e) (q:e<N) (hd:d<N) (t:σ e=gv)
 (h:(gv=.bool b∧(execOp (ev σ) ⟨some d,op,ty,pos,af,none⟩).run P w=.ok (.value u) w)∨((gv=.bool (!b)∨gv=undef)∧u=undef))
 (k:Ue P N ops w K Q n rest (Of σ d u)):Ue P N ops w K Q (n+1) (⟨some d,op,ty,pos,af,some (j,b)⟩::rest) σ:=by
 intro x a l m;simp only[j_,lP];have p:=k x _ (l.put (some d) u) (by rw[FN l hd,m]);have r:a.tmps.getD e undef=gv:=by rw[<-t,<-m];rfl
 have f:e<a.tmps.size:=by rw[l.size];exact q
 have g:a.tmps[e]?=some gv:=by rw[dV f];simpa[f] using r
 unfold wpStill;rcases h with ⟨i,v⟩|⟨i,rfl⟩
 .subst i;rw[if_pos (by simp[Region.wanted,yielded,o,c,g])];unfold Oper.still;have s:(execOp a.eval ⟨some d,op,ty,pos,af,some (j,b)⟩).run P w=.ok (.value u) w:=by rw[Dk,m];exact v
  rw[s];exact ⟨O,p⟩
 .rw[if_neg]
  .exact p
  .rcases i with rfl|rfl
   .cases b<;>simp[Region.wanted,yielded,o,c,g]
   .simp[Region.wanted,yielded,o,c,g,undef]
theorem Ce {dst:Option Tmp} {op:Op} {ty:TypeId} {pos:String} {af:Array Edge} {j:Nat} {b:Bool} {oj:Oper} {c:Nat}
 (q:ops[j]?=some oj) (f:oj.dst=some c) (l:c<N) (p:σ c=.bool b)
 (k:Ue P N ops w K Q (n+1) (⟨dst,op,ty,pos,af,none⟩::rest) σ):Ue P N ops w K Q (n+1) (⟨dst,op,ty,pos,af,some (j,b)⟩::rest) σ:=by
 intro m a g h;have e:=k m a g h;simp only[j_,lP] at e⊢;have o:a.tmps.getD c undef=.bool b:=by rw[<-p,<-h];rfl
 have d:c<a.tmps.size:=by rw[g.size];exact l
 have i:a.tmps[c]?=some (.bool b):=by rw[dV d];simpa[d] using o
 unfold wpStill at e⊢;rw[if_pos (by simp[Region.wanted,yielded,q,f,i])];rw[if_pos (by rfl)] at e;exact e
theorem Cp {d:Nat} {op:Op} {ty:TypeId} {pos:String} {af:Array Edge} {j:Nat} {b:Bool} {oj:Oper} {a:Nat} {v:Value}
 (g:ops[j]?=some oj) (c:oj.dst=some a) (hd:d<N∧a<N) (e:σ a=v) (f:v=.bool (!b)∨v=undef)
 (k:Ue P N ops w K Q n rest (Of σ d undef)):Ue P N ops w K Q (n+1) (⟨some d,op,ty,pos,af,some (j,b)⟩::rest) σ:=
 CV g c hd.2 hd.1 e (.inr ⟨f,O⟩) k
theorem HH (w:World):Ah w {w with drawn:=w.drawn+1}:=⟨O,O,O,nW _,dU _,λ_ _ _=>rfl⟩
theorem TY {d:Nat} {l:List Oper} (n:Nat) (g:P.follows .mixedOrders=true) (k:Region.lexTailB .any l.toArray n=true)
 (h:∀w',Ah w w'->w'.heap=w.heap->Ue P N l.toArray w' (Q .normal) Q n l σ):Wp P N (.region d l.toArray true) Q σ w:=by
 intro b a i j;have e:EJ b N (NE (Q .normal) Q)=EJ b N Q:=by funext e a w;cases e<;>rfl
 refine wp_region_still_tail n g k ?_;have f:=h _ (HH w) O b a i j;have:(λa'=>Ok b N a'∧Dp P N l.toArray (Q .normal) Q (l.drop n) (Dr a') {w with drawn:=w.drawn+1})=(λa'=>Ok b N a'∧Dp P N l.toArray (Q .normal) Q (l.drop n) (Dr a') {w with drawn:=w.drawn+1}):=rfl;refine Fw ?_ _ _ f;rintro a' ⟨c,m⟩;have:=m b a' c O
 rwa [e] at this
theorem Eg {f:Nat} {l:List Oper} {y:Code} (n:Nat) (i:P.follows .mixedOrders=true) (r:Region.lexTailB .any l.toArray n=true)
 (h:∀w',Ah w w'->w'.heap=w.heap->Ue P N l.toArray w' (Wp P N y Q) Q n l σ):Wp P N (.seq (.region f l.toArray true) y) Q σ w:=by
 refine AH (TY n i r λw' e q=>?_);have:NE (Wp P N y Q) Q .normal=Wp P N y Q:=rfl;intro u a p c;have o:=h w' e q u a p c;refine Fw ?_ _ _ o;rintro a' ⟨d,m⟩;refine ⟨d,λb k j g=>?_⟩;have s:=m b k j g;have t:EJ b N (NE (NE (Wp P N y Q) Q .normal) (NE (Wp P N y Q) Q))=EJ b N (NE (Wp P N y Q) Q):=by funext e a w;cases e<;>rfl
 rw[t];exact s
end
theorem A8 {n:Int} (h : -9223372036854775808<=n∧n<=9223372036854775807):IntKind.i64.wrap n=n:=by
 simp only[IntKind.wrap,IntKind.bits,IntKind.signed,kW,lR,decide_eq_true_eq,ge_iff_le,Int.reducePow,Nat.reduceSub,gW,if_false];split<;>omega
theorem aB {n:Int} (h:0<=n∧n<=18446744073709551615):IntKind.u64.wrap n=n:=by
 simp only[IntKind.wrap,IntKind.bits,IntKind.signed,kW,lR,decide_eq_true_eq,ge_iff_le,Int.reducePow,Nat.reduceSub,gW,if_false];omega
theorem Gb {P:Program} {N:Nat} {Q:EF} {σ:CZ} {w:World} {x y:Code} (J:CZ->World->Prop) (h:Wp P N x (NE J Q) σ w) (k:∀σ' w',J σ' w'->Wp P N y Q σ' w'):Wp P N (.seq x y) Q σ w:=
 AH (TX h λe σ' w' q=>by cases e<;>first|exact k _ _ q|exact q)
theorem JZ {P:Program} {d:Func} {R:Value->World->Prop} {t u s:Nat} (g:d.results=#[.tmp t,.tmp u,.tmp s]) {σ:CZ} {w:World} {v v' v'':Value} (e:σ t=v) (c:σ u=v') (b:σ s=v'') (h:R (.tuple #[v,v',v'']) w):W_ P d R .ret σ w:=
 ⟨.tuple #[v,v',v''],λa f=>by subst f;rw[<-e,<-c,<-b];simp[results,g,Dr],h⟩
theorem Ki {P:Program} {w:World} {b o n:Nat} {t:TypeId} {vs:n_} (e:Jo P t=true) (hs:EI P t n) (hn:vs.length=n) (c:BG w b o vs):(loadVar t ⟨b,o,none⟩).run P w=.ok (.agg vs.toArray) w:=by
 subst hn;have a:=run_loadCells_list (P:=P) w ⟨b,o,none⟩ vs (λj v d=>by rw[Addr.add_lit];exact c j v d);simp[loadVar,Jo.run e,hs.run,a]
theorem A2 {P:Program} {e:Func} {R:Value->World->Prop} {d t b n:Nat} (g:e.results=#[.cell d t]) {σ:CZ} {w:World} {vs:n_} (i:σ d=.pointer (some ⟨b,0,none⟩)) (k:Jo P t=true) (hs:EI P t n) (hn:vs.length=n) (f:BG w b 0 vs) (h:R (.agg vs.toArray) w):W_ P e R .ret σ w:=
 ⟨.agg vs.toArray,λa j=>by
  subst j;have c:a.tmps.getD d undef=.pointer (some ⟨b,0,none⟩):=i;simp only[eB] at c;simp[results,g,c,asAddr,Ki k hs hn f],h⟩
theorem Ee {P:Program} {e:Func} {R:Value->World->Prop} {c t b n u:Nat} (j:e.results=#[.cell c t,.tmp u]) {σ:CZ} {w:World} {vs:n_} {v':Value} (k:σ c=.pointer (some ⟨b,0,none⟩)) (m:Jo P t=true) (hs:EI P t n) (hn:vs.length=n) (i:BG w b 0 vs) (d:σ u=v') (h:R (.tuple #[.agg vs.toArray,v']) w):W_ P e R .ret σ w:=
 ⟨.tuple #[.agg vs.toArray,v'],λa l=>by
  subst l;have f:a.tmps.getD c undef=.pointer (some ⟨b,0,none⟩):=k;have g:a.tmps.getD u undef=v':=d;simp only[eB] at f g;simp[results,j,f,g,asAddr,Ki m hs hn i],h⟩
abbrev I6 (x:Int):Value:=.int .i64 x
abbrev P6 (b o:Nat):Value:=.pointer (some ⟨b,o,none⟩)
abbrev nU (b:Bool) (v:Value):Value:=bif b then undef else v
abbrev yU (b:Bool) (v:Value):Value:=bif b then v else undef
section
variable {P : Program} {N : Nat} {Q : EF} {σ : CZ} {w : World} {K : CZ → World → Prop} {ops : Array Oper} {rest : List Oper} {n d : Nat} {op : Op} {ty : TypeId} {pos : String} {af : Array Edge} {v : Value} {x : Operand}
theorem qV {w':World} (hr:(execOp (ev σ) ⟨some d,op,ty,pos,af,none⟩).run P w=.ok (.value v) w') (k:Dp P N ops K Q rest (Of σ d v) w') (hN:d<N:=by decide):Dp P N ops K Q (⟨some d,op,ty,pos,af,none⟩::rest) σ w:=CM rfl rfl hN hr k
theorem qT (hr:(execOp (ev σ) ⟨some d,op,ty,pos,af,none⟩).run P w=.ok (.value v) w) (k:Ue P N ops w K Q n rest (Of σ d v)) (hN:d<N:=by decide):Ue P N ops w K Q (n+1) (⟨some d,op,ty,pos,af,none⟩::rest) σ:=Yp rfl rfl hN hr k
theorem qM (v:Value) (hx:ev σ x=v) (k:Dp P N ops K Q rest (Of σ d v) w) (hN:d<N:=by decide):Dp P N ops K Q (⟨some d,.move x,ty,pos,af,none⟩::rest) σ w:=qV (Am hx) k hN
theorem qA (v:Value) (hx:ev σ x=v) (k:Dp P N ops K Q rest (Of σ d v) w) (hN:d<N:=by decide):Dp P N ops K Q (⟨some d,.assign x,ty,pos,af,none⟩::rest) σ w:=qV (Dg hx) k hN
theorem gA {A:Prop} {v:Value}:A∨((v=v∨v=undef)∧undef=undef):=.inr ⟨.inl O,O⟩
theorem gB {A:Prop} {u:Value}:A∨((undef=u∨undef=undef)∧undef=undef):=.inr ⟨.inr O,O⟩
theorem qG {j:Nat} {b:Bool} {oj:Oper} {dj:Nat} (gv u:Value)
    (h:(gv=.bool b∧(execOp (ev σ) ⟨some d,op,ty,pos,af,none⟩).run P w=.ok (.value u) w)∨((gv=.bool (!b)∨gv=undef)∧u=undef))
    (k:Dp P N ops K Q rest (Of σ d u) w) (hj:ops[j]?=some oj:=by rfl) (hdj:oj.dst=some dj:=by rfl) (hN:dj<N:=by decide) (hd:d<N:=by decide) (hy:σ dj=gv:=by rfl):Dp P N ops K Q (⟨some d,op,ty,pos,af,some (j,b)⟩::rest) σ w:=M5 hj hdj hN hd hy h k
theorem qF {t:TypeId} {fs:Array Field} {f:Field} {i m:Nat} (b o o':Nat) (hx:ev σ x=.pointer (some ⟨b,o,none⟩)) (hu:P.underlying t=some (.struct fs)) (hf:fs[i]?=some f) (hs:EI P f.type (m+1)) (ho:o+f.offset=o')
    (k:Dp P N ops K Q rest (Of σ d (.pointer (some ⟨b,o',none⟩))) w) (hN:d<N:=by decide):Dp P N ops K Q (⟨some d,.fieldAddr t x i,ty,pos,af,none⟩::rest) σ w:=qV (AQ hx hu hf hs ho) k hN
end
theorem qC {P : Program} {N : Nat} {Q : EF} {σ : CZ} {w : World} {c : Operand} {x y : Code} {p : Prop} [Decidable p] (hc : ev σ c = .bool (decide p)) (ht : p → Wp P N x Q σ w) (hf : ¬ p → Wp P N y Q σ w) : Wp P N (.cond c x y) Q σ w := A4 hc (λh => ht (of_decide_eq_true h)) λh => hf (of_decide_eq_false h)
theorem RV {a b : Nat} (h : Nat.ble a b = true) : a ≤ b := iU h
theorem qR {P : Program} {f : FuncId} {fn : Func} {c : Code} {N : Nat} {args : Array Value} {w : World} {R : Value → World → Prop} (hf : P.funcs[f]? = some fn) (hb : fn.body = some c) (hn : fn.ntmps = N) (hsz : Nat.ble args.size N = true) (h : Chg Aj w w → Wp P N c (W_ P fn R) (λt => args.getD t undef) w) : Bj P f args w R := Ew hf hb hn (RV hsz) (h (Chg.refl _ _))
theorem qE {P : Program} {N : Nat} {Q : EF} {σ : CZ} {w : World} {K : CZ → World → Prop} {ops : Array Oper} {rest : List Oper} {d : Nat} {op : Op} {ty : TypeId} {pos : String} {af : Array Edge} {f : FuncId} {args : Array Value} {R : Value → World → Prop} (hN : Nat.ble (d + 1) N = true) (hr : (execOp (ev σ) ⟨some d, op, ty, pos, af, none⟩).run P w = .ok (.enter f args) w) (hc : Bj P f args w R) (k : ∀ v w', R v w' → Dp P N ops K Q rest (Of σ d v) w') : Dp P N ops K Q (⟨some d, op, ty, pos, af, none⟩ :: rest) σ w := OY rfl rfl (RV hN) hr hc k
theorem Ar {a b : Bool} (h : a = b) : Value.bool a = Value.bool b := congrArg Value.bool h
theorem qQ {p : Prop} (h : p := by first | exact dH (by omega) | exact dG rfl | exact dG (by assumption) | exact dG (by simp) | exact dG (by omega) | exact dG (by dsimp only; omega)) : p := h
theorem qS {p : Prop} (h : p := by simp [Value.oneCell']) : p := h
theorem qL {p : Prop} (h : p := by first | (simp; done) | exact iU rfl) : p := h
inductive Re where
  | mk (kind:Int) (set:List (Int×Int)) (args:List Re) (mn mx:Int) (neg:Bool)
namespace Re
def kind:Re->Int | .mk k _ _ _ _ _=>k
def set:Re->List (Int×Int) | .mk _ s _ _ _ _=>s
def args:Re->List Re | .mk _ _ a _ _ _=>a
def mn:Re->Int | .mk _ _ _ m _ _=>m
def mx:Re->Int | .mk _ _ _ _ m _=>m
def neg:Re->Bool | .mk _ _ _ _ _ n=>n
mutual
def size:Re->Nat
  | .mk _ _ a _ _ _=>sizes a+1
def sizes:List Re->Nat
  | []=>0
  | t::ts=>size t+sizes ts
end
theorem size_pos (t:Re):0<t.size:=by cases t;simp[size]
theorem size_eq (t:Re):t.size=sizes t.args+1:=by cases t;rfl
theorem sizes_get {ts:List Re} {i:Nat} {t:Re} (h:ts[i]?=some t):t.size<=sizes ts:=by
 induction ts generalizing i with
 | nil=>simp at h
 | cons a r ih=>
  cases i with
  | zero=>simp at h;subst h;simp[sizes]
  | succ i=>simp at h;have:=ih h;simp[sizes];omega
theorem size_arg {t:Re} {i:Nat} {x:Re} (h:t.args[i]?=some x):x.size<t.size:=by
 have:=sizes_get h;rw[size_eq t];omega
theorem sizes_append (a b:List Re):sizes (a++b)=sizes a+sizes b:=by
 induction a with
 | nil=>simp[sizes]
 | cons x r ih=>simp[sizes,ih];omega
end Re
abbrev R6 (t:Re) (sa:oE) (sc:Nat) (aa:oE) (ac:Nat):oG:=#[.int .i64 t.kind,.slice sa t.set.length sc,.slice aa t.args.length ac,.int .i64 t.mn,.int .i64 t.mx,.bool t.neg]
theorem AX {α:Type} {l:List α} {i:Nat} {y:α} (h:l[i]?=some y):i<l.length:=by
 rcases eI i l.length with a|a
 .exact a
 .simp[eR a] at h
def BX (w:World) (k:Nat) (v:Value) (rows:List n_):Prop:=
 ∃a cap,v=.slice a rows.length cap∧rows.length<=9223372036854775807∧rows.length<=cap∧(rows=[]∨∃b o,a=some ⟨b,o,none⟩∧∀i r,rows[i]?=some r->BG w b (o+i*k) r)
theorem BX.ext {w w':World} {k:Nat} {v:Value} {rows:List n_} (h:BX w k v rows) (e:Ah w w'):BX w' k v rows:=by
 obtain ⟨a,cap,g,d,c,h⟩:=h;refine ⟨a,cap,g,d,c,?_⟩;rcases h with h|⟨b,o,j,c⟩
 .exact .inl h
 .exact .inr ⟨b,o,j,λi r f=>(c i r f).ext e⟩
theorem BX.nil (w:World) (k:Nat) (a:oE) (cap:Nat):BX w k (.slice a 0 cap) []:=⟨a,cap,O,qP,qP,.inl O⟩
theorem BX.at {w:World} {k:Nat} {a:oE} {n cap:Nat} {rows:List n_} (h:BX w k (.slice a n cap) rows) (hn:0<n) :
 ∃b o,a=some ⟨b,o,none⟩∧∀i r,rows[i]?=some r->BG w b (o+i*k) r:=by
 obtain ⟨a',cap',c,_,_,h⟩:=h;simp only[Value.slice.injEq] at c;obtain ⟨rfl,rfl,rfl⟩:=c;rcases h with rfl|h
 .simp at hn
 .exact h
theorem BX.le {w:World} {k:Nat} {v:Value} {rows:List n_} (h:BX w k v rows):rows.length<=9223372036854775807:=let ⟨_,_,_,h,_⟩:=h;h
theorem BX.cap {w:World} {k:Nat} {a:oE} {n c:Nat} {rows:List n_} (h:BX w k (.slice a n c) rows):n<=c∧rows.length=n:=by
 obtain ⟨a',cap',b,_,d,_⟩:=h;simp only[Value.slice.injEq] at b;obtain ⟨rfl,rfl,rfl⟩:=b;exact ⟨d,O⟩
theorem BX.form {w:World} {k:Nat} {v:Value} {rows:List n_} (h:BX w k v rows):∃a cap,v=.slice a rows.length cap:=let ⟨a,c,h,_⟩:=h;⟨a,c,h⟩
def GB (x:Int):n_:=[.int .i64 x]
def Ba (s:Int×Int):n_:=[.int .i64 s.1,.int .i64 s.2]
def Bw (w:World) (v:Value) (l:oB):Prop:=BX w 1 v (l.map GB)
def BP (w:World) (v:Value) (l:List (Int×Int)):Prop:=BX w 2 v (l.map Ba)
theorem Bw.ext {w w':World} {v:Value} {l:oB} (h:Bw w v l) (e:Ah w w'):Bw w' v l:=BX.ext h e
theorem BP.ext {w w':World} {v:Value} {l:List (Int×Int)} (h:BP w v l) (e:Ah w w'):BP w' v l:=BX.ext h e
theorem BG.at1 {w:World} {b o:Nat} {x y:Value} (h:BG w b o [x,y]):w.cell? ⟨b,o+1,none⟩=some y:=h 1 y O
theorem BG.at0 {w:World} {b o:Nat} {x:Value} {r:n_} (h:BG w b o (x::r)):w.cell? ⟨b,o,none⟩=some x:=h 0 x O
theorem BR {w:World} {a:oE} {n c:Nat} {l:List (Int×Int)} (h:BP w (.slice a n c) l) (hn:0<n) :
 ∃b o,a=some ⟨b,o,none⟩∧∀i s,l[i]?=some s->BG w b (o+i*2) [.int .i64 s.1,.int .i64 s.2]:=by
 obtain ⟨b,o,d,h⟩:=BX.at h hn;exact ⟨b,o,d,λi s hs=>h i (Ba s) (by simp[hs])⟩
mutual
def A3 (w:World):Re->List Value->Prop
  | .mk k set args mn mx ng,vs=>∃sa sc aa ac,vs=[.int .i64 k,.slice sa set.length sc,.slice aa args.length ac,.int .i64 mn,.int .i64 mx,.bool ng]∧BP w (.slice sa set.length sc) set∧(args.length<=ac∧ac<=9223372036854775807)∧
      (args=[]∨∃b o,aa=some ⟨b,o,none⟩∧CY w b o args)
def CY (w:World) (b:Nat):Nat->List Re->Prop
  | _,[]=>True
  | o,t::ts=>(∃vs,BG w b o vs∧A3 w t vs)∧CY w b (o+6) ts
end
mutual
theorem A3.ext {w w':World} (e:Ah w w'):∀(t:Re) {vs:n_},A3 w t vs->A3 w' t vs
 | .mk k set args mn mx ng,vs,h=>by
  simp only[A3] at h⊢;obtain ⟨sa,sc,aa,ac,c,hs,g,d⟩:=h;refine ⟨sa,sc,aa,ac,c,hs.ext e,g,?_⟩;rcases d with h|⟨b,o,a,f⟩
  .exact .inl h
  .exact .inr ⟨b,o,a,CY.ext e args f⟩
theorem CY.ext {w w':World} (e:Ah w w') {b:Nat}:∀(ts:List Re) {o:Nat},CY w b o ts->CY w' b o ts
 | [],_,_=>by simp only[CY]
 | t::ts,o,h=>by
  simp only[CY] at h⊢;obtain ⟨⟨vs,a,d⟩,c⟩:=h;exact ⟨⟨vs,a.ext e,A3.ext e t d⟩,CY.ext e ts c⟩
end
theorem CY.get {w:World} {b:Nat}:∀{ts:List Re} {o i:Nat} {t:Re},CY w b o ts->ts[i]?=some t->∃vs,BG w b (o+i*6) vs∧A3 w t vs
 | [],_,_,_,_,h=>by simp at h
 | x::ts,o,0,t,h,hi=>by
  simp only[CY] at h;simp at hi;subst hi;simpa using h.1
 | x::ts,o,i+1,t,h,hi=>by
  simp only[CY] at h;have:=CY.get h.2 (i:=i) (by simpa using hi)
  rwa [show o+(i+1)*6=o+6+i*6 from qO]
theorem CY.mk {w:World} {b:Nat}:∀{ts:List Re} {o:Nat},(∀i t,ts[i]?=some t->∃vs,BG w b (o+i*6) vs∧A3 w t vs)->CY w b o ts
 | [],_,_=>by simp only[CY]
 | x::ts,o,h=>by
  simp only[CY];refine ⟨by simpa using h 0 x O,CY.mk λi t hi=>?_⟩;have:=h (i+1) t (by simpa using hi)
  rwa [show o+(i+1)*6=o+6+i*6 from qO] at this
theorem A3.form {w:World} {t:Re} {vs:n_} (h:A3 w t vs):∃sa sc aa ac,vs=[.int .i64 t.kind,.slice sa t.set.length sc,.slice aa t.args.length ac,.int .i64 t.mn,.int .i64 t.mx,.bool t.neg]∧BP w (.slice sa t.set.length sc) t.set∧(t.args.length<=ac∧ac<=9223372036854775807)∧
 (t.args=[]∨∃b o,aa=some ⟨b,o,none⟩∧CY w b o t.args):=by
 cases t;simp only[A3] at h;exact h
theorem A3.of {w:World} {k:Int} {set:List (Int×Int)} {args:List Re} {mn mx:Int} {ng:Bool} {sa aa:oE} {sc ac:Nat} (hs:BP w (.slice sa set.length sc) set) (c:(args.length<=ac∧ac<=9223372036854775807)) (a:args=[]∨∃b o,aa=some ⟨b,o,none⟩∧CY w b o args) :
 A3 w (.mk k set args mn mx ng) [.int .i64 k,.slice sa set.length sc,.slice aa args.length ac,.int .i64 mn,.int .i64 mx,.bool ng]:=by
 simp only[A3];exact ⟨sa,sc,aa,ac,O,hs,c,a⟩
theorem A3.len {w:World} {t:Re} {vs:n_} (h:A3 w t vs):vs.length=6:=by
 obtain ⟨_,_,_,_,rfl,_⟩:=h.form;rfl
def CG (P:Program) (fv:Value) (args:oG) (w:World) (R:Value->World->Prop):Prop:=
 ∃ f fn first cap, fv = .func (.func f) first cap ∧ P.funcs[f]? = some fn ∧ (fn.name == "runtime.NumGoroutine") = false ∧ fn.body.isNone = false ∧ Bj P f (first ++ args ++ cap) w R
theorem CG.mk {P : Program} {f : FuncId} {a : Func} {first cap args ws : Array Value} {w : World} {R : Value → World → Prop} (b : P.funcs[f]? = some a) (hn : (a.name == "runtime.NumGoroutine") = false) (hb : a.body.isNone = false) (c : first ++ args ++ cap = ws) (h : Bj P f ws w R) :
 CG P (.func (.func f) first cap) args w R:=⟨f,a,first,cap,O,b,hn,hb,c▸h⟩
theorem DK {P:Program} {N:Nat} {Q:EF} {σ:CZ} {w:World} {K:CZ->World->Prop} {ops:Array Oper} {rest:List Oper} {d:Nat} {z:Operand} {args:List Operand} {tys:Array TypeId} {ty:TypeId} {pos:String} {af:Array Edge} {fv:Value} {vs:n_} {R:Value->World->Prop}
 (a:d<N) (e:ev σ z=fv) (g:args.map (ev σ)=vs) (b:CG P fv vs.toArray w R) (k:∀v w',R v w'->Dp P N ops K Q rest (Of σ d v) w') :
 Dp P N ops K Q (⟨some d,.call ⟨.value z,args.toArray,tys⟩,ty,pos,af,none⟩::rest) σ w:=by
 obtain ⟨f,fn,first,cap,rfl,h,hn,hb,c⟩:=b;exact OY O O a (Sl e h hn hb g O) c k
section
variable {S : Type} (F : S → Re → Bool × S)
mutual
def DL:Re->S->Bool×S
  | .mk k set args mn mx ng,s=>match F s (.mk k set args mn mx ng) with
    | (false,s')=>(false,s')
    | (true,s')=>Cx args s'
def Cx:List Re->S->Bool×S
  | [],s=>(true,s)
  | t::ts,s=>match DL t s with
    | (false,s')=>(false,s')
    | (true,s')=>Cx ts s'
end
theorem FT (t:Re) (s:S):DL F t s=if (F s t).1 then Cx F t.args (F s t).2 else (false,(F s t).2):=by
 cases t;simp only[DL,Re.args];split<;>rename_i h<;>simp[h]
theorem DX (t:Re) (ts:List Re) (s:S):Cx F (t::ts) s=if (DL F t s).1 then Cx F ts (DL F t s).2 else (false,(DL F t s).2):=by
 simp only[Cx];split<;>rename_i h<;>simp[h]
end
def Hg {α:Type} (p:α->Bool) (l:List α):Int:=match l.findIdx? p with
  | some i=>i
  | none=>-1
theorem Hf {α:Type} (p:α->Bool) (l:List α):decide (0<=Hg p l)=l.any p:=by
 unfold Hg;cases h:l.findIdx? p with
 | none=>
  have a:l.any p=false:=by
   rw[iL] at h;rw[kP];intro x b;simp[h x b]
  rw[a];decide
 | some i=>
  have a:l.any p=true:=by
   rw[gH] at h;obtain ⟨hi,c,_⟩:=h;rw[eX];exact ⟨_,mJ hi,c⟩
  rw[a];simp
theorem GC {α:Type} {p:α->Bool} {l:List α} {k:Nat} {x:α} (b:l[k]?=some x) (d:p x=true) (hb:∀i y,i<k->l[i]?=some y->p y=false):Hg p l=k:=by
 unfold Hg;have a:k<l.length:=by
  rcases eI k l.length with h|h
  .exact h
  .simp[eR h] at b
 have:l.findIdx? p=some k:=by
  rw[gH];refine ⟨a,?_,λj c=>?_⟩
  .rw[dM a] at b;cases b;exact d
  .have:=hb j l[j] c (dM qO);simp[this]
 rw[this]
theorem HF {α:Type} {p:α->Bool} {l:List α} (hb:∀(i:Nat) (y:α),l[i]?=some y->p y=false):Hg p l = -1:=by
 unfold Hg;have:l.findIdx? p=none:=by
  rw[iL];intro x a;obtain ⟨i,hi⟩:=eS.1 a;simp[hb i x hi]
 rw[this]
theorem BI {a b:Int} (h:a=b):Value.int .i64 a=.int .i64 b:=by rw[h]
theorem A' {a b:Bool} (h:a=b):Value.bool a=.bool b:=by rw[h]
theorem CX {w:World} {a:oE} {n c:Nat} {l:oB} (h:Bw w (.slice a n c) l) (hn:0<n) :
 ∃b o,a=some ⟨b,o,none⟩∧∀i x,l[i]?=some x->w.cell? ⟨b,o+i,none⟩=some (.int .i64 x):=by
 obtain ⟨b,o,e,h⟩:=BX.at h hn;refine ⟨b,o,e,λi x d=>?_⟩;have:=h i (GB x) (by simp[d]) 0 _ O;simpa using this
theorem AU {α:Type} {l:List α} {i:Nat} (h:i<l.length):∃x,l[i]?=some x:=⟨_,dM h⟩
theorem Bi {α:Type} {l:List α} {k:Nat} {x:α} (h:l[k]?=some x):l.drop k=x::l.drop (k+1):=by
 have a:=AX h;rw[i_ a];rw[dM a] at h;cases h;rfl
theorem GY {α:Type} {p:α->Bool} {l:List α} {k:Nat} {x:α} (c:l[k]?=some x) (d:p x=false) (a:∀(i:Nat) (y:α),i<k->l[i]?=some y->p y=false):∀(i:Nat) (y:α),i<k+1->l[i]?=some y->p y=false:=by
 intro i y hi b;rcases eI i k with h|h
 .exact a i y h b
 .obtain rfl:i=k:=qO
  rw[c] at b;cases b;exact d
theorem Kg {w:World} {b t k cap:Nat} {rows:List n_} (h:BV w b rows.flatten.toArray t) (d:∀r∈rows,r.length=k) (g:rows.length<=9223372036854775807) (a:rows.length<=cap):BX w k (.slice (some ⟨b,0,none⟩) rows.length cap) rows:=by
 refine ⟨_,cap,O,g,a,.inr ⟨b,0,O,λi r c j u f=>?_⟩⟩;have l:(rows.flatten)[i*k+j]?=some u:=by
  clear h g a
  induction rows generalizing i with
  | nil=>simp at c
  | cons x rs ih=>
   have e:x.length=k:=d x qP;cases i with
   | zero=>
    simp at c;subst c;have m:=AX f;simp only[fE,mK,eO];rw[dQ m];exact f
   | succ i=>
    simp at c;simp only[fE];rw[dX (by rw[e,iM];omega)];rw[show (i+1)*k+j - x.length=i*k+j from by rw[e,iM];omega];exact ih (λr c=>d r (by simp[c])) _ c
 rw[eO];exact h.cell (by simpa using l)
theorem FX {w:World} {b t cap:Nat} (l:oB) (h:BV w b (l.map GB).flatten.toArray t) (d:l.length<=9223372036854775807) (a:l.length<=cap):Bw w (.slice (some ⟨b,0,none⟩) l.length cap) l:=by
 have:=Kg (k:=1) (cap:=cap) h (by intro r c;simp only[eU] at c;obtain ⟨x,_,rfl⟩:=c;rfl) (by simpa using d) (by simpa using a);simpa[Bw] using this
theorem Od {w:World} {b t cap:Nat} (l:List (Int×Int)) (h:BV w b (l.map Ba).flatten.toArray t) (d:l.length<=9223372036854775807) (a:l.length<=cap):BP w (.slice (some ⟨b,0,none⟩) l.length cap) l:=by
 have:=Kg (k:=2) (cap:=cap) h (by intro r c;simp only[eU] at c;obtain ⟨x,_,rfl⟩:=c;rfl) (by simpa using d) (by simpa using a);simpa[BP] using this
theorem A3.one {w:World} {t:Re} {vs:n_} (h:A3 w t vs):∀u∈vs,u.oneCell'=true:=by
 obtain ⟨_,_,_,_,rfl,_⟩:=h.form;simp[Value.oneCell']
end Go.Eng
namespace Go.Eng
open Go
def Yw:Nat->(Nat->Bool)->Nat
  | 0,_=>0
  | n+1,f=>Yw n f+(if f n then 2 ^ n else 0)
abbrev Rl:=Nat->Nat->Bool
def DY (A B:Rl) (n:Nat):Rl:=λi k=>decide (i<=n) && (List.range 25).any λj=>A i j && B j k
def Z6 (A B:Rl):Rl:=λi j=>A i j || B i j
def Yj (A B:Rl):Rl:=λi j=>A i j && B i j
def Q0 (n:Nat):Rl:=λi j=>decide (i<=n) && decide (j=i)
def Uj:Rl:=λ_ _=>false
def Ca (l:List (Int×Int)) (r:Int):Bool:=l.any λs=>decide (s.1<=r) && decide (r<=s.2)
def ZJ (text:oB) (set:List (Int×Int)):Rl:=λi j=>(match text[i]? with|some c=>Ca set c|none=>false) && decide (j=i+1)
def Zc (n:Nat) (A:Rl):Rl:=λi j=>(decide (i<=n) && (decide (i<=j) && decide (j<=n))) && !A i j
def SV (n:Nat) (A:Rl):Nat->Rl
  | 0=>Q0 n
  | m+1=>Z6 (SV n A m) (DY (SV n A m) A n)
def ZV (n:Nat) (A:Rl):Nat->Rl
  | 0=>Q0 n
  | m+1=>DY (ZV n A m) A n
def VH (n:Nat) (A:Rl) (mn:Int):Nat->Rl
  | 0=>Uj
  | m+1=>if mn<=(m:Int) then Z6 (VH n A mn m) (ZV n A m) else VH n A mn m
def Vl (n:Nat) (A:Rl) (neg:Bool):Rl:=λi j=>(decide (i<=n) && decide (j=i)) && (decide (Yw 25 (A i)≠0) != neg)
def Tr (text:oB) (k:Int) (set:List (Int×Int)) (L:List Rl) (mn mx:Int) (ng:Bool):Rl:=
 if k=1 then Q0 text.length else if k=2 then ZJ text set
 else if k=3 then L.foldl (λa x=>DY a x text.length) (Q0 text.length)
 else if k=4 then L.foldl Z6 Uj
 else if k=7 then L.foldl Yj (L.headD Uj)
 else if k=8 then Zc text.length (L.headD Uj)
 else if k=5 then SV text.length (L.headD Uj) (text.length+1)
 else if k=6 then VH text.length (L.headD Uj) mn (mx+1).toNat
 else if k=9 then L.headD Uj
 else if k=10 then Vl text.length (L.headD Uj) ng
 else Uj
mutual
def Eb (text:oB):Re->Rl
  | .mk k set args mn mx ng=>Tr text k set (Hx text args) mn mx ng
def Hx (text:oB):List Re->List Rl
  | []=>[]
  | t::ts=>Eb text t::Hx text ts
end
theorem Tq (text:oB) (ts:List Re):Hx text ts=ts.map (Eb text):=by
 induction ts with
 | nil=>rfl
 | cons t ts ih=>simp[Hx,ih]
theorem VJ (text:oB) (t:Re):Eb text t=Tr text t.kind t.set (t.args.map (Eb text)) t.mn t.mx t.neg:=by
 cases t;simp[Eb,Tq,Re.kind,Re.set,Re.args,Re.mn,Re.mx,Re.neg]
theorem BB {w:World} {base e size n:Nat} {v:Value} {xs:n_} (h:w.ownsRow base e size v n xs):∃a c,v=.slice a n c:=by
 rcases h.2 with ⟨rfl,rfl⟩|⟨g,cap,cur,rfl,_⟩
 .exact ⟨_,_,O⟩
 .exact ⟨_,_,O⟩
theorem CH {M:oD} {w w':World} {base e size n:Nat} {v:Value} {xs:n_} (h:w.ownsRow base e size v n xs) (c:Chg M w w') (d:∀k,v.ownBlock=some k->¬M k):w'.ownsRow base e size v n xs:=by
 refine ⟨h.1,?_⟩;rcases h.2 with hn|⟨g,cap,b,rfl,hb,a,rest⟩
 .exact .inl hn
 .refine .inr ⟨g,cap,b,O,hb,?_,rest⟩;rw[c.blk g (fT.1 a).1 (d g O)];exact a
theorem Xo {w:World} {base e size n m cap:Nat} {a:oE} {xs:n_} (h:w.ownsRow base e size (.slice a n cap) n xs) (l:m<=n) (h0:0<n):w.ownsRow base e size (.slice a m cap) m (xs.take (m*size)):=by
 rcases h.2 with ⟨h1,rfl⟩|⟨g,cap',d,k,hb,c,hnc,j,i,b⟩
 .omega
 .simp only[Value.slice.injEq] at k;obtain ⟨rfl,_,rfl⟩:=k;have f:m*size<=n*size:=iC _ l;refine ⟨by rw[gE,h.1];omega,.inr ⟨g,cap,d,O,hb,c,qO,j,i,?_⟩⟩;rw[<-b,List.take_take,lK f]
theorem Az {w w':World} {base e size n:Nat} {v:Value} {xs:n_} (h:w.ownsRow base e size v n xs) (c:Ah w w'):w'.ownsRow base e size v n xs:=CH h c λ_ _ f=>f
theorem Co {w:World} {base e size n:Nat} {a:oE} {c:Nat} {xs:n_} (h:w.ownsRow base e size (.slice a n c) n xs) (hn:0<n) :
 ∃g,a=some ⟨g,0,none⟩∧base<=g∧BG w g 0 xs:=by
 rcases h.2 with ⟨h1,rfl⟩|⟨g,cap,cur,b,hb,hgg,_,_,_,htake⟩
 .omega
 .simp only[Value.slice.injEq] at b;obtain ⟨rfl,_,rfl⟩:=b;refine ⟨g,O,hb,λi v b=>?_⟩;have:=h.cells (g:=g) O i v b
  rwa [Addr.add_lit] at this
theorem Di {w:World} {base e k n:Nat} {v:Value} {rows:List n_} (h:w.ownsRow base e k v n rows.flatten) (m:∀r∈rows,r.length=k) (hn:rows.length=n) (hpos:0<k):BX w k v rows:=by
 obtain ⟨s,q⟩:=h;rcases q with ⟨rfl,rfl⟩|⟨g,cap,cur,rfl,hb,c,hnc,l,hcs,a⟩
 .have:rows=[]:=eD hn;subst this;exact BX.nil w k _ _
 .refine ⟨_,cap,by rw[hn],by simp only[maxLen] at l;omega,qO,.inr ⟨g,0,O,λi r b j u p=>?_⟩⟩;have d:(rows.flatten)[i*k+j]?=some u:=by
   clear a c s hn
   induction rows generalizing i with
   | nil=>simp at b
   | cons x rs ih=>
    have o:x.length=k:=m x qP;cases i with
    | zero=>
     simp at b;subst b;have t:=AX p;simp only[fE,mK,eO];rw[dQ t];exact p
    | succ i=>
     simp at b;simp only[fE];rw[dX (by rw[o,iM];omega)];rw[show (i+1)*k+j - x.length=i*k+j from by rw[o,iM];omega];exact ih (λr b=>m r (by simp[b])) _ b
  rw[<-a] at d;have f:i*k+j<n*k:=by
   have:=AX d;simp at this;omega
  rw[gL f] at d;show w.cell? ⟨g,0+i*k+j,none⟩=some u;rw[eO];simp only[World.cell?,c];simpa using d
theorem Jk {P:Program} {w w':World} {base t ty e size bytes n m c:Nat} {i:TypeInfo} {z v v':Value} {xs news:n_} {a:Addr} (D:P.underlying t=some (.slice e)) (hi:P.info? e=some i) (H:i.zero=some z) (o:i.size=size) (y:i.bytes=bytes) (E:z.cells.size=size) (G:0<size)
 (f:w.ownsRow base e size v n xs) (B:news.length=m*size) (b:∀j u,news[j]?=some u->w.cell? (a.add j)=some u) (I:∀u∈news,u.oneCell'=true) (A:n+m<=maxLen) (d:(n+m)*bytes<=140737488355328)
 (q:(Builtin.append_ #[t,t] ty #[v,.slice (some a) m c]).run P w=.ok v' w'):∀k,v'.ownBlock=some k->v.ownBlock=some k∨w.heap.size<=k:=by
 rcases f.2 with ⟨rfl,rfl⟩|⟨g,cap,r,rfl,hbg,J,hnc,hcm,C,htake⟩
 .have K:xs=[]:=eD (by simpa using f.1);subst K;obtain ⟨v2,w2,h,F,_⟩:=run_append_own (P:=P) w w.heap.size t ty e i z size bytes D hi H o y E G (.slice none 0 0) 0 [] (World.ownsRow_nil w w.heap.size e size) a m c news B b I A d (dU _);rw[h] at q;cases q;intro k s;exact .inr (F.lt k s).1
 .have hsmall:n+m<=9223372036854775807:=by simp only[maxLen] at A;omega
  subst o;subst y
  by_cases l:n+m<=cap
  .have x:n*i.size+news.length<=r.size:=by rw[B,C,<-nX];exact iC _ l
   have h:=run_append_room (P:=P) w t ty e i D hi g n cap r J a m c news B b I l x;rw[h] at q;cases q;intro k s;exact .inl s
  .have p:∀j u,xs[j]?=some u->w.cell? ((⟨g,0,none⟩:Addr).add j)=some u:=f.cells (g:=g) O;have h:=run_append_grow (P:=P) w t ty e i z D hi H ⟨g,0,none⟩ n cap xs f.1 p a m c news B b qO qO (growslice_fits qO d);rw[h] at q;cases q;intro k s;simp only[Value.ownBlock,fI] at s;exact .inr qO
theorem Jl {P:Program} {w w':World} {base t ty e size bytes n m c:Nat} {i:TypeInfo} {z v v':Value} {xs news:n_} {a:Addr} (s:P.underlying t=some (.slice e)) (hi:P.info? e=some i) (C:i.zero=some z) (p:i.size=size) (y:i.bytes=bytes)
 (k:w.ownsRow base e size v n xs) (x:news.length=m*size) (b:∀j u,news[j]?=some u->w.cell? (a.add j)=some u) (G:∀u∈news,u.oneCell'=true) (B:n+m<=maxLen) (d:(n+m)*bytes<=140737488355328)
 (l:(Builtin.append_ #[t,t] ty #[v,.slice (some a) m c]).run P w=.ok v' w'):w.drawn<=w'.drawn:=by
 have hsmall:n+m<=9223372036854775807:=by simp only[maxLen] at B;omega
 subst p;subst y
 rcases k.2 with ⟨rfl,rfl⟩|⟨g,cap,q,rfl,hbg,E,hnc,hcm,A,htake⟩
 .by_cases D:m=0
  .subst D;have F:(Builtin.append_ #[t,t] ty #[.slice none 0 0,.slice (some a) 0 c]).run P w=.ok (.slice none 0 0) w:=by
    simp[Builtin.append_,run_underlying s,sizeOf,typeInfo,hi,Builtin.lenOf,Builtin.firstCells,loadCells,loadCellsFrom]
   rw[F] at l;cases l;exact dU _
  .have f:=run_append_nil (P:=P) w t ty e i z s hi C a m c news x b qO qO (by have hb:=d;simp only[eO] at hb;omega);rw[f] at l;cases l;exact nW _
 .by_cases h:n+m<=cap
  .have r:n*i.size+news.length<=q.size:=by rw[x,A,<-nX];exact iC _ h
   have f:=run_append_room (P:=P) w t ty e i s hi g n cap q E a m c news x b G h r;rw[f] at l;cases l;exact dU _
  .have o:∀j u,xs[j]?=some u->w.cell? ((⟨g,0,none⟩:Addr).add j)=some u:=k.cells (g:=g) O;have f:=run_append_grow (P:=P) w t ty e i z s hi C ⟨g,0,none⟩ n cap xs k.1 o a m c news x b qO qO (growslice_fits qO d);rw[f] at l;cases l;exact nW _
theorem BQ {P:Program} {N:Nat} {Q:EF} {σ:CZ} {w:World} {K:CZ->World->Prop} {ops:Array Oper} {rest:List Oper} {d:Nat} {ty:TypeId} {pos:String} {af:Array Edge} {t:TypeId} {s x:Operand}
 {base e size bytes n m c G C:Nat} {z v:Value} {xs news:n_} (J:d<N) (E:P.underlying t=some (.slice e)) (f:EI P e size) (l:Js P e bytes) (r:FP P e z) (A:z.cells.size=size) (I:0<size)
 (hs:ev σ s=v) (o:w.ownsRow base e size v n xs) (L:ev σ x=.slice (some ⟨G,C,none⟩) m c) (F:news.length=m*size) (g:BG w G C news) (H:∀u∈news,u.oneCell'=true)
 (q:n+m<=maxLen) (a:(n+m)*bytes<=140737488355328) (p:base<=w.heap.size)
 (k:∀v' w',w'.ownsRow base e size v' (n+m) (xs++news)->Chg (λx=>v.ownBlock=some x) w w'->(∀k,v'.ownBlock=some k->v.ownBlock=some k∨w.heap.size<=k)->Dp P N ops K Q rest (Of σ d v') w') :
 Dp P N ops K Q (⟨some d,.call ⟨.builtin .append,#[s,x],#[t,t]⟩,ty,pos,af,none⟩::rest) σ w:=by
 unfold EI at f;unfold Js at l;unfold FP at r;cases hi:P.info? e with
 | none=>rw[hi] at f;simp at f
 | some i=>
 rw[hi] at f l r;simp at f l r;obtain ⟨v',w',D,M,y,_⟩:=run_append_own (P:=P) w base t ty e i z size bytes E hi r f l A I v n xs o ⟨G,C,none⟩ m c news F (λj u B=>by rw[Addr.add_lit];exact g j u B) H q a p;refine CM (v:=v') (w':=w') O O J ?_ (k v' w' M ⟨y.os,y.tape,y.output,Jl (P:=P) E hi r f l o F (λj u B=>by rw[Addr.add_lit];exact g j u B) H q a D,y.size,λb hb hn=>y.block b hb (λh=>hn h.symm)⟩ (Jk (P:=P) E hi r f l A I o F (λj u B=>by rw[Addr.add_lit];exact g j u B) H q a D));simp[execOp,resolve,invoke,builtin,hs,L,D]
end Go.Eng
namespace Go.Proofs
open Go Go.Eng
set_option maxRecDepth 100000
structure LzA (α:Type) where
 dom:α->Prop
 kn:α->Int->Prop
 n:Nat
 made:Int
 drops:Int
def Et (x:Int):Int:=IntKind.i64.wrap (x+1)
section
variable {α : Type} (D : α → Int → α) (most : Nat)
open Classical in
noncomputable def holdA (a:LzA α) (t:α):LzA α:=
 if a.dom t then a else if a.n=most then ⟨λx=>x=t,λ_ _=>False,1,a.made,Et a.drops⟩ else ⟨λx=>a.dom x∨x=t,a.kn,a.n+1,a.made,a.drops⟩
open Classical in
noncomputable def knowA (a:LzA α) (t:α) (c:Int):LzA α:=if a.dom t then {a with kn:=λx y=>a.kn x y∨(x=t∧y=c)} else a
def GR (a:LzA α):LzA α:={a with made:=Et a.made}
open Classical in
noncomputable def stepA (a:LzA α) (t:α) (c:Int):LzA α:=if a.kn t c then a else knowA (holdA most (GR a) (D t c)) t c
noncomputable def runA:LzA α->α->List Int->LzA α
  | a,_,[]=>a
  | a,t,c::w=>runA (stepA D most a t c) (D t c) w
def GV (t:α) (w:oB):α:=w.foldl D t
noncomputable def matchA (a:LzA α) (t:α) (w:oB):LzA α:=runA D most (holdA most a t) t w
structure LzA.Ok (a:LzA α):Prop where
 kd:∀t c,a.kn t c->a.dom t∧a.dom (D t c)
 le:a.n<=most
def LzA.zero:LzA α:=⟨λ_=>False,λ_ _=>False,0,0,0⟩
end
section
variable {α : Type} {D : α → Int → α} {most : Nat} {a b : LzA α} {t u : α} {c : Int}
theorem LzA.Ok.zero:(LzA.zero:LzA α).Ok D most:=⟨λ_ _ h=>h.elim,dR _⟩
theorem GD (h:a.dom t):holdA most a t=a:=by unfold holdA;rw[if_pos h]
theorem FB (h:¬a.dom t) (hn:a.n=most):holdA most a t=⟨λx=>x=t,λ_ _=>False,1,a.made,Et a.drops⟩:=by unfold holdA;rw[if_neg h,if_pos hn]
theorem FY (h:¬a.dom t) (hn:a.n≠most):holdA most a t=⟨λx=>a.dom x∨x=t,a.kn,a.n+1,a.made,a.drops⟩:=by unfold holdA;rw[if_neg h,if_neg hn]
theorem MF:(holdA most a t).dom t:=by
 by_cases h:a.dom t
 .rw[GD h];exact h
 by_cases hn:a.n=most
 .rw[FB h hn]
 .rw[FY h hn];exact .inr O
theorem IU:(holdA most a t).made=a.made:=by
 by_cases h:a.dom t
 .rw[GD h]
 by_cases hn:a.n=most
 .rw[FB h hn]
 .rw[FY h hn]
theorem LC (b:1<=most) (h:a.Ok D most):(holdA most a t).Ok D most:=by
 by_cases hd:a.dom t
 .rw[GD hd];exact h
 by_cases hn:a.n=most
 .rw[FB hd hn];exact ⟨λ_ _ f=>f.elim,b⟩
 .rw[FY hd hn];exact ⟨λx y f=>⟨.inl (h.kd x y f).1,.inl (h.kd x y f).2⟩,by have:=h.le;show a.n+1<=most;omega⟩
theorem Gk (h:a.dom t):knowA a t c={a with kn:=λx y=>a.kn x y∨(x=t∧y=c)}:=by unfold knowA;rw[if_pos h]
theorem FW (h:¬a.dom t):knowA a t c=a:=by unfold knowA;rw[if_neg h]
theorem Vv {x:α}:(knowA a t c).dom x↔a.dom x:=by
 by_cases h:a.dom t
 .rw[Gk h]
 .rw[FW h]
theorem Vu:(knowA a t c).n=a.n:=by
 by_cases h:a.dom t
 .rw[Gk h]
 .rw[FW h]
theorem KF:(knowA a t c).made=a.made:=by
 by_cases h:a.dom t
 .rw[Gk h]
 .rw[FW h]
theorem GM (h:a.kn t c):stepA D most a t c=a:=by unfold stepA;rw[if_pos h]
theorem G3 (h:¬a.kn t c):stepA D most a t c=knowA (holdA most (GR a) (D t c)) t c:=by unfold stepA;rw[if_neg h]
theorem PP (e:1<=most) (h:a.Ok D most):(stepA D most a t c).Ok D most:=by
 by_cases d:a.kn t c
 .rw[GM d];exact h
 .rw[G3 d];have b:(holdA most (GR a) (D t c)).Ok D most:=LC e ⟨h.kd,h.le⟩;by_cases hd:(holdA most (GR a) (D t c)).dom t
  .rw[Gk hd];exact ⟨λx y f=>by
    rcases f with f|⟨rfl,rfl⟩
    .exact b.kd x y f
    .exact ⟨hd,MF⟩,b.le⟩
  .rw[FW hd];exact b
theorem Te (h:a.Ok D most):(stepA D most a t c).dom (D t c):=by
 by_cases b:a.kn t c
 .rw[GM b];exact (h.kd t c b).2
 .rw[G3 b,Vv];exact MF
variable {mx j : Nat} {t0 : α} {x y : LzA α}
theorem Se (b:1<=most):∀(w:oB) {a:LzA α} {t:α},a.Ok D most->(runA D most a t w).Ok D most
 | [],_,_,h=>h
 | _::w,_,_,h=>Se b w (PP b h)
end
end Go.Proofs
namespace Go.Proofs
open Go.Shelf
def Tryz.sortSp_ren:Go.Shelf.Ren:=⟨fun|6=>110|15=>107|14=>137|28=>134|29=>135|20=>157|21=>158|22=>159|23=>160|24=>161|25=>162|26=>163|27=>164|46=>176|47=>152|48=>153|49=>177|50=>178|57=>187|n=>n,fun|22=>22|24=>80|25=>142|3=>3|39=>139|0=>0|53=>100|55=>159|4=>4|46=>152|45=>151|50=>106|5=>5|9=>9|66=>166|70=>170|76=>184|77=>185|n=>n,fun|n=>n⟩
theorem Tryz.sortSp:Go.Proofs.SlLaysF0.n6 prog Tryz.sortSp_ren:={
 mixed:=by kernel_rfl
 f6:=⟨Tryz.f110.name,qD,func110.trans (congrArg some qK)⟩
 f14:=⟨Tryz.f137.name,qD,func137.trans (congrArg some qK)⟩
 f15:=func107.trans (congrArg some qK)
 f20:=⟨Tryz.f157.name,qD,func157.trans (congrArg some qK)⟩
 f21:=⟨Tryz.f158.name,qD,func158.trans (congrArg some qK)⟩
 f22:=⟨Tryz.f159.name,qD,func159.trans (congrArg some qK)⟩
 f23:=⟨Tryz.f160.name,qD,func160.trans (congrArg some qK)⟩
 f24:=⟨Tryz.f161.name,qD,func161.trans (congrArg some qK)⟩
 f25:=⟨Tryz.f162.name,qD,func162.trans (congrArg some qK)⟩
 f26:=⟨Tryz.f163.name,qD,func163.trans (congrArg some qK)⟩
 f27:=⟨Tryz.f164.name,qD,func164.trans (congrArg some qK)⟩
 f28:=func134.trans (congrArg some qK)
 f29:=func135.trans (congrArg some qK)
 f46:=⟨Tryz.f176.name,qD,func176.trans (congrArg some qK)⟩
 f47:=func152.trans (congrArg some qK)
 f48:=func153.trans (congrArg some qK)
 f49:=⟨Tryz.f177.name,qD,func177.trans (congrArg some qK)⟩
 f50:=⟨Tryz.f178.name,qD,func178.trans (congrArg some qK)⟩
 f57:=⟨Tryz.f187.name,qD,func187.trans (congrArg some qK)⟩
 t0:=lW
 a0:=Tryz.isAgg0
 z0:=Tryz.sizeOf0
 v0:=Tryz.zeroValue0
 t3:=fY
 a3:=Tryz.isAgg3
 z3:=Tryz.sizeOf3
 v3:=Tryz.zeroValue3
 t4:=hU
 a4:=Tryz.isAgg4
 z4:=Tryz.sizeOf4
 v4:=Tryz.zeroValue4
 t5:=kV
 a5:=Tryz.isAgg5
 z5:=Tryz.sizeOf5
 v5:=Tryz.zeroValue5
 t9:=hY
 a9:=Tryz.isAgg9
 z9:=Tryz.sizeOf9
 v9:=Tryz.zeroValue9
 t22:=dS
 a22:=Tryz.isAgg22
 z22:=Tryz.sizeOf22
 v22:=Tryz.zeroValue22
 t25:=underlying142
 a25:=Tryz.isAgg142
 z25:=Tryz.sizeOf142
 v25:=Tryz.zeroValue142
 t39:=jZ
 a39:=Tryz.isAgg139
 z39:=Tryz.sizeOf139
 v39:=Tryz.zeroValue139
 t45:=underlying151
 a45:=Tryz.isAgg151
 z45:=Tryz.sizeOf151
 v45:=Tryz.zeroValue151
 t46:=underlying152
 a46:=Tryz.isAgg152
 z46:=Tryz.sizeOf152
 v46:=Tryz.zeroValue152
 t50:=underlying106
 a50:=Tryz.isAgg106
 z50:=Tryz.sizeOf106
 v50:=Tryz.zeroValue106
 t53:=mC
 a53:=Tryz.isAgg100
 z53:=Tryz.sizeOf100
 v53:=Tryz.zeroValue100
 t55:=mD
 a55:=Tryz.isAgg159
 z55:=Tryz.sizeOf159
 v55:=Tryz.zeroValue159
 t66:=underlying166
 a66:=Tryz.isAgg166
 z66:=Tryz.sizeOf166
 v66:=Tryz.zeroValue166
 t70:=underlying170
 a70:=Tryz.isAgg170
 z70:=Tryz.sizeOf170
 v70:=Tryz.zeroValue170
 t76:=underlying184
 a76:=Tryz.isAgg184
 z76:=Tryz.sizeOf184
 v76:=Tryz.zeroValue184
 t77:=underlying185
 a77:=Tryz.isAgg185
 z77:=Tryz.sizeOf185
 v77:=Tryz.zeroValue185}
def Tryz.sortRe_ren:Go.Shelf.Ren:=⟨fun|6=>170|15=>107|14=>179|28=>134|29=>135|20=>188|21=>189|22=>190|23=>191|24=>192|25=>193|26=>194|27=>195|46=>201|47=>152|48=>153|49=>202|50=>203|57=>205|n=>n,fun|22=>23|24=>25|25=>144|3=>3|39=>139|0=>0|53=>100|55=>159|4=>4|46=>152|45=>151|50=>106|5=>5|9=>9|66=>166|70=>170|76=>184|77=>185|n=>n,fun|n=>n⟩
theorem Tryz.sortRe:Go.Proofs.SlLaysF0.n6 prog Tryz.sortRe_ren:={
 mixed:=by kernel_rfl
 f6:=⟨Tryz.f170.name,qD,func170.trans (congrArg some qK)⟩
 f14:=⟨Tryz.f179.name,qD,func179.trans (congrArg some qK)⟩
 f15:=func107.trans (congrArg some qK)
 f20:=⟨Tryz.f188.name,qD,func188.trans (congrArg some qK)⟩
 f21:=⟨Tryz.f189.name,qD,func189.trans (congrArg some qK)⟩
 f22:=⟨Tryz.f190.name,qD,func190.trans (congrArg some qK)⟩
 f23:=⟨Tryz.f191.name,qD,func191.trans (congrArg some qK)⟩
 f24:=⟨Tryz.f192.name,qD,func192.trans (congrArg some qK)⟩
 f25:=⟨Tryz.f193.name,qD,func193.trans (congrArg some qK)⟩
 f26:=⟨Tryz.f194.name,qD,func194.trans (congrArg some qK)⟩
 f27:=⟨Tryz.f195.name,qD,func195.trans (congrArg some qK)⟩
 f28:=func134.trans (congrArg some qK)
 f29:=func135.trans (congrArg some qK)
 f46:=⟨Tryz.f201.name,qD,func201.trans (congrArg some qK)⟩
 f47:=func152.trans (congrArg some qK)
 f48:=func153.trans (congrArg some qK)
 f49:=⟨Tryz.f202.name,qD,func202.trans (congrArg some qK)⟩
 f50:=⟨Tryz.f203.name,qD,func203.trans (congrArg some qK)⟩
 f57:=⟨Tryz.f205.name,qD,func205.trans (congrArg some qK)⟩
 t0:=lW
 a0:=Tryz.isAgg0
 z0:=Tryz.sizeOf0
 v0:=Tryz.zeroValue0
 t3:=fY
 a3:=Tryz.isAgg3
 z3:=Tryz.sizeOf3
 v3:=Tryz.zeroValue3
 t4:=hU
 a4:=Tryz.isAgg4
 z4:=Tryz.sizeOf4
 v4:=Tryz.zeroValue4
 t5:=kV
 a5:=Tryz.isAgg5
 z5:=Tryz.sizeOf5
 v5:=Tryz.zeroValue5
 t9:=hY
 a9:=Tryz.isAgg9
 z9:=Tryz.sizeOf9
 v9:=Tryz.zeroValue9
 t22:=dJ
 a22:=Tryz.isAgg23
 z22:=Tryz.sizeOf23
 v22:=Tryz.zeroValue23
 t25:=underlying144
 a25:=Tryz.isAgg144
 z25:=Tryz.sizeOf144
 v25:=Tryz.zeroValue144
 t39:=jZ
 a39:=Tryz.isAgg139
 z39:=Tryz.sizeOf139
 v39:=Tryz.zeroValue139
 t45:=underlying151
 a45:=Tryz.isAgg151
 z45:=Tryz.sizeOf151
 v45:=Tryz.zeroValue151
 t46:=underlying152
 a46:=Tryz.isAgg152
 z46:=Tryz.sizeOf152
 v46:=Tryz.zeroValue152
 t50:=underlying106
 a50:=Tryz.isAgg106
 z50:=Tryz.sizeOf106
 v50:=Tryz.zeroValue106
 t53:=mC
 a53:=Tryz.isAgg100
 z53:=Tryz.sizeOf100
 v53:=Tryz.zeroValue100
 t55:=mD
 a55:=Tryz.isAgg159
 z55:=Tryz.sizeOf159
 v55:=Tryz.zeroValue159
 t66:=underlying166
 a66:=Tryz.isAgg166
 z66:=Tryz.sizeOf166
 v66:=Tryz.zeroValue166
 t70:=underlying170
 a70:=Tryz.isAgg170
 z70:=Tryz.sizeOf170
 v70:=Tryz.zeroValue170
 t76:=underlying184
 a76:=Tryz.isAgg184
 z76:=Tryz.sizeOf184
 v76:=Tryz.zeroValue184
 t77:=underlying185
 a77:=Tryz.isAgg185
 z77:=Tryz.sizeOf185
 v77:=Tryz.zeroValue185}
def Tryz.itoaS_ren:Go.Shelf.Ren:=⟨fun|171=>118|243=>148|246=>174|283=>183|284=>184|285=>185|286=>186|129=>135|317=>197|318=>198|319=>199|320=>200|337=>95|338=>204|n=>n,fun|3=>3|9=>9|2=>2|4=>4|171=>193|0=>0|53=>159|37=>105|5=>5|173=>195|212=>205|51=>100|20=>20|213=>206|46=>139|232=>148|233=>210|n=>n,fun|17=>1|18=>0|19=>2|n=>n⟩
theorem Tryz.itoaS:Go.Proofs.LaysM.n171 prog Tryz.itoaS_ren:={
 mixed:=by kernel_rfl
 f129:=func135.trans (congrArg some qK)
 f171:=nA.trans (congrArg some qK)
 f243:=func148.trans (congrArg some qK)
 f246:=func174.trans (congrArg some qK)
 f283:=func183.trans (congrArg some qK)
 f284:=func184.trans (congrArg some qK)
 f285:=func185.trans (congrArg some qK)
 f286:=func186.trans (congrArg some qK)
 f317:=func197.trans (congrArg some qK)
 f318:=func198.trans (congrArg some qK)
 f319:=func199.trans (congrArg some qK)
 f320:=func200.trans (congrArg some qK)
 f337:=func95.trans (congrArg some qK)
 f338:=func204.trans (congrArg some qK)
 t0:=lW
 a0:=Tryz.isAgg0
 z0:=Tryz.sizeOf0
 v0:=Tryz.zeroValue0
 t2:=underlying2
 a2:=Tryz.isAgg2
 z2:=Tryz.sizeOf2
 v2:=Tryz.zeroValue2
 t3:=fY
 a3:=Tryz.isAgg3
 z3:=Tryz.sizeOf3
 v3:=Tryz.zeroValue3
 t4:=hU
 a4:=Tryz.isAgg4
 z4:=Tryz.sizeOf4
 v4:=Tryz.zeroValue4
 t5:=kV
 a5:=Tryz.isAgg5
 z5:=Tryz.sizeOf5
 v5:=Tryz.zeroValue5
 t9:=hY
 a9:=Tryz.isAgg9
 z9:=Tryz.sizeOf9
 v9:=Tryz.zeroValue9
 t20:=underlying20
 a20:=Tryz.isAgg20
 z20:=Tryz.sizeOf20
 v20:=Tryz.zeroValue20
 t37:=kY
 a37:=Tryz.isAgg105
 z37:=Tryz.sizeOf105
 v37:=Tryz.zeroValue105
 t46:=jZ
 a46:=Tryz.isAgg139
 z46:=Tryz.sizeOf139
 v46:=Tryz.zeroValue139
 t51:=mC
 a51:=Tryz.isAgg100
 z51:=Tryz.sizeOf100
 v51:=Tryz.zeroValue100
 t53:=mD
 a53:=Tryz.isAgg159
 z53:=Tryz.sizeOf159
 v53:=Tryz.zeroValue159
 t171:=underlying193
 a171:=Tryz.isAgg193
 z171:=Tryz.sizeOf193
 v171:=Tryz.zeroValue193
 t173:=underlying195
 a173:=Tryz.isAgg195
 z173:=Tryz.sizeOf195
 v173:=Tryz.zeroValue195
 t212:=underlying205
 a212:=Tryz.isAgg205
 z212:=Tryz.sizeOf205
 v212:=Tryz.zeroValue205
 t213:=underlying206
 a213:=Tryz.isAgg206
 z213:=Tryz.sizeOf206
 t232:=underlying148
 a232:=Tryz.isAgg148
 z232:=Tryz.sizeOf148
 v232:=Tryz.zeroValue148
 t233:=underlying210
 a233:=Tryz.isAgg210
 z233:=Tryz.sizeOf210
 v233:=Tryz.zeroValue210
 g17:=by kernel_rfl
 g18:=by kernel_rfl
 g19:=by kernel_rfl
 i0:=by kernel_rfl
 i2:=by kernel_rfl
 i3:=by kernel_rfl
 i4:=by kernel_rfl
 i5:=by kernel_rfl
 i9:=by kernel_rfl
 i20:=by kernel_rfl
 i37:=by kernel_rfl
 i46:=by kernel_rfl
 i51:=by kernel_rfl
 i53:=by kernel_rfl
 i171:=by kernel_rfl
 i173:=by kernel_rfl
 i212:=by kernel_rfl
 i232:=by kernel_rfl
 i233:=by kernel_rfl
 m17:=by kernel_rfl
 m18:=by kernel_rfl
 m19:=by kernel_rfl}
def Tryz.mapCl_ren:Go.Shelf.Ren:=⟨fun|5=>88|7=>117|n=>n,fun|23=>118|25=>3|3=>9|4=>4|20=>20|n=>n,fun|n=>n⟩
theorem Tryz.mapCl:Go.Proofs.SlLaysW.n5 prog Tryz.mapCl_ren:={
 mixed:=by kernel_rfl
 f5:=⟨Tryz.f88.name,qD,func88.trans (congrArg some qK)⟩
 f7:=func117.trans (congrArg some qK)
 t4:=hU
 a4:=Tryz.isAgg4
 z4:=Tryz.sizeOf4
 v4:=Tryz.zeroValue4
 t20:=underlying20
 a20:=Tryz.isAgg20
 z20:=Tryz.sizeOf20
 v20:=Tryz.zeroValue20
 t23:=underlying118
 a23:=Tryz.isAgg118
 z23:=Tryz.sizeOf118
 v23:=Tryz.zeroValue118}
def Tryz.sortI_ren:Go.Shelf.Ren:=⟨fun|189=>65|125=>107|257=>106|128=>134|129=>135|294=>125|295=>126|296=>127|297=>128|298=>129|299=>130|216=>131|300=>132|301=>133|328=>151|329=>152|330=>153|331=>154|332=>155|215=>156|343=>175|n=>n,fun|28=>46|3=>3|46=>139|0=>0|51=>100|53=>159|4=>4|183=>152|182=>151|131=>106|5=>5|9=>9|218=>166|222=>170|228=>184|229=>185|n=>n,fun|n=>n⟩
theorem Tryz.sortI:Go.Proofs.Lays.n189 prog Tryz.sortI_ren:={
 mixed:=by kernel_rfl
 f125:=func107.trans (congrArg some qK)
 f128:=func134.trans (congrArg some qK)
 f129:=func135.trans (congrArg some qK)
 f189:=func65.trans (congrArg some qK)
 f215:=func156.trans (congrArg some qK)
 f216:=func131.trans (congrArg some qK)
 f257:=func106.trans (congrArg some qK)
 f294:=func125.trans (congrArg some qK)
 f295:=func126.trans (congrArg some qK)
 f296:=func127.trans (congrArg some qK)
 f297:=func128.trans (congrArg some qK)
 f298:=func129.trans (congrArg some qK)
 f299:=func130.trans (congrArg some qK)
 f300:=func132.trans (congrArg some qK)
 f301:=func133.trans (congrArg some qK)
 f328:=func151.trans (congrArg some qK)
 f329:=func152.trans (congrArg some qK)
 f330:=func153.trans (congrArg some qK)
 f331:=func154.trans (congrArg some qK)
 f332:=func155.trans (congrArg some qK)
 f343:=func175.trans (congrArg some qK)
 t0:=lW
 a0:=Tryz.isAgg0
 z0:=Tryz.sizeOf0
 v0:=Tryz.zeroValue0
 t3:=fY
 a3:=Tryz.isAgg3
 z3:=Tryz.sizeOf3
 v3:=Tryz.zeroValue3
 t4:=hU
 a4:=Tryz.isAgg4
 z4:=Tryz.sizeOf4
 v4:=Tryz.zeroValue4
 t5:=kV
 a5:=Tryz.isAgg5
 z5:=Tryz.sizeOf5
 v5:=Tryz.zeroValue5
 t9:=hY
 a9:=Tryz.isAgg9
 z9:=Tryz.sizeOf9
 v9:=Tryz.zeroValue9
 t28:=eA
 a28:=Tryz.isAgg46
 z28:=Tryz.sizeOf46
 v28:=Tryz.zeroValue46
 t46:=jZ
 a46:=Tryz.isAgg139
 z46:=Tryz.sizeOf139
 v46:=Tryz.zeroValue139
 t51:=mC
 a51:=Tryz.isAgg100
 z51:=Tryz.sizeOf100
 v51:=Tryz.zeroValue100
 t53:=mD
 a53:=Tryz.isAgg159
 z53:=Tryz.sizeOf159
 v53:=Tryz.zeroValue159
 t131:=underlying106
 a131:=Tryz.isAgg106
 z131:=Tryz.sizeOf106
 v131:=Tryz.zeroValue106
 t182:=underlying151
 a182:=Tryz.isAgg151
 z182:=Tryz.sizeOf151
 v182:=Tryz.zeroValue151
 t183:=underlying152
 a183:=Tryz.isAgg152
 z183:=Tryz.sizeOf152
 v183:=Tryz.zeroValue152
 t218:=underlying166
 a218:=Tryz.isAgg166
 z218:=Tryz.sizeOf166
 v218:=Tryz.zeroValue166
 t222:=underlying170
 a222:=Tryz.isAgg170
 z222:=Tryz.sizeOf170
 v222:=Tryz.zeroValue170
 t228:=underlying184
 a228:=Tryz.isAgg184
 z228:=Tryz.sizeOf184
 v228:=Tryz.zeroValue184
 t229:=underlying185
 a229:=Tryz.isAgg185
 z229:=Tryz.sizeOf185
 v229:=Tryz.zeroValue185}
def Tryz.compI_ren:Go.Shelf.Ren:=⟨fun|20=>66|n=>n,fun|22=>46|3=>3|4=>4|0=>0|n=>n,fun|n=>n⟩
theorem Tryz.compI:Go.Proofs.Lays2.n20 prog Tryz.compI_ren:={
 mixed:=by kernel_rfl
 f20:=func66.trans (congrArg some qK)
 t0:=lW
 a0:=Tryz.isAgg0
 z0:=Tryz.sizeOf0
 v0:=Tryz.zeroValue0
 t3:=fY
 a3:=Tryz.isAgg3
 z3:=Tryz.sizeOf3
 v3:=Tryz.zeroValue3
 t4:=hU
 a4:=Tryz.isAgg4
 z4:=Tryz.sizeOf4
 v4:=Tryz.zeroValue4
 t22:=eA
 a22:=Tryz.isAgg46
 z22:=Tryz.sizeOf46
 v22:=Tryz.zeroValue46
 i3:=by kernel_rfl}
end Go.Proofs
namespace Go.Proofs
open Go Go.Eng
set_option maxRecDepth 100000
theorem Al:EI prog 3 1:=by unfold EI;kernel_rfl
theorem PA:Js prog 3 8:=by unfold Js;kernel_rfl
theorem Ex:FP prog 3 (.int .i64 0):=by unfold FP;kernel_rfl
theorem Ag:Ed prog 3=true:=by kernel_rfl
theorem G8:EI prog 4 1:=by unfold EI;kernel_rfl
theorem bA:Js prog 4 1:=by unfold Js;kernel_rfl
theorem Y7:FP prog 4 (.bool false):=by unfold FP;kernel_rfl
theorem HG:Ed prog 4=true:=by kernel_rfl
theorem ZH:EI prog 5 1:=by unfold EI;kernel_rfl
theorem cG:Js prog 5 1:=by unfold Js;kernel_rfl
theorem bO:FP prog 5 (.int .u8 0):=by unfold FP;kernel_rfl
theorem bN:FP prog 9 (.string ByteArray.empty):=by unfold FP;kernel_rfl
theorem Bc:EI prog 22 1:=by unfold EI;kernel_rfl
theorem TU:Js prog 22 24:=by unfold Js;kernel_rfl
theorem Kc:FP prog 22 (.slice none 0 0):=by unfold FP;kernel_rfl
theorem Bf:Ed prog 22=true:=by kernel_rfl
theorem BF:EI prog 23 1:=by unfold EI;kernel_rfl
theorem A9:Ed prog 23=true:=by kernel_rfl
theorem AG:EI prog 25 6:=by unfold EI;kernel_rfl
theorem E0:Js prog 25 80:=by unfold Js;kernel_rfl
theorem A1:FP prog 25 (.agg #[(.int .i64 0),(.slice none 0 0),(.slice none 0 0),(.int .i64 0),(.int .i64 0),(.bool false)]):=by unfold FP;kernel_rfl
theorem Ad:Jo prog 25=true:=by kernel_rfl
theorem U4:EI prog 28 1:=by unfold EI;kernel_rfl
theorem aA:FP prog 28 (.int .i64 0):=by unfold FP;kernel_rfl
theorem Rn:Ed prog 28=true:=by kernel_rfl
theorem PU:EI prog 34 1:=by unfold EI;kernel_rfl
theorem Z_:FP prog 34 (.slice none 0 0):=by unfold FP;kernel_rfl
theorem FC:Ed prog 34=true:=by kernel_rfl
theorem Kh:EI prog 43 1:=by unfold EI;kernel_rfl
theorem O0:Ed prog 43=true:=by kernel_rfl
theorem U3:EI prog 46 1:=by unfold EI;kernel_rfl
theorem a_:Js prog 46 24:=by unfold Js;kernel_rfl
theorem Yt:FP prog 46 (.slice none 0 0):=by unfold FP;kernel_rfl
theorem WF:Ed prog 46=true:=by kernel_rfl
theorem G7:EI prog 63 1:=by unfold EI;kernel_rfl
theorem Hh:Ed prog 63=true:=by kernel_rfl
theorem SY:EI prog 65 11:=by unfold EI;kernel_rfl
theorem Z':FP prog 65 (.agg #[(.int .i64 0),(.slice none 0 0),(.slice none 0 0),(.int .i64 0),(.int .i64 0),(.bool false),(.int .i64 0),(.slice none 0 0),(.map none),(.int .i64 0),(.int .i64 0)]):=by unfold FP;kernel_rfl
theorem Y3:Jo prog 65=true:=by kernel_rfl
theorem Ij:EI prog 71 1:=by unfold EI;kernel_rfl
theorem Y2:Js prog 71 24:=by unfold Js;kernel_rfl
theorem PH:FP prog 71 (.slice none 0 0):=by unfold FP;kernel_rfl
theorem KO:Ed prog 71=true:=by kernel_rfl
theorem BL:EI prog 80 2:=by unfold EI;kernel_rfl
theorem Ma:Js prog 80 16:=by unfold Js;kernel_rfl
theorem Df:FP prog 80 (.agg #[(.int .i64 0),(.int .i64 0)]):=by unfold FP;kernel_rfl
theorem Dw:Jo prog 80=true:=by kernel_rfl
theorem Oa:FP prog 117 (.pointer none):=by unfold FP;kernel_rfl
theorem Q_:EI prog 118 1:=by unfold EI;kernel_rfl
theorem O1:Ed prog 118=true:=by kernel_rfl
theorem ZI:EI prog 120 7:=by unfold EI;kernel_rfl
theorem mixed:prog.follows .mixedOrders=true:=by kernel_rfl
theorem Q2 {S:Type} (F:S→Re→Bool×S) (Inv:S→World→Prop) (M:Nat→Prop) (bd:Nat) (fv:Value) (wb:World)
    (hM:∀b,M b→wb.heap.size≤b∧b<bd) (hst:∀s w w',Inv s w→Ah w w'→Inv s w')
    (hf:∀s w t vs,bd≤w.heap.size→Ah wb w→Inv s w→A3 wb t vs→CG prog fv #[.agg vs.toArray] w λv w'=>v=.bool (F s t).1∧Chg M w w'∧Inv (F s t).2 w') :
    ∀n t,t.size≤n→∀s w0 vs,bd≤w0.heap.size→Ah wb w0→Inv s w0→A3 wb t vs→
      Bj prog 69 #[.agg vs.toArray,fv] w0 λv w'=>v=.bool (DL F t s).1∧Chg M w0 w'∧Inv (DL F t s).2 w':=by
  have ae:∀{w w':World},Ah wb w→Chg M w w'→Ah wb w':=λe c=>Chg.step e c λx hx hm=>by have:=(hM x hm).1;omega
  intro n
  induction n with
  | zero=>intro t ht;have:=t.size_pos;omega
  | succ n ih=>
  intro t hn s w0 vs hbd hE hI ht;obtain ⟨sa,sc,aa,ac,rfl,aj,an,ag⟩:=ht.form;rw[FT];refine Ew mP rfl ntmps69 (RV rfl) ?_;have E:Chg M w0 w0:=Chg.refl _ _;refine AA (BC (v:=(.agg (R6 t sa sc aa ac))) (c:=(R6 t sa sc aa ac)) qD rfl rfl ?_);intro b1 w1 N1;have F1:=N1.ge E;have hI:=hst _ _ _ hI N1.ext;have E:=E.ext N1.ext;have B1:=N1.blk;refine qA _ rfl (AB (AH (AA (qM _ rfl (qV (AI (vs:=[(I6 t.kind),(.slice sa t.set.length sc),(.slice aa t.args.length ac),(I6 t.mn),(I6 t.mx),(.bool t.neg)]) rfl Ad AG rfl (B1.cells rfl)) (DK qD rfl rfl (hf s _ t _ (by have:=N1.size;omega) (hE.trans N1.ext) hI ht) ?_))))));rintro _ w2 ⟨rfl,C2,hI⟩;have B1:=C2.keep (λh=>by have:=(hM _ h).2;omega) B1;have E:=E.trans C2;have hE2:Ah wb w2:=ae hE E;have z2:bd≤w2.heap.size:=by have:=C2.size;have:=N1.size;omega
  refine qV (C1 rfl) (AB (A4 rfl (λh=>?_) (λh=>?_)))
  · have kh:=h;have h:=by simpa using h
    refine AA (qA _ rfl (AB (AO (AK (AY l_ (v:=(.bool false)) rfl ?_)))));exact ⟨by rw[if_neg (by simp[h])],E,by rw[if_neg (by simp[h])];exact hI⟩
  · have kh:=h;have h:=by simpa using h
    rw[if_pos (by simpa using h)];generalize (F s t).2=s1 at hI⊢;refine AM (AC (AH (AA (qF b1 0 2 rfl dI rfl BF rfl (qV (AJ rfl A9 (B1.cell rfl)) (qV (AT dJ rfl) (qM _ rfl (AB (AW (Ax (λnn_ σ W3=>∃(k:Nat) (s':S),(∃jj_,σ=BW jj_ [(1,fv),(12,(.slice aa t.args.length ac)),(13,(I6 (t.args.length:Int))),(14,(I6 (k:Int)))])∧Chg M w0 W3∧BV W3 b1 (R6 t sa sc aa ac) 25∧(k≤t.args.length)∧(bd≤W3.heap.size)∧(Inv s' W3)∧(Cx F t.args s1=Cx F (t.args.drop k) s')∧nn_=t.args.length - k) (n:=t.args.length - 0) ?_ ?_))))))))))
    · exact ⟨0,s1,Ak.out ⟨rfl,rfl,rfl,rfl,trivial⟩,E,B1,dR _,z2,hI,rfl,rfl⟩
    · clear E B1;rintro _ _ W3 ⟨k,s',⟨j3,rfl⟩,E,B1,hk,hz,hI,ab,rfl⟩;refine AA (qV (A6 rfl rfl) (AB (AH (qC rfl (λam=>?_) (λam=>?_)))))
      · have ad:k<t.args.length:=qO
        obtain ⟨x,hx⟩:∃x,t.args[k]?=some x:=⟨_,dM ad⟩;obtain ⟨b,o,rfl,ah⟩:∃b o,aa=some ⟨b,o,none⟩∧CY wb b o t.args:=by
          rcases ag with h|h
          · rw[h] at ad;simp at ad
          · exact h
        obtain ⟨us,ap,af⟩:=ah.get hx;have ai:Ah wb _:=ae hE E;refine AM (AC (AH (AW (AA (qV (AL (b:=b) (o:=o) (len:=t.args.length) (cap:=ac) (i:=k) (o':=o+k*6) rfl rfl rfl dJ AG qO qO) (qV (AI rfl Ad AG af.len (ap.ext ai)) ?_))))));have hsz:=Re.size_arg hx;refine As (v:=(.agg us.toArray)) (c:=us.toArray) (n:=6) qD A1 rfl AG rfl rfl (by simpa using af.len) (by simpa using A3.one af) ?_;intro b5 w5 N5;have F5:=N5.ge E;have O5_b1:=N5.lt B1;have B1:=N5.keep B1;have hI:=hst _ _ _ hI N5.ext;have E:=E.ext N5.ext;have B5:=N5.blk;refine AB (AA (qV (AI rfl Ad AG af.len (B5.cells qP)) (qM _ rfl (qE rfl (AS mP kQ kQ rfl) (ih x qO s' _ us (by have:=N5.size;omega) (ae hE E) hI af) ?_))));rintro _ w9 ⟨rfl,C9,hI⟩;have B1:=C9.keep (λh=>by have:=(hM _ h).2;omega) B1;have B5:=C9.keep (λh=>by have:=(hM _ h).2;omega) B5;have E:=E.trans C9;have ao:t.args.drop k=x::t.args.drop (k+1):=by rw[i_ ad];rw[dM ad] at hx;cases hx;rfl
        rw[ao,DX] at ab;refine qV (C1 rfl) (AB (A4 rfl (λh2=>?_) (λh2=>?_)))
        · have al:=h2;have h2:=by simpa using h2
          refine AA (qA _ rfl (AB (AO (Ac (AK (AK (Ac (AK (AY l_ (v:=(.bool false)) rfl ?_)))))))));exact ⟨by rw[ab,if_neg (by simp[h2])],E,by rw[ab,if_neg (by simp[h2])];exact hI⟩
        · have al:=h2;have h2:=by simpa using h2
          rw[if_pos (by simpa using h2)] at ab;refine AM (AV (AC (AN (qV (A0 rfl rfl (A8 qO)) (qM _ rfl (AB (AC ?_)))))));exact ⟨t.args.length - (k+1),qO,k+1,(DL F x s').2,Ak.out ⟨rfl,rfl,rfl,rfl,trivial⟩,E,B1,qO,(by have:=C9.size;have:=N5.size;omega),hI,ab,rfl⟩
      · have ak:k=t.args.length:=qO
        rw[ak,gR] at ab;refine Av (AZ (AZ (Ao (AC (AA (qA _ rfl (AB (AO (AY l_ (v:=(.bool true)) rfl ?_)))))))));exact ⟨by rw[ab];rfl,E,by rw[ab];exact hI⟩
def Dz (s:Int×Int):Bool:=(decide (0<=s.1) && decide (s.1<=s.2)) && decide (s.2<=1114111)
theorem XD (s:Int×Int) (m:World) :
 Bj prog 105 #[.agg #[.int .i64 s.1,.int .i64 s.2]] m λv w=>v=.bool (Dz s)∧Ah m w:=by
 refine qR func105 O ntmps105 O (λE=>(AA (BC (v:=(.agg #[(I6 s.1),(I6 s.2)])) (c:=#[(I6 s.1),(I6 s.2)]) qD O O ?_)));intro j w1 o;have E:=E.ext o.ext;have k:=o.blk;refine qA _ O (AB (AA (qF j 0 0 O eM O Al O (qV (AJ O Ag (k.cell O)) ?_))));obtain ⟨a,h⟩:∃e,(decide ((0:Int)<=s.1))=e:=⟨_,O⟩;refine qV ((El O O).trans (by rw[h];try rfl)) (qM _ O (qG (.bool a) (yU a (P6 j 0)) (by cases a<;>first|exact gA|exact gB|exact .inl ⟨O,AQ O eM O Al O⟩) (qG (.bool a) (yU a (I6 s.1)) (by cases a<;>first|exact gA|exact gB|exact .inl ⟨O,AJ O Ag (k.cell O)⟩) (qG (.bool a) (yU a (P6 j 1)) (by cases a<;>first|exact gA|exact gB|exact .inl ⟨O,AQ O eM O Al O⟩) (qG (.bool a) (yU a (I6 s.2)) (by cases a<;>first|exact gA|exact gB|exact .inl ⟨O,AJ O Ag (k.cell O)⟩) ?_)))));obtain ⟨n,g⟩:∃e,(decide ((s.1:Int)<=s.2))=e:=⟨_,O⟩;refine qG (.bool a) (yU a (.bool n)) (by cases a<;>first|exact gA|exact gB|exact .inl ⟨O,(ER O O).trans (by rw[g];try rfl)⟩) ?_;obtain ⟨b,f⟩:∃e,(a && n)=e:=⟨_,O⟩;refine qV (Af (v:=.bool b) O (by rw[<-f];cases a<;>rfl)) (qM _ O (qG (.bool b) (yU b (P6 j 1)) (by cases b<;>first|exact gA|exact gB|exact .inl ⟨O,AQ O eM O Al O⟩) (qG (.bool b) (yU b (I6 s.2)) (by cases b<;>first|exact gA|exact gB|exact .inl ⟨O,AJ O Ag (k.cell O)⟩) ?_)));obtain ⟨l,i⟩:∃e,(decide ((s.2:Int)<=1114111))=e:=⟨_,O⟩;refine qG (.bool b) (yU b (.bool l)) (by cases b<;>first|exact gA|exact gB|exact .inl ⟨O,(ER O O).trans (by rw[i];try rfl)⟩) ?_;obtain ⟨p,d⟩:∃e,(b && l)=e:=⟨_,O⟩;refine qV (Af (v:=.bool p) O (by rw[<-d];cases b<;>rfl)) (qA _ O (AB ?_));subst d;subst i;subst f;subst g;subst h;refine AO (AY results105 (v:=(.bool (((decide ((0:Int)<=s.1)) && (decide ((s.1:Int)<=s.2))) && (decide ((s.2:Int)<=1114111))))) O ?_);exact ⟨O,E⟩
def Kk (k n:Int):Bool:=if k=3∨k=4∨k=7 then decide (2<=n) else if k=5∨k=6∨k=8∨k=9∨k=10 then decide (n=1) else decide (n=0)
def Dj (t:Re):Bool:=
 (((Kk t.kind t.args.length && (decide (t.kind=2) || decide ((t.set.length:Int)=0))) && ((decide (t.kind=6) || decide (t.kind=9)) || decide (t.mn=0))) && (decide (t.kind=6) || decide (t.mx=0))) && (decide (t.kind=10) || !t.neg)
theorem Zn (wb w0:World) (t:Re) (vs:n_) (ht:A3 wb t vs) :
 Bj prog 123 #[.agg vs.toArray] w0 λv w=>v=.bool (Dj t)∧Ah w0 w:=by
 obtain ⟨sa,sc,aa,ac,rfl,hset,hlen,hargs⟩:=ht.form;refine qR func123 O ntmps123 O (λE=>(AA (BC (v:=(.agg (R6 t sa sc aa ac))) (c:=(R6 t sa sc aa ac)) qD O O ?_)));intro m w1 N1;have E:=E.ext N1.ext;have l:=N1.blk;refine qA _ O (AB (AA (qF m 0 2 O dI O BF O (qV (AJ O A9 (l.cell O)) (qV (AT dJ O) (qA _ O (AB (AA (qM _ O (qV (Ai O O) (qA _ O (AB (Gb (λσ W2=>∃(f:Bool),(∃jj_,σ=BW jj_ [(1,(P6 m 0)),(4,(.bool f))])∧Chg Aj w0 W2∧BV W2 m (R6 t sa sc aa ac) 25∧(f=Kk t.kind t.args.length)) ?_ ?_)))))))))))))
 .skip
  refine AA (qF m 0 0 O dI O Al O (qV (AJ O Ag (l.cell O)) (AB (AW (AH (AA (qV (Ai O O) (qA _ O (AB (qC O (λR=>?_) (λR=>?_)))))))))))
  .have K:=decide_eq_true R;refine AM (AC (Aq (Ar K) (AN (qM _ O (qV (El O O) (qA _ O (AB (AV (AC ?_)))))))));exact ⟨(decide ((2:Int)<=((t.args.length:Nat):Int))),Ak.out ⟨O,O,trivial⟩,E,l,(by unfold Kk;(repeat' split)<;>first|rfl|omega)⟩
  .have K:=decide_eq_false R;refine AA (qV (Ai O O) (qA _ O (AB (qC O (λV=>?_) (λV=>?_)))))
   .have P:=decide_eq_true V;refine AM (AC (Aq (Ar P) (AN (qM _ O (qV (El O O) (qA _ O (AB (AV (AC ?_)))))))));exact ⟨(decide ((2:Int)<=((t.args.length:Nat):Int))),Ak.out ⟨O,O,trivial⟩,E,l,(by unfold Kk;(repeat' split)<;>first|rfl|omega)⟩
   .have P:=decide_eq_false V;refine AN (qV (Ai O O) (qA _ O (AB (AC (qC O (λal=>?_) (λal=>?_))))))
    .refine AN (qM _ O (qV (El O O) (qA _ O (AB (AV (AC ?_))))));exact ⟨(decide ((2:Int)<=((t.args.length:Nat):Int))),Ak.out ⟨O,O,trivial⟩,E,l,(by unfold Kk;(repeat' split)<;>first|rfl|omega)⟩
    .refine AH (AA (qV (Ai O O) (qA _ O (AB (qC O (λZ=>?_) (λZ=>?_))))))
     .have N:=decide_eq_true Z;refine AM (AC (Aq (Ar N) (AN (qM _ O (qV (Ai O O) (qA _ O (AB (AV (AC ?_)))))))));exact ⟨(decide ((((t.args.length:Nat):Int):Int)=1)),Ak.out ⟨O,O,trivial⟩,E,l,(by unfold Kk;(repeat' split)<;>first|rfl|omega)⟩
     .have N:=decide_eq_false Z;refine AA (qV (Ai O O) (qA _ O (AB (qC O (λX=>?_) (λX=>?_)))))
      .have L:=decide_eq_true X;refine AM (AC (Aq (Ar L) (AN (qM _ O (qV (Ai O O) (qA _ O (AB (AV (AC ?_)))))))));exact ⟨(decide ((((t.args.length:Nat):Int):Int)=1)),Ak.out ⟨O,O,trivial⟩,E,l,(by unfold Kk;(repeat' split)<;>first|rfl|omega)⟩
      .have L:=decide_eq_false X;refine AA (qV (Ai O O) (qA _ O (AB (qC O (λQ=>?_) (λQ=>?_)))))
       .have q:=decide_eq_true Q;refine AM (AC (Aq (Ar q) (AN (qM _ O (qV (Ai O O) (qA _ O (AB (AV (AC ?_)))))))));exact ⟨(decide ((((t.args.length:Nat):Int):Int)=1)),Ak.out ⟨O,O,trivial⟩,E,l,(by unfold Kk;(repeat' split)<;>first|rfl|omega)⟩
       .have q:=decide_eq_false Q;refine AA (qV (Ai O O) (qA _ O (AB (qC O (λS=>?_) (λS=>?_)))))
        .have M:=decide_eq_true S;refine AM (AC (Aq (Ar M) (AN (qM _ O (qV (Ai O O) (qA _ O (AB (AV (AC ?_)))))))));exact ⟨(decide ((((t.args.length:Nat):Int):Int)=1)),Ak.out ⟨O,O,trivial⟩,E,l,(by unfold Kk;(repeat' split)<;>first|rfl|omega)⟩
        .have M:=decide_eq_false S;refine AN (qV (Ai O O) (qA _ O (AB (AC (qC O (λah=>?_) (λah=>?_))))))
         .refine AN (qM _ O (qV (Ai O O) (qA _ O (AB (AV (AC ?_))))));exact ⟨(decide ((((t.args.length:Nat):Int):Int)=1)),Ak.out ⟨O,O,trivial⟩,E,l,(by unfold Kk;(repeat' split)<;>first|rfl|omega)⟩
         .refine AM (AV (AC ?_));exact ⟨(decide ((((t.args.length:Nat):Int):Int)=0)),Ak.out ⟨O,O,trivial⟩,E,l,(by unfold Kk;(repeat' split)<;>first|rfl|omega)⟩
 .clear E l;rintro _ W2 ⟨f,⟨j2,rfl⟩,E,l,aj⟩;refine AA (qM _ O (qM _ O (qG (.bool f) (yU f (P6 m 0)) (by cases f<;>first|exact gA|exact gB|exact .inl ⟨O,AQ O dI O Al O⟩) (qG (.bool f) (yU f (I6 t.kind)) (by cases f<;>first|exact gA|exact gB|exact .inl ⟨O,AJ O Ag (l.cell O)⟩) ?_))));obtain ⟨g,F⟩:∃e,(decide ((t.kind:Int)=2))=e:=⟨_,O⟩;refine qG (.bool f) (yU f (.bool g)) (by cases f<;>first|exact gA|exact gB|exact .inl ⟨O,(Ai O O).trans (by rw[F];try rfl)⟩) (qG (.bool f) (yU f (.bool g)) (by cases f<;>first|exact gA|exact gB|exact .inl ⟨O,Am O⟩) (qG (yU f (.bool g)) (yU f (nU g (P6 m 1))) (by cases f<;>cases g<;>first|exact gA|exact gB|exact .inl ⟨O,AQ O dI O Bc O⟩) (qG (yU f (.bool g)) (yU f (nU g (.slice sa t.set.length sc))) (by cases f<;>cases g<;>first|exact gA|exact gB|exact .inl ⟨O,AJ O Bf (l.cell O)⟩) (qG (yU f (.bool g)) (yU f (nU g (I6 (t.set.length:Int)))) (by cases f<;>cases g<;>first|exact gA|exact gB|exact .inl ⟨O,AT dS O⟩) ?_))));obtain ⟨ag,x⟩:∃e,(decide ((((t.set.length:Nat):Int):Int)=0))=e:=⟨_,O⟩;refine qG (yU f (.bool g)) (yU f (nU g (.bool ag))) (by cases f<;>cases g<;>first|exact gA|exact gB|exact .inl ⟨O,(Ai O O).trans (by rw[x];try rfl)⟩) ?_;obtain ⟨W,A⟩:∃e,(g || ag)=e:=⟨_,O⟩;refine qG (.bool f) (yU f (.bool W)) (by cases f<;>first|exact gA|exact gB|exact .inl ⟨O,Af (v:=.bool W) O (by rw[<-A];cases g<;>rfl)⟩) ?_;obtain ⟨a,p⟩:∃e,(f && W)=e:=⟨_,O⟩;refine qV (Af (v:=.bool a) O (by rw[<-p];cases f<;>rfl)) (qM _ O (qG (.bool a) (yU a (P6 m 0)) (by cases a<;>first|exact gA|exact gB|exact .inl ⟨O,AQ O dI O Al O⟩) (qG (.bool a) (yU a (I6 t.kind)) (by cases a<;>first|exact gA|exact gB|exact .inl ⟨O,AJ O Ag (l.cell O)⟩) ?_)));obtain ⟨k,C⟩:∃e,(decide ((t.kind:Int)=6))=e:=⟨_,O⟩;refine qG (.bool a) (yU a (.bool k)) (by cases a<;>first|exact gA|exact gB|exact .inl ⟨O,(Ai O O).trans (by rw[C];try rfl)⟩) (qG (.bool a) (yU a (.bool k)) (by cases a<;>first|exact gA|exact gB|exact .inl ⟨O,Am O⟩) (qG (yU a (.bool k)) (yU a (nU k (P6 m 0))) (by cases a<;>cases k<;>first|exact gA|exact gB|exact .inl ⟨O,AQ O dI O Al O⟩) (qG (yU a (.bool k)) (yU a (nU k (I6 t.kind))) (by cases a<;>cases k<;>first|exact gA|exact gB|exact .inl ⟨O,AJ O Ag (l.cell O)⟩) ?_)));obtain ⟨ae,G⟩:∃e,(decide ((t.kind:Int)=9))=e:=⟨_,O⟩;refine qG (yU a (.bool k)) (yU a (nU k (.bool ae))) (by cases a<;>cases k<;>first|exact gA|exact gB|exact .inl ⟨O,(Ai O O).trans (by rw[G];try rfl)⟩) ?_;obtain ⟨h,n⟩:∃e,(k || ae)=e:=⟨_,O⟩;refine qG (.bool a) (yU a (.bool h)) (by cases a<;>first|exact gA|exact gB|exact .inl ⟨O,Af (v:=.bool h) O (by rw[<-n];cases k<;>rfl)⟩) (qG (.bool a) (yU a (.bool h)) (by cases a<;>first|exact gA|exact gB|exact .inl ⟨O,Am O⟩) (qG (yU a (.bool h)) (yU a (nU h (P6 m 3))) (by cases a<;>cases h<;>first|exact gA|exact gB|exact .inl ⟨O,AQ O dI O Al O⟩) (qG (yU a (.bool h)) (yU a (nU h (I6 t.mn))) (by cases a<;>cases h<;>first|exact gA|exact gB|exact .inl ⟨O,AJ O Ag (l.cell O)⟩) ?_)));obtain ⟨af,y⟩:∃e,(decide ((t.mn:Int)=0))=e:=⟨_,O⟩;refine qG (yU a (.bool h)) (yU a (nU h (.bool af))) (by cases a<;>cases h<;>first|exact gA|exact gB|exact .inl ⟨O,(Ai O O).trans (by rw[y];try rfl)⟩) ?_;obtain ⟨T,H⟩:∃e,(h || af)=e:=⟨_,O⟩;refine qG (.bool a) (yU a (.bool T)) (by cases a<;>first|exact gA|exact gB|exact .inl ⟨O,Af (v:=.bool T) O (by rw[<-H];cases h<;>rfl)⟩) ?_;obtain ⟨d,s⟩:∃e,(a && T)=e:=⟨_,O⟩;refine qV (Af (v:=.bool d) O (by rw[<-s];cases a<;>rfl)) (qM _ O (qG (.bool d) (yU d (P6 m 0)) (by cases d<;>first|exact gA|exact gB|exact .inl ⟨O,AQ O dI O Al O⟩) (qG (.bool d) (yU d (I6 t.kind)) (by cases d<;>first|exact gA|exact gB|exact .inl ⟨O,AJ O Ag (l.cell O)⟩) ?_)));obtain ⟨j,z⟩:∃e,(decide ((t.kind:Int)=6))=e:=⟨_,O⟩;refine qG (.bool d) (yU d (.bool j)) (by cases d<;>first|exact gA|exact gB|exact .inl ⟨O,(Ai O O).trans (by rw[z];try rfl)⟩) (qG (.bool d) (yU d (.bool j)) (by cases d<;>first|exact gA|exact gB|exact .inl ⟨O,Am O⟩) (qG (yU d (.bool j)) (yU d (nU j (P6 m 4))) (by cases d<;>cases j<;>first|exact gA|exact gB|exact .inl ⟨O,AQ O dI O Al O⟩) (qG (yU d (.bool j)) (yU d (nU j (I6 t.mx))) (by cases d<;>cases j<;>first|exact gA|exact gB|exact .inl ⟨O,AJ O Ag (l.cell O)⟩) ?_)));obtain ⟨ad,D⟩:∃e,(decide ((t.mx:Int)=0))=e:=⟨_,O⟩;refine qG (yU d (.bool j)) (yU d (nU j (.bool ad))) (by cases d<;>cases j<;>first|exact gA|exact gB|exact .inl ⟨O,(Ai O O).trans (by rw[D];try rfl)⟩) ?_;obtain ⟨U,r⟩:∃e,(j || ad)=e:=⟨_,O⟩;refine qG (.bool d) (yU d (.bool U)) (by cases d<;>first|exact gA|exact gB|exact .inl ⟨O,Af (v:=.bool U) O (by rw[<-r];cases j<;>rfl)⟩) ?_;obtain ⟨b,B⟩:∃e,(d && U)=e:=⟨_,O⟩;refine qV (Af (v:=.bool b) O (by rw[<-B];cases d<;>rfl)) (qM _ O (qG (.bool b) (yU b (P6 m 0)) (by cases b<;>first|exact gA|exact gB|exact .inl ⟨O,AQ O dI O Al O⟩) (qG (.bool b) (yU b (I6 t.kind)) (by cases b<;>first|exact gA|exact gB|exact .inl ⟨O,AJ O Ag (l.cell O)⟩) ?_)));obtain ⟨i,J⟩:∃e,(decide ((t.kind:Int)=10))=e:=⟨_,O⟩;refine qG (.bool b) (yU b (.bool i)) (by cases b<;>first|exact gA|exact gB|exact .inl ⟨O,(Ai O O).trans (by rw[J];try rfl)⟩) (qG (.bool b) (yU b (.bool i)) (by cases b<;>first|exact gA|exact gB|exact .inl ⟨O,Am O⟩) (qG (yU b (.bool i)) (yU b (nU i (P6 m 5))) (by cases b<;>cases i<;>first|exact gA|exact gB|exact .inl ⟨O,AQ O dI O G8 O⟩) (qG (yU b (.bool i)) (yU b (nU i (.bool t.neg))) (by cases b<;>cases i<;>first|exact gA|exact gB|exact .inl ⟨O,AJ O HG (l.cell O)⟩) ?_)));obtain ⟨ai,u⟩:∃e,(!t.neg)=e:=⟨_,O⟩;refine qG (yU b (.bool i)) (yU b (nU i (.bool ai))) (by cases b<;>cases i<;>first|exact gA|exact gB|exact .inl ⟨O,(C1 O).trans (by rw[u];try rfl)⟩) ?_;obtain ⟨ab,o⟩:∃e,(i || ai)=e:=⟨_,O⟩;refine qG (.bool b) (yU b (.bool ab)) (by cases b<;>first|exact gA|exact gB|exact .inl ⟨O,Af (v:=.bool ab) O (by rw[<-o];cases i<;>rfl)⟩) ?_;obtain ⟨ak,I⟩:∃e,(b && ab)=e:=⟨_,O⟩;refine qV (Af (v:=.bool ak) O (by rw[<-I];cases b<;>rfl)) (qA _ O (AB ?_));subst I;subst o;subst u;subst J;subst B;subst r;subst D;subst z;subst s;subst H;subst y;subst n;subst G;subst C;subst p;subst A;subst x;subst F;refine AO (AY results123 (v:=(.bool ((((f && ((decide ((t.kind:Int)=2)) || (decide ((((t.set.length:Nat):Int):Int)=0)))) && (((decide ((t.kind:Int)=6)) || (decide ((t.kind:Int)=9))) || (decide ((t.mn:Int)=0)))) && ((decide ((t.kind:Int)=6)) || (decide ((t.mx:Int)=0)))) && ((decide ((t.kind:Int)=10)) || (!t.neg))))) O ?_);subst aj;exact ⟨O,E⟩
def DW:Option Int->List (Int×Int)->Int
  | _,[]=>0
  | p,s::r=>if Dz s=false then 1 else if (match p with|some h=>decide (s.1<h+2)|none=>false)=true then 3 else DW (some s.2) r
theorem Ci (p:Option Int) (s:Int×Int) (r:List (Int×Int)):DW p (s::r)=if Dz s=false then 1 else if (match p with|some h=>decide (s.1<h+2)|none=>false)=true then 3 else DW (some s.2) r:=rfl
def BJ (l:List (Int×Int)):Int:=if 16<l.length then 2 else DW none l
def EW (l:List (Int×Int)) (k:Nat):Option Int:=if k=0 then none else (l[k - 1]?).map (·.2)
theorem Vg {l:List (Int×Int)} {k:Nat} {s:Int×Int} (h:l[k]?=some s):EW l (k+1)=some s.2:=by
 unfold EW;simp[h]
theorem aO {l:List (Int×Int)} {k:Nat} {s:Int×Int} {p:Int} (a:0<k->∃q,l[k - 1]?=some q∧q.2=p∧EW l k=some p)
 (b:(decide ((0:Int)<((k:Nat):Int)) && decide (s.1<p+2))=false):¬(match EW l k with|some h=>decide (s.1<h+2)|none=>false)=true:=by
 by_cases c:0<k
 .obtain ⟨q,_,_,d⟩:=a c;rw[d];simp at b⊢;exact b c
 .have:EW l k=none:=by unfold EW;rw[if_pos qO]
  rw[this];simp
theorem Pb (w0:World) (v:Value) (l:List (Int×Int)) (hs:BP w0 v l) :
  Bj prog 64 #[v] w0 λv w=>v=.int .i64 (BJ l)∧Ah w0 w:=by
 obtain ⟨a,c,rfl⟩:=BX.form hs;have aq:l.length≤9223372036854775807:=by simpa using BX.le hs
 simp only[dW] at hs⊢;refine qR func64 rfl ntmps64 rfl (λE=>(AA (qA _ rfl (AB (AH (AA (qM _ rfl (qV (AT dS rfl) (qV (CN rfl rfl) (AB (qC rfl (λap=>?_) (λap=>?_))))))))))))
 ·refine AA (qA _ rfl (AB (AO (AK (AY results64 (v:=(.int .i64 2)) rfl ?_)))));exact ⟨by unfold BJ;rw[if_pos qO],E⟩
 ·have ar:BJ l=DW none l:=by unfold BJ;rw[if_neg qO]
  rw[ar];refine AM (AC (AH (AA (qM _ rfl (qV (AT dS rfl) (qM _ rfl (AB (AW (Ax (λnn_ σ W2=>∃(k:Nat),(∃jj_,σ=BW jj_ [(0,(.slice a l.length c)),(8,(.slice a l.length c)),(9,(I6 (l.length:Int))),(10,(I6 (k:Int)))])∧Chg Aj w0 W2∧(k≤l.length)∧(DW none l=DW (EW l k) (l.drop k))∧(∀h,EW l k=some h→0≤h∧h≤1114111)∧nn_=l.length - k) (n:=l.length - 0) ?_ ?_)))))))))
  ·exact ⟨0,Ak.out ⟨rfl,rfl,rfl,rfl,trivial⟩,E,dR _,rfl,(by intro h hh;simp[EW] at hh),rfl⟩
  ·clear E;rintro _ _ W2 ⟨k,⟨j2,rfl⟩,E,hk,aa,ax,rfl⟩;refine AA (qV (A6 rfl rfl) (AB (AH (qC rfl (λao=>?_) (λao=>?_)))))
   ·have ac:k<l.length:=qO
    obtain ⟨s,af⟩:∃s,l[k]?=some s:=⟨_,dM ac⟩;obtain ⟨b,o,rfl,ab⟩:=BR hs qO;have av:l.drop k=s::l.drop (k+1):=by rw[i_ ac];rw[dM ac] at af;cases af;rfl
    rw[av] at aa;refine AM (AC (AH (AW (AA (qM _ rfl (qV (AL (b:=b) (o:=o) (len:=l.length) (cap:=c) (i:=k) (o':=o+k*2) rfl rfl rfl dS BL qO qO) (qV (AI rfl Dw BL rfl ((ab k s af).ext E)) (BK (c:=#[(I6 0),(I6 0)]) qD Df rfl ?_))))))));intro b4 w4 N4;have F4:=N4.ge E;have E:=E.ext N4.ext;have B4:=N4.blk;refine qA _ rfl (Aa (b:=b4) (o:=0) (c':=#[(I6 s.1),(I6 s.2)]) rfl rfl qS BL rfl B4 qL rfl ?_);intro w5 S5;have E:=S5.step E (by first|exact dH qO|assumption|exact dG rfl|exact dG (by assumption)|exact dG qP|exact dG qO|exact dG (by dsimp only;omega));have B4:=S5.blk;refine AB (AH (AA (qV (AI (vs:=[(I6 s.1),(I6 s.2)]) rfl Dw BL rfl (B4.cells rfl)) (qE rfl (AS func105 kQ kQ rfl) (XD s _) ?_))));rintro _ w9 ⟨rfl,X9⟩;have B4:=X9.keep B4;have E:=E.ext X9;refine qV (C1 rfl) (AB (A4 rfl (λhv=>?_) (λhv=>?_)))
    ·have au:=hv;have hv:=by simpa using hv
     refine AA (qA _ rfl (AB (AO (AK (Ac (AK (AK (Ac (AK (AY results64 (v:=(.int .i64 1)) rfl ?_))))))))));exact ⟨by rw[aa];rw[Ci,if_pos hv],E⟩
    ·have au:=hv;have hv:=by simpa using hv
     have ai:Dz s=true:=by simpa using hv
     have an:0≤s.2∧s.2≤1114111:=by unfold Dz at ai;simp at ai;omega
     obtain ⟨p,ae⟩:∃p,(EW l k).getD 0=p:=⟨_,rfl⟩;have ah:0<k→∃q,l[k - 1]?=some q∧q.2=p∧EW l k=some p:=by
      intro h0;have h1:k - 1<l.length:=qO
      have h2:EW l k=some (l[k - 1]).2:=by unfold EW;rw[if_neg qO,dM h1];rfl
      rw[h2] at ae;simp at ae;exact ⟨_,dM h1,ae,by rw[h2,ae]⟩
     have hpb:0≤p∧p≤1114111:=by
      by_cases h0:0<k
      ·obtain ⟨q,_,_,h3⟩:=ah h0;exact ax p h3
      ·have:EW l k=none:=by unfold EW;rw[if_pos qO]
       rw[this] at ae;simp at ae;omega
     refine AM (AC (Eg 13 mixed qK ?_));intro w7 X7 _;have B4:=X7.keep B4;have E:=E.ext X7;refine qT (Am rfl) ?_;obtain ⟨e8,ad⟩:∃e,(decide ((0:Int)<((k:Nat):Int)))=e:=⟨_,rfl⟩;refine qT ((CN rfl rfl).trans (by rw[ad];try rfl)) (qT (Am rfl) (CV (oj:=_) (gv:=(.bool e8)) (u:=(yU e8 (P6 b4 0))) rfl rfl qD qD rfl (by cases e8<;>first|exact gA|exact gB|exact .inl ⟨rfl,AQ rfl eM rfl Al rfl⟩) (CV (oj:=_) (gv:=(.bool e8)) (u:=(yU e8 (I6 s.1))) rfl rfl qD qD rfl (by cases e8<;>first|exact gA|exact gB|exact .inl ⟨rfl,AJ rfl Ag (B4.cell rfl)⟩) (CV (oj:=_) (gv:=(.bool e8)) (u:=(yU e8 (.slice (some ⟨b,o,none⟩) l.length c))) rfl rfl qD qD rfl (by cases e8<;>first|exact gA|exact gB|exact .inl ⟨rfl,Am rfl⟩) (CV (oj:=_) (gv:=(.bool e8)) (u:=(yU e8 (I6 (k:Int)))) rfl rfl qD qD rfl (by cases e8<;>first|exact gA|exact gB|exact .inl ⟨rfl,Am rfl⟩) (CV (oj:=_) (gv:=(.bool e8)) (u:=(yU e8 (I6 ((k:Int) - 1)))) rfl rfl qD qD rfl (by cases e8<;>first|exact gA|exact gB|exact .inl ⟨rfl,DZ (c:=(k:Int) - 1) rfl rfl (A8 (by have:=of_decide_eq_true ad;omega))⟩) (CV (oj:=_) (gv:=(.bool e8)) (u:=(yU e8 (.pointer (some ⟨b,o+(k - 1)*2,none⟩)))) rfl rfl qD qD rfl (by cases e8<;>first|exact gA|exact gB|exact .inl ⟨rfl,AL (i:=k - 1) rfl rfl (by have:=of_decide_eq_true ad;omega) dS BL (by have:=of_decide_eq_true ad;omega) qO⟩) (CV (oj:=_) (gv:=(.bool e8)) (u:=(yU e8 (.pointer (some ⟨b,o+(k - 1)*2+1,none⟩)))) rfl rfl qD qD rfl (by cases e8<;>first|exact gA|exact gB|exact .inl ⟨rfl,AQ rfl eM rfl Al rfl⟩) (CV (oj:=_) (gv:=(.bool e8)) (u:=(yU e8 (I6 p))) rfl rfl qD qD rfl (by cases e8<;>first|exact gA|exact gB|exact .inl ⟨rfl,AJ rfl Ag ((by have:=of_decide_eq_true ad;obtain ⟨q,hq,rfl,_⟩:=ah qO;exact ((ab (k - 1) q hq).ext E).at1))⟩) (CV (oj:=_) (gv:=(.bool e8)) (u:=(yU e8 (I6 (p+2)))) rfl rfl qD qD rfl (by cases e8<;>first|exact gA|exact gB|exact .inl ⟨rfl,A0 (c:=p+2) rfl rfl (A8 (by have:=of_decide_eq_true ad;omega))⟩) ?_))))))))));obtain ⟨e9,ak⟩:∃e,(decide ((s.1:Int)<p+2))=e:=⟨_,rfl⟩;refine CV (oj:=_) (gv:=(.bool e8)) (u:=(yU e8 (.bool e9))) rfl rfl qD qD rfl (by cases e8<;>first|exact gA|exact gB|exact .inl ⟨rfl,(A6 rfl rfl).trans (by rw[ak];try rfl)⟩) (Gc ?_);obtain ⟨aw,ag⟩:∃e,(e8 && e9)=e:=⟨_,rfl⟩;refine qV (Af (v:=.bool aw) rfl (by rw[←ag];cases e8<;>rfl)) (AB ?_);subst ag;subst ak;subst ad;refine A4 rfl (λhf=>?_) (λhf=>?_)
     ·have al:=hf;have aj:0<k∧s.1<p+2:=by simpa using hf
      obtain ⟨q,_,_,h3⟩:=ah aj.1;refine AA (qA _ rfl (AB (AO (Ac (AK (AK (Ac (AK (AY results64 (v:=(.int .i64 3)) rfl ?_)))))))));exact ⟨by rw[aa];rw[Ci,if_neg (by simp[ai]),h3,if_pos (by simp[aj.2])],E⟩
     ·have al:=hf;refine AM (AV (AC (AN (qV (A0 rfl rfl (A8 qO)) (qM _ rfl (AB (AC ?_)))))));exact ⟨l.length - (k+1),qO,k+1,Ak.out ⟨rfl,rfl,rfl,rfl,trivial⟩,E,qO,(by rw[aa];rw[Ci,if_neg (by simp[ai]),if_neg ?_,Vg af];exact aO ah hf),(by intro h hh;rw[Vg af] at hh;cases hh;exact an),rfl⟩
   ·have am:k=l.length:=qO
    rw[am,gR] at aa;refine Av (AZ (AZ (Ao (AC (AA (qA _ rfl (AB (AO (AY results64 (v:=(.int .i64 0)) rfl ?_)))))))));exact ⟨by rw[aa];rfl,E⟩
def Cb (t:Re):Int:=if t.kind<0∨10<t.kind then 1 else if Dj t=false then 3 else if t.kind=2 then (if BJ t.set≠0 then BJ t.set else if (t.set.length:Int)=0 then 3 else 0)
 else if t.kind=6 then (if t.mn<0∨t.mx<t.mn∨8<t.mx then 1 else 0) else if t.kind=9 then (if t.mn<0∨9<t.mn then 1 else 0) else 0
theorem Zd (Q P:World) (t:Re) (vs:n_) (V:A3 Q t vs) (hE:Ah Q P) :
 Bj prog 102 #[.agg vs.toArray] P λv w=>v=.int .i64 (Cb t)∧Ah P w:=by
 have K:=V;obtain ⟨sa,sc,aa,ac,rfl,x,hlen,hargs⟩:=V.form;refine qR func102 O ntmps102 O (λE=>(AA (BC (v:=(.agg (R6 t sa sc aa ac))) (c:=(R6 t sa sc aa ac)) qD O O ?_)));intro g w1 W;have E:=E.ext W.ext;have f:=W.blk;refine qA _ O (AB (AH (AA (qF g 0 0 O dI O Al O (qV (AJ O Ag (f.cell O)) ?_)))));obtain ⟨h,A⟩:∃e,(decide ((t.kind:Int)<0))=e:=⟨_,O⟩;refine qV ((A6 O O).trans (by rw[A];try rfl)) (qM _ O (qG (.bool h) (nU h (P6 g 0)) (by cases h<;>first|exact gA|exact gB|exact .inl ⟨O,AQ O dI O Al O⟩) (qG (.bool h) (nU h (I6 t.kind)) (by cases h<;>first|exact gA|exact gB|exact .inl ⟨O,AJ O Ag (f.cell O)⟩) ?_)));obtain ⟨X,C⟩:∃e,(decide ((10:Int)<t.kind))=e:=⟨_,O⟩;refine qG (.bool h) (nU h (.bool X)) (by cases h<;>first|exact gA|exact gB|exact .inl ⟨O,(CN O O).trans (by rw[C];try rfl)⟩) ?_;obtain ⟨e4,r⟩:∃e,(h || X)=e:=⟨_,O⟩;refine qV (Af (v:=.bool e4) O (by rw[<-r];cases h<;>rfl)) (AB ?_);subst r;subst C;subst A;refine A4 O (λu=>?_) (λu=>?_)
 .have N:=u;simp at u;refine AA (qA _ O (AB (AO (AK (AY jB (v:=(.int .i64 1)) O ?_)))));exact ⟨BI (by unfold Cb;rw[if_pos qO]),E⟩
 .have N:=u;simp at u;refine AM (AC (AH (AA (qV (AI (vs:=[(I6 t.kind),(.slice sa t.set.length sc),(.slice aa t.args.length ac),(I6 t.mn),(I6 t.mx),(.bool t.neg)]) O Ad AG O (f.cells O)) (qE O (AS func123 kQ kQ O) (Zn Q _ t _ K) ?_)))));rintro _ w9 ⟨rfl,Z⟩;have f:=Z.keep f;have E:=E.ext Z;refine qV (C1 O) (AB (A4 O (λi=>?_) (λi=>?_)))
  .have H:=i;have i:=by simpa using i
   refine AA (qA _ O (AB (AO (AK (AY jB (v:=(.int .i64 3)) O ?_)))));exact ⟨BI (by unfold Cb;rw[if_neg qO,if_pos i]),E⟩
  .have H:=i;have i:=by simpa using i
   have hN:Cb t=if t.kind=2 then (if BJ t.set≠0 then BJ t.set else if (t.set.length:Int)=0 then 3 else 0) else if t.kind=6 then (if t.mn<0∨t.mx<t.mn∨8<t.mx then 1 else 0) else if t.kind=9 then (if t.mn<0∨9<t.mn then 1 else 0) else 0:=by unfold Cb;rw[if_neg qO,if_neg (by simp[i])]
   rw[hN];refine AM (AC (AH (AA (qF g 0 0 O dI O Al O (qV (AJ O Ag (f.cell O)) (AB (AW (AA (qV (Ai O O) (qA _ O (AB (qC O (λM=>?_) (λM=>?_)))))))))))))
   .rw[if_pos M];refine AH (AA (qF g 0 1 O dI O Bc O (qV (AJ O Bf (f.cell O)) (qE O (AS func64 kQ kQ O) (Pb _ _ t.set ((x.ext hE).ext E)) ?_))));rintro _ w10 ⟨rfl,F⟩;have f:=F.keep f;have E:=E.ext F;refine qA _ O (AB (AA (qM _ O (qV (Bb O O) (AB (qC O (λG=>?_) (λG=>?_)))))))
    .refine AA (qM _ O (qA _ O (AB (AO (AK (Ac (AK (AY jB (v:=(.int .i64 (BJ t.set))) O ?_))))))));exact ⟨BI (by rw[if_pos G]),E⟩
    .rw[if_neg G];refine AM (AC (AA (qF g 0 1 O dI O Bc O (qV (AJ O Bf (f.cell O)) (qV (AT dS O) (qV (Ai O O) (AB (qC O (λI=>?_) (λI=>?_)))))))))
     .refine AA (qA _ O (AB (AO (Ac (AK (AY jB (v:=(.int .i64 3)) O ?_))))));exact ⟨BI (by rw[if_pos I]),E⟩
     .refine AM (AV (AC (AA (qA _ O (AB (AO (AY jB (v:=(.int .i64 0)) O ?_)))))));exact ⟨BI (by rw[if_neg I]),E⟩
   .rw[if_neg M];refine AA (qV (Ai O O) (qA _ O (AB (qC O (λL=>?_) (λL=>?_)))))
    .rw[if_pos L];refine AA (qF g 0 3 O dI O Al O (qV (AJ O Ag (f.cell O)) ?_));obtain ⟨a,n⟩:∃e,(decide ((t.mn:Int)<0))=e:=⟨_,O⟩;refine qV ((A6 O O).trans (by rw[n];try rfl)) (qM _ O (qG (.bool a) (nU a (P6 g 3)) (by cases a<;>first|exact gA|exact gB|exact .inl ⟨O,AQ O dI O Al O⟩) (qG (.bool a) (nU a (I6 t.mn)) (by cases a<;>first|exact gA|exact gB|exact .inl ⟨O,AJ O Ag (f.cell O)⟩) (qG (.bool a) (nU a (P6 g 4)) (by cases a<;>first|exact gA|exact gB|exact .inl ⟨O,AQ O dI O Al O⟩) (qG (.bool a) (nU a (I6 t.mx)) (by cases a<;>first|exact gA|exact gB|exact .inl ⟨O,AJ O Ag (f.cell O)⟩) ?_)))));obtain ⟨z,k⟩:∃e,(decide ((t.mx:Int)<t.mn))=e:=⟨_,O⟩;refine qG (.bool a) (nU a (.bool z)) (by cases a<;>first|exact gA|exact gB|exact .inl ⟨O,(CN O O).trans (by rw[k];try rfl)⟩) ?_;obtain ⟨b,q⟩:∃e,(a || z)=e:=⟨_,O⟩;refine qV (Af (v:=.bool b) O (by rw[<-q];cases a<;>rfl)) (qM _ O (qG (.bool b) (nU b (P6 g 4)) (by cases b<;>first|exact gA|exact gB|exact .inl ⟨O,AQ O dI O Al O⟩) (qG (.bool b) (nU b (I6 t.mx)) (by cases b<;>first|exact gA|exact gB|exact .inl ⟨O,AJ O Ag (f.cell O)⟩) ?_)));obtain ⟨D,j⟩:∃e,(decide ((8:Int)<t.mx))=e:=⟨_,O⟩;refine qG (.bool b) (nU b (.bool D)) (by cases b<;>first|exact gA|exact gB|exact .inl ⟨O,(CN O O).trans (by rw[j];try rfl)⟩) ?_;obtain ⟨U,m⟩:∃e,(b || D)=e:=⟨_,O⟩;refine qV (Af (v:=.bool U) O (by rw[<-m];cases b<;>rfl)) (AB ?_);subst m;subst j;subst q;subst k;subst n;refine A4 O (λs=>?_) (λs=>?_)
     .have R:=s;simp at s;refine AA (qA _ O (AB (AO (Ac (AK (AY jB (v:=(.int .i64 1)) O ?_))))));exact ⟨BI (by rw[if_pos qO]),E⟩
     .have R:=s;simp at s;refine AM (AV (AC (AA (qA _ O (AB (AO (AY jB (v:=(.int .i64 0)) O ?_)))))));exact ⟨BI (by rw[if_neg qO]),E⟩
    .rw[if_neg L];refine AA (qV (Ai O O) (qA _ O (AB (qC O (λS=>?_) (λS=>?_)))))
     .rw[if_pos S];refine AA (qF g 0 3 O dI O Al O (qV (AJ O Ag (f.cell O)) ?_));obtain ⟨d,o⟩:∃e,(decide ((t.mn:Int)<0))=e:=⟨_,O⟩;refine qV ((A6 O O).trans (by rw[o];try rfl)) (qM _ O (qG (.bool d) (nU d (P6 g 3)) (by cases d<;>first|exact gA|exact gB|exact .inl ⟨O,AQ O dI O Al O⟩) (qG (.bool d) (nU d (I6 t.mn)) (by cases d<;>first|exact gA|exact gB|exact .inl ⟨O,AJ O Ag (f.cell O)⟩) ?_)));obtain ⟨B,p⟩:∃e,(decide ((9:Int)<t.mn))=e:=⟨_,O⟩;refine qG (.bool d) (nU d (.bool B)) (by cases d<;>first|exact gA|exact gB|exact .inl ⟨O,(CN O O).trans (by rw[p];try rfl)⟩) ?_;obtain ⟨J,l⟩:∃e,(d || B)=e:=⟨_,O⟩;refine qV (Af (v:=.bool J) O (by rw[<-l];cases d<;>rfl)) (AB ?_);subst l;subst p;subst o;refine A4 O (λy=>?_) (λy=>?_)
      .have T:=y;simp at y;refine AA (qA _ O (AB (AO (Ac (AK (AY jB (v:=(.int .i64 1)) O ?_))))));exact ⟨BI (by rw[if_pos qO]),E⟩
      .have T:=y;simp at y;refine AM (AV (AC (AA (qA _ O (AB (AO (AY jB (v:=(.int .i64 0)) O ?_)))))));exact ⟨BI (by rw[if_neg qO]),E⟩
     .rw[if_neg S];refine AM (AV (AC (AA (qA _ O (AB (AO (AY jB (v:=(.int .i64 0)) O ?_)))))));exact ⟨O,E⟩
def R1:Int->Re->Bool×Int:=λs _=>(true,IntKind.i64.wrap (s+1))
mutual
theorem PK:∀(t:Re) (s:Int),0<=s->s+t.size<=9223372036854775807->DL R1 t s=(true,s+t.size)
 | .mk k set args mn mx ng,s,h0,h1=>by
  simp only[Re.size] at h1⊢;rw[FT];simp only[R1,if_true,Re.args];rw[A8 qO];rw[NB args (s+1) qO qO];simp;omega
theorem NB:∀(ts:List Re) (s:Int),0<=s->s+Re.sizes ts<=9223372036854775807->Cx R1 ts s=(true,s+Re.sizes ts)
 | [],s,_,_=>by simp[Cx,Re.sizes]
 | t::ts,s,h0,h1=>by
  simp only[Re.sizes] at h1⊢;rw[DX,PK t s h0 qO];simp only[if_true];rw[NB ts _ qO qO];simp;omega
end
theorem XX (wb w0:World) (t:Re) (vs:n_) (ht:A3 wb t vs) (b:Nat) (s:Int) (hB:BV w0 b #[.int .i64 s] 3) :
  Bj prog 150 #[.agg vs.toArray,.pointer (some ⟨b,0,none⟩)] w0 λv w=>v=.bool true∧Chg (λx=>x=b) w0 w∧BV w b #[.int .i64 (IntKind.i64.wrap (s+1))] 3:=by
 have ht0:=ht;obtain ⟨sa,sc,aa,ac,rfl,ad,ae,ab⟩:=ht.form;refine Ew func150 rfl ntmps150 (RV rfl) ?_;have E:Chg (λx=>x=b) w0 w0:=Chg.refl _ _;refine AA (BC (v:=(.agg (R6 t sa sc aa ac))) (c:=(R6 t sa sc aa ac)) qD rfl rfl ?_);intro b1 w1 N1;have F1:=N1.ge E;have O1_b:=N1.lt hB;have hB:=N1.keep hB;have E:=E.ext N1.ext;have B1:=N1.blk;refine qA _ rfl (AB (AA (qV (AJ rfl Ag (hB.cell rfl)) (qV (A0 (c:=IntKind.i64.wrap (s+1)) rfl rfl (rfl)) (CB (b:=b) (o:=0) (c':=#[(I6 (IntKind.i64.wrap (s+1)))]) (v:=(I6 (IntKind.i64.wrap (s+1)))) rfl rfl rfl Al hB qP rfl ?_)))));intro w2 S2;have B1:=S2.keep qO B1;have E:=S2.step E (by first|exact dH qO|assumption|exact dG rfl|exact dG (by assumption)|exact dG qP|exact dG qO|exact dG (by dsimp only;omega));have hB:=S2.blk;refine AB (AA (qA _ rfl (AB (AO (AY results150 (v:=(.bool true)) rfl ?_)))));exact ⟨rfl,E,hB⟩
theorem ZG (w0:World) (t:Re) (vs:n_) (ht:A3 w0 t vs) (hs:t.size≤9223372036854775807) :
  Bj prog 121 #[.agg vs.toArray] w0 λv w=>v=.int .i64 t.size∧Ah w0 w:=by
 have ae:=ht;have hw:=PK t 0 qO qO;obtain ⟨sa,sc,aa,ac,rfl,ad,af,ab⟩:=ht.form;refine qR func121 rfl ntmps121 rfl (λE=>(AA (BC (v:=(.agg (R6 t sa sc aa ac))) (c:=(R6 t sa sc aa ac)) qD rfl rfl ?_)));intro b1 w1 N1;have F1:=N1.ge E;have E:=E.ext N1.ext;have B1:=N1.blk;refine qA _ rfl (AB (AA (As (v:=(I6 0)) (c:=#[(I6 0)]) (n:=1) qD Ex rfl Al rfl rfl rfl qS ?_)));intro b2 w2 N2;have F2:=N2.ge E;have O2_b1:=N2.lt B1;have B1:=N2.keep B1;have E:=E.ext N2.ext;have B2:=N2.blk;refine AB (AA (qV (AI (vs:=[(I6 t.kind),(.slice sa t.set.length sc),(.slice aa t.args.length ac),(I6 t.mn),(I6 t.mx),(.bool t.neg)]) rfl Ad AG rfl (B1.cells rfl)) (qV (Da rfl rfl) ?_)));have hf:∀(s:Int) (w:World) (t:Re) (vs:n_),b2+1≤w.heap.size→Ah w0 w→BV w b2 #[.int .i64 s] 3→A3 w0 t vs→CG prog (.func (.func 150) #[] #[.pointer (some ⟨b2,0,none⟩)]) #[.agg vs.toArray] w λv w'=>v=.bool (R1 s t).1∧Chg (λx=>x=b2) w w'∧BV w' b2 #[.int .i64 (R1 s t).2] 3:=λs w t vs _ _ hI ht=>CG.mk (first:=#[]) (cap:=#[.pointer (some ⟨b2,0,none⟩)]) (args:=#[.agg vs.toArray]) func150 kQ kQ rfl (XX w0 w t vs ht b2 s hI);refine qE rfl (AS mP kQ kQ rfl) (Q2 R1 (λs w=>BV w b2 #[.int .i64 s] 3) (λx=>x=b2) (b2+1) _ w0 (λb hb=>qO) (λs w w' hI e=>e.keep hI) hf t.size t (dU _) 0 _ _ (by have:=B2.lt;omega) E B2 ae) ?_;rintro _ w3 ⟨rfl,C3,B3⟩;have B1:=C3.keep qO B1;have E:=E.step C3 (by intro x hx hm;omega);refine AB (AA (qV (AJ rfl Ag (B3.cell rfl)) (qA _ rfl (AB (AO (AY results121 (v:=(.int .i64 ((DL R1 t 0).2))) rfl ?_))))));exact ⟨by rw[hw];simp,E⟩
theorem Rb (j:World) (v fv:Value) (l:List (Int)) (p:Int->Bool) (hs:Bw j v l) (A:∀(w:World) (x:Int),Ah j w->x∈l->CG prog fv #[.int .i64 x] w λr w'=>r=.bool (p x)∧Ah w w') :
 Bj prog 116 #[v,fv] j λr w=>r=.int .i64 (Hg p l)∧Ah j w:=by
 obtain ⟨a,c,rfl⟩:=BX.form hs;have hlen:l.length<=9223372036854775807:=by simpa using BX.le hs
 simp only[dW] at hs⊢;refine qR func116 O ntmps116 O (λE=>(AA (qA _ O (AB (AH (AA (qM _ O (qV (AT eA O) (qM _ O (AB (AW (Ax (λnn_ σ t=>∃(k:Nat),(∃jj_,σ=BW jj_ [(0,(.slice a l.length c)),(1,fv),(7,(I6 (l.length:Int))),(8,(I6 (k:Int)))])∧Chg Aj j t∧(k<=l.length)∧(∀(i:Nat) (y:Int),i<k->l[i]?=some y->p y=false)∧nn_=l.length - k) (n:=l.length - 0) ?_ ?_))))))))))))
 .exact ⟨0,Ak.out ⟨O,O,O,O,trivial⟩,E,dR _,(λi y h=>absurd h (fU _)),O⟩
 .clear E;rintro _ _ t ⟨k,⟨j1,rfl⟩,E,hk,e,rfl⟩;refine AA (qV (A6 O O) (AB (AH (qC O (λq=>?_) (λq=>?_)))))
  .obtain ⟨x,m⟩:=AU (l:=l) (i:=k) qO;obtain ⟨b,o,rfl,d⟩:=CX hs qO;refine AM (AC (AH (AW (AA (qM _ O (qA _ O (AB (AA (qM _ O (qM _ O (qM _ O (qV (AL (b:=b) (o:=o) (len:=l.length) (cap:=c) (i:=k) (o':=o+k) O O O eA Al qO qO) (qV (AJ O Ag (E.cell (λf=>f) (d k x m))) (DK qD O O (A _ x E (dK m)) ?_))))))))))))));rintro _ w9 ⟨rfl,z⟩;have E:=E.ext z;refine AB (A4 O (λg=>?_) (λg=>?_))
   .have s:=g;refine AA (qM _ O (qA _ O (AB (AO (Ac (AK (AK (Ac (AK (AY results116 (v:=(.int .i64 ((k:Nat):Int))) O ?_))))))))));exact ⟨BI (GC m g e).symm,E⟩
   .have s:=g;refine AM (AV (AC (AN (qV (A0 O O (A8 qO)) (qM _ O (AB (AC ?_)))))));exact ⟨l.length - (k+1),qO,k+1,Ak.out ⟨O,O,O,O,trivial⟩,E,qO,GY m g e,O⟩
  .have hkk:k=l.length:=qO
   refine Av (AZ (AZ (Ao (AC (AA (qA _ O (AB (AO (AY results116 (v:=(.int .i64 (-1))) O ?_)))))))));exact ⟨BI (HF λi y u=>e i y (by have:=AX u;omega) u).symm,E⟩
theorem Rc (a:World) (v fv:Value) (l:List (Int)) (p:Int->Bool) (hs:Bw a v l) (c:∀(w:World) (x:Int),Ah a w->x∈l->CG prog fv #[.int .i64 x] w λr w'=>r=.bool (p x)∧Ah w w') :
 Bj prog 85 #[v,fv] a λr w=>r=.bool (l.any p)∧Ah a w:=by
 refine qR func85 O ntmps85 O (λE=>(AA (qA _ O (AB (AA (qM v O (qM _ O (qE O (AS func116 kQ kQ O) (Rb _ v fv l p hs c) ?_))))))));rintro _ w9 ⟨rfl,b⟩;have E:=E.ext b;refine qV (El O O) (qA _ O (AB (AO (AY results85 (v:=(.bool (decide ((0:Int)<=Hg p l)))) O ?_))));exact ⟨A' (Hf p l),E⟩
theorem PR (g:World) (v fv:Value) (l:List (Int×Int)) (p:Int×Int->Bool) (hs:BP g v l) (z:∀(w:World) (x:Int×Int),Ah g w->x∈l->CG prog fv #[.agg #[.int .i64 x.1,.int .i64 x.2]] w λr w'=>r=.bool (p x)∧Ah w w') :
 Bj prog 136 #[v,fv] g λr w=>r=.int .i64 (Hg p l)∧Ah g w:=by
 obtain ⟨a,c,rfl⟩:=BX.form hs;have hlen:l.length<=9223372036854775807:=by simpa using BX.le hs
 simp only[dW] at hs⊢;refine qR func136 O ntmps136 O (λE=>(AA (qA _ O (AB (AH (AA (qM _ O (qV (AT dS O) (qM _ O (AB (AW (Ax (λnn_ σ s=>∃(k:Nat),(∃jj_,σ=BW jj_ [(0,(.slice a l.length c)),(1,fv),(7,(I6 (l.length:Int))),(8,(I6 (k:Int)))])∧Chg Aj g s∧(k<=l.length)∧(∀(i:Nat) (y:Int×Int),i<k->l[i]?=some y->p y=false)∧nn_=l.length - k) (n:=l.length - 0) ?_ ?_))))))))))))
 .exact ⟨0,Ak.out ⟨O,O,O,O,trivial⟩,E,dR _,(λi y h=>absurd h (fU _)),O⟩
 .clear E;rintro _ _ s ⟨k,⟨j1,rfl⟩,E,hk,e,rfl⟩;refine AA (qV (A6 O O) (AB (AH (qC O (λm=>?_) (λm=>?_)))))
  .obtain ⟨x,j⟩:=AU (l:=l) (i:=k) qO;obtain ⟨b,o,rfl,d⟩:=BR hs qO;refine AM (AC (AH (AW (AA (qM _ O (qA _ O (AB (AA (qM _ O (qM _ O (qM _ O (qV (AL (b:=b) (o:=o) (len:=l.length) (cap:=c) (i:=k) (o':=o+k*2) O O O dS BL qO qO) (qV (AI O Dw BL O ((d k x j).ext E)) (DK qD O O (z _ x E (dK j)) ?_))))))))))))));rintro _ w9 ⟨rfl,u⟩;have E:=E.ext u;refine AB (A4 O (λf=>?_) (λf=>?_))
   .have q:=f;refine AA (qM _ O (qA _ O (AB (AO (Ac (AK (AK (Ac (AK (AY results136 (v:=(.int .i64 ((k:Nat):Int))) O ?_))))))))));exact ⟨BI (GC j f e).symm,E⟩
   .have q:=f;refine AM (AV (AC (AN (qV (A0 O O (A8 qO)) (qM _ O (AB (AC ?_)))))));exact ⟨l.length - (k+1),qO,k+1,Ak.out ⟨O,O,O,O,trivial⟩,E,qO,GY j f e,O⟩
  .have hkk:k=l.length:=qO
   refine Av (AZ (AZ (Ao (AC (AA (qA _ O (AB (AO (AY results136 (v:=(.int .i64 (-1))) O ?_)))))))));exact ⟨BI (HF λi y t=>e i y (by have:=AX t;omega) t).symm,E⟩
theorem PS (a:World) (v fv:Value) (l:List (Int×Int)) (p:Int×Int->Bool) (hs:BP a v l) (c:∀(w:World) (x:Int×Int),Ah a w->x∈l->CG prog fv #[.agg #[.int .i64 x.1,.int .i64 x.2]] w λr w'=>r=.bool (p x)∧Ah w w') :
 Bj prog 108 #[v,fv] a λr w=>r=.bool (l.any p)∧Ah a w:=by
 refine qR func108 O ntmps108 O (λE=>(AA (qA _ O (AB (AA (qM v O (qM _ O (qE O (AS func136 kQ kQ O) (PR _ v fv l p hs c) ?_))))))));rintro _ w9 ⟨rfl,b⟩;have E:=E.ext b;refine qV (El O O) (qA _ O (AB (AO (AY results108 (v:=(.bool (decide ((0:Int)<=Hg p l)))) O ?_))));exact ⟨A' (Hf p l),E⟩
theorem aU (j:World) (s:Int×Int) (r:Int) (b:Nat) (h:BV j b #[.int .i64 r] 3) :
 Bj prog 109 #[.agg #[.int .i64 s.1,.int .i64 s.2],.pointer (some ⟨b,0,none⟩)] j λv w=>v=.bool (decide (s.1<=r) && decide (r<=s.2))∧Ah j w:=by
 refine qR func109 O ntmps109 O (λE=>(AA (BC (v:=(.agg #[(I6 s.1),(I6 s.2)])) (c:=#[(I6 s.1),(I6 s.2)]) qD O O ?_)));intro k w1 i;have h:=i.keep h;have E:=E.ext i.ext;have l:=i.blk;refine qA _ O (AB (AA (qF k 0 0 O eM O Al O (qV (AJ O Ag (l.cell O)) (qV (AJ O Ag (h.cell O)) ?_)))));obtain ⟨a,f⟩:∃e,(decide ((s.1:Int)<=r))=e:=⟨_,O⟩;refine qV ((ER O O).trans (by rw[f];try rfl)) (qM _ O (qG (.bool a) (yU a (I6 r)) (by cases a<;>first|exact gA|exact gB|exact .inl ⟨O,AJ O Ag (h.cell O)⟩) (qG (.bool a) (yU a (P6 k 1)) (by cases a<;>first|exact gA|exact gB|exact .inl ⟨O,AQ O eM O Al O⟩) (qG (.bool a) (yU a (I6 s.2)) (by cases a<;>first|exact gA|exact gB|exact .inl ⟨O,AJ O Ag (l.cell O)⟩) ?_))));obtain ⟨m,g⟩:∃e,(decide ((r:Int)<=s.2))=e:=⟨_,O⟩;refine qG (.bool a) (yU a (.bool m)) (by cases a<;>first|exact gA|exact gB|exact .inl ⟨O,(ER O O).trans (by rw[g];try rfl)⟩) ?_;obtain ⟨n,d⟩:∃e,(a && m)=e:=⟨_,O⟩;refine qV (Af (v:=.bool n) O (by rw[<-d];cases a<;>rfl)) (qA _ O (AB ?_));subst d;subst g;subst f;refine AO (AY results109 (v:=(.bool ((decide ((s.1:Int)<=r)) && (decide ((r:Int)<=s.2))))) O ?_);exact ⟨O,E⟩
theorem Zi (a:World) (v:Value) (l:List (Int×Int)) (r:Int) (hs:BP a v l) :
 Bj prog 67 #[v,.int .i64 r] a λu w=>u=.bool (Ca l r)∧Ah a w:=by
 refine qR func67 O ntmps67 O (λE=>(AA (BC (v:=(I6 r)) (c:=#[(I6 r)]) qD O O ?_)));intro d w1 f;have E:=E.ext f.ext;have b:=f.blk;refine qA _ O (AB (AA (qM v O (qV (Da O O) (qE O (AS func108 kQ kQ O) (PS _ v _ l (λs=>decide (s.1<=r) && decide (r<=s.2)) (hs.ext E) (λw x g _=>CG.mk (first:=#[]) (cap:=#[.pointer (some ⟨d,0,none⟩)]) func109 kQ kQ O (aU w x r d (g.keep b)))) ?_)))));rintro _ w9 ⟨rfl,e⟩;have b:=e.keep b;have E:=E.ext e;refine qA _ O (AB (AO (AY results67 (v:=(.bool (Ca l r))) O ?_)));exact ⟨O,E⟩
def CJ (r:Int):Bool:=decide (0<=r) && decide (r<=1114111)
theorem VD (r:Int) (f:World):Bj prog 87 #[.int .i64 r] f λu w=>u=.bool (CJ r)∧Ah f w:=by
 refine qR func87 O ntmps87 O (λE=>(AA (qA _ O (AB (AA (qM _ O ?_))))));obtain ⟨a,b⟩:∃e,(decide ((0:Int)<=r))=e:=⟨_,O⟩;refine qV ((El O O).trans (by rw[b];try rfl)) (qM _ O (qG (.bool a) (yU a (I6 r)) (by cases a<;>first|exact gA|exact gB|exact .inl ⟨O,Am O⟩) ?_));obtain ⟨g,d⟩:∃e,(decide ((r:Int)<=1114111))=e:=⟨_,O⟩;refine qG (.bool a) (yU a (.bool g)) (by cases a<;>first|exact gA|exact gB|exact .inl ⟨O,(ER O O).trans (by rw[d];try rfl)⟩) ?_;obtain ⟨h,c⟩:∃e,(a && g)=e:=⟨_,O⟩;refine qV (Af (v:=.bool h) O (by rw[<-c];cases a<;>rfl)) (qA _ O (AB ?_));subst c;subst d;subst b;refine AO (AY results87 (v:=(.bool ((decide ((0:Int)<=r)) && (decide ((r:Int)<=1114111))))) O ?_);exact ⟨O,E⟩
theorem VC (r:Int) (a:World):Bj prog 86 #[.int .i64 r] a λu w=>u=.bool (!CJ r)∧Ah a w:=by
 refine qR func86 O ntmps86 O (λE=>(AA (qA _ O (AB (AA (qM _ O (qE O (AS func87 kQ kQ O) (VD r _) ?_)))))));rintro _ w9 ⟨rfl,b⟩;have E:=E.ext b;refine qV (C1 O) (qA _ O (AB (AO (AY results86 (v:=(.bool (!(CJ r)))) O ?_))));exact ⟨O,E⟩
theorem XZ (a:World) (v:Value) (l:oB) (hs:Bw a v l) :
 Bj prog 50 #[v] a λu w=>u=.bool (!(l.any λr=>!CJ r))∧Ah a w:=by
 refine qR func50 O ntmps50 O (λE=>(AA (qA _ O (AB (AA (qM v O (qE O (AS func85 kQ kQ O) (Rc _ v _ l (λr=>!CJ r) hs (λw x hE _=>CG.mk (first:=#[]) (cap:=#[]) func86 kQ kQ O (VC x w))) ?_)))))));rintro _ w9 ⟨rfl,b⟩;have E:=E.ext b;refine qV (C1 O) (qA _ O (AB (AO (AY results50 (v:=(.bool (!(l.any λr=>!CJ r)))) O ?_))));exact ⟨O,E⟩
def Ur:oC:=[0,1,28,2,29,14,24,3,30,22,20,15,25,17,4,8,31,27,13,23,21,19,16,7,26,12,18,6,11,5,10,9]
def bF (w:World):Prop:=∀(i v:Nat),Ur[i]?=some v->w.cell? ⟨0,i,none⟩=some (.int .u8 (v:Int))
mutual
def C':Re->Prop
  | .mk k set args mn mx ng=>Cb (.mk k set args mn mx ng)=0∧DC args
def DC:List Re->Prop
  | []=>True
  | t::ts=>C' t∧DC ts
end
theorem Do {ts:List Re} (h:DC ts) {i:Nat} {x:Re} (a:ts[i]?=some x):C' x:=by
 induction ts generalizing i with
 | nil=>simp at a
 | cons t ts ih=>
  simp only[DC] at h;cases i with
  | zero=>simp at a;subst a;exact h.1
  | succ i=>exact ih h.2 (by simpa using a)
theorem HB {t:Re} (h:C' t):Cb t=0:=by cases t;simp only[C'] at h;exact h.1
theorem C8 {t:Re} (h:C' t):DC t.args:=by cases t;simp only[C'] at h;exact h.2
theorem FA {t:Re} (h:C' t):0<=t.kind∧t.kind<=10∧Dj t=true:=by
 have:=HB h;unfold Cb at this;split at this
 .omega
 .rename_i hk
  split at this
  .omega
  .rename_i a;exact ⟨qO,qO,by simpa using a⟩
theorem HA {t:Re} (h:C' t) (b:t.kind=5∨t.kind=6∨t.kind=8∨t.kind=9∨t.kind=10):t.args.length=1:=by
 obtain ⟨_,_,a⟩:=FA h;simp only[Dj,dP] at a;have:=a.1.1.1.1;unfold Kk at this;rw[if_neg qO,if_pos b] at this;simp at this;omega
theorem Py {t:Re} (h:C' t) (b:t.kind=3∨t.kind=4∨t.kind=7):2<=t.args.length:=by
 obtain ⟨_,_,a⟩:=FA h;simp only[Dj,dP] at a;have:=a.1.1.1.1;unfold Kk at this;rw[if_pos b] at this;simp at this;omega
theorem Lu {t:Re} (h:C' t) (a:t.kind=6):0<=t.mn∧t.mn<=t.mx∧t.mx<=8:=by
 have:=HB h;obtain ⟨h1,h2,b⟩:=FA h;unfold Cb at this;rw[if_neg qO,if_neg (by simp[b]),if_neg qO,if_pos a] at this;split at this<;>omega
theorem Ch (t:Re):t.args.length<t.size:=by
 rw[Re.size_eq];have:∀ts:List Re,ts.length<=Re.sizes ts:=by
  intro ts
  induction ts with
  | nil=>simp
  | cons x r ih=>have:=x.size_pos;simp[Re.sizes];omega
 have:=this t.args;omega
theorem EV {a:World} {aa:oE} {ts:List Re} (h:ts=[]∨∃b o,aa=some ⟨b,o,none⟩∧CY a b o ts) (c:0<ts.length):∃b o,aa=some ⟨b,o,none⟩∧CY a b o ts:=by
 rcases h with h|h
 .rw[h] at c;simp at c
 .exact h
end Go.Proofs
namespace Go.Proofs
open Go Go.Eng Go.Lib
set_option maxRecDepth 100000
--BEGIN
abbrev OZ:=List UInt8
def Ra (c:UInt8):Prop:=48<=c.toNat∧c.toNat<=57
def RQ (u:OZ):Prop:=∀c,u.head?=some c->¬Ra c
theorem TK {d:Nat} (h:d<10):Ra (UInt8.ofNat (48+d)):=by
 unfold Ra;rw[UInt8.toNat_ofNat'];omega
theorem WR (u:Nat):∀c∈decDigits u,Ra c:=by
 induction u using Nat.strongRecOn with
 | _ u ih=>
  rw[decDigits];split
  .intro c a;rw[dO.1 a];exact TK (by assumption)
  .intro c a;rcases eC.1 a with h|h
   .exact ih (u / 10) qO c h
   .rw[dO.1 h];exact TK qO
def XE (l:OZ):Nat:=l.foldl (λv c=>v*10+(c.toNat - 48)) 0
theorem SS (u:Nat):XE (decDigits u)=u:=by
 induction u using Nat.strongRecOn with
 | _ u ih=>
  rw[decDigits];split
  .show 0*10+((UInt8.ofNat (48+u)).toNat - 48)=u;rw[UInt8.toNat_ofNat'];omega
  .unfold XE;rw[hZ];show (XE (decDigits (u / 10)))*10+((UInt8.ofNat (48+u % 10)).toNat - 48)=u;rw[ih (u / 10) qO,UInt8.toNat_ofNat'];omega
theorem QY:∀{l m u v:OZ},(∀c∈l,Ra c)->(∀c∈m,Ra c)->RQ u->RQ v->l++u=m++v->l=m∧u=v
 | [],[],_,_,_,_,_,_,e=>⟨O,e⟩
 | [],c::m,u,v,_,hm,hu,_,e=>by
  have b:u=c::(m++v):=e;exact absurd (hm c eJ) (hu c (by rw[b];rfl))
 | c::l,[],u,v,hl,_,_,hv,e=>by
  have b:c::(l++u)=v:=e;exact absurd (hl c eJ) (hv c (by rw[<-b];rfl))
 | c::l,d::m,u,v,hl,hm,hu,hv,e=>by
  rw[fH,fH,fV] at e;obtain ⟨g,f⟩:=QY (λc a=>hl c (eP _ a)) (λc a=>hm c (eP _ a)) hu hv e.2;exact ⟨by rw[e.1,g],f⟩
theorem GS {a b:Int} {u v:OZ} (ha:0<=a) (hb:0<=b) (f:RQ u) (d:RQ v) (e:itoa a++u=itoa b++v):a=b∧u=v:=by
 unfold itoa at e;rw[if_neg qO,if_neg qO] at e;obtain ⟨c,h⟩:=QY (WR _) (WR _) f d e;have g:=congrArg XE c;rw[SS,SS] at g;exact ⟨qO,h⟩
theorem EB {c:UInt8} {u:OZ} (h:c.toNat<48):RQ (c::u):=λd hd a=>by
 cases hd;unfold Ra at a;omega
def EH:List (Int×Int)->OZ
  | []=>[]
  | p::s=>32::(itoa p.1++45::(itoa p.2++EH s))
mutual
def I9:Re->OZ
  | .mk k s a m x _=>40::(itoa k++32::(itoa m++32::(itoa x++(EH s++(DU a++[41])))))
def DU:List Re->OZ
  | []=>[]
  | t::ts=>I9 t++DU ts
end
mutual
def KY:Re->Prop
  | .mk k s a m x g=>0<=k∧0<=m∧0<=x∧(∀p∈s,0<=p.1∧0<=p.2)∧g=false∧Jp a
def Jp:List Re->Prop
  | []=>True
  | t::ts=>KY t∧Jp ts
end
theorem KH (t:Re):∃u,I9 t=40::u:=by cases t;rw[I9];exact ⟨_,O⟩
def NF (u:OZ):Prop:=∃c v,u=c::v∧(c=40∨c=41)
theorem NF.no {u:OZ} (h:NF u):RQ u:=by
 obtain ⟨c,v,rfl,rfl|rfl⟩:=h
 .exact EB qD
 .exact EB qD
theorem JU (s:List (Int×Int)) {u:OZ} (h:NF u):RQ (EH s++u):=by
 cases s with
 | nil=>exact h.no
 | cons p s=>exact EB qD
theorem Km:∀{s t:List (Int×Int)} {u v:OZ},(∀p∈s,0<=p.1∧0<=p.2)->(∀p∈t,0<=p.1∧0<=p.2)->NF u->NF v->EH s++u=EH t++v->s=t∧u=v
 | [],[],_,_,_,_,_,_,e=>⟨O,e⟩
 | [],q::t,u,v,_,_,hu,_,e=>by
  obtain ⟨c,w,rfl,b⟩:=hu;have a:c::w=32::((itoa q.1++45::(itoa q.2++EH t))++v):=e;rw[fV] at a;rcases b with rfl|rfl<;>exact absurd a.1 qD
 | p::s,[],u,v,_,_,_,hv,e=>by
  obtain ⟨c,w,rfl,b⟩:=hv;have a:32::((itoa p.1++45::(itoa p.2++EH s))++u)=c::w:=e;rw[fV] at a;rcases b with rfl|rfl<;>exact absurd a.1 qD
 | p::s,q::t,u,v,hs,ht,hu,hv,e=>by
  have a:32::(itoa p.1++(45::(itoa p.2++(EH s++u))))=32::(itoa q.1++(45::(itoa q.2++(EH t++v)))):=by simpa[EH] using e
  rw[fV] at a;have h:=hs p eJ;have g:=ht q eJ;obtain ⟨i,f⟩:=GS h.1 g.1 (EB qD) (EB qD) a.2;rw[fV] at f;obtain ⟨m,l⟩:=GS h.2 g.2 (JU s hu) (JU t hv) f.2;obtain ⟨j,k⟩:=Km (λp d=>hs p (eP _ d)) (λp d=>ht p (eP _ d)) hu hv l;exact ⟨by rw[j,show p=q from Prod.ext i m],k⟩
theorem Hc (a:List Re) (u:OZ):NF (DU a++41::u):=by
 cases a with
 | nil=>exact ⟨41,u,O,.inr O⟩
 | cons t ts=>
  obtain ⟨w,b⟩:=KH t;exact ⟨40,w++(DU ts++41::u),by rw[DU,b];simp,.inl O⟩
mutual
theorem L5:∀(t t':Re) (u v:OZ),KY t->KY t'->I9 t++u=I9 t'++v->t=t'∧u=v
 | .mk k s a m x g,.mk k' s' a' m' x' g',u,v,h,h',e=>by
  obtain ⟨C,w,q,G,B,r⟩:=h;obtain ⟨l,j,b,i,f,d⟩:=h';simp only[I9,fH,eW,fO,fV,true_and] at e;obtain ⟨y,n⟩:=GS C l (EB qD) (EB qD) e;simp only[fV,true_and] at n;obtain ⟨E,o⟩:=GS w j (EB qD) (EB qD) n;simp only[fV,true_and] at o;obtain ⟨z,F⟩:=GS q b (JU s (Hc a u)) (JU s' (Hc a' v)) o;obtain ⟨A,D⟩:=Km G i (Hc a u) (Hc a' v) F;obtain ⟨p,c⟩:=Kn a a' u v r d D;exact ⟨by rw[y,E,z,A,p,B,f],c⟩
theorem Kn:∀(a a':List Re) (u v:OZ),Jp a->Jp a'->DU a++41::u=DU a'++41::v->a=a'∧u=v
 | [],[],u,v,_,_,e=>by
  simp only[DU,fO,fV,true_and] at e;exact ⟨O,e⟩
 | [],t::ts,u,v,_,_,e=>by
  obtain ⟨w,b⟩:=KH t;rw[DU,DU,b] at e;simp at e
 | t::ts,[],u,v,_,_,e=>by
  obtain ⟨w,b⟩:=KH t;rw[DU,DU,b] at e;simp at e
 | t::ts,t'::ts',u,v,h,h',e=>by
  simp only[DU,eW] at e;obtain ⟨d,f⟩:=L5 t t' _ _ h.1 h'.1 e;obtain ⟨c,g⟩:=Kn ts ts' u v h.2 h'.2 f;exact ⟨by rw[d,c],g⟩
end
theorem Vw {t t':Re} (h:KY t) (a:KY t') (e:I9 t=I9 t'):t=t':=(L5 t t' [] [] h a (by rw[e])).1
--END
end Go.Proofs
namespace Go.Proofs
open Go Go.Eng
set_option maxRecDepth 100000
def D8 (most:Int):Int×Int->Re->Bool×(Int×Int):=λs t=>
 let n:=IntKind.i64.wrap (s.1+1)
 let e:=if most<n then 2 else Cb t
 (decide (e=0),(n,e))
def By (t:Re) (most:Int):Int:=(DL (D8 most) t (0,0)).2.2
theorem YO (r l:World) (t:Re) (vs:n_) (z:A3 r t vs) (A:Ah r l) (f i g:Nat) (s:Int×Int) (most:Int) (h0:r.heap.size<=i) (h12:i<f) (h13:f<g)
 (a:BV l f #[.int .i64 s.1] 3) (e:BV l i #[.int .i64 most] 3) (d:BV l g #[.int .i64 s.2] 28) :
 Bj prog 101 #[.agg vs.toArray,.pointer (some ⟨f,0,none⟩),.pointer (some ⟨i,0,none⟩),.pointer (some ⟨g,0,none⟩)] l
  λv w=>v=.bool (D8 most s t).1∧Chg (λx=>x=f∨x=g) l w∧BV w f #[.int .i64 (D8 most s t).2.1] 3∧BV w i #[.int .i64 most] 3∧BV w g #[.int .i64 (D8 most s t).2.2] 28:=by
 have y:=z;obtain ⟨sa,sc,aa,ac,rfl,hset,hlen,hargs⟩:=z.form;refine Ew func101 O ntmps101 (RV O) ?_;have E:Chg (λx=>x=f∨x=g) l l:=Chg.refl _ _;refine AA (BC (v:=(.agg (R6 t sa sc aa ac))) (c:=(R6 t sa sc aa ac)) qD O O ?_);intro b1 w1 k;have O1_b1':=k.lt a;have O1_b2':=k.lt e;have O1_b3':=k.lt d;have a:=k.keep a;have e:=k.keep e;have d:=k.keep d;have E:=E.ext k.ext;have j:=k.blk;refine qA _ O (AB (AH (AA (qV (AJ O Ag (a.cell O)) (qV (A0 (c:=IntKind.i64.wrap (s.1+1)) O O (O)) (CB (b:=f) (o:=0) (c':=#[(I6 (IntKind.i64.wrap (s.1+1)))]) (v:=(I6 (IntKind.i64.wrap (s.1+1)))) O O O Al a qP O ?_))))));intro w2 n;have e:=n.keep qO e;have d:=n.keep qO d;have j:=n.keep qO j;have E:=n.step E (by first|exact dH qO|assumption|exact dG rfl|exact dG (by assumption)|exact dG qP|exact dG qO|exact dG (by dsimp only;omega));have a:=n.blk;refine AB (AA (qV (AJ O Ag (a.cell O)) (qV (AJ O Ag (e.cell O)) (qV (CN O O) (AB (qC O (λh=>?_) (λh=>?_)))))))
 .refine AN (CB (b:=g) (o:=0) (c':=#[(I6 2)]) (v:=(I6 2)) O O O U4 d qP O ?_);intro w4 p;have a:=p.keep qO a;have e:=p.keep qO e;have j:=p.keep qO j;have E:=p.step E (by first|exact dH qO|assumption|exact dG rfl|exact dG (by assumption)|exact dG qP|exact dG qO|exact dG (by dsimp only;omega));have d:=p.blk;refine AB (AC (AA (qV (AJ O Rn (d.cell O)) (qV (Ai O O) (qA _ O (AB (AO (AY results101 (v:=(.bool false)) O ?_))))))));exact ⟨by simp[D8,h],E,by simpa[D8] using a,e,by simpa[D8,h] using d⟩
 .refine AN (qV (AI (vs:=[(I6 t.kind),(.slice sa t.set.length sc),(.slice aa t.args.length ac),(I6 t.mn),(I6 t.mx),(.bool t.neg)]) O Ad AG O (j.cells O)) (qE O (AS func102 kQ kQ O) (Zd r _ t _ y (Chg.step A E λx hx u=>by rcases u with u|u<;>omega)) ?_));rintro _ w9 ⟨rfl,q⟩;have a:=q.keep a;have e:=q.keep e;have d:=q.keep d;have j:=q.keep j;have E:=E.ext q;refine CB (b:=g) (o:=0) (c':=#[(I6 (Cb t))]) (v:=(I6 (Cb t))) O O O U4 d qP O ?_;intro w5 m;have a:=m.keep qO a;have e:=m.keep qO e;have j:=m.keep qO j;have E:=m.step E (by first|exact dH qO|assumption|exact dG rfl|exact dG (by assumption)|exact dG qP|exact dG qO|exact dG (by dsimp only;omega));have d:=m.blk;refine AB (AC (AA (qV (AJ O Rn (d.cell O)) (qV (Ai O O) (qA _ O (AB (AO (AY results101 (v:=(.bool (decide ((Cb t:Int)=0)))) O ?_))))))));exact ⟨by simp[D8,h],E,by simpa[D8] using a,e,by simpa[D8,h] using d⟩
theorem WH (w0:World) (t:Re) (vs:n_) (ht:A3 w0 t vs) (most:Int) :
  Bj prog 62 #[.agg vs.toArray,.int .i64 most] w0 λv w=>v=.int .i64 (By t most)∧Ah w0 w:=by
 have ad:=ht;obtain ⟨sa,sc,aa,ac,rfl,ae,af,ab⟩:=ht.form;refine qR func62 rfl ntmps62 rfl (λE=>(AA (BC (v:=(.agg (R6 t sa sc aa ac))) (c:=(R6 t sa sc aa ac)) qD rfl rfl ?_)));intro b1 w1 N1;have F1:=N1.ge E;have E:=E.ext N1.ext;have B1:=N1.blk;refine BC (v:=(I6 most)) (c:=#[(I6 most)]) qD rfl rfl ?_;intro b2 w2 N2;have F2:=N2.ge E;have O2_b1:=N2.lt B1;have B1:=N2.keep B1;have E:=E.ext N2.ext;have B2:=N2.blk;refine qA _ rfl (AB (AA (BK (c:=#[(I6 0)]) qD Ex rfl ?_)));intro b3 w3 N3;have F3:=N3.ge E;have O3_b1:=N3.lt B1;have O3_b2:=N3.lt B2;have B1:=N3.keep B1;have B2:=N3.keep B2;have E:=E.ext N3.ext;have B3:=N3.blk;refine BK (c:=#[(I6 0)]) qD aA rfl ?_;intro b4 w4 N4;have F4:=N4.ge E;have O4_b1:=N4.lt B1;have O4_b2:=N4.lt B2;have O4_b3:=N4.lt B3;have B1:=N4.keep B1;have B2:=N4.keep B2;have B3:=N4.keep B3;have E:=E.ext N4.ext;have B4:=N4.blk;refine CB (b:=b3) (o:=0) (c':=#[(I6 0)]) (v:=(I6 0)) rfl rfl rfl Al B3 qP rfl ?_;intro w5 S5;have B1:=S5.keep qO B1;have B2:=S5.keep qO B2;have B4:=S5.keep qO B4;have E:=S5.step E (by first|exact dH qO|assumption|exact dG rfl|exact dG (by assumption)|exact dG qP|exact dG qO|exact dG (by dsimp only;omega));have B3:=S5.blk;refine CB (b:=b4) (o:=0) (c':=#[(I6 0)]) (v:=(I6 0)) rfl rfl rfl U4 B4 qP rfl ?_;intro w6 S6;have B1:=S6.keep qO B1;have B2:=S6.keep qO B2;have B3:=S6.keep qO B3;have E:=S6.step E (by first|exact dH qO|assumption|exact dG rfl|exact dG (by assumption)|exact dG qP|exact dG qO|exact dG (by dsimp only;omega));have B4:=S6.blk;refine AB (AA (qV (AI (vs:=[(I6 t.kind),(.slice sa t.set.length sc),(.slice aa t.args.length ac),(I6 t.mn),(I6 t.mx),(.bool t.neg)]) rfl Ad AG rfl (B1.cells rfl)) (qV (Da rfl rfl) ?_)));have hf:∀(s:Int×Int) (w:World) (t:Re) (vs:n_),b4+1≤w.heap.size→Ah w0 w→(BV w b3 #[.int .i64 s.1] 3∧BV w b2 #[.int .i64 most] 3∧BV w b4 #[.int .i64 s.2] 28)→A3 w0 t vs→CG prog (.func (.func 101) #[] #[.pointer (some ⟨b3,0,none⟩),.pointer (some ⟨b2,0,none⟩),.pointer (some ⟨b4,0,none⟩)]) #[.agg vs.toArray] w λv w'=>v=.bool (D8 most s t).1∧Chg (λx=>x=b3∨x=b4) w w'∧(BV w' b3 #[.int .i64 (D8 most s t).2.1] 3∧BV w' b2 #[.int .i64 most] 3∧BV w' b4 #[.int .i64 (D8 most s t).2.2] 28):=λs w t vs _ hE hI ht=>CG.mk (first:=#[]) (cap:=#[.pointer (some ⟨b3,0,none⟩),.pointer (some ⟨b2,0,none⟩),.pointer (some ⟨b4,0,none⟩)]) (args:=#[.agg vs.toArray]) func101 kQ kQ rfl (YO w0 w t vs ht hE b3 b2 b4 s most qO qO qO hI.1 hI.2.1 hI.2.2);refine qE rfl (AS mP kQ kQ rfl) (Q2 (D8 most) (λs w=>BV w b3 #[.int .i64 s.1] 3∧BV w b2 #[.int .i64 most] 3∧BV w b4 #[.int .i64 s.2] 28) (λx=>x=b3∨x=b4) (b4+1) _ w0 (λb hb=>qO) (λs w w' hI e=>⟨e.keep hI.1,e.keep hI.2.1,e.keep hI.2.2⟩) hf t.size t (dU _) (0,0) _ _ (by have:=B4.lt;omega) E ⟨B3,B2,B4⟩ ad) ?_;rintro _ w9 ⟨rfl,C9,B3',B2',B4'⟩;have B1:=C9.keep qO B1;have E:=E.step C9 (by intro x hx hm;omega);refine AB (AA (qV (AJ rfl Rn (B4'.cell rfl)) (qA _ rfl (AB (AO (AY results62 (v:=(.int .i64 ((DL (D8 most) t (0,0)).2.2))) rfl ?_))))));exact ⟨rfl,E⟩
theorem Yd (a:World) (t:Re) (vs:n_) (e:A3 a t vs) :
 Bj prog 24 #[.agg vs.toArray] a λv w=>v=.int .i64 (By t 40)∧Ah a w:=by
 have d:=e;obtain ⟨sa,sc,aa,ac,rfl,hset,hlen,hargs⟩:=e.form;refine qR func24 O ntmps24 O (λE=>(AA (BC (v:=(.agg (R6 t sa sc aa ac))) (c:=(R6 t sa sc aa ac)) qD O O ?_)));intro b1 w1 g;have E:=E.ext g.ext;have b:=g.blk;refine qA _ O (AB (AA (qV (AI (vs:=[(I6 t.kind),(.slice sa t.set.length sc),(.slice aa t.args.length ac),(I6 t.mn),(I6 t.mx),(.bool t.neg)]) O Ad AG O (b.cells O)) (qE O (AS func62 kQ kQ O) (WH _ t _ (A3.ext E t d) 40) ?_))));rintro _ w9 ⟨rfl,f⟩;have b:=f.keep b;have E:=E.ext f;refine qA _ O (AB (AO (AY results24 (v:=(.int .i64 (By t 40))) O ?_)));exact ⟨O,E⟩
theorem O2 {most:Int} {n e:Int} (t:Re) (h0:0<=n) (h1:n<=1000000):D8 most (n,e) t=(decide ((if most<n+1 then 2 else Cb t)=0),(n+1,if most<n+1 then 2 else Cb t)):=by
 simp only[D8];rw[A8 qO]
mutual
theorem QO {most:Int} (c:most<=1000000):∀(t:Re) (n e:Int),0<=n->n+t.size<=most->C' t->DL (D8 most) t (n,e)=(true,(n+t.size,0))
 | .mk k set args mn mx ng,n,e,h0,h1,hok=>by
  simp only[Re.size] at h1⊢;rw[FT,O2 _ h0 qO];have hn:=HB hok;have a:¬most<n+1:=qO
  simp only[if_neg a,hn,decide_true,if_true,Re.args];have b:=C8 hok;simp only[Re.args] at b;rw[OB c args (n+1) 0 qO qO b rfl];simp;omega
theorem OB {most:Int} (a:most<=1000000):∀(ts:List Re) (n e:Int),0<=n->n+Re.sizes ts<=most->DC ts->e=0->Cx (D8 most) ts (n,e)=(true,(n+Re.sizes ts,0))
 | [],n,e,_,_,_,he=>by simp[Cx,Re.sizes,he]
 | t::ts,n,e,h0,h1,hok,he=>by
  simp only[Re.sizes] at h1⊢;simp only[DC] at hok;rw[DX,QO a t n e h0 qO hok.1];simp only[if_true];rw[OB a ts _ _ qO qO hok.2 rfl];simp;omega
end
mutual
theorem TG {most:Int} (i:most<=1000000):∀(t:Re) (n e:Int),0<=n->n<=most->(DL (D8 most) t (n,e)).1=true->C' t∧n+t.size<=most∧(DL (D8 most) t (n,e)).2=(n+t.size,0)
 | .mk k set args mn mx ng,n,e,h0,h1,h=>by
  rw[FT,O2 _ h0 qO] at h⊢;by_cases d:(if most<n+1 then 2 else Cb (.mk k set args mn mx ng))=0
  .have f:¬most<n+1:=by intro g;rw[if_pos g] at d;omega
   rw[if_neg f] at d;simp only[if_neg f,d,decide_true,if_true,Re.args] at h⊢;obtain ⟨a,b,c⟩:=QP i args (n+1) 0 qO qO h O;refine ⟨by simp only[C'];exact ⟨d,a⟩,by simp only[Re.size];omega,by rw[c];simp only[Re.size];simp;omega⟩
  .simp[d] at h
theorem QP {most:Int} (f:most<=1000000):∀(ts:List Re) (n e:Int),0<=n->n<=most->(Cx (D8 most) ts (n,e)).1=true->e=0->DC ts∧n+Re.sizes ts<=most∧(Cx (D8 most) ts (n,e)).2=(n+Re.sizes ts,0)
 | [],n,e,_,h1,_,he=>by simp[Cx,Re.sizes,DC,he];omega
 | t::ts,n,e,h0,h1,h,he=>by
  rw[DX] at h⊢;by_cases d:(DL (D8 most) t (n,e)).1=true
  .rw[if_pos d] at h⊢;obtain ⟨a,b,c⟩:=TG f t n e h0 h1 d;rw[c] at h⊢;obtain ⟨a',b',c'⟩:=QP f ts _ _ qO b h O;exact ⟨by simp only[DC];exact ⟨a,a'⟩,by simp only[Re.sizes];omega,by rw[c'];simp only[Re.sizes];simp;omega⟩
  .rw[if_neg d] at h;simp at h
end
mutual
theorem OC {most:Int}:∀(t:Re) (s:Int×Int),(DL (D8 most) t s).1=decide ((DL (D8 most) t s).2.2=0)
 | .mk k set args mn mx ng,s=>by
  rw[FT];by_cases a:(D8 most s (.mk k set args mn mx ng)).1=true
  .rw[if_pos a];exact ML args _ (by simpa[D8] using a)
  .rw[if_neg a];have b:(D8 most s (.mk k set args mn mx ng)).1=false:=by simpa using a
   simp only[D8] at b⊢;exact b.symm
theorem ML {most:Int}:∀(ts:List Re) (s:Int×Int),s.2=0->(Cx (D8 most) ts s).1=decide ((Cx (D8 most) ts s).2.2=0)
 | [],s,h=>by simp[Cx,h]
 | t::ts,s,h=>by
  rw[DX];have:=OC (most:=most) t s;by_cases a:(DL (D8 most) t s).1=true
  .rw[if_pos a];rw[a] at this;exact ML ts _ (by simpa using this.symm)
  .rw[if_neg a];have b:(DL (D8 most) t s).1=false:=by simpa using a
   rw[b] at this;exact this
end
theorem EY {t:Re} {most:Int} (e:0<=most) (d:most<=1000000):By t most=0↔C' t∧(t.size:Int)<=most:=by
 unfold By;constructor
 .intro h;have c:=OC (most:=most) t (0,0);rw[h] at c;obtain ⟨a,b,_⟩:=TG d t 0 0 (gM 0) e (by simpa using c);exact ⟨a,qO⟩
 .rintro ⟨a,b⟩;rw[QO d t 0 0 (gM 0) qO a]
def O_ (t:Re) (text:oB):Int:=if By t 40≠0 then By t 40 else if 24<text.length then 2 else if (text.any λr=>!CJ r)=true then 1 else 0
def bZ (R:Rl) (i p:Nat):List (Nat×Nat):=((List.range p).filter (R i)).map λj=>(i,j)
def VU (R:Rl) (n:Nat):List (Nat×Nat):=(List.range n).flatMap λi=>bZ R i 25
end Go.Proofs
namespace Go.Eng
open Go
abbrev G0:=Value->World->Prop
def FK (F:G0):Prop:=∀v w w',Ah w w'->F v w->F v w'
inductive Fact where
  | eq (v:Value)
  | re (t:Re)
  | res (ts:List Re)
  | gen (F:G0) (h:FK F)
def Fact.In:Fact->G0
  | .eq u,v,_=>v=u
  | .re t,v,w=>∃vs,v=.agg vs.toArray∧A3 w t vs
  | .res ts,v,w=>∃b,v=.slice (some ⟨b,0,none⟩) ts.length ts.length∧CY w b 0 ts
  | .gen F _,v,w=>F v w
theorem Fact.ext {F:Fact} {v:Value} {w w':World} (h:F.In v w) (e:Ah w w'):F.In v w':=by
 cases F with
 | eq u=>exact h
 | re t=>obtain ⟨vs,a,c⟩:=h;exact ⟨vs,a,A3.ext e t c⟩
 | res ts=>obtain ⟨b,a,c⟩:=h;exact ⟨b,a,CY.ext e ts c⟩
 | gen F hF=>exact hF _ _ _ e h
def Ka (P:Program) (N:Nat) (o:Oper) (R:G0) (σ:CZ) (w:World):Prop:=
 ∀dz a,Ok dz N a->Dr a=σ->∀(Q:Exit->Act->World->Prop) (K:Act->World->Prop),(∀v w',Ah w w'->R v w'->K (a.put o.dst v) w')->o.wp P a w K Q
def Holds (ds:oC) (Fs:List Fact) (j:Nat) (σ:CZ) (w:World):Prop:=∀d F,ds[j]?=some d->Fs[j]?=some F->F.In (σ d) w
def LH (ds:oC) (o:Oper) (σ:CZ):Prop:=∀j b,o.guard=some (j,b)->∃d,ds[j]?=some d∧σ d=.bool b
def Ta (ds:oC) (o:Oper) (σ:CZ):Prop:=∃j b d,o.guard=some (j,b)∧ds[j]?=some d∧(σ d=.bool (!b)∨σ d=undef)
theorem Gd {ds:oC} {o:Oper} {σ:CZ} {j:Nat} {b:Bool} {d:Nat} (h:o.guard=some (j,b)) (hd:ds[j]?=some d) (a:σ d=.bool (!b)∨σ d=undef):Ta ds o σ:=⟨j,b,d,h,hd,a⟩
section
variable {P : Program} {N : Nat} {o : Oper} {R : G0} {σ : CZ} {w : World}
theorem AP {v:Value} {w':World} (e:(execOp (ev σ) o).run P w=.ok (.value v) w') (b:Ah w w') (h:R v w'):Ka P N o R σ w:=by
 intro dz a ha c Q K d;unfold Oper.wp;rw[Dk,c,e];simp only[Oper.upon];exact d _ _ b h
theorem A7 {f:FuncId} {args:oG} (c:(execOp (ev σ) o).run P w=.ok (.enter f args) w) (d:Bj P f args w λv w'=>R v w'∧Ah w w'):Ka P N o R σ w:=by
 intro dz a ha g Q K b;unfold Oper.wp;rw[Dk,g,c];simp only[Oper.upon];refine Calls.mono d ?_;rintro e w' ⟨v,rfl,r,x⟩;exact b _ _ x r
theorem AE {ds:oC} (h:o.guard=none):LH ds o σ:=λj b a=>by rw[h] at a;cases a
end
def Ev (N i:Nat) (o:Oper) (d:Nat) (ws:oC):Bool:=
 (match o.dst with|some d'=>Nat.beq d' d|none=>false) && Nat.blt d N && (o.after.all λe=>!Region.binds .any e || Nat.blt e.on i) && ws.all λj=>o.after.any λe=>Region.binds .any e && Nat.beq e.on j
def Kw (N:Nat):Nat->List Oper->List Nat->List oC->Bool
  | _,[],[],[]=>true
  | i,o::l,d::ds,ws::wss=>Ev N i o d ws && Kw N (i+1) l ds wss
  | _,_,_,_=>false
def HZ:oC->Bool
  | []=>true
  | d::ds=>!ds.contains d && HZ ds
theorem DN:∀{ds:oC},HZ ds=true->∀{i j d:Nat},ds[i]?=some d->ds[j]?=some d->i=j
 | [],_,i,_,_,h,_=>by simp at h
 | x::ds,hn,i,j,d,hi,hj=>by
  simp only[HZ,dP,e_,List.contains_eq_mem,decide_eq_false_iff_not] at hn;cases i with
  | zero=>
   cases j with
   | zero=>rfl
   | succ j=>simp at hi hj;subst hi;exact absurd (dK hj) hn.1
  | succ i=>
   cases j with
   | zero=>simp at hi hj;subst hj;exact absurd (dK hi) hn.1
   | succ j=>simp at hi hj;rw[DN hn.2 hi hj]
theorem H3 {N:Nat}:∀{i:Nat} {l:List Oper} {ds:oC} {a:List oC},Kw N i l ds a=true->∀{j:Nat} {o:Oper},l[j]?=some o->∃d ws,ds[j]?=some d∧a[j]?=some ws∧Ev N (i+j) o d ws=true
 | _,[],_,_,_,j,o,h=>by simp at h
 | i,x::l,[],_,hB,_,_,_=>by simp[Kw] at hB
 | i,x::l,d::ds,[],hB,_,_,_=>by simp[Kw] at hB
 | i,x::l,d::ds,ws::a,hB,j,o,h=>by
  simp only[Kw,dP] at hB;cases j with
  | zero=>simp at h;subst h;exact ⟨d,ws,O,O,hB.1⟩
  | succ j=>
   simp at h;obtain ⟨g,b,c,f,e⟩:=H3 hB.2 h;exact ⟨g,b,by simpa using c,by simpa using f,by rw[show i+(j+1)=i+1+j from qO];exact e⟩
theorem QZ {N:Nat}:∀{i:Nat} {l:List Oper} {ds:oC} {a:List oC},Kw N i l ds a=true->ds.length=l.length
 | _,[],[],[],_=>rfl
 | _,[],[],_::_,hB=>by simp[Kw] at hB
 | _,[],_::_,_,hB=>by simp[Kw] at hB
 | i,x::l,[],_,hB=>by simp[Kw] at hB
 | i,x::l,d::ds,[],hB=>by simp[Kw] at hB
 | i,x::l,d::ds,ws::a,hB=>by
  simp only[Kw,dP] at hB;simp[QZ hB.2]
def LI (P:Program) (N:Nat) (ds:oC) (Fs:List Fact) (σ:CZ) (w:World) (o:Oper) (ws:oC) (F:Fact):Prop:=
 ∀σ' w',Ah w w'->(∀t,ds.contains t=false->σ' t=σ t)->(∀j,ws.contains j=true->Holds ds Fs j σ' w')->(LH ds o σ'∧Ka P N o F.In σ' w')∨(Ta ds o σ'∧F.In undef w')
inductive DagSteps (P:Program) (N:Nat) (ds:List Nat) (Fs:List Fact) (σ:CZ) (w:World):List Oper->List (List Nat)->List Fact->Prop where
  | nil:DagSteps P N ds Fs σ w [] [] []
  | cons {o:Oper} {ws:List Nat} {F:Fact} {l:List Oper} {wss:List (List Nat)} {Gs:List Fact}:LI P N ds Fs σ w o ws F->DagSteps P N ds Fs σ w l wss Gs->DagSteps P N ds Fs σ w (o::l) (ws::wss) (F::Gs)
theorem DagSteps.get {P:Program} {N:Nat} {ds:oC} {e:List Fact} {σ:CZ} {w:World}:∀{l:List Oper} {d:List oC} {f:List Fact},DagSteps P N ds e σ w l d f->∀{j:Nat} {o:Oper},l[j]?=some o->∃ws F,d[j]?=some ws∧f[j]?=some F∧LI P N ds e σ w o ws F
 | _,_,_,.nil,j,o,h=>by simp at h
 | _,_,_,.cons h1 h2,0,o,h=>by simp at h;subst h;exact ⟨_,_,O,O,h1⟩
 | _,_,_,.cons h1 h2,j+1,o,h=>by
  obtain ⟨ws,F,a,b,c⟩:=h2.get (j:=j) (by simpa using h);exact ⟨ws,F,by simpa using a,by simpa using b,c⟩
theorem Ga {P:Program} {N:Nat} {Q:EF} {σ:CZ} {w:World} {id:Nat} {l:List Oper} (ds:oC) (aa:List oC) (Fs:List Fact) {Gs:List Fact} (hG:Fs=Gs) (hm:P.follows .mixedOrders=true) (hB:Kw N 0 l ds aa=true) (hn:HZ ds=true)
 (U:∀C,Ah w C->DagSteps P N ds Fs σ C l aa Gs)
 (k:∀σ' w',Ah w w'->(∀t,ds.contains t=false->σ' t=σ t)->(∀j,Holds ds Fs j σ' w')->Q .normal σ' w'):Wp P N (.region id l.toArray true) Q σ w:=by
 intro dz a y D;refine wp_region_any hm ?_;obtain ⟨C,ab⟩:∃C:World,C={w with drawn:=w.drawn+1}:=⟨_,O⟩;have af:Ah w C:=by rw[ab];exact HH w
 rw[<-ab];have ag:=U C af;rw[<-hG] at ag;have hlen:=QZ hB;have ap:∀(m:Nat) (listed:Array Bool) (a:Act) (w':World),listed.size=l.length->listed.toList.count false<=m->Ok dz N a->Ah C w'->(∀t,ds.contains t=false->Dr a t=σ t)->(∀j,listed.getD j false=true->Holds ds Fs j (Dr a) w')->
  wpAny P .any l.toArray (EJ dz N Q) m listed a w':=by
  intro m;have I:∀(listed:Array Bool) (a:Act) (w':World),listed.size=l.length->Ok dz N a->Ah C w'->(∀t,ds.contains t=false->Dr a t=σ t)->(∀j,listed.getD j false=true->Holds ds Fs j (Dr a) w')->listed.toList.count false=0->EJ dz N Q .normal a w':=by
   intro listed a w' hs y K L T hc;refine ⟨y,k _ _ (af.trans K) L λj=>?_⟩;intro d F hd hF;have g:j<listed.size:=by have:=AX hd;omega
   refine T j ?_ d F hd hF;rw[kF] at hc;have:listed[j]≠false:=λh=>hc (by rw[<-h];exact mL g);simp only[eB,dV g,eL];simpa using this
  induction m with
  | zero=>
   intro listed a w' hs hc y K L T;have J:listed.toList.count false=0:=qO
   refine ⟨?_,I listed a w' hs y K L T J⟩;rw[List.eq_nil_iff_forall_not_mem];intro i hi;obtain ⟨h1,o,R,_⟩:=mem_ready.1 hi;have g:i<listed.size:=by have:=(fT.1 R).1;simp at this;omega
   simp only[eB,dV g,eL] at h1;rw[kF] at J;exact J (by rw[<-h1];exact mL g)
  | succ m ih=>
   intro listed a w' hs hc y K L T;refine ⟨λhr=>I listed a w' hs y K L T ?_,λi hi=>?_⟩
   .-- none is ready: I are listed
    have ad:∀i,i<listed.size->listed.getD i true=true:=by
     intro i
     induction i using Nat.strongRecOn with
     | _ i ihi=>
      intro hi;cases hv:listed.getD i true with
      | true=>rfl
      | false=>
       exfalso;obtain ⟨o,ho⟩:=AU (l:=l) (i:=i) qO;obtain ⟨d,ws,_,_,h3⟩:=H3 hB ho;have:i∈Region.ready .any l.toArray listed:=by
        refine mem_ready.2 ⟨hv,o,by simpa using ho,λe D hb=>?_⟩;simp only[Ev,dP,fA,eZ,e_,eO] at h3;have:=(h3.1.2 e D).resolve_left (by simp[hb]);have s:e.on<i:=by simpa[gY] using this
        have h4:=ihi e.on s qO;have g:e.on<listed.size:=qO
        simpa only[eB,dV g,eL] using h4
       rw[hr] at this;cases this
    rw[kF];intro ae;obtain ⟨i,hi,D⟩:=lQ ae;have g:i<listed.size:=by simpa using hi
    have:=ad i g;simp only[eB,dV g,eL] at this;simp at D;rw[this] at D;cases D
   .obtain ⟨h1,o,R,h3⟩:=mem_ready.1 hi;have ho:l[i]?=some o:=by simpa using R
    have hil:i<l.length:=AX ho;obtain ⟨d,ws,hd,ai,h4⟩:=H3 hB ho;obtain ⟨ws',F,G,hF,V⟩:=ag.get ho;rw[ai] at G;cases G;simp only[Ev,dP,fM,gI,fA,eZ,e_,eO] at h4;obtain ⟨⟨⟨q,M⟩,_⟩,X⟩:=h4;have q:o.dst=some d:=by
     split at q
     .rename_i S h;rw[h,dY q]
     .cases q
    have M:d<N:=by simpa[gY] using M
    have hH:∀j,ws.contains j=true->Holds ds Fs j (Dr a) w':=by
     intro j g;have ak:j∈ws:=by simpa using g
     obtain ⟨e,D,hb⟩:=X j ak;obtain ⟨an,al⟩:=hb;have:e.on=j:=dY al;exact T j (this▸h3 e D an)
    have E:∀v w2,Ah w' w2->F.In v w2->wpAny P .any l.toArray (EJ dz N Q) m (listed.setIfInBounds i true) (a.put o.dst v) w2:=by
     intro v w2 ac hv;have H:Dr (a.put o.dst v)=Of (Dr a) d v:=by rw[q];exact FN y M v
     refine ih _ _ _ (by simpa using hs) ?_ (y.put _ _) (K.trans ac) ?_ ?_
     .have aq:i<listed.toList.length:=by simp;omega
      have hl:listed.toList[i]=false:=by
       have g:i<listed.size:=qO
       simp only[eB,dV g,eL] at h1;simpa using h1
      rw[fC,List.count_set aq,hl,if_pos (by rfl),if_neg qD];omega
     .intro t ht;rw[H,<-L t ht];simp only[Of];cases hb:Nat.beq t d
      .rfl
      .exfalso;have:t=d:=dY hb;subst this;have:=dK hd;simp[this] at ht
     .intro j g S F' B W;rw[H];by_cases Z:j=i
      .subst Z;rw[hd] at B;cases B;rw[hF] at W;cases W;simp only[Of,kE,cond_true];exact hv
      .have am:Nat.beq S d=false:=by
        cases hb:Nat.beq S d
        .rfl
        .exfalso;have:S=d:=dY hb;subst this;exact Z (DN hn B hd)
       simp only[Of,am,cond_false];rw[getD_set_ne _ (Ne.symm Z)] at g;exact Fact.ext (T j g S F' B W) ac
    rcases V (Dr a) w' K L hH with ⟨hg,aj⟩|⟨⟨j,b,A,u,z,r⟩,ah⟩
    .have hw:Region.wanted o (yielded l.toArray a.tmps)=true:=by
      cases u:o.guard with
      | none=>simp[Region.wanted,u]
      | some p=>
       obtain ⟨j,b⟩:=p;obtain ⟨A,z,r⟩:=hg j b u;obtain ⟨oj,x⟩:=AU (l:=l) (i:=j) (by have:=AX z;omega);obtain ⟨ao,_,n,_,h5⟩:=H3 hB x;rw[z] at n;cases n;simp only[Ev,dP] at h5;obtain ⟨⟨⟨c,f⟩,_⟩,_⟩:=h5;have c:oj.dst=some A:=by
        split at c
        .rename_i S h;rw[h,dY c]
        .cases c
       have f:A<N:=by simpa[gY] using f
       have h6:a.tmps[A]?=some (Value.bool b):=by
        have R:a.tmps.getD A undef=.bool b:=r;have s:A<a.tmps.size:=by rw[y.size];exact f
        rw[dV s];simpa[s] using R
       simp[Region.wanted,u,yielded,x,c,h6]
     unfold wpOp;simp only[R,hw,if_true];exact dH (aj _ a y O _ _ E)
    .have hw:Region.wanted o (yielded l.toArray a.tmps)=false:=by
      obtain ⟨oj,x⟩:=AU (l:=l) (i:=j) (by have:=AX z;omega);obtain ⟨ao,_,n,_,h5⟩:=H3 hB x;rw[z] at n;cases n;simp only[Ev,dP] at h5;obtain ⟨⟨⟨c,f⟩,_⟩,_⟩:=h5;have c:oj.dst=some A:=by
       split at c
       .rename_i S h;rw[h,dY c]
       .cases c
      have f:A<N:=by simpa[gY] using f
      have s:A<a.tmps.size:=by rw[y.size];exact f
      have h6:a.tmps[A]?=some (Dr a A):=by
       rw[dV s];simp[Dr,s]
      rcases r with r|r
      .rw[r] at h6;cases b<;>simp[Region.wanted,u,yielded,x,c,h6]
      .rw[r] at h6;simp[Region.wanted,u,yielded,x,c,h6,undef]
     unfold wpOp;simp only[R,hw,gW,if_false];exact E undef w' (Ah.refl _) ah
 refine ap _ _ _ _ qP qP y (Ah.refl _) (λt _=>by rw[D]) ?_;intro j g;exfalso;simp only[eB,mH] at g;split at g<;>simp at g
theorem Ha {x a:Value} (h:x=a):[x]=[a]:=by rw[h]
theorem F_ {x y a b:Value} (h:x=a) (c:y=b):[x,y]=[a,b]:=by rw[h,c]
theorem aR {x y z a b c:Value} (h:x=a) (e:y=b) (d:z=c):[x,y,z]=[a,b,c]:=by rw[h,e,d]
section
variable {P : Program} {N : Nat} {σ : CZ} {w : World} {dst : Option Tmp} {ty : TypeId} {pos : String} {af : Array Edge} {g : Option (Nat × Bool)} {t : TypeId} {x y : Operand}
theorem DB {e:TypeId} {len n:Nat} {z:Value} {parts:List (Nat×Operand)} {ps:List (Nat×Value)} {c:oG} (h:(parts.map λ(i,x)=>(i,ev σ x))=ps) (a:P.underlying t=some (.slice e)) (hs:EI P e n) (b:FP P e z) (d:¬(len*n > 2 ^ 24)) (j:len*n≠0)
 (f:Instr.fill (λi=>some (i*n,n)) ((Array.range (len*n)).map (z.cells[· % z.cells.size]!)) ps=some c) :
 (execOp (ev σ) ⟨dst,.buildSlice t len parts.toArray,ty,pos,af,g⟩).run P w=.ok (.value (.slice (some ⟨w.heap.size,0,none⟩) len len)) {w with heap:=w.heap.push (.cells c e (0,0))}:=by
 subst h;simp only[execOp,Instr.buildSlice,mI,Sem.run_bind,run_underlying a,Result.andThen_ok,hs.run,d,j,if_false,Sem.run_pure,b.run,f];simp[newRow]
end
theorem Ml {P:Program} {N:Nat} {R:G0} {σ:CZ} {w:World} {dst:Option Tmp} {z:Operand} {args:List Operand} {tys:Array TypeId} {ty:TypeId} {pos:String} {af:Array Edge} {g:Option (Nat×Bool)} {fv:Value} {vs:n_}
 (c:ev σ z=fv) (d:args.map (ev σ)=vs) (a:CG P fv vs.toArray w λv w'=>R v w'∧Ah w w'):Ka P N ⟨dst,.call ⟨.value z,args.toArray,tys⟩,ty,pos,af,g⟩ R σ w:=by
 obtain ⟨f,fn,first,cap,rfl,e,hn,hb,b⟩:=a;exact A7 (Sl c e hn hb d O) b
inductive FactT (M:Nat->Prop) where
  | eq (v:Value)
  | gen (F:G0) (h:∀v w w',Chg M w w'->F v w->F v w')
  | own (F:G0) (h:∀v w w',Ah w w'->F v w->F v w')
  | till (F:G0) (h:∀v w w',Ah w w'->F v w->F v w')
def FactT.In {M:oD}:FactT M->G0
  | .eq u,v,_=>v=u
  | .gen F _,v,w=>F v w
  | .own F _,v,w=>F v w
  | .till F _,v,w=>F v w
def FactT.At {M:oD} (done:Bool):FactT M->G0
  | .till F _,v,w=>done=false->F v w
  | F,v,w=>F.In v w
theorem FactT.at_in {M:oD} {F:FactT M} {v:Value} {w:World} (h:F.In v w) (a:Bool):F.At a v w:=by
 cases F<;>first|exact h|exact λ_=>h
theorem FactT.at_false {M:oD} {F:FactT M} {v:Value} {w:World} (h:F.At false v w):F.In v w:=by
 cases F<;>first|exact h|exact h O
def FactT.isOwn {M:oD}:FactT M->Bool
  | .own _ _=>true
  | _=>false
theorem FactT.chg {M:oD} {F:FactT M} {v:Value} {w w':World} {a:Bool} (h:F.At a v w) (e:Chg M w w') (b:F.isOwn=false):F.At true v w':=by
 cases F with
 | eq u=>exact h
 | gen F hF=>exact hF _ _ _ e h
 | own F hF=>cases b
 | till F hF=>intro hd;cases hd
theorem FactT.ext {M:oD} {F:FactT M} {v:Value} {w w':World} {a:Bool} (h:F.At a v w) (e:Ah w w'):F.At a v w':=by
 cases F with
 | eq u=>exact h
 | gen F hF=>exact hF _ _ _ (Ah.chg e) h
 | own F hF=>exact hF _ _ _ e h
 | till F hF=>exact λhd=>hF _ _ _ e (h hd)
def VZ {M:oD} (c:Nat):Nat->List (FactT M)->Bool
  | _,[]=>true
  | i,F::l=>(!F.isOwn || Nat.beq i c) && VZ c (i+1) l
theorem Pu {M:oD} {c:Nat}:∀{i:Nat} {l:List (FactT M)},VZ c i l=true->∀{j:Nat} {F:FactT M},l[j]?=some F->i+j≠c->F.isOwn=false
 | _,[],_,_,_,h,_=>by simp at h
 | i,G::l,hB,0,F,h,hne=>by
  simp at h;subst h;simp only[VZ,dP,eZ,e_] at hB;rcases hB.1 with h|h
  .exact h
  .exact absurd (dY h) hne
 | i,G::l,hB,j+1,F,h,hne=>by
  simp only[VZ,dP] at hB;simp at h;exact Pu hB.2 h qO
def Dn (M:oD) (P:Program) (N:Nat) (o:Oper) (R:G0) (σ:CZ) (w:World):Prop:=
 ∀dz a,Ok dz N a->Dr a=σ->∀(Q:Exit->Act->World->Prop) (K:Act->World->Prop),(∀v w',Chg M w w'->R v w'->K (a.put o.dst v) w')->o.wp P a w K Q
def PC {M:oD} (ds:oC) (Fs:List (FactT M)) (done:Bool) (j:Nat) (σ:CZ) (w:World):Prop:=∀d F,ds[j]?=some d->Fs[j]?=some F->F.At done (σ d) w
section
variable {M : Nat → Prop} {P : Program} {N : Nat} {o : Oper} {R : G0} {σ : CZ} {w : World}
theorem BZ {v:Value} {w':World} (e:(execOp (ev σ) o).run P w=.ok (.value v) w') (b:Chg M w w') (h:R v w'):Dn M P N o R σ w:=by
 intro dz a ha c Q K d;unfold Oper.wp;rw[Dk,c,e];simp only[Oper.upon];exact d _ _ b h
theorem Mo {w':World} (e:(execOp (ev σ) o).run P w=.ok .skip w') (b:Chg M w w') (h:R undef w'):Dn M P N o R σ w:=by
 intro dz a ha c Q K d;unfold Oper.wp;rw[Dk,c,e];simp only[Oper.upon];exact d _ _ b h
theorem IE {f:FuncId} {args:oG} (c:(execOp (ev σ) o).run P w=.ok (.enter f args) w) (d:Bj P f args w λv w'=>R v w'∧Chg M w w'):Dn M P N o R σ w:=by
 intro dz a ha g Q K b;unfold Oper.wp;rw[Dk,g,c];simp only[Oper.upon];refine Calls.mono d ?_;rintro e w' ⟨v,rfl,r,x⟩;exact b _ _ x r
end
def Jf (N i:Nat) (o:Oper) (d:Nat) (ws:oC):Bool:=
 (match o.dst with|some d'=>Nat.beq d' d && Nat.blt d N|none=>Nat.ble N d) && (o.after.all λe=>!Region.binds .any e || Nat.blt e.on i) && (ws.all λj=>o.after.any λe=>Region.binds .any e && Nat.beq e.on j) && o.guard.isNone
def Hp (N:Nat):Nat->List Oper->List Nat->List oC->Bool
  | _,[],[],[]=>true
  | i,o::l,d::ds,ws::wss=>Jf N i o d ws && Hp N (i+1) l ds wss
  | _,_,_,_=>false
theorem IZ {N:Nat}:∀{i:Nat} {l:List Oper} {ds:oC} {a:List oC},Hp N i l ds a=true->∀{j:Nat} {o:Oper},l[j]?=some o->∃d ws,ds[j]?=some d∧a[j]?=some ws∧Jf N (i+j) o d ws=true
 | _,[],_,_,_,j,o,h=>by simp at h
 | i,x::l,[],_,hB,_,_,_=>by simp[Hp] at hB
 | i,x::l,d::ds,[],hB,_,_,_=>by simp[Hp] at hB
 | i,x::l,d::ds,ws::a,hB,j,o,h=>by
  simp only[Hp,dP] at hB;cases j with
  | zero=>simp at h;subst h;exact ⟨d,ws,O,O,hB.1⟩
  | succ j=>
   simp at h;obtain ⟨g,b,c,f,e⟩:=IZ hB.2 h;exact ⟨g,b,by simpa using c,by simpa using f,by rw[show i+(j+1)=i+1+j from qO];exact e⟩
theorem OG {N:Nat}:∀{i:Nat} {l:List Oper} {ds:oC} {a:List oC},Hp N i l ds a=true->ds.length=l.length
 | _,[],[],[],_=>rfl
 | _,[],[],_::_,hB=>by simp[Hp] at hB
 | _,[],_::_,_,hB=>by simp[Hp] at hB
 | i,x::l,[],_,hB=>by simp[Hp] at hB
 | i,x::l,d::ds,[],hB=>by simp[Hp] at hB
 | i,x::l,d::ds,ws::a,hB=>by
  simp only[Hp,dP] at hB;simp[OG hB.2]
def Ks (c:Nat) (wss:List oC) (i:Nat):Bool:=Nat.beq i c || (wss.getD c []).contains i
def valOf (o:Oper) (v:Value):Value:=match o.dst with
  | some _=>v
  | none=>undef
def Qy {M:oD} (P:Program) (N:Nat) (ds:oC) (Fs:List (FactT M)) (σ:CZ) (w:World) (own calm:Bool) (o:Oper) (ws:oC) (F:FactT M):Prop:=
 ∀σ' w',Chg (bif calm then Aj else M) w w'->(∀t,ds.contains t=false->σ' t=σ t)->(∀j,ws.contains j=true->PC ds Fs (!calm) j σ' w')->Dn (bif own then M else Aj) P N o (λv w=>F.In (Go.Eng.valOf o v) w) σ' w'
inductive DagStepsT {M:Nat->Prop} (P:Program) (N:Nat) (ds:List Nat) (Fs:List (FactT M)) (σ:CZ) (w:World) (c:Nat) (all:List (List Nat)):Nat->List Oper->List (List Nat)->List (FactT M)->Prop where
  | nil {i:Nat}:DagStepsT P N ds Fs σ w c all i [] [] []
  | cons {i:Nat} {o:Oper} {ws:List Nat} {F:FactT M} {l:List Oper} {wss:List (List Nat)} {Gs:List (FactT M)}:Qy P N ds Fs σ w (Nat.beq i c) (Ks c all i) o ws F->DagStepsT P N ds Fs σ w c all (i+1) l wss Gs->DagStepsT P N ds Fs σ w c all i (o::l) (ws::wss) (F::Gs)
theorem DagStepsT.get {M:oD} {P:Program} {N:Nat} {ds:oC} {g:List (FactT M)} {σ:CZ} {w:World} {c:Nat} {d:List oC}:∀{i:Nat} {l:List Oper} {e:List oC} {f:List (FactT M)},DagStepsT P N ds g σ w c d i l e f->∀{j:Nat} {o:Oper},l[j]?=some o->∃ws F,e[j]?=some ws∧f[j]?=some F∧Qy P N ds g σ w (Nat.beq (i+j) c) (Ks c d (i+j)) o ws F
 | _,_,_,_,.nil,j,o,h=>by simp at h
 | _,_,_,_,.cons h1 h2,0,o,h=>by simp at h;subst h;exact ⟨_,_,O,O,h1⟩
 | i,_,_,_,.cons h1 h2,j+1,o,h=>by
  obtain ⟨ws,F,a,b,c⟩:=h2.get (j:=j) (by simpa using h);exact ⟨ws,F,by simpa using a,by simpa using b,by rw[show i+(j+1)=i+1+j from qO];exact c⟩
def JW (n m:Nat):Array Bool:=(List.replicate n true++List.replicate (m - n) false).toArray
theorem MU {l:List Bool} {n i:Nat} (hi:i<n) (hl:n<=l.length) (c:l[i]?=some false):((l.set i true).take n).count false+1=(l.take n).count false:=by
 have a:i<(l.take n).length:=by simp;omega
 rw[List.take_set,List.count_set a];have:(l.take n)[i]=false:=by
  have b:(l.take n)[i]?=some false:=by rw[gL hi];exact c
  rw[dM a] at b;simpa using b
 rw[this,if_pos (by rfl),if_neg qD];have:0<(l.take n).count false:=by
  rw[List.count_pos_iff];rw[<-this];exact mJ a
 omega
theorem V' {l:List Bool} {n:Nat} (hl:n<=l.length) (b:(l.take n).count false=0) (c:∀t,n<=t->t<l.length->l[t]?=some false):l=List.replicate n true++List.replicate (l.length - n) false:=by
 apply fW;intro i;rcases eI i n with h|h
 .rw[dQ (by simpa using h),gX,if_pos h];have hi:i<l.length:=qO
  rw[dM hi];cases hv:l[i] with
  | true=>rfl
  | false=>
   exfalso;rw[kF] at b;apply b;have:(l.take n)[i]?=some false:=by rw[gL h,dM hi,hv]
   exact dK this
 .rw[dX (by simpa using h),gX,List.length_replicate];rcases eI i l.length with a|a
  .rw[if_pos qO,c i h a]
  .rw[if_neg qO,eR a]
theorem LG {P:Program} {N:Nat} {Q:EF} {σ:CZ} {w:World} {id:Nat} {l:List Oper} (M:oD) (n c:Nat) (ds:oC) (g:List oC) (Fs:List (FactT M)) {Gs:List (FactT M)} (hG:Fs=Gs) (hO:VZ c 0 Gs=true) (hm:P.follows .mixedOrders=true) (hB:Hp N 0 (l.take n) ds g=true) (hn:HZ ds=true)
 (hT:(decide (n<l.length) && Region.sinkB .any l.toArray n && Region.chainB .any l.toArray n && Region.seqB .any l.toArray (l.length - n) n (JW n l.length))=true)
 (ad:∀x,Ah w x->DagStepsT P N ds Fs σ x c g 0 (l.take n) g Gs)
 (k:∀σ' x w',Ah w x->Chg M x w'->(∀t,ds.contains t=false->σ' t=σ t)->(∀j,PC ds Fs true j σ' w')->Dp P N l.toArray (Q .normal) Q (l.drop n) σ' w'):Wp P N (.region id l.toArray true) Q σ w:=by
 intro dz a Z T;have eQ:EJ dz N (NE (Q .normal) Q)=EJ dz N Q:=by funext e a w;cases e<;>rfl
 refine wp_region_any hm ?_;obtain ⟨x,aj⟩:∃x:World,x={w with drawn:=w.drawn+1}:=⟨_,O⟩;have ao:Ah w x:=by rw[aj];exact HH w
 rw[<-aj];have ap:=ad x ao;rw[<-hG] at ap;simp only[dP,decide_eq_true_eq] at hT;obtain ⟨⟨⟨ba,hs⟩,hc⟩,ar⟩:=hT;have R:∀{q:Bool} {u u':World},Chg (bif q then M else Aj) u u'->Chg M u u':=fun {q u u'} h=>by cases q with|true=>exact h|false=>exact Ah.chg h
 have hlen:ds.length=n:=by rw[OG hB];simp;omega
 have a7:∀(m:Nat) (listed:Array Bool) (a:Act) (w':World),(listed.toList.take n).count false=m->HeadInv .any l.toArray n listed->Ok dz N a->Chg (bif listed.getD c false then M else Aj) x w'->(∀t,ds.contains t=false->Dr a t=σ t)->(∀j,listed.getD j false=true->PC ds Fs (listed.getD c false) j (Dr a) w')->
  wpAny P .any l.toArray (EJ dz N Q) (m+(l.length - n)) listed a w':=by
  intro m
  induction m with
  | zero=>
   intro listed a w' av r Z hx hu hh;have ai:listed.size=l.length:=by simpa using r.size
   have hl:listed=JW n l.length:=by
    apply iJ;rw[JW];have:=V' (l:=listed.toList) (n:=n) (by simp;omega) av (by
     intro t B U;have ag:t<listed.size:=by simpa using U
     have:=r.tail t B (by simpa[ai] using ag);simp only[eB,dV ag,eL] at this;simp[ag,this])
    rw[this];simp[ai]
   rw[eO];have B:=k (Dr a) x w' ao (R hx) hu (λj d F hd L=>by
    have H:j<n:=by have:=AX hd;omega
    have U:=hh j (by
     rw[hl,JW];simp[eB,dQ,H]) d F hd L
    cases F with
    | till F L=>intro hd;cases hd
    | eq u=>exact U
    | gen F L=>exact U
    | own F L=>exact U) dz a Z O
   rw[eQ] at B;have:=wpAny_of_seq (P:=P) (md:=.any) (ops:=l.toArray) (Q':=EJ dz N Q) (l.drop n) n listed a w' (λj=>by simp[jJ]) (by rw[iP,hl];exact ar) B
   rwa [iP] at this
  | succ m ih=>
   intro listed a w' hcm r Z hx hu hh;have ai:listed.size=l.length:=by simpa using r.size
   obtain ⟨i0,X,ae⟩:∃i,i<n∧listed.getD i true=false:=by
    have:0<(listed.toList.take n).count false:=qO
    rw[List.count_pos_iff] at this;obtain ⟨i,hi,T⟩:=lQ this;have E:i<n:=by simp at hi;omega
    refine ⟨i,E,?_⟩;have y:i<listed.size:=by simp at hi;omega
    simp only[eB,dV y,eL];simpa using T
   rw[show m+1+(l.length - n)=(m+(l.length - n))+1 by omega];refine ⟨λhr=>?_,λi hi=>?_⟩
   .exfalso;have am:∀i,i<n->listed.getD i true=true:=by
     intro i
     induction i using Nat.strongRecOn with
     | _ i ihi=>
      intro hi;cases hv:listed.getD i true with
      | true=>rfl
      | false=>
       exfalso;obtain ⟨o,ho⟩:=AU (l:=l) (i:=i) qO;have S:(l.take n)[i]?=some o:=by rw[gL hi];exact ho
       obtain ⟨d,ws,_,_,h3⟩:=IZ hB S;have:i∈Region.ready .any l.toArray listed:=by
        refine mem_ready.2 ⟨hv,o,by simpa using ho,λe T hb=>?_⟩;simp only[Jf,dP,fA,eZ,e_,eO] at h3;have:=(h3.1.1.2 e T).resolve_left (by simp[hb]);have az:e.on<i:=by simpa[gY] using this
        have h4:=ihi e.on az qO;have H:e.on<listed.size:=qO
        simpa only[eB,dV H,eL] using h4
       rw[hr] at this;cases this
    rw[am i0 X] at ae;cases ae
   .have E:i<n:=by
     rcases eI i n with h|h
     .exact h
     .exact absurd hi (tail_waits hs hc (by simpa using ba) r _ i0 O X ae i h)
    obtain ⟨B,o,U,h3⟩:=mem_ready.1 hi;have y:i<listed.size:=qO
    have ho:l[i]?=some o:=by simpa using U
    have S:(l.take n)[i]?=some o:=by rw[gL E];exact ho
    obtain ⟨d,ws,hd,aw,h4⟩:=IZ hB S;obtain ⟨ws',F,W,L,C⟩:=ap.get S;rw[aw] at W;cases W;simp only[eO] at C;simp only[Jf,dP,fM,gI,fA,eZ,e_,eO] at h4;obtain ⟨⟨⟨f,_⟩,af⟩,ab⟩:=h4;have ab:o.guard=none:=by simpa using ab
    -- what is sure to come ahead of the change
    have G:Ks c g i=true->listed.getD c false=false:=by
     intro b;simp only[Ks,eZ] at b;rcases b with b|b
     .have:i=c:=dY b;subst this;exact getD_both B
     .cases hlc:listed.getD c false with
      | false=>rfl
      | true=>
       exfalso;have a6:c<n:=by
        rcases eI c n with h|h
        .exact h
        .rcases eI c l.length with h'|h'
         .have:=getD_both (r.tail c h (by simpa using h'));rw[this] at hlc;cases hlc
         .simp[gG (show listed.size<=c by omega)] at hlc
       obtain ⟨oc,aq⟩:=AU (l:=l) (i:=c) qO;have al:(l.take n)[c]?=some oc:=by rw[gL a6];exact aq
       obtain ⟨dc,ax,_,au,V⟩:=IZ hB al;have a8:g.getD c []=ax:=by simp[au]
       rw[a8] at b;simp only[Jf,dP,fM,gI,eO] at V;obtain ⟨e,T,ac,aa⟩:=V.1.2 i (by simpa using b);have a5:e.on=i:=dY aa;have:=r.closed c oc (by simpa using aq) hlc e T ac;rw[a5,getD_both B] at this;cases this
    have hH:∀j,ws.contains j=true->PC ds Fs (!Ks c g i) j (Dr a) w':=by
     intro j H J F' z A;have a1:j∈ws:=by simpa using H
     obtain ⟨e,T,hb⟩:=af j a1;obtain ⟨ac,aa⟩:=hb;have:e.on=j:=dY aa;have V:=hh j (this▸h3 e T ac) J F' z A;cases b:Ks c g i with
     | true=>rw[G b] at V;exact V
     | false=>
      cases F' with
      | till F L=>intro hd;cases hd
      | eq u=>exact V
      | gen F L=>exact V
      | own F L=>exact V
    have K:(∀I,Chg (bif Nat.beq i c then M else Aj) w' I->Chg (bif (listed.setIfInBounds i true).getD c false then M else Aj) x I):=by
     intro I p;by_cases s:i=c
     .subst s;rw[kE] at p;have hg:(listed.setIfInBounds i true).getD i false=true:=by simp[eB,y]
      rw[hg];exact (R hx).trans p
     .have hb:Nat.beq i c=false:=by cases hb:Nat.beq i c;rfl;exact absurd (dY hb) s
      rw[hb] at p;rw[getD_set_ne _ s];exact hx.ext p
    have ak:∀v I,Chg (bif Nat.beq i c then M else Aj) w' I->F.In (Go.Eng.valOf o v) I->wpAny P .any l.toArray (EJ dz N Q) (m+(l.length - n)) (listed.setIfInBounds i true) (a.put o.dst v) I:=by
     intro v I p hv;have D:(∀t,t≠d->Dr (a.put o.dst v) t=Dr a t)∧Dr (a.put o.dst v) d=Go.Eng.valOf o v:=by
      cases hod:o.dst with
      | none=>
       rw[hod] at f;have a9:N<=d:=iU f;refine ⟨λt _=>rfl,?_⟩;simp only[Go.Eng.valOf,hod];show a.tmps.getD d undef=undef;have:a.tmps.size<=d:=by rw[Z.size];exact a9
       simp[gG this]
      | some J=>
       rw[hod] at f;simp only[dP] at f;have a2:J=d:=dY f.1;have ay:d<N:=by simpa[gY] using f.2
       subst a2;rw[FN Z ay v];refine ⟨λt ht=>?_,?_⟩
       .have:Nat.beq t J=false:=by cases hb:Nat.beq t J;rfl;exact absurd (dY hb) ht
        simp[Of,this]
       .simp[Of,Go.Eng.valOf,hod]
     refine ih _ _ _ ?_ (r.set hi E) (Z.put _ _) (K I p) ?_ ?_
     .have hl:listed.toList[i]?=some false:=by
       simp only[eB,dV y,eL] at B;simp[y,B]
      have:=MU (l:=listed.toList) E (by simp;omega) hl;rw[fC];omega
     .intro t ht;rw[D.1 t (λh=>by
       subst h;have:=dK hd;simp[this] at ht),hu t ht]
     .intro j H J F' z A;by_cases ah:j=i
      .subst ah;rw[hd] at z;cases z;rw[L] at A;cases A;rw[D.2];exact FactT.at_in hv _
      .have a4:J≠d:=by
        intro h;subst h;exact ah (DN hn z hd)
       rw[D.1 J a4];rw[getD_set_ne _ (Ne.symm ah)] at H;have h6:=hh j H J F' z A;by_cases s:i=c
       .have hg:(listed.setIfInBounds i true).getD c false=true:=by rw[<-s];simp[eB,y]
        rw[hg];exact FactT.chg h6 (R p) (Pu hO (by rw[<-hG];exact A) qO)
       .have hb:Nat.beq i c=false:=by
         cases hb:Nat.beq i c
         .rfl
         .exact absurd (dY hb) s
        rw[hb] at p;rw[getD_set_ne _ s];exact FactT.ext h6 p
    have a3:Chg (bif Ks c g i then Aj else M) x w':=by
     cases b:Ks c g i with
     | true=>rw[G b] at hx;exact hx
     | false=>exact R hx
    have a0:=C (Dr a) w' a3 hu hH;have hw:Region.wanted o (yielded l.toArray a.tmps)=true:=by simp[Region.wanted,ab]
    unfold wpOp;simp only[U,hw,if_true];exact dH (a0 _ a Z O _ _ ak)
 have an:HeadInv .any l.toArray n (Array.replicate l.toArray.size false):=
  ⟨qP,λj oj _ hl=>(by rw[getD_replicate_false] at hl;cases hl),λt _ ht=>getD_in (by simpa using ht) (getD_replicate_false _ _)⟩
 have B:=a7 n (Array.replicate l.toArray.size false) a x (by simp;omega) an Z (by rw[getD_replicate_false];exact Chg.refl _ _) (λt _=>by rw[T]) (λj H=>by rw[getD_replicate_false] at H;cases H);have e3:n+(l.length - n)=l.toArray.size:=by simp;omega
 rw[e3] at B;exact B
section
variable {M : Nat → Prop} {P : Program} {N : Nat} {σ : CZ} {w : World} {ty : TypeId} {pos : String} {af : Array Edge} {g : Option (Nat × Bool)} {t : TypeId} {x y : Operand} {R : G0}
theorem Qv {b o:Nat} {v:Value} {c:oG} {e:TypeId} (l:ev σ x=.pointer (some ⟨b,o,none⟩)) (n:ev σ y=v) (i:v.oneCell'=true) (hs:EI P t 1) (j:BV w b c e) (p:o<c.size) (m:M b) (k:∀w',Put w w' b (c.setIfInBounds o v) e->R undef w') :
 Dn M P N ⟨none,.store t x y,ty,pos,af,g⟩ R σ w:=by
 have f:=Put.of_setRow j (c.setIfInBounds o v);refine Mo (w':=w.setRow b (c.setIfInBounds o v)) ?_ (f.chg.mono λz _ h=>by subst h;exact m) (k _ f);have d:v.cells=#[v]:=by cases v<;>first|rfl|(simp[Value.oneCell'] at i;done)
 have a:=run_storeCells_at P b o e [v] 0 c w j (by simp;omega) (by simpa using i);have q:(c.toList.take (o+0)++[v]++c.toList.drop (o+0+[v].length)).toArray=c.setIfInBounds o v:=by
  apply iJ;simp only[jO,jP,fC];rw[kS,if_pos (by simpa using p)];simp
 rw[q] at a;simp[execOp,l,n,Instr.storeAt,Instr.sureAddr,storeVar,hs.run,d,a]
theorem Mn {b o n:Nat} {vs c:oG} {e:TypeId} (l:ev σ x=.pointer (some ⟨b,o,none⟩)) (j:ev σ y=.agg vs) (k:∀v∈vs.toList,v.oneCell'=true) (hs:EI P t n) (hn:vs.size=n) (d:BV w b c e) (p:o+n<=c.size) (i:M b) (m:∀w',Put w w' b (c.toList.take o++vs.toList++c.toList.drop (o+n)).toArray e->R undef w') :
 Dn M P N ⟨none,.store t x y,ty,pos,af,g⟩ R σ w:=by
 subst hn;have f:=Put.of_setRow d (c.toList.take o++vs.toList++c.toList.drop (o+vs.size)).toArray;refine Mo (w':=w.setRow b _) ?_ (f.chg.mono λz _ h=>by subst h;exact i) (m _ f);have a:=run_storeCells_at P b o e vs.toList 0 c w d (by simpa using p) k;simp only[jO,h_] at a;simp[execOp,l,j,Instr.storeAt,Instr.sureAddr,storeVar,hs.run,Value.cells,a]
end
end Go.Eng
namespace Go.Proofs
open Go Go.Eng
set_option maxRecDepth 100000
section
variable {P : Program} {σ : CZ} {w : World} {dst : Option Tmp} {ty : TypeId} {pos : String} {af : Array Edge} {g : Option (Nat × Bool)} {t t' e : TypeId} {x y : Operand}
theorem Lm {a:oE} {n c n' c':Nat} (b:P.underlying t=some (.slice e)) (hx:ev σ x=.slice a n c) (hy:ev σ y=.slice none n' c') :
 (execOp (ev σ) ⟨dst,.binOp .eql t x y t',ty,pos,af,g⟩).run P w=.ok (.value (.bool a.isNone)) w:=by
 have h:(Op.equalIn 10000 t (.slice a n c) (.slice none n' c')).run P w=.ok a.isNone w:=by
  rw[Op.equalIn];cases a<;>simp[run_underlying b]
 cases a<;>simp_all[execOp,eqGuard,binOp,Op.equal,Op.maxDepth]
theorem J8 {s:Operand} {a a':oE} {n c c' size:Nat} (f:P.underlying t=some (.slice e)) (hs:EI P e size) (d:ev σ s=.slice a n c) (hn:n<=c) (b:ev σ x=.slice a' 0 c') :
 (execOp (ev σ) ⟨dst,.call ⟨.builtin .append,#[s,x],#[t,t]⟩,ty,pos,af,g⟩).run P w=.ok (.value (.slice a n c)) w:=by
 have hz:size*0=0:=Nat.mul_zero _;cases a<;>cases a'<;>simp[execOp,resolve,invoke,builtin,Builtin.append_,d,b,run_underlying f,hs.run,Builtin.lenOf,Builtin.firstCells,loadCells,loadCellsFrom,storeCells,hn]
theorem Hw {N:Nat} {Q:EF} {K:CZ->World->Prop} {ops:Array Oper} {rest:List Oper} {d size:Nat} (c:d<N) (a:P.underlying t=some (.slice e)) (hs:EI P e size)
 (k:∀b w',New w w' b #[] e->Dp P N ops K Q rest (Of σ d (.slice (some ⟨b,0,none⟩) 0 0)) w'):Dp P N ops K Q (⟨some d,.buildSlice t 0 #[],ty,pos,af,none⟩::rest) σ w:=by
 refine CM (v:=.slice (some ⟨w.heap.size,0,none⟩) 0 0) (w':={w with heap:=w.heap.push (.cells #[] e (0,0))}) O O c ?_ (k _ _ (New.mk' w #[] e));have f:Array.range 0=#[]:=rfl;simp[execOp,Instr.buildSlice,run_underlying a,hs.run,Instr.fill,newRow,f]
end
theorem IN {w:World} {b e base size:Nat} (h:BV w b #[] e) (hb:base<=b):w.ownsRow base e size (.slice (some ⟨b,0,none⟩) 0 0) 0 []:=
 ⟨qP,.inr ⟨b,0,#[],O,hb,h,dU _,by simp[maxLen],qP,qP⟩⟩
theorem N_ (l:oB):(l.map GB).flatten=l.map (Value.int .i64):=by
 induction l with
 | nil=>rfl
 | cons x l ih=>simp only[gK,fE,ih];rfl
theorem Zj (j:World) (v:Value) (x:Int) (l:oB) (hs:Bw j v l) :
 Bj prog 124 #[v,.int .i64 x] j λr w=>r=.int .i64 (Hg (λy=>decide (x=y)) l)∧Ah j w:=by
 obtain ⟨a,c,rfl⟩:=BX.form hs;have hlen:l.length<=9223372036854775807:=by simpa using BX.le hs
 simp only[dW] at hs⊢;refine qR func124 O ntmps124 O (λE=>(AA (qA _ O (AB (AH (AA (qM _ O (qV (AT eA O) (qM _ O (AB (AW (Ax (λnn_ σ q=>∃(k:Nat),(∃jj_,σ=BW jj_ [(0,(.slice a l.length c)),(1,(I6 x)),(7,(I6 (l.length:Int))),(8,(I6 (k:Int)))])∧Chg Aj j q∧(k<=l.length)∧(∀(i:Nat) (y:Int),i<k->l[i]?=some y->decide (x=y)=false)∧nn_=l.length - k) (n:=l.length - 0) ?_ ?_))))))))))))
 .exact ⟨0,Ak.out ⟨O,O,O,O,trivial⟩,E,dR _,(λi y h=>absurd h (fU _)),O⟩
 .clear E;rintro _ _ q ⟨k,⟨j1,rfl⟩,E,hk,e,rfl⟩;refine AA (qV (A6 O O) (AB (AH (qC O (λp=>?_) (λp=>?_)))))
  .obtain ⟨y,g⟩:=AU (l:=l) (i:=k) qO;obtain ⟨b,o,rfl,d⟩:=CX hs qO;refine AM (AC (AH (AW (AA (qM _ O (qA _ O (AB (AA (qM _ O (qM _ O (qM _ O (qV (AL (b:=b) (o:=o) (len:=l.length) (cap:=c) (i:=k) (o':=o+k) O O O eA Al qO qO) (qV (AJ O Ag (E.cell (λf=>f) (d k y g))) (qV (Ai O O) (AB (qC O (λm=>?_) (λm=>?_)))))))))))))))))
   .refine AA (qM _ O (qA _ O (AB (AO (Ac (AK (AK (Ac (AK (AY results124 (v:=(.int .i64 ((k:Nat):Int))) O ?_))))))))));exact ⟨BI (GC g (by simpa using m) e).symm,E⟩
   .refine AM (AV (AC (AN (qV (A0 O O (A8 qO)) (qM _ O (AB (AC ?_)))))));exact ⟨l.length - (k+1),qO,k+1,Ak.out ⟨O,O,O,O,trivial⟩,E,qO,GY g (by simpa using m) e,O⟩
  .have hkk:k=l.length:=qO
   refine Av (AZ (AZ (Ao (AC (AA (qA _ O (AB (AO (AY results124 (v:=(.int .i64 (-1))) O ?_)))))))));exact ⟨BI (HF λi y g=>e i y (by have:=AX g;omega) g).symm,E⟩
theorem Zl (a:World) (v:Value) (x:Int) (l:oB) (hs:Bw a v l) :
 Bj prog 104 #[v,.int .i64 x] a λr w=>r=.bool (l.contains x)∧Ah a w:=by
 refine qR func104 O ntmps104 O (λE=>(AA (qA _ O (AB (AA (qM v O (qM _ O (qE O (AS func124 kQ kQ O) (Zj _ v x l hs) ?_))))))));rintro _ w9 ⟨rfl,b⟩;have E:=E.ext b;refine qV (El O O) (qA _ O (AB (AO (AY results104 (v:=(.bool (decide ((0:Int)<=Hg (λy=>decide (x=y)) l)))) O ?_))));exact ⟨A' ((Hf _ l).trans (by rw[List.contains_eq_any_beq];congr 1)),E⟩
theorem Po {P:Program} {w:World} {e:TypeId} {cs:oG} {o:Nat} {v:Value} (b:Ed P e=true) (a:cs[o]?=some v):(part e cs o).run P w=.ok v w:=by
 simp[part,Ed.run b,a]
theorem JX {α:Type} {l m:List α} (hl:l.length=m.length) (h:∀i,i<l.length->l[i]?=m[i]?):l=m:=by
 apply fW;intro i;rcases eI i l.length with a|a
 .exact h i a
 .rw[eR a,eR qO]
section
variable {P : Program} {σ : CZ} {w : World} {dst : Option Tmp} {ty : TypeId} {pos : String} {af : Array Edge} {g : Option (Nat × Bool)} {t t' e : TypeId} {x y : Operand}
theorem O6 {m n : Field} (d : Nat) (a b c f : Int) (B : P.stoodInHeld t = false) (z : P.underlying t = some (.struct #[m, n])) (k : m.name ≠ "_") (h : n.name ≠ "_") (i : m.offset = 0) (g : n.offset = 1) (o : m.type = e) (p : n.type = e) (A : P.underlying e = some (.int .i64)) (v : Ed P e = true) :
 (Op.equalIn (d+2) t (.agg #[.int .i64 a,.int .i64 b]) (.agg #[.int .i64 c,.int .i64 f])).run P w=.ok (decide (a=c) && decide (b=f)) w:=by
 have u:∀x y:Int,(Op.equalIn (d+1) e (.int .i64 x) (.int .i64 y)).run P w=.ok (x == y) w:=λx y=>run_equalIn_int w d e .i64 .i64 x y A;have s:∀x y:Int,(part e #[.int .i64 x,.int .i64 y] 0).run P w=.ok (.int .i64 x) w:=λx y=>Po v O;have r:∀x y:Int,(part e #[.int .i64 x,.int .i64 y] 1).run P w=.ok (.int .i64 y) w:=λx y=>Po v O;have q:(program).run P w=.ok P w:=rfl;rw[Op.equalIn];simp only[Sem.run_bind,run_underlying z,Result.andThen_ok,q,B];by_cases j:a=c
 .by_cases l:b=f
  .simp[k,h,i,g,o,p,s,r,u,j,l]
  .simp[k,h,i,g,o,p,s,r,u,j,l]
 .simp[k,h,i,g,o,p,s,r,u,j]
theorem NQ {d i : Field} {a b c f : Int} (v : P.stoodInHeld t = false) (s : P.underlying t = some (.struct #[d, i])) (m : d.name ≠ "_") (k : i.name ≠ "_") (l : d.offset = 0) (j : i.offset = 1) (o : d.type = e) (p : i.type = e) (u : P.underlying e = some (.int .i64)) (z : Ed P e = true) (n : P.eqGuardType P.depth t = false)
 (r:ev σ x=.agg #[.int .i64 a,.int .i64 b]) (q:ev σ y=.agg #[.int .i64 c,.int .i64 f]) :
 (execOp (ev σ) ⟨dst,.binOp .neq t x y t',ty,pos,af,g⟩).run P w=.ok (.value (.bool (!(decide (a=c) && decide (b=f))))) w:=by
 have h:=O6 (P:=P) (w:=w) 9998 a b c f v s m k l j o p u z;simp only[execOp,r,q,Sem.run_bind,run_eqGuard_agg w .neq t x y _ _ n,Result.andThen_ok,run_neq_struct,h];rfl
end
theorem TI:prog.eqGuardType prog.depth 80=false:=by kernel_rfl
theorem NG:prog.stoodInHeld 80=false:=by kernel_rfl
theorem Ux (j:World) (D G:Value) (c d:List (Int×Int)) (m:BP j D c) (u:BP j G d) :
 Bj prog 73 #[D,G] j λv w=>v=.bool (decide (c=d))∧Ah j w:=by
 obtain ⟨M,H,rfl⟩:=BX.form m;obtain ⟨K,C,rfl⟩:=BX.form u;have hb1:c.length<=9223372036854775807:=by simpa using BX.le m
 simp only[dW] at m u⊢;refine qR func73 O ntmps73 O (λE=>(AA (qA _ O (AB (AH (AA (qM _ O (qV (AT dS O) (qM _ O (qV (AT dS O) (qV (Bb O O) (AB (qC O (λx=>?_) (λx=>?_))))))))))))))
 .refine AA (qA _ O (AB (AO (AK (AY results73 (v:=(.bool false)) O ?_)))));exact ⟨A' (by symm;rw[decide_eq_false_iff_not];intro h;rw[h] at x;exact x O),E⟩
 .refine AM (AC (AH (AA (qM _ O (qV (AT dS O) (qM _ O (AB (AW (Ax (λnn_ σ A=>∃(k:Nat),(∃jj_,σ=BW jj_ [(0,(.slice M c.length H)),(1,(.slice K d.length C)),(12,(I6 (c.length:Int))),(13,(I6 (k:Int)))])∧Chg Aj j A∧(k<=c.length)∧(∀(i:Nat),i<k->c[i]?=d[i]?)∧nn_=c.length - k) (n:=c.length - 0) ?_ ?_)))))))))
  .exact ⟨0,Ak.out ⟨O,O,O,O,trivial⟩,E,dR _,(λi h=>absurd h (fU _)),O⟩
  .clear E;rintro _ _ A ⟨k,⟨j2,rfl⟩,E,hk,f,rfl⟩;refine AA (qV (A6 O O) (AB (AH (qC O (λs=>?_) (λs=>?_)))))
   .obtain ⟨p,t⟩:=AU (l:=c) (i:=k) qO;obtain ⟨q,r⟩:=AU (l:=d) (i:=k) qO;obtain ⟨J,F,rfl,z⟩:=BR m qO;obtain ⟨L,B,rfl,y⟩:=BR u qO;refine AM (AC (AH (AW (AA (qM _ O (qA _ O (AB (Eg 8 mixed qK ?_))))))));intro w4 I _;have E:=E.ext I;refine qT (Am O) (qT (Am O) (qT (AL (b:=J) (o:=F) (len:=c.length) (cap:=H) (i:=k) (o':=F+k*2) O O O dS BL qO qO) (qT (AI O Dw BL O ((z k p t).ext E)) (qT (Am O) (qT (Am O) (qT (AL (b:=L) (o:=B) (len:=d.length) (cap:=C) (i:=k) (o':=B+k*2) O O O dS BL qO qO) (qT (AI O Dw BL O ((y k q r).ext E)) (Gc (CM (v:=(.bool (!(decide (p.1=q.1) && decide (p.2=q.2))))) O O qD (NQ NG eM qD qD O O O O fY Ag TI O O) (AB (A4 O (λa=>?_) (λa=>?_))))))))))))
    .have e:=a;have a:=by simpa using a
     refine AA (qA _ O (AB (AO (Ac (AK (AK (Ac (AK (AY results73 (v:=(.bool false)) O ?_)))))))));exact ⟨A' (by symm;rw[decide_eq_false_iff_not];intro h;subst h;rw[t] at r;cases r;simp at a),E⟩
    .have e:=a;have a:=by simpa using a
     have g:p=q:=by obtain ⟨p1,p2⟩:=p;obtain ⟨q1,q2⟩:=q;simp at a;simp;exact a
     refine AM (AV (AC (AN (qV (A0 O O (A8 qO)) (qM _ O (AB (AC ?_)))))));exact ⟨c.length - (k+1),qO,k+1,Ak.out ⟨O,O,O,O,trivial⟩,E,qO,(λi hi=>by rcases eI i k with h|h;exact f i h;obtain rfl:i=k:=qO;rw[t,r,g]),O⟩
   .have hkk:k=c.length:=qO
    refine Av (AZ (AZ (Ao (AC (AA (qA _ O (AB (AO (AY results73 (v:=(.bool true)) O ?_)))))))));exact ⟨A' (by symm;rw[decide_eq_true_eq];exact JX qO (λi hi=>f i qO)),E⟩
theorem LV {w:World} {b o:Nat} {l:List (Int×Int)} (h:∀i s,l[i]?=some s->BG w b (o+i*2) [.int .i64 s.1,.int .i64 s.2]):BG w b o (l.map Ba).flatten:=by
 induction l generalizing o with
 | nil=>intro i v a;simp at a
 | cons s l ih=>
  have f:=h 0 s O;have c:=ih (o:=o+2) (λi u d=>by have:=h (i+1) u (by simpa using d);rwa [show o+(i+1)*2=o+2+i*2 from qO] at this);intro i v a;simp only[gK,fE] at a;have e:(Ba s).length=2:=rfl;rcases eI i 2 with hi|hi
  .rw[dQ qO] at a;have:=f i v a;simpa using this
  .rw[dX qO] at a;have:=c (i - 2) v (by rw[e] at a;exact a)
   rwa [show o+2+(i - 2)=o+i from qO] at this
theorem GF (l:List (Int×Int)):(l.map Ba).flatten.length=l.length*2:=by
 induction l with
 | nil=>rfl
 | cons s l ih=>simp only[gK,fE,dN,ih,d_];have:(Ba s).length=2:=rfl;omega
theorem NI (l:List (Int×Int)):∀u∈(l.map Ba).flatten,u.oneCell'=true:=by
 intro u a;simp only[iA,eU] at a;obtain ⟨r,⟨s,_,rfl⟩,a⟩:=a;simp[Ba] at a;rcases a with rfl|rfl<;>rfl
def Bd (x y:Int):Int:=if x<y then -1 else if y<x then 1 else 0
theorem Yv (a:World) (x:Int):Bj prog 156 #[.int .i64 x] a λv w=>v=.bool false∧Ah a w:=by
 refine qR func156 O ntmps156 O (λE=>(AA (qA _ O (AB (AA (qM _ O (qM _ O (qV (Bb O O) (qA _ O (AB (AO (AY results156 (v:=(.bool (decide ((x:Int)≠x)))) O ?_))))))))))));exact ⟨A' qP,E⟩
theorem FE (d:World) (x y:Int):Bj prog 139 #[.int .i64 x,.int .i64 y] d λv w=>v=.int .i64 (Bd x y)∧Ah d w:=by
 refine qR lU O ntmps139 O (λE=>(AA (qA _ O (AB (AA (qM _ O (qE O (AS func156 kQ kQ O) (Yv _ x) ?_)))))));rintro _ w9 ⟨rfl,e⟩;refine qA _ O (AB (AA (qM _ O (qE O (AS func156 kQ kQ O) (Yv _ y) ?_))));rintro _ w19 ⟨rfl,c⟩;have E:=(E.ext e).ext c;refine qA _ O (AB (AH (AA (qM _ O (AB (Ae O (AM (AC (AH (AA (qM _ O (AB (Ae O (AM (AC (AH (AA (qM _ O (qM _ O (qV (A6 O O) (AB (qC O (λa=>?_) (λa=>?_)))))))))))))))))))))))
 .refine AA (qA _ O (AB (AO (AK (AY results139 (v:=(.int .i64 (-1))) O ?_)))));exact ⟨BI (by unfold Bd;rw[if_pos a]),E⟩
 .refine AM (AC (AH (AA (qM _ O (qM _ O (qV (CN O O) (AB (qC O (λb=>?_) (λb=>?_)))))))))
  .refine AA (qA _ O (AB (AO (AK (AY results139 (v:=(.int .i64 1)) O ?_)))));exact ⟨BI (by unfold Bd;rw[if_neg a,if_pos b]),E⟩
  .refine AM (AC (AA (qA _ O (AB (AO (AY results139 (v:=(.int .i64 0)) O ?_))))));exact ⟨BI (by unfold Bd;rw[if_neg a,if_neg b]),E⟩
section
variable {P : Program} {σ : CZ} {w : World} {dst : Option Tmp} {ty : TypeId} {pos : String} {af : Array Edge} {g : Option (Nat × Bool)} {tys : Array TypeId} {x y : Operand} {k : IntKind} {a b c : Int}
theorem RH (f:ev σ x=.int k a) (e:ev σ y=.int k b) (d:max a b=c) :
 (execOp (ev σ) ⟨dst,.call ⟨.builtin .max,#[x,y],tys⟩,ty,pos,af,g⟩).run P w=.ok (.value (.int k c)) w:=by
 subst d;have:(if a<b then b else a)=max a b:=by split<;>omega
 simp[execOp,resolve,invoke,builtin,Builtin.max_,Builtin.max2,f,e,this]
end
end Go.Proofs
namespace Go.Eng
open Go
def B_ (S:oD) (w:World) (k:Nat) (v:Value) (rows:List n_):Prop:=
 ∃a cap,v=.slice a rows.length cap∧rows.length<=9223372036854775807∧rows.length<=cap∧(rows=[]∨∃b o,S b∧a=some ⟨b,o,none⟩∧∀i r,rows[i]?=some r->BG w b (o+i*k) r)
theorem B_.at {S:oD} {w:World} {k:Nat} {v:Value} {rows:List n_} (h:B_ S w k v rows):BX w k v rows:=by
 obtain ⟨a,cap,c,f,d,g⟩:=h;refine ⟨a,cap,c,f,d,?_⟩;rcases g with h|⟨b,o,_,i,e⟩
 .exact .inl h
 .exact .inr ⟨b,o,i,e⟩
theorem B_.of {w:World} {k:Nat} {v:Value} {rows:List n_} (h:BX w k v rows):B_ (λ_=>True) w k v rows:=by
 obtain ⟨a,cap,c,f,d,g⟩:=h;refine ⟨a,cap,c,f,d,?_⟩;rcases g with h|⟨b,o,i,e⟩
 .exact .inl h
 .exact .inr ⟨b,o,trivial,i,e⟩
theorem B_.chg {S M:oD} {w w':World} {k:Nat} {v:Value} {rows:List n_} (h:B_ S w k v rows) (c:Chg M w w') (f:∀b,S b->¬M b):B_ S w' k v rows:=by
 obtain ⟨a,cap,m,g,d,n⟩:=h;refine ⟨a,cap,m,g,d,?_⟩;rcases n with h|⟨b,o,hb,l,e⟩
 .exact .inl h
 .exact .inr ⟨b,o,hb,l,λi r j=>(e i r j).chg c (f b hb)⟩
theorem B_.mono {S S':oD} {w:World} {k:Nat} {v:Value} {rows:List n_} (h:B_ S w k v rows) (hs:∀b,S b->S' b):B_ S' w k v rows:=by
 obtain ⟨a,cap,f,d,c,g⟩:=h;refine ⟨a,cap,f,d,c,?_⟩;rcases g with h|⟨b,o,hb,e⟩
 .exact .inl h
 .exact .inr ⟨b,o,hs b hb,e⟩
theorem B_.nil (S:oD) (w:World) (k:Nat) (a:oE) (cap:Nat):B_ S w k (.slice a 0 cap) []:=⟨a,cap,O,qP,qP,.inl O⟩
theorem B_.mk {S:oD} {w:World} {k:Nat} {b o n c:Nat} {rows:List n_} (h:BX w k (.slice (some ⟨b,o,none⟩) n c) rows) (hs:S b):B_ S w k (.slice (some ⟨b,o,none⟩) n c) rows:=by
 obtain ⟨a,cap,e,i,f,j⟩:=h;refine ⟨a,cap,e,i,f,?_⟩;rcases j with h|⟨b',o',d,g⟩
 .exact .inl h
 .simp only[Value.slice.injEq] at e;have:b'=b:=by rw[<-e.1] at d;simp at d;exact d.1.symm
  exact .inr ⟨b',o',this▸hs,d,g⟩
mutual
def AR (S:oD) (w:World):Re->List Value->Prop
  | .mk k set args mn mx ng,vs=>∃sa sc aa ac,vs=[.int .i64 k,.slice sa set.length sc,.slice aa args.length ac,.int .i64 mn,.int .i64 mx,.bool ng]∧B_ S w 2 (.slice sa set.length sc) (set.map Ba)∧(args.length<=ac∧ac<=9223372036854775807)∧
      (args=[]∨∃b o,S b∧aa=some ⟨b,o,none⟩∧BM S w b o args)
def BM (S:oD) (w:World) (b:Nat):Nat->List Re->Prop
  | _,[]=>True
  | o,t::ts=>(∃vs,BG w b o vs∧AR S w t vs)∧BM S w b (o+6) ts
end
mutual
theorem AR.at {S:oD} {w:World}:∀(t:Re) {vs:n_},AR S w t vs->A3 w t vs
 | .mk k set args mn mx ng,vs,h=>by
  simp only[AR] at h;simp only[A3];obtain ⟨sa,sc,aa,ac,c,hs,f,d⟩:=h;refine ⟨sa,sc,aa,ac,c,hs.at,f,?_⟩;rcases d with h|⟨b,o,_,a,e⟩
  .exact .inl h
  .exact .inr ⟨b,o,a,BM.at args e⟩
theorem BM.at {S:oD} {w:World} {b:Nat}:∀(ts:List Re) {o:Nat},BM S w b o ts->CY w b o ts
 | [],_,_=>by simp only[CY]
 | t::ts,o,h=>by
  simp only[BM] at h;simp only[CY];obtain ⟨⟨vs,a,d⟩,c⟩:=h;exact ⟨⟨vs,a,AR.at t d⟩,BM.at ts c⟩
end
mutual
theorem AR.chg {S M:oD} {w w':World} (c:Chg M w w') (a:∀b,S b->¬M b):∀(t:Re) {vs:n_},AR S w t vs->AR S w' t vs
 | .mk k set args mn mx ng,vs,h=>by
  simp only[AR] at h⊢;obtain ⟨sa,sc,aa,ac,g,hs,e,i⟩:=h;refine ⟨sa,sc,aa,ac,g,hs.chg c a,e,?_⟩;rcases i with h|⟨b,o,hb,f,d⟩
  .exact .inl h
  .exact .inr ⟨b,o,hb,f,BM.chg c a args hb d⟩
theorem BM.chg {S M:oD} {w w':World} (c:Chg M w w') (a:∀b,S b->¬M b) {b:Nat}:∀(ts:List Re) {o:Nat},S b->BM S w b o ts->BM S w' b o ts
 | [],_,_,_=>by simp only[BM]
 | t::ts,o,hb,h=>by
  simp only[BM] at h⊢;obtain ⟨⟨vs,d,f⟩,e⟩:=h;exact ⟨⟨vs,d.chg c (a b hb),AR.chg c a t f⟩,BM.chg c a ts hb e⟩
end
mutual
theorem AR.mono {S S':oD} {w:World} (hs:∀b,S b->S' b):∀(t:Re) {vs:n_},AR S w t vs->AR S' w t vs
 | .mk k set args mn mx ng,vs,h=>by
  simp only[AR] at h⊢;obtain ⟨sa,sc,aa,ac,f,d,c,g⟩:=h;refine ⟨sa,sc,aa,ac,f,d.mono hs,c,?_⟩;rcases g with h|⟨b,o,hb,e,a⟩
  .exact .inl h
  .exact .inr ⟨b,o,hs b hb,e,BM.mono hs args a⟩
theorem BM.mono {S S':oD} {w:World} (hs:∀b,S b->S' b) {b:Nat}:∀(ts:List Re) {o:Nat},BM S w b o ts->BM S' w b o ts
 | [],_,_=>by simp only[BM]
 | t::ts,o,h=>by
  simp only[BM] at h⊢;obtain ⟨⟨vs,a,d⟩,c⟩:=h;exact ⟨⟨vs,a,AR.mono hs t d⟩,BM.mono hs ts c⟩
end
theorem AR.ext {S:oD} {w w':World} (e:Ah w w') (t:Re) {vs:n_} (h:AR S w t vs):AR S w' t vs:=AR.chg e (λ_ _ f=>f) t h
theorem AR.form {S:oD} {w:World} {t:Re} {vs:n_} (h:AR S w t vs):∃sa sc aa ac,vs=[.int .i64 t.kind,.slice sa t.set.length sc,.slice aa t.args.length ac,.int .i64 t.mn,.int .i64 t.mx,.bool t.neg]∧B_ S w 2 (.slice sa t.set.length sc) (t.set.map Ba)∧(t.args.length<=ac∧ac<=9223372036854775807)∧
 (t.args=[]∨∃b o,S b∧aa=some ⟨b,o,none⟩∧BM S w b o t.args):=by
 cases t;simp only[AR] at h;exact h
theorem AR.of {S:oD} {w:World} {k:Int} {set:List (Int×Int)} {args:List Re} {mn mx:Int} {ng:Bool} {sa aa:oE} {sc ac:Nat} (hs:B_ S w 2 (.slice sa set.length sc) (set.map Ba)) (c:(args.length<=ac∧ac<=9223372036854775807)) (a:args=[]∨∃b o,S b∧aa=some ⟨b,o,none⟩∧BM S w b o args) :
 AR S w (.mk k set args mn mx ng) [.int .i64 k,.slice sa set.length sc,.slice aa args.length ac,.int .i64 mn,.int .i64 mx,.bool ng]:=by
 simp only[AR];exact ⟨sa,sc,aa,ac,O,hs,c,a⟩
theorem BM.one {S:oD} {w:World} {b o:Nat} {t:Re} {vs:n_} (a:BG w b o vs) (h:AR S w t vs):BM S w b o [t]:=by
 simp only[BM];exact ⟨⟨vs,a,h⟩,trivial⟩
theorem BM.two {S:oD} {w:World} {b o:Nat} {t u:Re} {vs a:n_} (e:BG w b o vs) (h:AR S w t vs) (c:BG w b (o+6) a) (d:AR S w u a):BM S w b o [t,u]:=by
 simp only[BM];exact ⟨⟨vs,e,h⟩,⟨a,c,d⟩,trivial⟩
theorem BM.get {S:oD} {w:World} {b:Nat}:∀{ts:List Re} {o i:Nat} {t:Re},BM S w b o ts->ts[i]?=some t->∃vs,BG w b (o+i*6) vs∧AR S w t vs
 | [],_,_,_,_,h=>by simp at h
 | x::ts,o,0,t,h,hi=>by
  simp only[BM] at h;simp at hi;subst hi;simpa using h.1
 | x::ts,o,i+1,t,h,hi=>by
  simp only[BM] at h;have:=BM.get h.2 (i:=i) (by simpa using hi)
  rwa [show o+(i+1)*6=o+6+i*6 from qO]
theorem AR.len {S:oD} {w:World} {t:Re} {vs:n_} (h:AR S w t vs):vs.length=6:=(AR.at t h).len
theorem AR.of_at {w:World}:∀(t:Re) {vs:n_},A3 w t vs->AR (λb=>b<w.heap.size) w t vs:=by
 intro t;have l:∀n,(∀t:Re,t.size<=n->∀vs,A3 w t vs->AR (λb=>b<w.heap.size) w t vs):=by
  intro n
  induction n with
  | zero=>intro t ht;have:=t.size_pos;omega
  | succ n ih=>
   intro t hn vs h;obtain ⟨sa,sc,aa,ac,rfl,hs,p,u⟩:=h.form;have hsz:=t.size_eq;cases t with
   | mk k set args mn mx ng=>
   simp only[Re.kind,Re.set,Re.args,Re.mn,Re.mx,Re.neg] at *;refine AR.of ?_ p ?_
   .obtain ⟨a,cap,j,g,c,f⟩:=hs;refine ⟨a,cap,j,g,c,?_⟩;rcases f with h|⟨b,o,e,m⟩
    .exact .inl h
    .cases set with
     | nil=>exact .inl O
     | cons s r=>
      have:=m 0 (Ba s) O 0 _ O;exact .inr ⟨b,o,World.block_lt_of_cell? w _ this,e,m⟩
   .rcases u with h|⟨b,o,j,g⟩
    .exact .inl h
    .have d:∀(ts:List Re) (o:Nat),Re.sizes ts<=n->CY w b o ts->BM (λb=>b<w.heap.size) w b o ts:=by
      intro ts
      induction ts with
      | nil=>intro _ _ _;simp only[BM]
      | cons t ts i=>
       intro o q h;simp only[Re.sizes] at q;simp only[CY] at h;simp only[BM];obtain ⟨⟨vs,c,f⟩,e⟩:=h;exact ⟨⟨vs,c,ih t qO vs f⟩,i _ qO e⟩
     cases args with
     | nil=>exact .inl O
     | cons t ts=>
      have c:=g;simp only[CY] at c;obtain ⟨⟨vs,f,e⟩,_⟩:=c;obtain ⟨_,_,_,_,rfl,_⟩:=e.form;have:=f 0 _ O;exact .inr ⟨b,o,World.block_lt_of_cell? w _ this,j,d _ o qO g⟩
 exact fun {vs} h=>l t.size t (dU _) vs h
end Go.Eng
namespace Go.Proofs
open Go Go.Eng
set_option maxRecDepth 100000
def aM (r:Int):Re:=.mk 2 [(r,r)] [] 0 0 false
theorem Za {w:World} {b:Nat} {r:Int} (h:BP w (.slice (some ⟨b,0,none⟩) 1 1) [(r,r)]):A3 w (aM r) [.int .i64 2,.slice (some ⟨b,0,none⟩) 1 1,.slice none 0 0,.int .i64 0,.int .i64 0,.bool false]:=
 A3.of (set:=[(r,r)]) (args:=[]) h qP (.inl O)
mutual
def Fa (p:Re->Prop):Re->Prop
  | .mk k set args mn mx ng=>p (.mk k set args mn mx ng)∧Gy p args
def Gy (p:Re->Prop):List Re->Prop
  | []=>True
  | t::ts=>Fa p t∧Gy p ts
end
def My (kinds:Int) (t:Re):Prop:=Cb t=0∧t.kind<=kinds∧(t.kind=2->∃lo hi,t.set=[(lo,hi)]∧97<=lo∧lo<=hi∧hi<=100)
mutual
theorem Rk {a:Int}:∀(t:Re),Fa (My a) t->C' t
 | .mk k set args mn mx ng,h=>by simp only[Fa] at h;simp only[C'];exact ⟨h.1.1,TD args h.2⟩
theorem TD {a:Int}:∀(ts:List Re),Gy (My a) ts->DC ts
 | [],_=>by simp only[DC]
 | t::ts,h=>by simp only[Gy] at h;simp only[DC];exact ⟨Rk t h.1,TD ts h.2⟩
end
theorem Vd {k:Int} (h:k=3∨k=4∨k=7) (t u:Re):Cb (.mk k [] [t,u] 0 0 false)=0:=by
 rcases h with rfl|rfl|rfl<;>simp[Cb,Dj,Kk,Re.kind,Re.set,Re.args,Re.mn,Re.mx,Re.neg]
theorem Ve {mn mx:Int} (h0:0<=mn) (h1:mn<=mx) (h2:mx<=8) (t:Re):Cb (.mk 6 [] [t] mn mx false)=0:=by
 simp[Cb,Dj,Kk,Re.kind,Re.set,Re.args,Re.mn,Re.mx,Re.neg];omega
def Wf (n:Nat) (R:Rl):Prop:=∀i j,R i j=true->i<=j∧j<=n
theorem SP (n:Nat):Wf n Uj:=λi j h=>by simp[Uj] at h
theorem LJ (n:Nat):Wf n (Q0 n):=λi j h=>by simp[Q0] at h;omega
theorem Un {n:Nat} {A B:Rl} (a:Wf n A) (b:Wf n B):Wf n (Z6 A B):=λi j h=>by
 simp only[Z6,eZ] at h;rcases h with h|h;exact a i j h;exact b i j h
theorem ZA {n:Nat} {A B:Rl} (a:Wf n A):Wf n (Yj A B):=λi j h=>by
 simp only[Yj,dP] at h;exact a i j h.1
theorem JG {n:Nat} {A B:Rl} (a:Wf n A) (b:Wf n B):Wf n (DY A B n):=λi k h=>by
 simp only[DY,dP,eX] at h;obtain ⟨_,j,_,c,d⟩:=h;have:=a i j c;have:=b j k d;omega
theorem Oc {n:Nat} {A:Rl} (a:Wf n A):∀m,Wf n (SV n A m)
 | 0=>LJ n
 | m+1=>Un (Oc a m) (JG (Oc a m) a)
theorem Um {n:Nat} {A:Rl} (a:Wf n A):∀m,Wf n (ZV n A m)
 | 0=>LJ n
 | m+1=>JG (Um a m) a
theorem Q1 {n:Nat} {A:Rl} (a:Wf n A) (mn:Int):∀m,Wf n (VH n A mn m)
 | 0=>SP n
 | m+1=>by
  simp only[VH];split
  .exact Un (Q1 a mn m) (Um a m)
  .exact Q1 a mn m
theorem Y_ (n:Nat) (A:Rl):Wf n (Zc n A):=λi j h=>by simp[Zc] at h;omega
theorem XC (n:Nat) (A:Rl) (ng:Bool):Wf n (Vl n A ng):=λi j h=>by simp[Vl] at h;omega
theorem Y' (text:oB) (set:List (Int×Int)):Wf text.length (ZJ text set):=λi j h=>by
 simp only[ZJ,dP,decide_eq_true_eq] at h;obtain ⟨a,rfl⟩:=h;cases hx:text[i]? with
 | none=>simp[hx] at a
 | some c=>have:=AX hx;omega
theorem K1 {n:Nat} {L:List Rl} (h:∀x∈L,Wf n x):Wf n (L.headD Uj):=by
 cases L with
 | nil=>exact SP n
 | cons x r=>exact h x qP
theorem Hs {n:Nat}:∀(L:List Rl) (A:Rl),Wf n A->(∀x∈L,Wf n x)->Wf n (L.foldl (λa x=>DY a x n) A)
 | [],_,h,_=>h
 | x::L,A,h,hl=>Hs L _ (JG h (hl x qP)) λy b=>hl y (by simp[b])
theorem M_ {n:Nat}:∀(L:List Rl) (A:Rl),Wf n A->(∀x∈L,Wf n x)->Wf n (L.foldl Z6 A)
 | [],_,h,_=>h
 | x::L,A,h,hl=>M_ L _ (Un h (hl x qP)) λy a=>hl y (by simp[a])
theorem LK {n:Nat}:∀(L:List Rl) (A:Rl),Wf n A->Wf n (L.foldl Yj A)
 | [],_,h=>h
 | x::L,A,h=>LK L _ (ZA h)
theorem XB (text:oB) (k:Int) (set:List (Int×Int)) (L:List Rl) (mn mx:Int) (ng:Bool) (h:∀x∈L,Wf text.length x):Wf text.length (Tr text k set L mn mx ng):=by
 unfold Tr
 repeat' split
 .exact LJ _
 .exact Y' _ _
 .exact Hs _ _ (LJ _) h
 .exact M_ _ _ (SP _) h
 .exact LK _ _ (K1 h)
 .exact Y_ _ _
 .exact Oc (K1 h) _
 .exact Q1 (K1 h) _ _
 .exact K1 h
 .exact XC _ _ _
 .exact SP _
mutual
theorem Gu (text:oB):∀(t:Re),Wf text.length (Eb text t)
 | .mk k set args mn mx ng=>by simp only[Eb];exact XB _ _ _ _ _ _ _ (SO text args)
theorem SO (text:oB):∀(ts:List Re),∀x∈Hx text ts,Wf text.length x
 | [],_,h=>by simp[Hx] at h
 | t::ts,x,h=>by
  simp only[Hx,dZ] at h;rcases h with rfl|h
  .exact Gu text t
  .exact SO text ts x h
end
theorem Oe {A B:Rl} (h:∀i j,A i j=true↔B i j=true):A=B:=by
 funext i j;exact fZ.2 (h i j)
theorem Ej {n:Nat} (hn:n<=24) {A B:Rl} (a:Wf n A) (i k:Nat):DY A B n i k=true↔∃j,A i j=true∧B j k=true:=by
 simp only[DY,dP,eX,gJ,decide_eq_true_eq];constructor
 .rintro ⟨_,j,_,h⟩;exact ⟨j,h⟩
 .rintro ⟨j,b,c⟩;have:=a i j b;exact ⟨qO,j,qO,b,c⟩
theorem KL (n i j:Nat):Q0 n i j=true↔i<=n∧j=i:=by simp[Q0]
theorem Ox {n:Nat} (hn:n<=24) {A:Rl} (a:Wf n A):DY (Q0 n) A n=A:=Oe λi k=>by
 rw[Ej hn (LJ n)];constructor
 .rintro ⟨j,b,c⟩;rw[KL] at b;obtain ⟨_,rfl⟩:=b;exact c
 .intro h;have:=a i k h;exact ⟨i,(KL n i i).2 ⟨qO,O⟩,h⟩
theorem Iv {n:Nat} (hn:n<=24) {A B C:Rl} (a:Wf n A) (b:Wf n B):DY A (DY B C n) n=DY (DY A B n) C n:=Oe λi k=>by
 rw[Ej hn a,Ej hn (JG a b)];constructor
 .rintro ⟨j,c,d⟩;rw[Ej hn b] at d;obtain ⟨m,e,f⟩:=d;exact ⟨m,(Ej hn a i m).2 ⟨j,c,e⟩,f⟩
 .rintro ⟨j,c,d⟩;rw[Ej hn a] at c;obtain ⟨m,e,f⟩:=c;exact ⟨m,e,(Ej hn b m k).2 ⟨j,f,d⟩⟩
abbrev Qh (s t:Re):Re:=.mk 3 [] [s,t] 0 0 false
abbrev aE (s:Re):Re:=.mk 5 [] [s] 0 0 false
abbrev BT:Re:=.mk 1 [] [] 0 0 false
abbrev BO:Re:=.mk 0 [] [] 0 0 false
section
variable (text : List Int)
theorem Xc (hn:text.length<=24) (s t:Re):Eb text (Qh s t)=DY (Eb text s) (Eb text t) text.length:=by
 simp only[Eb,Hx,Tr,List.foldl];simp[Ox hn (Gu text s)]
end
theorem Ol {k:Int} (h:k=3∨k=4∨k=7) {s t:Re} (a:C' s) (b:C' t):C' (.mk k [] [s,t] 0 0 false):=by simp only[C',DC];exact ⟨Vd h s t,a,b,trivial⟩
def cI (text:oB):Prop:=text.length<=24∧∀x∈text,CJ x=true
theorem MY {t:Re} {text:oB} (c:C' t) (hs:t.size<=40) (h:cI text):O_ t text=0:=by
 have a:By t 40=0:=(EY qD qD).2 ⟨c,qO⟩;unfold O_;rw[if_neg (by simp[a]),if_neg (by have:=h.1;omega),if_neg];simp only[eX,e_,not_exists,not_and];intro x b;simp[h.2 x b]
def Sm (s t:Re) (text:oB):Prop:=O_ s text=0∧O_ t text=0∧VU (Eb text s) (text.length+1)=VU (Eb text t) (text.length+1)
theorem aI {s t:Re} {text:oB} (h:cI text) (a:C' s) (b:C' t) (c:s.size<=40) (hb:t.size<=40) (d:Eb text s=Eb text t):Sm s t text:=
 ⟨MY a c h,MY b hb h,by rw[d]⟩
section
variable {text : List Int} (h : cI text) {a b c : Re} (oa : C' a) (ob : C' b) (oc : C' c)
include h oa
theorem cE (ob:C' b) (oc:C' c) (hs:a.size+b.size+c.size<=18):Sm (Qh a (Qh b c)) (Qh (Qh a b) c) text:=
 aI h (Ol qP oa (Ol qP ob oc)) (Ol qP (Ol qP oa ob) oc) (by simp[Re.size,Re.sizes];omega) (by simp[Re.size,Re.sizes];omega)
  (by simp only[Xc text h.1];exact Iv h.1 (Gu text a) (Gu text b))
end
section
variable {n : Nat} (hn : n ≤ 24)
include hn
theorem UL {A B:Rl} (a:Wf n A) (b:Wf n B):∀(L:List Rl),(∀x∈L,Wf n x)->L.foldl (λa x=>DY a x n) (DY A B n)=DY A (L.foldl (λa x=>DY a x n) B) n
 :=by
 intro L
 induction L generalizing B with
 | nil=>intro _;rfl
 | cons x L ih=>
  intro h;simp only[f_];rw[<-Iv hn a b];exact ih (JG b (h x qP)) λy c=>h y (by simp[c])
theorem Wm {A:Rl} (a:Wf n A) (L:List Rl) (h:∀x∈L,Wf n x):(A::L).foldl (λa x=>DY a x n) (Q0 n)=DY A (L.foldl (λa x=>DY a x n) (Q0 n)) n:=by
 rw[f_,Ox hn a];have b:=UL hn a (LJ n) L h;have c:DY A (Q0 n) n=A:=Oe λi k=>by
  rw[Ej hn a];constructor
  .rintro ⟨j,b,c⟩;rw[KL] at c;rw[c.2];exact b
  .intro h;exact ⟨k,h,by rw[KL];have:=a i k h;omega⟩
 rw[c] at b;exact b
end
mutual
def BU:Re->Re->Bool
  | .mk k s a m x g,.mk k' s' a' m' x' g'=>decide (k=k') && decide (s=s') && decide (m=m') && decide (x=x') && decide (g=g') && E9 a a'
def E9:List Re->List Re->Bool
  | [],[]=>true
  | t::ts,u::us=>BU t u && E9 ts us
  | _,_=>false
end
mutual
theorem BY:∀(t u:Re),BU t u=true↔t=u
 | .mk k s a m x g,.mk k' s' a' m' x' g'=>by
  simp only[BU,dP,decide_eq_true_eq,E8 a a',Re.mk.injEq];constructor
  .rintro ⟨⟨⟨⟨⟨b,e⟩,c⟩,f⟩,h⟩,d⟩;exact ⟨b,e,d,c,f,h⟩
  .rintro ⟨b,e,d,c,f,h⟩;exact ⟨⟨⟨⟨⟨b,e⟩,c⟩,f⟩,h⟩,d⟩
theorem E8:∀(ts a:List Re),E9 ts a=true↔ts=a
 | [],[]=>by simp[E9]
 | t::ts,u::a=>by simp only[E9,dP,BY t u,E8 ts a,fV]
 | [],_::_=>by simp[E9]
 | _::_,[]=>by simp[E9]
end
def BS (k:Int) (l:List Re):List Re:=l.flatMap λx=>if x.kind=k then x.args else [x]
def JD (text:oB) (l:List Re):Rl:=(l.map (Eb text)).foldl (λa x=>DY a x text.length) (Q0 text.length)
theorem Ia {text:oB} (hn:text.length<=24) (x:Re) (l:List Re):JD text (x::l)=DY (Eb text x) (JD text l) text.length:=by
 unfold JD;rw[gK];refine Wm hn (Gu text x) _ ?_;intro R a;rw[eU] at a;obtain ⟨y,_,rfl⟩:=a;exact Gu text y
theorem SQ {text:oB} (l:List Re):Wf text.length (JD text l):=by
 unfold JD;refine Hs _ _ (LJ _) ?_;intro R a;rw[eU] at a;obtain ⟨y,_,rfl⟩:=a;exact Gu text y
theorem Kr {text:oB} (hn:text.length<=24):∀(a b:List Re),JD text (a++b)=DY (JD text a) (JD text b) text.length
 | [],b=>by
  have:JD text []=Q0 text.length:=rfl;rw[this,fO,Ox hn (SQ b)]
 | x::a,b=>by
  rw[fH,Ia hn,Kr hn a b,Ia hn,Iv hn (Gu text x) (SQ a)]
theorem VI {text:oB} {t:Re} (h:t.kind=3):Eb text t=JD text t.args:=by
 rw[VJ];simp[Tr,h,JD]
section
variable {text : List Int} (hn : text.length ≤ 24)
include hn
theorem Wl:∀(l:List Re),JD text (BS 3 l)=JD text l
 | []=>rfl
 | x::l=>by
  have ih:=Wl l;show JD text ((if x.kind=3 then x.args else [x])++BS 3 l)=_;rw[Kr hn,ih,Ia hn];by_cases h:x.kind=3
  .rw[if_pos h,VI h]
  .rw[if_neg h,Ia hn];have b:JD text []=Q0 text.length:=rfl;have a:DY (Eb text x) (Q0 text.length) text.length=Eb text x:=Oe λi k=>by
    rw[Ej hn (Gu text x)];constructor
    .rintro ⟨j,b,a⟩;rw[KL] at a;rw[a.2];exact b
    .intro h;exact ⟨k,h,by rw[KL];have:=Gu text x i k h;omega⟩
   rw[b,a]
end
theorem HU (k:Int):∀(l:List Re),Re.sizes (BS k l)<=Re.sizes l
 | []=>by simp[BS,Re.sizes]
 | x::l=>by
  have ih:=HU k l;show Re.sizes ((if x.kind=k then x.args else [x])++BS k l)<=_;rw[Re.sizes_append];have:=x.size_eq;simp only[Re.sizes];split
  .omega
  .simp only[Re.sizes];omega
def cQ (k:Int):Prop:=k=3∨k=4∨k=7
abbrev Sp:=Int×Int
def EA (s:Sp):Prop:=0<=s.1∧s.1<=s.2∧s.2<=1114111
structure Canon (l:oF):Prop where
 ok:∀s∈l,EA s
 gap:l.Pairwise λs t=>s.2+2<=t.1
theorem cD (a b:Int):a<=b∨b<a:=qO
theorem Lx (a b:Int):a<b∨b<=a:=qO
theorem Eu {l:oF} {r:Int}:Ca l r=true↔∃s∈l,s.1<=r∧r<=s.2:=by
 unfold Ca;simp[eX]
theorem DM (s:Sp) (l:oF) (r:Int):Ca (s::l) r=((decide (s.1<=r) && decide (r<=s.2)) || Ca l r):=rfl
theorem Db (a b:oF) (r:Int):Ca (a++b) r=(Ca a r || Ca b r):=by
 unfold Ca;rw[kC]
theorem Gl (r:Int):Ca [] r=false:=rfl
theorem V3 {a b:oF} (h:a.Perm b) (r:Int):Ca a r=Ca b r:=by
 rw[fZ,Eu,Eu];exact ⟨λ⟨s,hs,q⟩=>⟨s,h.mem_iff.1 hs,q⟩,λ⟨s,hs,q⟩=>⟨s,h.mem_iff.2 hs,q⟩⟩
theorem Canon.nil:Canon []:=⟨λ_ h=>(by cases h),List.Pairwise.nil⟩
theorem Canon.one {s:Sp} (h:EA s):Canon [s]:=⟨λt a=>by rw[dO] at a;subst a;exact h,kM _ _⟩
theorem Canon.tail {s:Sp} {l:oF} (h:Canon (s::l)):Canon l:=⟨λt a=>h.ok t (eP _ a),(fJ.1 h.gap).2⟩
theorem Canon.head {s:Sp} {l:oF} (h:Canon (s::l)):EA s:=h.ok s eJ
theorem Canon.far {s:Sp} {l:oF} (h:Canon (s::l)):∀t∈l,s.2+2<=t.1:=(fJ.1 h.gap).1
theorem Canon.cons {s:Sp} {l:oF} (c:EA s) (d:∀t∈l,s.2+2<=t.1) (b:Canon l):Canon (s::l):=
 ⟨λt a=>by rcases dZ.1 a with rfl|a;exact c;exact b.ok t a,fJ.2 ⟨d,b.gap⟩⟩
theorem HO {s:Sp} {l:oF} (h:Canon (s::l)) {r:Int} (hr:r<=s.2+1):Ca l r=false:=by
 cases e:Ca l r with
 | false=>rfl
 | true=>
  obtain ⟨t,a,h1,_⟩:=Eu.1 e;have:=h.far t a;omega
theorem H4 {s:Sp} {l:oF} (h:Canon (s::l)) {r:Int} (hr:r<s.1):Ca (s::l) r=false:=by
 have a:=h.head;rw[DM,HO h (by unfold EA at a;omega),jW,decide_eq_false qO];rfl
theorem Jj:∀{a b:oF},Canon a->Canon b->(∀r,Ca a r=Ca b r)->a=b
 | [],[],_,_,_=>rfl
 | [],t::b,_,hb,h=>by
  have f:=hb.head;unfold EA at f;have:=h t.1;rw[Gl,DM,decide_eq_true (gM _),decide_eq_true qO] at this;simp at this
 | s::a,[],ha,_,h=>by
  have f:=ha.head;unfold EA at f;have:=h s.1;rw[Gl,DM,decide_eq_true (gM _),decide_eq_true qO] at this;simp at this
 | s::a,t::b,ha,hb,h=>by
  have f:=ha.head;have i:=hb.head;unfold EA at f i;have e:∀{s:Sp} {l:oF} {r:Int},s.1<=r->r<=s.2->Ca (s::l) r=true:=λd c=>by
   rw[DM,decide_eq_true d,decide_eq_true c];rfl
  have g:s.1=t.1:=by
   rcases mF s.1 t.1 with d|d|d
   .have c:=h s.1;rw[e (gM _) qO,H4 hb d] at c;cases c
   .exact d
   .have c:=h t.1;rw[e (s:=t) (gM _) qO,H4 ha d] at c;cases c
  have k:s.2=t.2:=by
   rcases mF s.2 t.2 with d|d|d
   .have c:=h (s.2+1);rw[e (s:=t) qO qO,DM,HO ha (gM _),decide_eq_false (p:=s.2+1<=s.2) qO] at c;simp at c
   .exact d
   .have c:=h (t.2+1);rw[e (s:=s) qO qO,DM,HO hb (gM _),decide_eq_false (p:=t.2+1<=t.2) qO] at c;simp at c
  have j:s=t:=Prod.ext g k;subst j;have m:a=b:=Jj ha.tail hb.tail λr=>by
   rcases cD r (s.2+1) with d|d
   .rw[HO ha d,HO hb d]
   .have c:=h r;rw[DM,DM,decide_eq_false (p:=r<=s.2) qO] at c;simpa using c
  rw[m]
def L8 (out:oF) (s:Sp):oF:=match out.getLast? with
  | some c=>if s.1<=c.2+1 then out.dropLast++[(c.1,max c.2 s.2)] else out++[s]
  | none=>[s]
def Nj (l:oF):oF:=l.foldl L8 []
theorem I' (o:oF) (c s:Sp):L8 (o++[c]) s=if s.1<=c.2+1 then o++[(c.1,max c.2 s.2)] else o++[c]++[s]:=by
 unfold L8;simp
theorem Ng (s:Sp):L8 [] s=[s]:=rfl
structure JInv (out l:oF) (m:Int):Prop where
 can:Canon out
 low:∀s∈out,s.1<=m
 mem:∀r,Ca out r=Ca l r
 len:out.length<=l.length
theorem HT {α:Type} (l:List α):l=[]∨∃o c,l=o++[c]:=by
 rcases lF l with h|⟨o,c,h⟩
 .exact .inl h
 .exact .inr ⟨o,c,by simpa using h⟩
theorem FG {o:oF} {c:Sp}:Canon (o++[c])↔Canon o∧EA c∧∀t∈o,t.2+2<=c.1:=by
 constructor
 .intro h;have b:=iN.1 h.gap;exact ⟨⟨λt a=>h.ok t (by simp[a]),b.1⟩,h.ok c qP,λt a=>b.2.2 t a c qP⟩
 .rintro ⟨b,f,e⟩;refine ⟨λt a=>?_,iN.2 ⟨b.gap,kM _ _,λt a u d=>?_⟩⟩
  .rcases eC.1 a with a|a
   .exact b.ok t a
   .rw[dO] at a;subst a;exact f
  .rw[dO] at d;subst d;exact e t a
theorem UD {out l:oF} {m:Int} {s:Sp} (h:JInv out l m) (hs:EA s) (hm:m<=s.1):JInv (L8 out s) (l++[s]) s.1:=by
 rcases HT out with rfl|⟨o,c,rfl⟩
 .rw[Ng];refine ⟨Canon.one hs,λt a=>by rw[dO] at a;subst a;exact gM _,λr=>?_,qP⟩;rw[Db,<-h.mem r];rfl
 .obtain ⟨j,f,b⟩:=FG.1 h.can;have hc:=h.low c qP;unfold EA at f hs;rw[I'];split
  .rename_i k
   have hmx:max c.2 s.2=c.2∨max c.2 s.2=s.2:=qO
   have hge:c.2<=max c.2 s.2∧s.2<=max c.2 s.2:=qO
   refine ⟨FG.2 ⟨j,⟨f.1,by simp only;omega,by simp only;omega⟩,b⟩,λt a=>?_,λr=>?_,?_⟩
   .rcases eC.1 a with a|a
    .have:=h.low t (by simp[a]);omega
    .rw[dO] at a;subst a;simp only;omega
   .have g:=h.mem r;rw[Db] at g;rw[Db,Db,<-g];have e:Ca [(c.1,max c.2 s.2)] r=(Ca [c] r || Ca [s] r):=by
     rw[fZ];simp only[DM,Gl,jW,eZ,dP,decide_eq_true_eq];constructor
     .intro ⟨i,d⟩;omega
     .rintro (⟨i,d⟩|⟨i,d⟩)<;>omega
    rw[e,nK]
   .have:=h.len;simp at this⊢;omega
  .rename_i k
   refine ⟨FG.2 ⟨h.can,hs,λt a=>?_⟩,λt a=>?_,λr=>?_,?_⟩
   .rcases eC.1 a with a|a
    .have:=b t a;omega
    .rw[dO] at a;subst a;omega
   .rcases eC.1 a with a|a
    .have:=h.low t a;omega
    .rw[dO] at a;subst a;exact gM _
   .rw[Db _ [s],Db l,h.mem r]
   .have:=h.len;simp at this⊢;omega
theorem N0:∀(r:oF) {out l:oF} {m:Int},JInv out l m->(∀s∈r,EA s∧m<=s.1)->r.Pairwise (λs t=>s.1<=t.1)->∃a,JInv (r.foldl L8 out) (l++r) a
 | [],out,l,m,h,_,_=>⟨m,by simpa using h⟩
 | s::r,out,l,m,h,hv,hp=>by
  have b:=hv s eJ;have c:=fJ.1 hp;obtain ⟨a,e⟩:=N0 r (UD h b.1 b.2) (λt d=>⟨(hv t (eP _ d)).1,c.1 t d⟩) c.2;exact ⟨a,by simpa using e⟩
theorem UE {l:oF} (a:∀s∈l,EA s) (b:l.Pairwise (λs t=>s.1<=t.1)):Canon (Nj l)∧(∀r,Ca (Nj l) r=Ca l r)∧(Nj l).length<=l.length:=by
 obtain ⟨m,h⟩:=N0 l (out:=[]) (l:=[]) (m:=0) ⟨Canon.nil,λ_ h=>by (cases h),λ_=>rfl,dU _⟩ (λs hs=>⟨a s hs,(a s hs).1⟩) b;exact ⟨h.can,h.mem,h.len⟩
def Gz (l out:oF):Prop:=∃l',l'.Perm l∧l'.Pairwise (λs t=>s.1<=t.1)∧out=Nj l'
theorem Gz.all {l out:oF} (h:Gz l out) (c:∀s∈l,EA s):Canon out∧(∀r,Ca out r=Ca l r)∧out.length<=l.length:=by
 obtain ⟨l',a,d,rfl⟩:=h;have b:=UE (λs hs=>c s (a.mem_iff.1 hs)) d;exact ⟨b.1,λr=>(b.2.1 r).trans (V3 a r),by rw[<-a.length_eq];exact b.2.2⟩
theorem Ib {l:oF} (h:Canon l) {r:Int} (hr:r<0∨1114111<r):Ca l r=false:=by
 cases e:Ca l r with
 | false=>rfl
 | true=>obtain ⟨t,a,q1,q2⟩:=Eu.1 e;have:=h.ok t a;unfold EA at this;omega
theorem Ua {a b:oF} (e:Canon a) (hb:Canon b) (h:∀r,0<=r->r<=1114111->Ca a r=Ca b r):a=b:=
 Jj e hb λr=>by
  rcases Lx r 0 with d|d
  .rw[Ib e (.inl d),Ib hb (.inl d)]
  .rcases Lx 1114111 r with c|c
   .rw[Ib e (.inr c),Ib hb (.inr c)]
   .exact h r d c
abbrev Mt:Nat:=80
theorem K8 {w:World} {base c e size n:Nat} {v:Value} {xs:n_} (h:w.ownsRow base e size v n xs) (hb:c<=base):w.ownsRow c e size v n xs:=by
 obtain ⟨f,i⟩:=h;refine ⟨f,i.imp id ?_⟩;rintro ⟨g,cap,d,a,b,r⟩;exact ⟨g,cap,d,a,dL hb b,r⟩
theorem ZX {w:World} {base e size n c:Nat} {a:oE} {xs:n_} (h:w.ownsRow base e size (.slice a n c) n xs):n<=c:=by
 rcases h.2 with ⟨h1,h2⟩|⟨g,cap,cur,d,_,_,b,_⟩
 .omega
 .simp only[Value.slice.injEq] at d;obtain ⟨_,_,rfl⟩:=d;exact b
def Kz (w:World) (base:Nat) (r:Value) (l:oF):Prop:=(∃a c,r=.slice a l.length c)∧w.ownsRow base Mt 2 r l.length (l.map Ba).flatten
theorem Kz.at {w:World} {base:Nat} {r:Value} {l:oF} (h:Kz w base r l):BP w r l:=
 Di h.2 (by intro x a;simp only[eU] at a;obtain ⟨p,_,rfl⟩:=a;rfl) qP qD
theorem GN (l:oF) (s:Sp):((l++[s]).map Ba).flatten=(l.map Ba).flatten++[.int .i64 s.1,.int .i64 s.2]:=by simp[Ba]
theorem Qd (k:World) (v:Value) (l:oF) (h:BP k v l) (hl:l.length<=8796093022208) :
 Bj prog 74 #[v] k λr w=>Kz w k.heap.size r l∧Ah k w:=by
 obtain ⟨a,c,rfl⟩:=BX.form h;simp only[dW] at h⊢;obtain ⟨base,g⟩:∃base,base=k.heap.size:=⟨_,O⟩;rw[<-g];refine qR func74 O ntmps74 O (λE=>(AA (qA _ O (AB (AH (AA (qM _ O (CM (v:=(.bool a.isNone)) O O qD (Lm dS O O) (AB (A4 O (λhn=>?_) (λhn=>?_)))))))))))
 .have y:=hn;have q:l.length=0:=by rcases gO l.length with z|z;exact z;obtain ⟨b,o,rfl,_⟩:=BR h z;simp at hn
  have j:l=[]:=eD q;refine AA (qA _ O (AB (AO (AK (AY mA (v:=(.slice none 0 0)) O ?_)))));subst j;exact ⟨⟨⟨none,0,O⟩,World.ownsRow_nil _ _ _ _⟩,E⟩
 .have y:=hn;rcases dT (decide (l.length=0)) with p|p
  .have d:=p;have d:=of_decide_eq_true d;refine AM (AC (AA (Hw qD dS BL ?_)));intro A F e;have G:=e.ge E;have E:=E.ext e.ext;have B:=e.blk;refine qM _ O (qV (J8 dS BL (a':=a) (c':=c) O (dU _) (by show Value.slice a l.length c=_;rw[d])) (qA _ O (AB (AO (AY mA (v:=(.slice (some ⟨A,0,none⟩) 0 0)) O ?_)))));have j:l=[]:=eD d;subst j;exact ⟨⟨⟨_,0,O⟩,IN (base:=base) (size:=2) B qO⟩,E⟩
  .have d:=p;have d:=of_decide_eq_false d;obtain ⟨b,o,rfl,t⟩:=BR h qO;refine AM (AC (AA (Hw qD dS BL ?_)));intro A F e;have G:=e.ge E;have E:=E.ext e.ext;have B:=e.blk;refine qM _ O ?_;have f:=IN (base:=base) (size:=2) B qO;have u:base<=F.heap.size:=by have:=e.ext.size;omega
   refine BQ (base:=base) (n:=0) (m:=l.length) (xs:=[]) (news:=(l.map Ba).flatten) (size:=2) (bytes:=16) (v:=(.slice (some ⟨A,0,none⟩) 0 0)) qD dS BL Ma Df O qD O f O (GF l) ((LV t).ext e.ext) (NI l) (by unfold maxLen;omega) qO (u) ?_;intro v9 w29 i s Dv9;have E:=E.step s (λx hx h=>absurd (f.lt x h).1 qO);obtain ⟨D,C,rfl⟩:=BB i;refine qA _ O (AB (AO (AY mA (v:=(.slice D (0+l.length) C)) O ?_)));simp only[eO,fO] at i⊢;exact ⟨⟨⟨D,C,O⟩,i⟩,E⟩
theorem Pa {P:Program} {N:Nat} {Q:EF} {σ:CZ} {w:World} {K:CZ->World->Prop} {ops:Array Oper} {rest:List Oper} {d:Nat} {ty:TypeId} {pos:String} {af:Array Edge} {t:TypeId} {s x:Operand}
  {base e size bytes n m c:Nat} {ax:oE} {z v:Value} {xs news:n_} (hN:d<N) (hu:P.underlying t=some (.slice e)) (hsz:EI P e size) (hby:Js P e bytes) (hz:FP P e z) (hzs:z.cells.size=size) (h0:0<size)
  (hs:ev σ s=v) (hown:w.ownsRow base e size v n xs) (hx:ev σ x=.slice ax m c) (hl:news.length=m*size) (hany:(m=0∧news=[])∨∃bx ox,ax=some ⟨bx,ox,none⟩∧BG w bx ox news) (h1:∀u∈news,u.oneCell'=true)
  (h63:n+m<=maxLen) (hbytes:(n+m)*bytes<=140737488355328) (hbase:base<=w.heap.size)
  (k:∀v' w',w'.ownsRow base e size v' (n+m) (xs++news)->Chg (λx=>v.ownBlock=some x) w w'->(∀k,v'.ownBlock=some k->v.ownBlock=some k∨w.heap.size<=k)->Dp P N ops K Q rest (Of σ d v') w') :
  Dp P N ops K Q (⟨some d,.call ⟨.builtin .append,#[s,x],#[t,t]⟩,ty,pos,af,none⟩::rest) σ w:=by
 rcases hany with ⟨rfl,rfl⟩|⟨bx,ox,rfl,hc⟩
 ·obtain ⟨a,c',rfl⟩:=BB hown;refine CM O O hN (J8 hu hsz hs (ZX hown) hx) (k _ w (by simpa using hown) (Chg.refl _ _) λ_ h=>.inl h)
 ·exact BQ hN hu hsz hby hz hzs h0 hs hown hx hl hc h1 h63 hbytes hbase k
theorem Vy {w:World} {a:oE} {n c:Nat} {l:oB} (h:Bw w (.slice a n c) l):(n=0∧l.map (Value.int .i64)=[])∨∃b o,a=some ⟨b,o,none⟩∧BG w b o (l.map (Value.int .i64)):=by
 have hn:n=l.length:=by have:=(BX.cap h).2;simpa using this.symm
 rcases gO n with d|d
 .left;exact ⟨d,by rw[eD (show l.length=0 by omega)];rfl⟩
 .right;obtain ⟨b,o,g,j⟩:=CX h d;exact ⟨b,o,g,λi u e=>by rw[eN,iQ] at e;obtain ⟨x,f,rfl⟩:=e;exact j i x f⟩
def C0 (w:World) (v:Value) (ll:nZ):Prop:=∃vs:n_,BX w 1 v (vs.map λx=>[x])∧vs.length=ll.length∧∀(i:Nat) (u:Value) (l:oF),vs[i]?=some u->ll[i]?=some l->BP w u l
theorem C0.ext {w w':World} {v:Value} {ll:nZ} (h:C0 w v ll) (e:Ah w w'):C0 w' v ll:=by
 obtain ⟨vs,a,d,b⟩:=h;exact ⟨vs,a.ext e,d,λi u l c f=>(b i u l c f).ext e⟩
theorem C0.form {w:World} {v:Value} {ll:nZ} (h:C0 w v ll):∃a c,v=.slice a ll.length c∧ll.length<=c∧ll.length<=9223372036854775807:=by
 obtain ⟨vs,b,d,_⟩:=h;obtain ⟨a,c,rfl⟩:=b.form;have:=b.cap;have:=b.le;simp only[dW] at *;rw[d] at *;exact ⟨a,c,O,qO,qO⟩
theorem CD {w:World} {a:oE} {n c:Nat} {ll:nZ} (h:C0 w (.slice a n c) ll) (hn:0<n) :
 ∃b o,a=some ⟨b,o,none⟩∧∀i l,ll[i]?=some l->∃d e,w.cell? ⟨b,o+i,none⟩=some (.slice d l.length e)∧BP w (.slice d l.length e) l:=by
 obtain ⟨vs,r,h2,p⟩:=h;obtain ⟨b,o,s,q⟩:=BX.at r hn;refine ⟨b,o,s,λi l j=>?_⟩;have hi:i<vs.length:=by have:=AX j;omega
 have m:vs[i]?=some vs[i]:=dM hi;have f:=p i vs[i] l m j;obtain ⟨d,e,g⟩:=BX.form f;simp only[dW] at g;have k:=q i [vs[i]] (by simp[m]) 0 _ O;rw[kT,jO,g] at k;rw[g] at f;exact ⟨d,e,k,f⟩
theorem IS {ll:nZ} {k:Nat} {l:oF} (h:ll[k]?=some l):(ll.take (k+1)).flatten=(ll.take k).flatten++l:=by
 rw[eK,h];simp
theorem X' (ll:nZ) (k:Nat):(ll.take k).flatten.length<=ll.flatten.length:=by
 have h:ll.flatten=(ll.take k).flatten++(ll.drop k).flatten:=by rw[<-fX,fF]
 rw[h,dN];omega
end Go.Proofs
namespace Go.Proofs
open Go Go.Eng Go.Sort
set_option maxRecDepth 100000
def K_:oB->Int
  | []=>0
  | x::r=>if x≠0 then x else K_ r
theorem Uz (e:World) (v:Value) (l:oB) (h:Bw e v l):Bj prog 138 #[v] e λr w=>r=.int .i64 (K_ l)∧Ah e w:=by
 obtain ⟨a,c,rfl⟩:=BX.form h;have hlen:l.length<=9223372036854775807:=by simpa using BX.le h
 simp only[dW] at h⊢;refine qR func138 O ntmps138 O (λE=>(AA (qA _ O (AB (AA (qA _ O (AB (AH (AA (qM _ O (qV (AT eA O) (qM _ O (AB (AW (Ax (λnn_ σ q=>∃(k:Nat),(∃jj_,σ=BW jj_ [(3,(I6 0)),(6,(.slice a l.length c)),(7,(I6 (l.length:Int))),(8,(I6 (k:Int)))])∧Chg Aj e q∧(k<=l.length)∧(K_ (l.drop k)=K_ l)∧nn_=l.length - k) (n:=l.length - 0) ?_ ?_)))))))))))))))
 .exact ⟨0,Ak.out ⟨O,O,O,O,trivial⟩,E,dR _,O,O⟩
 .clear E;rintro _ _ q ⟨k,⟨j1,rfl⟩,E,hk,g,rfl⟩;refine AA (qV (A6 O O) (AB (AH (qC O (λp=>?_) (λp=>?_)))))
  .obtain ⟨x,s⟩:=AU (l:=l) (i:=k) qO;obtain ⟨b,o,rfl,j⟩:=CX h qO;rw[Bi s] at g;refine AM (AC (AH (AW (AA (qV (AL (b:=b) (o:=o) (len:=l.length) (cap:=c) (i:=k) (o':=o+k) O O O eA Al qO qO) (qV (AJ O Ag (E.cell (λf=>f) (j k x s))) (qA _ O (AB (AA (qM _ O (qM _ O (qV (Bb O O) (AB (qC O (λd=>?_) (λd=>?_)))))))))))))))
   .refine AA (qM _ O (qA _ O (AB (AO (Ac (AK (AK (Ac (AK (AY results138 (v:=(.int .i64 x)) O ?_))))))))));exact ⟨BI (by rw[<-g,K_,if_pos d]),E⟩
   .refine AM (AV (AC (AN (qV (A0 O O (A8 qO)) (qM _ O (AB (AC ?_)))))));exact ⟨l.length - (k+1),qO,k+1,Ak.out ⟨O,O,O,O,trivial⟩,E,qO,(by rw[<-g,K_,if_neg d]),O⟩
  .have m:k=l.length:=qO
   refine Av (AZ (AZ (Ao (AC (AA (qM _ O (qA _ O (AB (AO (AY results138 (v:=(.int .i64 0)) O ?_))))))))));exact ⟨BI (by rw[<-g,m,gR];rfl),E⟩
def KI (a b:Int):G0:=λv w=>∃bb,v=.slice (some ⟨bb,0,none⟩) 2 2∧Bw w v [a,b]
theorem He (a b:Int):FK (KI a b):=by
 rintro v w w' e ⟨f,c,d⟩;exact ⟨f,c,d.ext e⟩
theorem Mk {N:Nat} {σ:CZ} {w:World} {dst:Option Tmp} {ty:TypeId} {pos:String} {af:Array Edge} {g:Option (Nat×Bool)} {x y:Operand} {a b:Int} (c:ev σ x=.int .i64 a) (d:ev σ y=.int .i64 b) :
 Ka prog N ⟨dst,.buildSlice 46 2 #[(0,x),(1,y)],ty,pos,af,g⟩ (KI a b) σ w:=by
 have hn:=New.mk' w #[.int .i64 a,.int .i64 b] 3;refine AP (DB (parts:=[(0,x),(1,y)]) (ps:=[(0,.int .i64 a),(1,.int .i64 b)]) (by simp only[List.map,c,d]) eA Al Ex qD qD qK) hn.ext ?_;exact ⟨_,O,FX [a,b] hn.blk qP qP⟩
def ES (p q:Int):Int:=if p≠0 then p else q
def Sy (p p':Int):Prop:=(p<0↔0<p')∧(0<p↔p'<0)
def Jr (p q r:Int):Prop:=(p<=0->q<=0->r<=0)∧(p<0->q<=0->r<0)∧(p<=0->q<0->r<0)
theorem JT (p q:Int):(ES p q<0↔p<0∨(p=0∧q<0))∧(0<ES p q↔0<p∨(p=0∧0<q)):=by unfold ES;split<;>omega
theorem Sy.lex {p b P a:Int} (h:Sy p b) (k:Sy P a):Sy (ES p P) (ES b a):=by
 unfold Sy at *;have h1:=JT p P;have h2:=JT b a;omega
theorem Jr.lex {p q r P Q R:Int} (h:Jr p q r) (k:Jr P Q R):Jr (ES p P) (ES q Q) (ES r R):=by
 unfold Jr at *;have h1:=JT p P;have h2:=JT q Q;have h3:=JT r R;refine ⟨λa b=>?_,λa b=>?_,λa b=>?_⟩<;>omega
theorem Jg (a b:Int):(Bd a b<0↔a<b)∧(0<Bd a b↔b<a):=by unfold Bd;(repeat' split)<;>omega
theorem LS (a b:Int):Sy (Bd a b) (Bd b a):=by
 have h1:=Jg a b;have h2:=Jg b a;unfold Sy;omega
theorem LR (a b c:Int):Jr (Bd a b) (Bd b c) (Bd a c):=by
 have h1:=Jg a b;have h2:=Jg b c;have h3:=Jg a c;unfold Jr;omega
theorem K3:Sy 0 0:=by unfold Sy;omega
theorem K2:Jr 0 0 0:=by unfold Jr;omega
def Cf (s t:Int×Int):Int:=K_ [Bd s.1 t.1,Bd s.2 t.2]
theorem FU (x:Int) (r:oB):K_ (x::r)=ES x (K_ r):=rfl
theorem Gi:K_ []=0:=rfl
theorem aD (a b:Int×Int):Sy (Cf a b) (Cf b a):=by
 simp only[Cf,FU,Gi];exact (LS _ _).lex ((LS _ _).lex K3)
theorem aC (a b c:Int×Int):Jr (Cf a b) (Cf b c) (Cf a c):=by
 simp only[Cf,FU,Gi];exact (LR _ _ _).lex ((LR _ _ _).lex K2)
def Cw {α:Type} (f:α->α->Int):List α->List α->Int
  | [],[]=>0
  | [],_::_=>-1
  | _::_,[]=>1
  | x::l,y::m=>ES (f x y) (Cw f l m)
theorem SU {α:Type} {f:α->α->Int} (c:∀a b,Sy (f a b) (f b a)):∀a b:List α,Sy (Cw f a b) (Cw f b a)
 | x::a,y::b=>(c x y).lex (SU c a b)
 | [],[]=>K3
 | [],_::_=>by simp only[Cw];unfold Sy;omega
 | _::_,[]=>by simp only[Cw];unfold Sy;omega
theorem ST {α:Type} {f:α->α->Int} (d:∀a b c,Jr (f a b) (f b c) (f a c)):∀a b c:List α,Jr (Cw f a b) (Cw f b c) (Cw f a c)
 | x::a,y::b,z::c=>(d x y z).lex (ST d a b c)
 | [],[],[]=>K2
 | [],[],_::_=>by simp only[Cw];unfold Jr;omega
 | [],_::_,[]=>by simp only[Cw];unfold Jr;omega
 | [],_::_,_::_=>by simp only[Cw];unfold Jr;omega
 | _::_,[],[]=>by simp only[Cw];unfold Jr;omega
 | _::_,[],_::_=>by simp only[Cw];unfold Jr;omega
 | _::_,_::_,[]=>by simp only[Cw];unfold Jr;omega
mutual
def CS:Re->Re->Int
  | .mk k s a m x _,.mk k' s' a' m' x' _=>K_ [Bd k k',Cw Cf s s',Bd m m',Bd x x',CK a a']
def CK:List Re->List Re->Int
  | [],[]=>0
  | [],_::_=>-1
  | _::_,[]=>1
  | t::ts,u::us=>ES (CS t u) (CK ts us)
end
mutual
theorem Yu:∀a b:Re,Sy (CS a b) (CS b a)
 | .mk k s a m x g,.mk k' s' a' m' x' g'=>by
  simp only[CS,FU,Gi];exact (LS _ _).lex ((SU aD _ _).lex ((LS _ _).lex ((LS _ _).lex ((Us a a').lex K3))))
theorem Us:∀a b:List Re,Sy (CK a b) (CK b a)
 | x::a,y::b=>by simp only[CK];exact (Yu x y).lex (Us a b)
 | [],[]=>by simp only[CK];exact K3
 | [],_::_=>by simp only[CK];unfold Sy;omega
 | _::_,[]=>by simp only[CK];unfold Sy;omega
end
mutual
theorem LQ:∀a b c:Re,Jr (CS a b) (CS b c) (CS a c)
 | .mk k s a m x g,.mk k' s' a' m' x' g',.mk k'' s'' a'' m'' x'' g''=>by
  simp only[CS,FU,Gi];exact (LR _ _ _).lex ((ST aC _ _ _).lex ((LR _ _ _).lex ((LR _ _ _).lex ((Up a a' a'').lex K2))))
theorem Up:∀a b c:List Re,Jr (CK a b) (CK b c) (CK a c)
 | x::a,y::b,z::c=>by simp only[CK];exact (LQ x y z).lex (Up a b c)
 | [],[],[]=>by simp only[CK];exact K2
 | [],[],_::_=>by simp only[CK];unfold Jr;omega
 | [],_::_,[]=>by simp only[CK];unfold Jr;omega
 | [],_::_,_::_=>by simp only[CK];unfold Jr;omega
 | _::_,[],[]=>by simp only[CK];unfold Jr;omega
 | _::_,[],_::_=>by simp only[CK];unfold Jr;omega
 | _::_,_::_,[]=>by simp only[CK];unfold Jr;omega
end
theorem CP (a b:Re):CS b a<0↔0<CS a b:=(Yu b a).1
theorem ZZ (a b:Re):CS a b<=0∨CS b a<=0:=by have:=CP a b;have:=CP b a;omega
theorem Va {a b c:Re} (h:CS a b<=0) (k:CS b c<=0):CS a c<=0:=(LQ a b c).1 h k
theorem IR {p q:Int}:ES p q=0↔p=0∧q=0:=by unfold ES;split<;>omega
theorem ON {a b:Int}:Bd a b=0↔a=b:=by unfold Bd;(repeat' split)<;>omega
theorem R3 {a b:Int×Int}:Cf a b=0↔a=b:=by
 simp only[Cf,FU,Gi,IR,ON,and_true,Prod.ext_iff]
theorem OM {α:Type} {f:α->α->Int} (c:∀a b,f a b=0↔a=b):∀{a b:List α},Cw f a b=0↔a=b
 | [],[]=>by simp[Cw]
 | [],_::_=>by simp[Cw]
 | _::_,[]=>by simp[Cw]
 | x::l,y::m=>by simp only[Cw,IR,c,OM c,fV]
mutual
def Ep:Re->Bool
  | .mk _ _ a _ _ g=>!g && I2 a
def I2:List Re->Bool
  | []=>true
  | t::ts=>Ep t && I2 ts
end
mutual
theorem JR:∀{a b:Re},Ep a=true->Ep b=true->(CS a b=0↔a=b)
 | .mk k s a m x g,.mk k' s' a' m' x' g',h,h'=>by
  simp only[Ep,dP,e_] at h h';simp only[CS,FU,Gi,IR,ON,OM (f:=Cf) λ_ _=>R3,NW h.2 h'.2,and_true,Re.mk.injEq,h.1,h'.1];constructor
  .rintro ⟨c,e,d,i,j⟩;exact ⟨c,e,j,d,i⟩
  .rintro ⟨c,e,j,d,i⟩;exact ⟨c,e,d,i,j⟩
theorem NW:∀{a b:List Re},I2 a=true->I2 b=true->(CK a b=0↔a=b)
 | [],[],_,_=>by simp[CK]
 | [],_::_,_,_=>by simp[CK]
 | _::_,[],_,_=>by simp[CK]
 | t::ts,u::us,h,h'=>by
  simp only[I2,dP] at h h';simp only[CK,IR,JR h.1 h'.1,NW h.2 h'.2,fV]
end
def Ei:Re:=.mk 8 [] [BO] 0 0 false
def DV (t:Re):Bool:=decide (t.kind=8) && decide ((t.args.headD BO).kind=0)
def CC (t:Re):Bool:=decide (t.kind=0)
def Cl (t:Re):Bool:=decide (t.kind=1)
def ET (p:Re->Bool) (l:List Re):List Re:=l.filter λx=>!p x
def CT (k:Int) (nothing:Re):List Re->Re
  | []=>nothing
  | [x]=>x
  | x::y::l=>.mk k [] (x::y::l) 0 0 false
def De (l:List Re):Re:=if ((ET Cl (BS 3 l)).any CC)=true then BO else CT 3 BT (ET Cl (BS 3 l))
def Ey:List Re->List Re
  | []=>[]
  | [x]=>[x]
  | x::y::l=>if BU x y=true then Ey (y::l) else x::Ey (y::l)
def X_ (a b:Re):Bool:=decide (CS a b<=0)
def EO (l:List Re):List Re:=l.mergeSort X_
def Gw (k:Int) (l:List Re) (strong weak:Re->Bool) (nothing:Re):Re:=
  match l.find? strong with
  | some x=>x
  | none=>CT k nothing (Ey (EO (ET weak (BS k l))))
def C5 (k:Int) (s:List (Int×Int)) (a:List Re) (m x:Int) (g:Bool):Re:=
 let y:=a.headD BO
 if k=3 then De a else if k=4 then Gw 4 a DV CC BO else if k=7 then Gw 7 a CC DV Ei
 else if k=5 then (if y.kind=0∨y.kind=1 then BT else if y.kind=5 then y else .mk k s a m x g)
 else if k=6 then (if x=0∨y.kind=1∨(y.kind=0∧m=0) then BT else if y.kind=0∨(m=1∧x=1) then y else .mk k s a m x g)
 else if k=8 then (if y.kind=8 then y.args.headD BO else .mk k s a m x g)
 else .mk k s a m x g
def DS:Re->Re
  | .mk k s a m x g=>C5 k s a m x g
mutual
def CR:Re->Re
  | .mk k s a m x g=>C5 k s (DF a) m x g
def DF:List Re->List Re
  | []=>[]
  | t::ts=>CR t::DF ts
end
theorem DR (ts:List Re):DF ts=ts.map CR:=by
 induction ts with
 | nil=>rfl
 | cons t ts ih=>simp[DF,ih]
theorem Sa (t:Re):CR t=C5 t.kind t.set (t.args.map CR) t.mn t.mx t.neg:=by cases t;simp[CR,DR,Re.kind,Re.set,Re.args,Re.mn,Re.mx,Re.neg]
mutual
def BN:Re->Bool
  | .mk k _ a m _ g=>if k=1∨k=5 then true else if k=3∨k=7∨k=9 then C6 a else if k=4 then FO a else if k=6 then (decide (m=0) || C6 a) else if k=8 then !C6 a else if k=10 then (C6 a != g) else false
def C6:List Re->Bool
  | []=>true
  | t::ts=>BN t && C6 ts
def FO:List Re->Bool
  | []=>false
  | t::ts=>BN t || FO ts
end
mutual
def A_ (c:Int):Re->Re
  | .mk k s a m x g=>if k=2 then (if Ca s c=true then BT else BO) else if k=3 then Ek c a
    else if k=4∨k=7∨k=8 then C5 k [] (CO c a) 0 0 false
    else if k=5 then De [(CO c a).headD BO,.mk k s a m x g]
    else if k=6 then De [(CO c a).headD BO,C5 6 [] [a.headD BO] (max 0 (m - 1)) (x - 1) false]
    else BO
def CO (c:Int):List Re->List Re
  | []=>[]
  | t::ts=>A_ c t::CO c ts
def Ek (c:Int):List Re->Re
  | []=>BO
  | t::ts=>if ts=[] then A_ c t else (let first:=De [A_ c t,CT 3 BT ts];if BN t=true then C5 4 [] [first,Ek c ts] 0 0 false else first)
end
end Go.Proofs
namespace Go.Proofs
open Go Go.Eng
set_option maxRecDepth 100000
theorem VP {P:Program} {σ:CZ} {w:World} {dst:Option Tmp} {ty:TypeId} {pos:String} {af:Array Edge} {g:Option (Nat×Bool)} {tys:Array TypeId} {x y:Operand} {k:IntKind} {a b c:Int} (d:ev σ x=.int k a) (e:ev σ y=.int k b) (f:min a b=c) :
 (execOp (ev σ) ⟨dst,.call ⟨.builtin .min,#[x,y],tys⟩,ty,pos,af,g⟩).run P w=.ok (.value (.int k c)) w:=by
 subst f;have:(if b<a then b else a)=min a b:=by split<;>omega
 simp[execOp,resolve,invoke,builtin,Builtin.min_,Builtin.min2,d,e,this]
end Go.Proofs
namespace Go.Eng
open Go
abbrev FR:Nat:=25
mutual
def Ds (Z:oD) (w:World):Re->List Value->oD->Prop
  | .mk k set args mn mx ng,vs,L=>∃sa sc aa ac,vs=[.int .i64 k,.slice sa set.length sc,.slice aa args.length ac,.int .i64 mn,.int .i64 mx,.bool ng]∧B_ Z w 2 (.slice sa set.length sc) (set.map Ba)∧(args.length<=ac∧ac<=9223372036854775807)∧
      (args=[]∨∃b rows rest L',L b∧aa=some ⟨b,0,none⟩∧BV w b (rows.flatten++rest).toArray FR∧(∀r∈rows,r.length=6)∧B' Z w args rows L'∧(∀x,L' x->L x∧x≠b))
def B' (Z:oD) (w:World):List Re->List n_->oD->Prop
  | [],rows,_=>rows=[]
  | t::ts,rows,L=>∃vs rs L1 L2,rows=vs::rs∧Ds Z w t vs L1∧B' Z w ts rs L2∧(∀x,L1 x->L x∧¬L2 x)∧(∀x,L2 x->L x)
end
mutual
theorem Ds.chg {Z M:oD} {w w':World} (c:Chg M w w') (d:∀b,Z b->¬M b):∀(t:Re) {vs:n_} {L:oD},(∀b,L b->¬M b)->Ds Z w t vs L->Ds Z w' t vs L
 | .mk k set args mn mx ng,vs,L,hl,h=>by
  simp only[Ds] at h⊢;obtain ⟨sa,sc,aa,ac,l,hs,hn,m⟩:=h;refine ⟨sa,sc,aa,ac,l,hs.chg c d,hn,?_⟩;rcases m with h|⟨b,rows,rest,L',e,g,f,n,i,a⟩
  .exact .inl h
  .exact .inr ⟨b,rows,rest,L',e,g,c.keep (hl b e) f,n,B'.chg c d args (λx j=>hl x (a x j).1) i,a⟩
theorem B'.chg {Z M:oD} {w w':World} (c:Chg M w w') (d:∀b,Z b->¬M b):∀(ts:List Re) {rows:List n_} {L:oD},(∀b,L b->¬M b)->B' Z w ts rows L->B' Z w' ts rows L
 | [],_,_,_,h=>by simp only[B'] at h⊢;exact h
 | t::ts,rows,L,hl,h=>by
  simp only[B'] at h⊢;obtain ⟨vs,k,l,m,j,i,g,f,e⟩:=h;exact ⟨vs,k,l,m,j,Ds.chg c d t (λx a=>hl x (f x a).1) i,B'.chg c d ts (λx a=>hl x (e x a)) g,f,e⟩
end
theorem Ds.ext {Z:oD} {w w':World} (e:Ah w w') (t:Re) {vs:n_} {L:oD} (h:Ds Z w t vs L):Ds Z w' t vs L:=Ds.chg e (λ_ _ f=>f) t (λ_ _ f=>f) h
theorem B'.ext {Z:oD} {w w':World} (e:Ah w w') (ts:List Re) {rows:List n_} {L:oD} (h:B' Z w ts rows L):B' Z w' ts rows L:=B'.chg e (λ_ _ f=>f) ts (λ_ _ f=>f) h
mutual
theorem Ds.mono {Z a:oD} {w:World} (d:∀b,Z b->a b):∀(t:Re) {vs:n_} {L L':oD},(∀b,L b->L' b)->Ds Z w t vs L->Ds a w t vs L'
 | .mk k set args mn mx ng,vs,L,L',hl,h=>by
  simp only[Ds] at h⊢;obtain ⟨sa,sc,aa,ac,l,hs,hn,m⟩:=h;refine ⟨sa,sc,aa,ac,l,hs.mono d,hn,?_⟩;rcases m with h|⟨b,rows,rest,K,j,g,f,n,i,c⟩
  .exact .inl h
  .exact .inr ⟨b,rows,rest,K,hl b j,g,f,n,B'.mono d args (λ_ h=>h) i,λx e=>⟨hl x (c x e).1,(c x e).2⟩⟩
theorem B'.mono {Z c:oD} {w:World} (d:∀b,Z b->c b):∀(ts:List Re) {rows:List n_} {L L':oD},(∀b,L b->L' b)->B' Z w ts rows L->B' c w ts rows L'
 | [],_,_,_,_,h=>by simp only[B'] at h⊢;exact h
 | t::ts,rows,L,L',hl,h=>by
  simp only[B'] at h⊢;obtain ⟨vs,k,l,m,j,g,f,e,i⟩:=h;exact ⟨vs,k,l,m,j,Ds.mono d t (λ_ h=>h) g,B'.mono d ts (λ_ h=>h) f,λx a=>⟨hl x (e x a).1,(e x a).2⟩,λx a=>hl x (i x a)⟩
end
theorem Ds.form {Z:oD} {w:World} {t:Re} {vs:n_} {L:oD} (h:Ds Z w t vs L):∃sa sc aa ac,vs=[.int .i64 t.kind,.slice sa t.set.length sc,.slice aa t.args.length ac,.int .i64 t.mn,.int .i64 t.mx,.bool t.neg]∧B_ Z w 2 (.slice sa t.set.length sc) (t.set.map Ba)∧(t.args.length<=ac∧ac<=9223372036854775807)∧
 (t.args=[]∨∃b rows rest L',L b∧aa=some ⟨b,0,none⟩∧BV w b (rows.flatten++rest).toArray FR∧(∀r∈rows,r.length=6)∧B' Z w t.args rows L'∧(∀x,L' x->L x∧x≠b)):=by
 cases t;simp only[Ds] at h;exact h
theorem Ds.len {Z:oD} {w:World} {t:Re} {vs:n_} {L:oD} (h:Ds Z w t vs L):vs.length=6:=by
 obtain ⟨_,_,_,_,rfl,_⟩:=h.form;rfl
theorem Ds.one {Z:oD} {w:World} {t:Re} {vs:n_} {L:oD} (h:Ds Z w t vs L):∀u∈vs,u.oneCell'=true:=by
 obtain ⟨_,_,_,_,rfl,_⟩:=h.form;simp[Value.oneCell']
theorem B'.len {Z:oD} {w:World}:∀{ts:List Re} {rows:List n_} {L:oD},B' Z w ts rows L->rows.length=ts.length
 | [],_,_,h=>by simp only[B'] at h;subst h;rfl
 | t::ts,rows,L,h=>by
  simp only[B'] at h;obtain ⟨vs,rs,L1,L2,rfl,_,a,_⟩:=h;simp[B'.len a]
theorem B'.six {Z:oD} {w:World}:∀{ts:List Re} {rows:List n_} {L:oD},B' Z w ts rows L->∀r∈rows,r.length=6
 | [],_,_,h=>by simp only[B'] at h;subst h;simp
 | t::ts,rows,L,h=>by
  simp only[B'] at h;obtain ⟨vs,rs,L1,L2,rfl,c,b,_⟩:=h;intro r a;rcases dZ.1 a with rfl|a
  .exact c.len
  .exact B'.six b r a
theorem B'.snoc {Z:oD} {w:World} {t:Re} {vs:n_} {K:oD} (d:Ds Z w t vs K):∀{ts:List Re} {rows:List n_} {L:oD},B' Z w ts rows L->(∀x,L x->¬K x)->B' Z w (ts++[t]) (rows++[vs]) (λx=>L x∨K x)
 | [],rows,L,h,hd=>by
  simp only[B'] at h;subst h;simp only[fO,B'];exact ⟨vs,[],K,λ_=>False,O,d,O,λx a=>⟨.inr a,λf=>f⟩,λx f=>f.elim⟩
 | u::ts,rows,L,h,hd=>by
  simp only[B'] at h;obtain ⟨g,k,l,L2,rfl,i,e,b,c⟩:=h;have:=B'.snoc d e λx a=>hd x (c x a);simp only[fH,B'];exact ⟨g,k++[vs],l,_,O,i,this,λx a=>⟨.inl (b x a).1,λj=>j.elim (b x a).2 (hd x (b x a).1)⟩,λx a=>a.elim (λh=>.inl (c x h)) .inr⟩
theorem Lj {rows:List n_} {rest:n_} {k:Nat} (d:∀r∈rows,r.length=k):∀{i:Nat} {r:n_},rows[i]?=some r->∀(j:Nat) (u:Value),r[j]?=some u->(rows.flatten++rest)[i*k+j]?=some u:=by
 induction rows with
 | nil=>intro i r h;simp at h
 | cons x rs ih=>
  intro i r a j u b;have c:x.length=k:=d x qP;cases i with
  | zero=>
   simp at a;subst a;have e:=AX b;simp only[fE,mK,eO,eW];rw[dQ e];exact b
  | succ i=>
   simp at a;simp only[fE,eW];rw[dX (by rw[c,iM];omega)];rw[show (i+1)*k+j - x.length=i*k+j from by rw[c,iM];omega];exact ih (λr a=>d r (by simp[a])) a j u b
theorem HY {w:World} {b T k:Nat} {rows:List n_} {rest:n_} (h:BV w b (rows.flatten++rest).toArray T) (d:∀r∈rows,r.length=k) {i:Nat} {r:n_} (c:rows[i]?=some r):BG w b (i*k) r:=by
 intro j u a;exact h.cell (by simpa using Lj d c j u a)
theorem Lh {k:Nat} {v:n_} (a:v.length=k):∀{rows:List n_} {rest:n_} {i:Nat},(∀r∈rows,r.length=k)->i<rows.length->(rows.flatten++rest).take (i*k)++v++(rows.flatten++rest).drop (i*k+k)=(rows.set i v).flatten++rest
 | [],_,_,_,hi=>by simp at hi
 | x::rs,rest,0,hk,hi=>by
  have b:x.length=k:=hk x qP;simp only[fE,mK,iK,eO,List.set_cons_zero,fO,eW];rw[List.drop_append_of_le_length qO,mX qO];simp
 | x::rs,rest,i+1,hk,hi=>by
  have b:x.length=k:=hk x qP;have ih:=Lh a (rows:=rs) (rest:=rest) (i:=i) (λr d=>hk r (by simp[d])) (by simpa using hi);simp only[fE,List.set_cons_succ,eW] at ih⊢;rw[<-ih,iM];have c:∀(A:n_) (m:Nat),(x++A).take (x.length+m)=x++A.take m:=λA m=>by rw[List.take_append,fK qO,kN]
  have e:∀(A:n_) (m:Nat),(x++A).drop (x.length+m)=A.drop m:=λA m=>by rw[List.drop_append,mX qO,kN,fO]
  rw[show i*k+k=x.length+i*k from qO,c,show x.length+i*k+k=x.length+(i*k+k) from qO,e];rw[eW,show x.length+i*k=i*k+k from qO]
theorem Ck {k:Nat}:∀{rows:List n_},(∀r∈rows,r.length=k)->rows.flatten.length=rows.length*k
 | [],_=>qP
 | x::rs,h=>by
  have:=Ck (rows:=rs) (λr b=>h r (by simp[b]));have a:x.length=k:=h x qP;simp only[fE,dN,d_,this,a,iM];omega
theorem D5 {S:oD} {w:World} {b:Nat}:∀{ts:List Re} {o:Nat},(∀i t,ts[i]?=some t->∃vs,BG w b (o+i*6) vs∧AR S w t vs)->BM S w b o ts
 | [],_,_=>by simp only[BM]
 | t::ts,o,h=>by
  simp only[BM];refine ⟨by simpa using h 0 t O,D5 λi u a=>?_⟩;have:=h (i+1) u (by simpa using a)
  rwa [show o+(i+1)*6=o+6+i*6 from qO] at this
end Go.Eng
namespace Go.Proofs
open Go Go.Eng
set_option maxRecDepth 100000
def Hn (w:World) (v:Value) (ts:List Re):Prop:=∃aa ac,v=.slice aa ts.length ac∧(ts.length<=ac∧ac<=9223372036854775807)∧(ts=[]∨∃b o,aa=some ⟨b,o,none⟩∧CY w b o ts)
theorem Hn.ext {w w':World} {v:Value} {ts:List Re} (h:Hn w v ts) (e:Ah w w'):Hn w' v ts:=by
 obtain ⟨aa,ac,a,d,c⟩:=h;refine ⟨aa,ac,a,d,?_⟩;rcases c with h|⟨b,o,g,f⟩
 .exact .inl h
 .exact .inr ⟨b,o,g,CY.ext e ts f⟩
theorem Hn.cells {w:World} {aa:oE} {n ac:Nat} {ts:List Re} (h:Hn w (.slice aa n ac) ts) (hn:0<n):∃b o,aa=some ⟨b,o,none⟩∧∀i t,ts[i]?=some t->∃vs,BG w b (o+i*6) vs∧A3 w t vs:=by
 obtain ⟨aa',ac',a,h2,c⟩:=h;simp only[Value.slice.injEq] at a;obtain ⟨rfl,rfl,rfl⟩:=a;rcases c with rfl|⟨b,o,f,d⟩
 .simp at hn
 .exact ⟨b,o,f,λi t e=>CY.get d e⟩
theorem A3.rs {w:World} {t:Re} {sa aa:oE} {k m x:Int} {n sc n' ac:Nat} {ng:Bool} (h:A3 w t [.int .i64 k,.slice sa n sc,.slice aa n' ac,.int .i64 m,.int .i64 x,.bool ng]):Hn w (.slice aa n' ac) t.args:=by
 obtain ⟨sa',sc',aa',ac',a,_,c,b⟩:=h.form;simp at a;obtain ⟨_,_,⟨rfl,rfl,rfl⟩,_⟩:=a;exact ⟨_,_,O,c,b⟩
theorem PZ (t u:Re):BU t u=(decide (t.kind=u.kind) && decide (t.set=u.set) && decide (t.mn=u.mn) && decide (t.mx=u.mx) && decide (t.neg=u.neg) && E9 t.args u.args):=by
 cases t;cases u;simp only[BU,Re.kind,Re.set,Re.args,Re.mn,Re.mx,Re.neg];try rfl
theorem aV (w0:World) (v1 v2 fv:Value) (l1 l2:List Re) (h1:Hn w0 v1 l1) (h2:Hn w0 v2 l2)
  (hf:∀(w:World) (x u:Re) (vs us:n_),Ah w0 w→x∈l1→A3 w x vs→A3 w u us→CG prog fv #[.agg vs.toArray,.agg us.toArray] w λr w'=>r=.bool (BU x u)∧Ah w w') :
  Bj prog 182 #[v1,v2,fv] w0 λv w=>v=.bool (E9 l1 l2)∧Ah w0 w:=by
 have g1:=h1;have g2:=h2;obtain ⟨a1,c1,rfl,hb1,_⟩:=h1;obtain ⟨a2,c2,rfl,hb2,_⟩:=h2;refine qR func182 rfl ntmps182 rfl (λE=>(AA (qA _ rfl (AB (AH (AA (qM _ rfl (qV (AT dJ rfl) (qM _ rfl (qV (AT dJ rfl) (qV (Bb rfl rfl) (AB (qC rfl (λhl=>?_) (λhl=>?_))))))))))))))
 ·refine AA (qA _ rfl (AB (AO (AK (AY results182 (v:=(.bool false)) rfl ?_)))));exact ⟨A' (by symm;rw[←jE,E8];intro h;rw[h] at hl;exact hl rfl),E⟩
 ·refine AM (AC (AH (AA (qM _ rfl (qV (AT dJ rfl) (qM _ rfl (AB (AW (Ax (λnn_ σ W2=>∃(k:Nat),(∃jj_,σ=BW jj_ [(1,(.slice a2 l2.length c2)),(2,fv),(15,(.slice a1 l1.length c1)),(16,(I6 (l1.length:Int))),(17,(I6 (k:Int)))])∧Chg Aj w0 W2∧(k≤l1.length)∧(∀(i:Nat),i<k→l1[i]?=l2[i]?)∧nn_=l1.length - k) (n:=l1.length - 0) ?_ ?_)))))))))
  ·exact ⟨0,Ak.out ⟨rfl,rfl,rfl,rfl,rfl,trivial⟩,E,dR _,(λi h=>absurd h (fU _)),rfl⟩
  ·clear E;rintro _ _ W2 ⟨k,⟨j2,rfl⟩,E,hk,al,rfl⟩;refine AA (qV (A6 rfl rfl) (AB (AH (qC rfl (λao=>?_) (λao=>?_)))))
   ·obtain ⟨p,hp⟩:=AU (l:=l1) (i:=k) qO;obtain ⟨q,hq⟩:=AU (l:=l2) (i:=k) qO;obtain ⟨b1,o1,rfl,au⟩:=g1.cells qO;obtain ⟨b2,o2,rfl,ar⟩:=g2.cells qO;obtain ⟨vs,ap,an⟩:=au k p hp;obtain ⟨us,aq,am⟩:=ar k q hq;have ak:=an;have ai:=am;obtain ⟨sa,sc,aa,ac,rfl,_,_,_⟩:=an.form;obtain ⟨aj,ah,ad,ag,rfl,_,_,_⟩:=am.form;refine AM (AC (AH (AW (AA (qM _ rfl (qV (AL (b:=b1) (o:=o1) (len:=l1.length) (cap:=c1) (i:=k) (o':=o1+k*6) rfl rfl rfl dJ AG qO qO) (qV (AI rfl Ad AG rfl (ap.ext E)) (BK (c:=#[(I6 0),(.slice none 0 0),(.slice none 0 0),(I6 0),(I6 0),(.bool false)]) qD A1 rfl ?_))))))));intro bp wp Np;have Fp:=Np.ge E;have E:=E.ext Np.ext;have Bp:=Np.blk;refine qA _ rfl (Aa (b:=bp) (o:=0) (c':=(R6 p sa sc aa ac)) rfl rfl qS AG rfl Bp qL rfl ?_);intro w4 S4;have E:=S4.step E (by first|exact dH qO|assumption|exact dG rfl|exact dG (by assumption)|exact dG qP|exact dG qO|exact dG (by dsimp only;omega));have Bp:=S4.blk;refine AB (AA (qM _ rfl (qM _ rfl (qV (AL (b:=b2) (o:=o2) (len:=l2.length) (cap:=c2) (i:=k) (o':=o2+k*6) rfl rfl rfl dJ AG qO qO) (qV (AI rfl Ad AG rfl (aq.ext E)) (As (v:=(.agg (R6 q aj ah ad ag))) (c:=(R6 q aj ah ad ag)) (n:=6) qD A1 rfl AG rfl rfl rfl qS ?_))))));intro bq wq Nq;have Fq:=Nq.ge E;have Oq_bp:=Nq.lt Bp;have Bp:=Nq.keep Bp;have E:=E.ext Nq.ext;have Bq:=Nq.blk;refine AB (AA (qM _ rfl (qV (AI (vs:=[(I6 p.kind),(.slice sa p.set.length sc),(.slice aa p.args.length ac),(I6 p.mn),(I6 p.mx),(.bool p.neg)]) rfl Ad AG rfl (Bp.cells rfl)) (qV (AI (vs:=[(I6 q.kind),(.slice aj q.set.length ah),(.slice ad q.args.length ag),(I6 q.mn),(I6 q.mx),(.bool q.neg)]) rfl Ad AG rfl (Bq.cells rfl)) (DK qD rfl rfl (hf _ p q _ _ E (dK hp) (A3.ext E p ak) (A3.ext E q ai)) ?_)))));rintro _ w9 ⟨rfl,X9⟩;have Bp:=X9.keep Bp;have Bq:=X9.keep Bq;have E:=E.ext X9;refine qV (C1 rfl) (AB (A4 rfl (λab=>?_) (λab=>?_)))
    ·have ae:=ab;have ab:=by simpa using ab
     refine AA (qA _ rfl (AB (AO (Ac (AK (AK (Ac (AK (AY results182 (v:=(.bool false)) rfl ?_)))))))));exact ⟨A' (by symm;rw[←jE,E8];intro h;subst h;rw[hp] at hq;cases hq;rw[(BY p p).2 rfl] at ab;cases ab),E⟩
    ·have ae:=ab;have ab:=by simpa using ab
     have af:p=q:=(BY p q).1 (by simpa using ab);refine AM (AV (AC (AN (qV (A0 rfl rfl (A8 qO)) (qM _ rfl (AB (AC ?_)))))));exact ⟨l1.length - (k+1),qO,k+1,Ak.out ⟨rfl,rfl,rfl,rfl,rfl,trivial⟩,E,qO,(λi hi=>by rcases eI i k with h|h;exact al i h;obtain rfl:i=k:=qO;rw[hp,hq,af]),rfl⟩
   ·have hkk:k=l1.length:=qO
    refine Av (AZ (AZ (Ao (AC (AA (qA _ rfl (AB (AO (AY results182 (v:=(.bool true)) rfl ?_)))))))));exact ⟨A' (by symm;rw[E8];exact JX qO (λi hi=>al i qO)),E⟩
theorem VG:∀(n:Nat) (t u:Re) (s:World) (vs p:n_),t.size<=n->A3 s t vs->A3 s u p->
 Bj prog 173 #[.agg vs.toArray,.agg p.toArray] s λv w=>v=.bool (BU t u)∧Ah s w:=by
 intro n
 induction n with
 | zero=>intro t u s vs p hn;have:=t.size_pos;omega
 | succ n ih=>
 intro t u s vs p hn N M;have F:=N;have J:=M;obtain ⟨sa,sc,aa,ac,rfl,H,_,_⟩:=N.form;obtain ⟨D,C,A,B,rfl,G,_,_⟩:=M.form;have z:BU t u=(decide (t.kind=u.kind) && decide (t.set=u.set) && decide (t.mn=u.mn) && decide (t.mx=u.mx) && decide (t.neg=u.neg) && E9 t.args u.args):=PZ t u;refine qR func173 O ntmps173 O (λE=>(AA (BC (v:=(.agg (R6 t sa sc aa ac))) (c:=(R6 t sa sc aa ac)) qD O O ?_)));intro q w1 P;have E:=E.ext P.ext;have g:=P.blk;refine BC (v:=(.agg (R6 u D C A B))) (c:=(R6 u D C A B)) qD O O ?_;intro r w2 K;have g:=K.keep g;have E:=E.ext K.ext;have m:=K.blk;refine qA _ O (AB (AA (qF q 0 0 O dI O Al O (qV (AJ O Ag (g.cell O)) (qF r 0 0 O dI O Al O (qV (AJ O Ag (m.cell O)) (qV (Ai O O) (qM _ O ?_))))))));rcases dT (decide ((t.kind:Int)=u.kind)) with f|f
 .have h:=f;have h:=of_decide_eq_true h;refine AF O O qD (Ar f) (qF q 0 1 O dI O Bc O (AF O O qD (Ar f) (qV (AJ O Bf (g.cell O)) (AF O O qD (Ar f) (qF r 0 1 O dI O Bc O (AF O O qD (Ar f) (qV (AJ O Bf (m.cell O)) (AF O O qD (Ar f) (qE O (AS func73 kQ kQ O) (Ux _ _ _ t.set u.set (BX.ext H E) (BX.ext G E)) ?_)))))))));rintro _ w9 ⟨rfl,I⟩;have g:=I.keep g;have m:=I.keep m;have E:=E.ext I;refine qV (Af (v:=(.bool (decide (t.set=u.set)))) O (by rw[f];rfl)) (qM _ O ?_);rcases dT (decide (t.set=u.set)) with d|d
  .have k:=d;have k:=of_decide_eq_true k;refine AF O O qD (Ar d) (qF q 0 3 O dI O Al O (AF O O qD (Ar d) (qV (AJ O Ag (g.cell O)) (AF O O qD (Ar d) (qF r 0 3 O dI O Al O (AF O O qD (Ar d) (qV (AJ O Ag (m.cell O)) (AF O O qD (Ar d) (qV (Ai O O) (qV (Af (v:=(.bool (decide ((t.mn:Int)=u.mn)))) O (by rw[d];rfl)) (qM _ O ?_)))))))))));rcases dT (decide ((t.mn:Int)=u.mn)) with b|b
   .have l:=b;have l:=of_decide_eq_true l;refine AF O O qD (Ar b) (qF q 0 4 O dI O Al O (AF O O qD (Ar b) (qV (AJ O Ag (g.cell O)) (AF O O qD (Ar b) (qF r 0 4 O dI O Al O (AF O O qD (Ar b) (qV (AJ O Ag (m.cell O)) (AF O O qD (Ar b) (qV (Ai O O) (qV (Af (v:=(.bool (decide ((t.mx:Int)=u.mx)))) O (by rw[b];rfl)) (qM _ O ?_)))))))))));rcases dT (decide ((t.mx:Int)=u.mx)) with e|e
    .have j:=e;have j:=of_decide_eq_true j;refine AF O O qD (Ar e) (qF q 0 5 O dI O G8 O (AF O O qD (Ar e) (qV (AJ O HG (g.cell O)) (AF O O qD (Ar e) (qF r 0 5 O dI O G8 O (AF O O qD (Ar e) (qV (AJ O HG (m.cell O)) (AF O O qD (Ar e) (qV (ZS hU O O) (qV (Af (v:=(.bool (t.neg == u.neg))) O (by rw[e];rfl)) (qM _ O ?_)))))))))));rcases dT (t.neg == u.neg) with a|a
     .have L:=a;refine AF O O qD (Ar a) (qF q 0 2 O dI O BF O (AF O O qD (Ar a) (qV (AJ O A9 (g.cell O)) (AF O O qD (Ar a) (qF r 0 2 O dI O BF O (AF O O qD (Ar a) (qV (AJ O A9 (m.cell O)) (AF O O qD (Ar a) (qE O (AS func182 kQ kQ O) (aV _ _ _ _ t.args u.args ((A3.rs F).ext E) ((A3.rs J).ext E) (λw x y vs p hE Q S R=>CG.mk (first:=#[]) (cap:=#[]) func173 kQ kQ O (ih x y w vs p (by obtain ⟨i,hi⟩:=eS.1 Q;have:=Re.size_arg hi;omega) S R))) ?_)))))))));rintro _ w19 ⟨rfl,o⟩;have g:=o.keep g;have m:=o.keep m;have E:=E.ext o;refine qV (Af (v:=(.bool (E9 t.args u.args))) O (by rw[a];rfl)) (qA _ O (AB (AO (AY lN (v:=(.bool (E9 t.args u.args))) O ?_))));exact ⟨A' (by rw[z,f,d,b,e];simp at a;simp[a]),E⟩
     .have L:=a;refine AD O O qD (v:=.bool false) (Ar a) (dH O) (AD O O qD (v:=.bool false) (Ar a) (dH O) (AD O O qD (v:=.bool false) (Ar a) (dH O) (AD O O qD (v:=.bool false) (Ar a) (dH O) (AD O O qD (v:=.bool false) (Ar a) (dH O) (qV (Af (v:=(.bool false)) O (by rw[a];rfl)) (qA _ O (AB (AO (AY lN (v:=(.bool false)) O ?_)))))))));exact ⟨A' (by rw[z];simp at a;simp[a]),E⟩
    .have j:=e;have j:=of_decide_eq_false j;refine AD O O qD (v:=.bool false) (Ar e) (dH O) (AD O O qD (v:=.bool false) (Ar e) (dH O) (AD O O qD (v:=.bool false) (Ar e) (dH O) (AD O O qD (v:=.bool false) (Ar e) (dH O) (AD O O qD (v:=.bool false) (Ar e) (dH O) (qV (Af (v:=(.bool false)) O (by rw[e];rfl)) (qM _ O (AD O O qD (v:=.bool false) O (dH O) (AD O O qD (v:=.bool false) O (dH O) (AD O O qD (v:=.bool false) O (dH O) (AD O O qD (v:=.bool false) O (dH O) (AD O O qD (v:=.bool false) O (dH O) (qV (Af O O) (qA _ O (AB (AO ?_)))))))))))))));refine AY lN (v:=(.bool false)) O ?_;exact ⟨A' (by rw[z];simp at e;simp[e]),E⟩
   .have l:=b;have l:=of_decide_eq_false l;refine AD O O qD (v:=.bool false) (Ar b) (dH O) (AD O O qD (v:=.bool false) (Ar b) (dH O) (AD O O qD (v:=.bool false) (Ar b) (dH O) (AD O O qD (v:=.bool false) (Ar b) (dH O) (AD O O qD (v:=.bool false) (Ar b) (dH O) (qV (Af (v:=(.bool false)) O (by rw[b];rfl)) (qM _ O (AD O O qD (v:=.bool false) O (dH O) (AD O O qD (v:=.bool false) O (dH O) (AD O O qD (v:=.bool false) O (dH O) (AD O O qD (v:=.bool false) O (dH O) (AD O O qD (v:=.bool false) O (dH O) (qV (Af O O) (qM _ O (AD O O qD (v:=.bool false) O (dH O) ?_))))))))))))));refine AD O O qD (v:=.bool false) O (dH O) (AD O O qD (v:=.bool false) O (dH O) (AD O O qD (v:=.bool false) O (dH O) (AD O O qD (v:=.bool false) O (dH O) (qV (Af O O) (qA _ O (AB (AO (AY lN (v:=(.bool false)) O ?_))))))));exact ⟨A' (by rw[z];simp at b;simp[b]),E⟩
  .have k:=d;have k:=of_decide_eq_false k;refine AD O O qD (v:=.bool false) (Ar d) (dH O) (AD O O qD (v:=.bool false) (Ar d) (dH O) (AD O O qD (v:=.bool false) (Ar d) (dH O) (AD O O qD (v:=.bool false) (Ar d) (dH O) (AD O O qD (v:=.bool false) (Ar d) (dH O) (qV (Af (v:=(.bool false)) O (by rw[d];rfl)) (qM _ O (AD O O qD (v:=.bool false) O (dH O) (AD O O qD (v:=.bool false) O (dH O) (AD O O qD (v:=.bool false) O (dH O) (AD O O qD (v:=.bool false) O (dH O) (AD O O qD (v:=.bool false) O (dH O) (qV (Af O O) (qM _ O (AD O O qD (v:=.bool false) O (dH O) ?_))))))))))))));refine AD O O qD (v:=.bool false) O (dH O) (AD O O qD (v:=.bool false) O (dH O) (AD O O qD (v:=.bool false) O (dH O) (AD O O qD (v:=.bool false) O (dH O) (qV (Af O O) (qM _ O (AD O O qD (v:=.bool false) O (dH O) (AD O O qD (v:=.bool false) O (dH O) (AD O O qD (v:=.bool false) O (dH O) (AD O O qD (v:=.bool false) O (dH O) (AD O O qD (v:=.bool false) O (dH O) (qV (Af O O) (qA _ O (AB (AO (AY lN (v:=(.bool false)) O ?_)))))))))))))));exact ⟨A' (by rw[z];simp at d;simp[d]),E⟩
 .have h:=f;have h:=of_decide_eq_false h;refine AD O O qD (v:=.bool false) (Ar f) (dH O) (AD O O qD (v:=.bool false) (Ar f) (dH O) (AD O O qD (v:=.bool false) (Ar f) (dH O) (AD O O qD (v:=.bool false) (Ar f) (dH O) (AD O O qD (v:=.bool false) (Ar f) (dH O) (qV (Af (v:=(.bool false)) O (by rw[f];rfl)) (qM _ O (AD O O qD (v:=.bool false) O (dH O) (AD O O qD (v:=.bool false) O (dH O) (AD O O qD (v:=.bool false) O (dH O) (AD O O qD (v:=.bool false) O (dH O) (AD O O qD (v:=.bool false) O (dH O) (qV (Af O O) (qM _ O (AD O O qD (v:=.bool false) O (dH O) ?_))))))))))))));refine AD O O qD (v:=.bool false) O (dH O) (AD O O qD (v:=.bool false) O (dH O) (AD O O qD (v:=.bool false) O (dH O) (AD O O qD (v:=.bool false) O (dH O) (qV (Af O O) (qM _ O (AD O O qD (v:=.bool false) O (dH O) (AD O O qD (v:=.bool false) O (dH O) (AD O O qD (v:=.bool false) O (dH O) (AD O O qD (v:=.bool false) O (dH O) (AD O O qD (v:=.bool false) O (dH O) (qV (Af O O) (qM _ O (AD O O qD (v:=.bool false) O (dH O) (AD O O qD (v:=.bool false) O (dH O) ?_))))))))))))));refine AD O O qD (v:=.bool false) O (dH O) (AD O O qD (v:=.bool false) O (dH O) (AD O O qD (v:=.bool false) O (dH O) (qV (Af O O) (qA _ O (AB (AO (AY lN (v:=(.bool false)) O ?_)))))));exact ⟨A' (by rw[z];simp at f;simp[f]),E⟩
theorem J3 (f:World) (v fv:Value) (l:List Re) (p:Re->Bool) (hs:Hn f v l) (D:∀(w:World) (x:Re) (vs:n_),Ah f w->x∈l->A3 w x vs->CG prog fv #[.agg vs.toArray] w λr w'=>r=.bool (p x)∧Ah w w') :
 Bj prog 169 #[v,fv] f λr w=>r=.int .i64 (Hg p l)∧Ah f w:=by
 have B:=hs;obtain ⟨a,c,rfl,hb1,_⟩:=hs;refine qR func169 O ntmps169 O (λE=>(AA (qA _ O (AB (AH (AA (qM _ O (qV (AT dJ O) (qM _ O (AB (AW (Ax (λnn_ σ z=>∃(k:Nat),(∃jj_,σ=BW jj_ [(0,(.slice a l.length c)),(1,fv),(7,(I6 (l.length:Int))),(8,(I6 (k:Int)))])∧Chg Aj f z∧(k<=l.length)∧(∀(i:Nat) (y:Re),i<k->l[i]?=some y->p y=false)∧nn_=l.length - k) (n:=l.length - 0) ?_ ?_))))))))))))
 .exact ⟨0,Ak.out ⟨O,O,O,O,trivial⟩,E,dR _,(λi y h=>absurd h (fU _)),O⟩
 .clear E;rintro _ _ z ⟨k,⟨j1,rfl⟩,E,hk,d,rfl⟩;refine AA (qV (A6 O O) (AB (AH (qC O (λq=>?_) (λq=>?_)))))
  .obtain ⟨x,m⟩:=AU (l:=l) (i:=k) qO;obtain ⟨b,o,rfl,u⟩:=B.cells qO;obtain ⟨vs,s,g⟩:=u k x m;have j:=g;obtain ⟨sa,sc,aa,ac,rfl,_,_,_⟩:=g.form;refine AM (AC (AH (AW (AA (qM _ O (qA _ O (AB (AA (qM _ O (qM _ O (qM _ O (qV (AL (b:=b) (o:=o) (len:=l.length) (cap:=c) (i:=k) (o':=o+k*6) O O O dJ AG qO qO) (qV (AI O Ad AG O (s.ext E)) (DK qD O O (D _ x _ E (dK m) (A3.ext E x j)) ?_))))))))))))));rintro _ w9 ⟨rfl,C⟩;have E:=E.ext C;refine AB (A4 O (λe=>?_) (λe=>?_))
   .have t:=e;refine AA (qM _ O (qA _ O (AB (AO (Ac (AK (AK (Ac (AK (AY results169 (v:=(.int .i64 ((k:Nat):Int))) O ?_))))))))));exact ⟨BI (GC m e d).symm,E⟩
   .have t:=e;refine AM (AV (AC (AN (qV (A0 O O (A8 qO)) (qM _ O (AB (AC ?_)))))));exact ⟨l.length - (k+1),qO,k+1,Ak.out ⟨O,O,O,O,trivial⟩,E,qO,GY m e d,O⟩
  .have hkk:k=l.length:=qO
   refine Av (AZ (AZ (Ao (AC (AA (qA _ O (AB (AO (AY results169 (v:=(.int .i64 (-1))) O ?_)))))))));exact ⟨BI (HF λi y A=>d i y (by have:=AX A;omega) A).symm,E⟩
theorem Tp (a:World) (v fv:Value) (l:List Re) (p:Re->Bool) (hs:Hn a v l) (c:∀(w:World) (x:Re) (vs:n_),Ah a w->x∈l->A3 w x vs->CG prog fv #[.agg vs.toArray] w λr w'=>r=.bool (p x)∧Ah w w') :
 Bj prog 168 #[v,fv] a λr w=>r=.bool (l.any p)∧Ah a w:=by
 refine qR func168 O ntmps168 O (λE=>(AA (qA _ O (AB (AA (qM v O (qM _ O (qE O (AS func169 kQ kQ O) (J3 _ v fv l p hs c) ?_))))))));rintro _ w9 ⟨rfl,b⟩;have E:=E.ext b;refine qV (El O O) (qA _ O (AB (AO (AY results168 (v:=(.bool (decide ((0:Int)<=Hg p l)))) O ?_))));exact ⟨A' (Hf p l),E⟩
end Go.Proofs
