/- Contracts and plain lemmas, part 1. -/
import Derived.Tactics
import Derived.Deep.Quiet
import Derived.Laws.AppendOwn
import Derived.KernelRfl
import Derived.Laws.Entries
import Derived.Laws.Build
import Derived.Below
import Derived.RowKit3
import Derived.StillTail
import Derived.Sort.Grow
import Derived.Deep.Draws
import Derived.Test.YtllhcafmcbibbaaGreatChecked
import Derived.Laws.StructEq
import Derived.MapKept
import Derived.Laws.BytesArg
import Derived.Laws.CopyRow
import Derived.DeepKeys3
import Derived.Lib.SlicesS
import Derived.Laws.Concat
import Derived.Defers
import Derived.Recover
import Derived.Shelf.SlSortCmp.WholeK
import Derived.Shelf.Sort.Plain
import Derived.Shelf.Slices.CompactI
import Derived.Test.YtllhcafmcbibbaaGreatProg
import Derived.ChangeKeysEq
import Derived.OpenShut
import Derived.ChangeSlices
import Derived.Test.YtllhcafmcbibbaaGreatRows
import Derived.SizedLaws
open Go.Proofs.Tryz
set_option maxHeartbeats 16000000
namespace Go
theorem qO {p : Prop} (h : p := by omega) : p := h
theorem O.{u} {α : Sort u} {a : α} : a = a := rfl
theorem qD {p : Prop} (h : p := by decide) : p := h
theorem qP {p : Prop} (h : p := by simp) : p := h
theorem qK {p : Prop} (h : p := by kernel_rfl) : p := h
end Go
theorem Go.Proofs.kQ {p:Prop} (h:p:=by kernel_rfl):p:=h
theorem Go.Proofs.kH {p:Prop} (h:¬p:=by intro h;first|omega|(dsimp only at h;omega)):¬p:=h
namespace Go.Eng
open Go
abbrev B0:=Nat->Value
abbrev DN:=Exit->B0->World->Prop
def Ef (σ:B0) (d:Nat) (v:Value):B0:=λt=>bif Nat.beq t d then v else σ t
def ev (σ:B0):Operand->Value
  | .tmp t=>σ t
  | .const v=>v
  | .global g=>.pointer (some ⟨g,0,none⟩)
  | .func f=>.func (.func f) #[] #[]
def C1 (a:Act):B0:=λt=>a.tmps.getD t undef
def lk (t:Nat):List (Nat×Value)->Value->Value
  | [],d=>d
  | (k,v)::r,d=>bif Nat.beq t k then v else lk t r d
def BK (σ:B0) (l:List (Nat×Value)):B0:=λt=>lk t l (σ t)
theorem PE (σ:B0) (l:List (Nat×Value)) (h:∀p∈l,σ p.1=p.2):BK σ l=σ:=by
 funext t;unfold BK
 induction l with
 | nil=>rfl
 | cons p r ih=>
  obtain ⟨k,v⟩:=p;simp only[lk];cases hb:Nat.beq t k
  .simp only[cond_false];exact ih λp a=>h p (List.mem_cons_of_mem _ a)
  .have:t=k:=Nat.eq_of_beq_eq_true hb;subst this;simp only[cond_true];exact (h (t,v) List.mem_cons_self).symm
def Ac (σ:B0):List (Nat×Value)->Prop
  | []=>True
  | (k,v)::r=>σ k=v∧Ac σ r
theorem Ac.all {σ:B0}:∀{l:List (Nat×Value)},Ac σ l->∀p∈l,σ p.1=p.2
 | [],_,_,hp=>by cases hp
 | (k,v)::r,h,p,hp=>by
  cases hp with
  | head=>exact h.1
  | tail _ hp=>exact Ac.all h.2 p hp
theorem Ac.out {σ:B0} {l:List (Nat×Value)} (h:Ac σ l):∃j,σ=BK j l:=⟨σ,(PE σ l h.all).symm⟩
theorem Ch (a:Act):a.eval=ev (C1 a):=by
 funext x;cases x<;>rfl
structure Ok (dz:List Deferred) (N:Nat) (a:Act):Prop where
  size:a.tmps.size=N
  defers:a.defers=dz
theorem DT {c:List Deferred} {N:Nat} {a:Act} (h:Ok c N a) {d:Nat} (hd:d<N) (v:Value):C1 (a.put (some d) v)=Ef (C1 a) d v:=by
 funext t;have hs:=h.size;simp only[C1,Ef,Act.put];cases hb:Nat.beq t d
 .have b:d≠t:=λe=>by subst e;rw[Nat.beq_refl] at hb;cases hb
  simp[Array.getElem?_setIfInBounds_ne b]
 .have:t=d:=Nat.eq_of_beq_eq_true hb;subst this;simp[hs,hd]
theorem Ok.put {b:List Deferred} {N:Nat} {a:Act} (h:Ok b N a) (d:Option Nat) (v:Value):Ok b N (a.put d v):=by
 cases d with
 | none=>exact h
 | some d=>exact ⟨by simp[Act.put,h.size],h.defers⟩
def Dw (dz:List Deferred) (N:Nat) (Q:DN):Exit->Act->World->Prop:=λe a w=>Ok dz N a∧Q e (C1 a) w
def Wp (P:Program) (N:Nat) (c:Code) (Q:DN) (σ:B0) (w:World):Prop:=
  ∀dz a,Ok dz N a->C1 a=σ->c.wp P (Dw dz N Q) a w
def J1 (K:B0->World->Prop) (Q:DN):DN
  | .normal=>K
  | e=>Q e
def Tm (id:Nat) (Q:DN):DN
  | .exit j=>if j=id then Q .normal else Q (.exit j)
  | e=>Q e
section
variable {P : Program} {N : Nat} {Q : DN} {σ : B0} {w : World} {K : B0 → World → Prop}
theorem AB (h:K σ w):J1 K Q .normal σ w:=h
theorem AP {j:Nat} (h:Q (.exit j) σ w):J1 K Q (.exit j) σ w:=h
theorem AU (h:Q .ret σ w):J1 K Q .ret σ w:=h
theorem AN {a:Nat} (h:Q .normal σ w):Tm a Q .normal σ w:=h
theorem A1 {a:Nat} (h:Q .ret σ w):Tm a Q .ret σ w:=h
theorem Ae {a:Nat} (h:Q .normal σ w):Tm a Q (.exit a) σ w:=by unfold Tm;simp only[if_true];exact h
theorem Pk {b j:Nat} (a:j≠b) (h:Q (.exit j) σ w):Tm b Q (.exit j) σ w:=by unfold Tm;simp only[a,if_false];exact h
theorem O5 {c:Code} {Q':DN} (h:Wp P N c Q σ w) (b:∀e σ w,Q e σ w->Q' e σ w):Wp P N c Q' σ w:=
 λf a d g=>Code.wp_mono (λ_ _ _ ⟨o,q⟩=>⟨o,b _ _ _ q⟩) (h f a d g)
theorem AI {x y:Code} (h:Wp P N x (J1 (Wp P N y Q) Q) σ w):Wp P N (.seq x y) Q σ w:=by
 intro b a c d;refine wp_seq (Code.wp_mono ?_ (h b a c d));rintro e a w ⟨o,q⟩;cases e<;>first|exact q b a o rfl|exact ⟨o,q⟩
theorem AM (h:Q .normal σ w):Wp P N .skip Q σ w:=λ_ _ b a=>wp_skip ⟨b,a▸h⟩
theorem Ak {a:Nat} (h:Q (.exit a) σ w):Wp P N (.exit a) Q σ w:=λ_ _ c b=>wp_exit ⟨c,b▸h⟩
theorem AS (h:Q .ret σ w):Wp P N .ret Q σ w:=λ_ _ b a=>wp_ret ⟨b,a▸h⟩
theorem AO {b:Nat} {c:Code} (h:Wp P N c (Tm b Q) σ w):Wp P N (.block b c) Q σ w:=by
 intro g a f i;refine wp_block (Code.wp_mono ?_ (h g a f i));rintro e a w ⟨o,q⟩;cases e with
 | exit j=>
  unfold Exit.inBlock;unfold Tm at q;by_cases d:j=b
  .simp only[d,if_true] at q⊢;exact ⟨o,q⟩
  .simp only[d,if_false] at q⊢;exact ⟨o,q⟩
 | normal=>exact ⟨o,q⟩
 | goto l=>exact ⟨o,q⟩
 | ret=>exact ⟨o,q⟩
 | panic c=>exact ⟨o,q⟩
 | outgrown=>exact ⟨o,q⟩
theorem As {c:Operand} {x y:Code} {b:Bool} (j:ev σ c=.bool b) (i:b=true->Wp P N x Q σ w) (g:b=false->Wp P N y Q σ w) :
 Wp P N (.cond c x y) Q σ w:=by
 intro f a e d;refine wp_cond_split (t:=b) (by rw[Ch,d];exact j) (λh=>i h f a e d) (λh=>g h f a e d)
theorem A7 {c:Operand} {x y:Code} (a:ev σ c=.bool true) (h:Wp P N x Q σ w):Wp P N (.cond c x y) Q σ w:=
 As a (λ_=>h) (λh=>by cases h)
theorem AW {c:Operand} {x y:Code} (a:ev σ c=.bool false) (h:Wp P N y Q σ w):Wp P N (.cond c x y) Q σ w:=
 As a (λh=>by cases h) (λ_=>h)
theorem Ap {c:Code} (I:Nat->B0->World->Prop) {n:Nat} (u:I n σ w)
 (g:∀n σ w,I n σ w->Wp P N c (J1 (λσ' w'=>∃m,m<n∧I m σ' w') Q) σ w):Wp P N (.loop c) Q σ w:=by
 intro s a q y b k cs;have p:∀n a w,Ok s N a->I n (C1 a) w->
  ∃e a' w',Dw s N Q e a' w'∧Arrives P (lone (b.at a (.code c::.inLoop c::k)) cs w) b k cs e a' w':=by
  intro n
  induction n using Nat.strongRecOn with
  | _ n ih=>
   intro a w q v;obtain ⟨e,i,w1,⟨j,f⟩,d⟩:=g n _ w v s a q O b (.inLoop c::k) cs;cases e with
   | normal=>
    obtain ⟨m,o,t⟩:=f;obtain ⟨z,A,B,r,h⟩:=ih m o i w1 j t;exact ⟨z,A,B,r,.of_steps (Steps.trans d (.one step_inLoop)) h⟩
   | exit id=>exact ⟨_,i,w1,⟨j,f⟩,.pass (x:=.inLoop c) O (λ_ _=>.inl qP) d⟩
   | goto l=>exact ⟨_,i,w1,⟨j,f⟩,.pass (x:=.inLoop c) O (λ_ _=>.inl qP) d⟩
   | ret=>exact ⟨_,i,w1,⟨j,f⟩,.pass (x:=.inLoop c) O (λ_ _=>.inl qP) d⟩
   | panic ch=>exact ⟨_,i,w1,⟨j,f⟩,.pass (x:=.inLoop c) O (λ_ _=>.inl qP) d⟩
   | outgrown=>exact ⟨_,i,w1,⟨j,f⟩,.pass (x:=.inLoop c) O (λ_ _=>.inl qP) d⟩
 obtain ⟨e,a',w',f,d⟩:=p n a w q (y▸u);exact ⟨e,a',w',f,.of_steps (.one step_loop) d⟩
end
def DL (P:Program) (N:Nat) (ops:Array Oper) (K:B0->World->Prop) (Q:DN) (l:List Oper) (σ:B0) (w:World):Prop:=
  ∀dz a,Ok dz N a->C1 a=σ->wpList P ops (Dw dz N (J1 K Q)) l a w
section
variable {P : Program} {N : Nat} {Q : DN} {σ : B0} {w : World} {K : B0 → World → Prop} {ops : Array Oper} {rest : List Oper}
theorem AJ {f:Nat} {l:List Oper} (h:DL P N l.toArray (Q .normal) Q l σ w):Wp P N (.region f l.toArray false) Q σ w:=by
 intro b a d c;refine wp_region_lit ?_;have:=h b a d c;have e:Dw b N (J1 (Q .normal) Q)=Dw b N Q:=by funext e a w;cases e<;>rfl
 rwa [e] at this
theorem Y {e:Nat} {l:List Oper} {y:Code} (h:DL P N l.toArray (Wp P N y Q) Q l σ w):Wp P N (.seq (.region e l.toArray false) y) Q σ w:=by
 refine AI ?_;intro c a b d;exact wp_region_lit (h c a b d)
theorem AA (h:K σ w):DL P N ops K Q [] σ w:=λdz a c b=>⟨c,by subst b;exact h⟩
theorem BV {o:Oper} (g:o.guard=none) {d:Nat} (hd:o.dst=some d) (e:d<N) {v:Value} {w':World}
 (f:(execOp (ev σ) o).run P w=.ok (.value v) w') (k:DL P N ops K Q rest (Ef σ d v) w'):DL P N ops K Q (o::rest) σ w:=by
 intro h a b c;refine wpList_plain g λK' i=>?_;unfold Oper.wp;rw[Ch,c,f];simp only[Oper.upon,hd];exact i _ _ (k h _ (b.put _ _) (by rw[DT b e,c]))
theorem Gd {o:Oper} (e:o.guard=none) (hd:o.dst=none) {w':World}
 (d:(execOp (ev σ) o).run P w=.ok .skip w') (k:DL P N ops K Q rest σ w'):DL P N ops K Q (o::rest) σ w:=by
 intro f a c b;refine wpList_plain e λK' g=>?_;unfold Oper.wp;rw[Ch,b,d];simp only[Oper.upon,hd];exact g _ _ (k f a c b)
def CB (P:Program) (f:FuncId) (args:Array Value) (w:World) (R:Value->World->Prop):Prop:=
  Calls P f args w λe w'=>∃v,e=.returned v∧R v w'
theorem CB.mono {f:FuncId} {args:Array Value} {R R':Value->World->Prop} (h:CB P f args w R) (a:∀v w',R v w'->R' v w'):CB P f args w R':=
 Calls.mono h λ_ _ ⟨v,e,r⟩=>⟨v,e,a _ _ r⟩
theorem Bj {o:Oper} (l:o.guard=none) {d:Nat} (hd:o.dst=some d) (g:d<N) {f:FuncId} {args:Array Value} {R:Value->World->Prop}
 (h:(execOp (ev σ) o).run P w=.ok (.enter f args) w) (j:CB P f args w R) (k:∀v w',R v w'->DL P N ops K Q rest (Ef σ d v) w'):DL P N ops K Q (o::rest) σ w:=by
 intro m a b c;refine wpList_plain l λK' i=>?_;unfold Oper.wp;rw[Ch,c,h];simp only[Oper.upon,hd];refine Calls.mono j ?_;rintro e w' ⟨v,rfl,r⟩;exact i _ _ (k v w' r m _ (b.put _ _) (by rw[DT b g,c]))
def Mr (P:Program) (ch:List PanicEntry) (f:FuncId) (args:Array Value) (w:World) (R:Value->World->Prop) (X:World->Prop):Prop:=
  Calls P f args w λe w'=>(∃v,e=.returned v∧R v w')∨(e=.panicked ch∧X w')
theorem Mr.mono {ch:List PanicEntry} {f:FuncId} {args:Array Value} {R R':Value->World->Prop} {X a:World->Prop} (h:Mr P ch f args w R X) (b:∀v w',R v w'->R' v w') (c:∀w',X w'->a w'):Mr P ch f args w R' a:=
 Calls.mono h λ_ _ h=>h.imp (λ⟨v,e,r⟩=>⟨v,e,b _ _ r⟩) λ⟨e,x⟩=>⟨e,c _ x⟩
theorem Ey {o:Oper} (m:o.guard=none) {d:Nat} (hd:o.dst=some d) (g:d<N) {ch:List PanicEntry} {f:FuncId} {args:Array Value} {R:Value->World->Prop} {X:World->Prop}
 (h:(execOp (ev σ) o).run P w=.ok (.enter f args) w) (j:Mr P ch f args w R X) (l:∀w',X w'->Q (.panic ch) σ w') (k:∀v w',R v w'->DL P N ops K Q rest (Ef σ d v) w'):DL P N ops K Q (o::rest) σ w:=by
 intro n a b c;refine wpList_plain m λK' i=>?_;unfold Oper.wp;rw[Ch,c,h];simp only[Oper.upon,hd];refine Calls.mono j ?_;rintro e w' (⟨v,rfl,r⟩|⟨rfl,x⟩)
 .exact i _ _ (k v w' r n _ (b.put _ _) (by rw[DT b g,c]))
 .exact ⟨b,by rw[c];exact l _ x⟩
theorem AD {dst:Option Tmp} {op:Op} {ty:TypeId} {pos:String} {af:Array Edge} {j:Nat} {b:Bool} {oj:Oper} {c:Nat}
 (p:ops[j]?=some oj) (e:oj.dst=some c) (l:c<N) (n:σ c=.bool b)
 (k:DL P N ops K Q (⟨dst,op,ty,pos,af,none⟩::rest) σ w):DL P N ops K Q (⟨dst,op,ty,pos,af,some (j,b)⟩::rest) σ w:=by
 intro o a g h;have f:=k o a g h;have i:Region.wanted ⟨dst,op,ty,pos,af,some (j,b)⟩ (yielded ops a.tmps)=true:=by
  simp only[Region.wanted,yielded,p,e,Option.bind_some];have:a.tmps[c]?=some (Value.bool b):=by
   have m:a.tmps.getD c undef=.bool b:=by rw[<-n,<-h];rfl
   have d:c<a.tmps.size:=by rw[g.size];exact l
   rw[Array.getElem?_eq_getElem d];simpa[d] using m
  simp[this]
 unfold wpList at f⊢;rw[if_pos i];rw[if_pos (by rfl)] at f;exact f
theorem AF {d:Nat} {op:Op} {ty:TypeId} {pos:String} {af:Array Edge} {j:Nat} {b:Bool} {oj:Oper} {c:Nat} {v:Value}
 (o:ops[j]?=some oj) (e:oj.dst=some c) (hd:d<N) (m:σ c=v) (i:v=.bool (!b)∨v=undef)
 (k:DL P N ops K Q rest (Ef σ d undef) w):DL P N ops K Q (⟨some d,op,ty,pos,af,some (j,b)⟩::rest) σ w:=by
 intro n a f g;have h:Region.wanted ⟨some d,op,ty,pos,af,some (j,b)⟩ (yielded ops a.tmps)=false:=by
  simp only[Region.wanted,yielded,o,e,Option.bind_some];have l:a.tmps.getD c undef=v:=by rw[<-m,<-g];rfl
  cases hx:a.tmps[c]? with
  | none=>simp
  | some u=>
   have:u=v:=by simpa[hx] using l
   subst this;rcases i with rfl|rfl
   .cases b<;>simp
   .simp[undef]
 unfold wpList;rw[h,if_neg qP];exact k n _ (f.put _ _) (by rw[DT f hd,g])
theorem J9 {d:Nat} {op:Op} {ty:TypeId} {pos:String} {af:Array Edge} {j:Nat} {b:Bool} {oj:Oper} {c:Nat} {gv u:Value}
 (g:ops[j]?=some oj) (a:oj.dst=some c) (i:c<N) (hd:d<N) (f:σ c=gv)
 (h:(gv=.bool b∧(execOp (ev σ) ⟨some d,op,ty,pos,af,none⟩).run P w=.ok (.value u) w)∨((gv=.bool (!b)∨gv=undef)∧u=undef))
 (k:DL P N ops K Q rest (Ef σ d u) w):DL P N ops K Q (⟨some d,op,ty,pos,af,some (j,b)⟩::rest) σ w:=by
 rcases h with ⟨e,l⟩|⟨e,rfl⟩
 .exact AD g a i (f.trans e) (BV O O hd l k)
 .exact AF g a hd f e k
end
def fin (P:Program) (fn:Func) (R:Value->World->Prop):DN
  | .normal,σ,w | .ret,σ,w=>∃v,(∀a:Act,C1 a=σ->(results fn a.tmps).run P w=.ok v w)∧R v w
  | _,_,_=>False
theorem C7 {P:Program} {f:FuncId} {b:Func} {c:Code} {N:Nat} {args:Array Value} {w:World} {R:Value->World->Prop}
 (j:P.funcs[f]?=some b) (g:b.body=some c) (i:b.ntmps=N) (hsz:args.size<=N)
 (h:Wp P N c (fin P b R) (λt=>args.getD t undef) w):CB P f args w R:=by
 refine calls_of_wp j g (Code.wp_mono ?_ (h [] _ ⟨?_,O⟩ ?_))
 .rintro e a w ⟨o,q⟩;cases e<;>simp only[fin] at q
  .obtain ⟨v,d,r⟩:=q;exact ⟨o.defers,v,d a O,v,O,r⟩
  .obtain ⟨v,d,r⟩:=q;exact ⟨o.defers,v,d a O,v,O,r⟩
 .simp[i];omega
 .funext t;simp only[C1,Array.getD_eq_getD_getElem?,Array.getElem?_append];split
  .rfl
  .rename_i hlt
   rw[Array.getElem?_replicate,Array.getElem?_eq_none (xs:=args) qO];split<;>rfl
def UX (P:Program) (ch:List PanicEntry) (fn:Func) (R:Value->World->Prop) (X:World->Prop):DN
  | .panic c,_,w=>c=ch∧X w
  | e,σ,w=>fin P fn R e σ w
theorem Hj {P:Program} {ch:List PanicEntry} {f:FuncId} {fn:Func} {c:Code} {N:Nat} {args:Array Value} {w:World} {R:Value->World->Prop} {X:World->Prop}
    (hf:P.funcs[f]?=some fn) (hb:fn.body=some c) (hn:fn.ntmps=N) (hsz:args.size<=N)
    (h:Wp P N c (UX P ch fn R X) (λt=>args.getD t undef) w):Mr P ch f args w R X:=by
  refine calls_of_wp hf hb (Code.wp_mono ?_ (h [] _ ⟨?_,O⟩ ?_))
  · rintro e a w ⟨o,q⟩;cases e<;>simp only[UX,fin] at q
    · obtain ⟨v,hv,r⟩:=q;exact ⟨o.defers,v,hv a O,.inl ⟨v,O,r⟩⟩
    · obtain ⟨v,hv,r⟩:=q;exact ⟨o.defers,v,hv a O,.inl ⟨v,O,r⟩⟩
    · obtain ⟨rfl,x⟩:=q;exact ⟨o.defers,.inr ⟨O,x⟩⟩
  · simp[hn];omega
  · funext t;simp only[C1,Array.getD_eq_getD_getElem?,Array.getElem?_append];split
    · rfl
    · rename_i hlt
      rw[Array.getElem?_replicate,Array.getElem?_eq_none (xs:=args) qO];split<;>rfl
theorem AY {P:Program} {b:Func} {R:Value->World->Prop} {t:Nat} (e:b.results=#[.tmp t]) {σ:B0} {w:World} {v:Value} (d:σ t=v) (h:R v w):fin P b R .ret σ w:=
 ⟨v,λa c=>by rw[results_tmp e];subst c;rw[<-d];rfl,h⟩
theorem B_ {P:Program} {c:Func} {R:Value->World->Prop} {t u:Nat} (f:c.results=#[.tmp t,.tmp u]) {σ:B0} {w:World} {v v':Value} (e:σ t=v) (b:σ u=v') (h:R (.tuple #[v,v']) w):fin P c R .ret σ w:=
 ⟨.tuple #[v,v'],λa d=>by rw[results_tmp2 f];subst d;rw[<-e,<-b];rfl,h⟩
theorem EQ {P:Program} {b:Func} {R:Value->World->Prop} (c:b.results=#[]) {σ:B0} {w:World} (h:R (.tuple #[]) w):fin P b R .normal σ w:=
 ⟨.tuple #[],λa ha=>by rw[results_none c],h⟩
theorem Po {P:Program} {b:Func} {R:Value->World->Prop} (c:b.results=#[]) {σ:B0} {w:World} (h:R (.tuple #[]) w):fin P b R .ret σ w:=
 ⟨.tuple #[],λa ha=>by rw[results_none c],h⟩
end Go.Eng
namespace Go.Eng
open Go
structure Chg (M:Nat->Prop) (w w':World):Prop where
  os:w'.os=w.os
  tape:w'.tape=w.tape
  output:w'.output=w.output
  drw:w.drawn<=w'.drawn
  size:w.heap.size<=w'.heap.size
  blk:∀b,b<w.heap.size->¬M b->w'.heap[b]?=w.heap[b]?
def Ab:Nat->Prop:=λ_=>False
def Al (w w':World):Prop:=Chg Ab w w'
def Az (w:World) (b:Nat) (c:Array Value) (t:TypeId):Prop:=w.heap[b]?=some (.cells c t (0,0))
theorem Chg.refl (M:Nat->Prop) (w:World):Chg M w w:=⟨O,O,O,Nat.le_refl _,Nat.le_refl _,λ_ _ _=>rfl⟩
theorem Al.refl (w:World):Al w w:=Chg.refl _ w
theorem Chg.step {M M':Nat->Prop} {a b c:World} (h:Chg M a b) (k:Chg M' b c) (g:∀x,x<a.heap.size->M' x->M x):Chg M a c:=
 ⟨k.os.trans h.os,k.tape.trans h.tape,k.output.trans h.output,Nat.le_trans h.drw k.drw,Nat.le_trans h.size k.size,
  λx d f=>(k.blk x (Nat.lt_of_lt_of_le d h.size) (λe=>f (g x d e))).trans (h.blk x d f)⟩
theorem Chg.trans {M:Nat->Prop} {a b c:World} (h:Chg M a b) (k:Chg M b c):Chg M a c:=h.step k λ_ _ x=>x
theorem Chg.ext {M:Nat->Prop} {a b c:World} (h:Chg M a b) (k:Al b c):Chg M a c:=h.step k λ_ _ x=>x.elim
theorem Al.trans {a b c:World} (h:Al a b) (k:Al b c):Al a c:=Chg.trans h k
theorem Al.chg {M:Nat->Prop} {a b:World} (h:Al a b):Chg M a b:=⟨h.os,h.tape,h.output,h.drw,h.size,λx c _=>h.blk x c (λf=>f)⟩
theorem Chg.mono {M M':Nat->Prop} {a b:World} (h:Chg M a b) (d:∀x,x<a.heap.size->M x->M' x):Chg M' a b:=
 ⟨h.os,h.tape,h.output,h.drw,h.size,λx c e=>h.blk x c λm=>e (d x c m)⟩
theorem Az.lt {w:World} {b:Nat} {c:Array Value} {t:TypeId} (h:Az w b c t):b<w.heap.size:=(Array.getElem?_eq_some_iff.1 h).1
theorem Chg.keep {M:Nat->Prop} {w w':World} (h:Chg M w w') {b:Nat} {c:Array Value} {t:TypeId} (d:¬M b) (a:Az w b c t):Az w' b c t:=
 (h.blk b a.lt d).trans a
theorem Al.keep {w w':World} (h:Al w w') {b:Nat} {c:Array Value} {t:TypeId} (a:Az w b c t):Az w' b c t:=Chg.keep h (λf=>f) a
theorem Chg.cell {M:Nat->Prop} {w w':World} (h:Chg M w w') {a:Addr} {v:Value} (c:¬M a.block) (b:w.cell? a=some v):w'.cell? a=some v:=
 (World.cell?_of_block (w:=w) (h.blk a.block (World.block_lt_of_cell? w a b) c)).trans b
theorem Al.cell {w w':World} (h:Al w w') {a:Addr} {v:Value} (b:w.cell? a=some v):w'.cell? a=some v:=Chg.cell h (λf=>f) b
theorem Az.cell {w:World} {b:Nat} {c:Array Value} {t:TypeId} (h:Az w b c t) {o:Nat} {v:Value} (a:c[o]?=some v):w.cell? ⟨b,o,none⟩=some v:=by
 unfold Az at h;simp[World.cell?,h,a]
theorem Al.below {w w':World} (h:Al w w'):RowKit.Below w.heap.size w w':=⟨h.os,h.tape,h.output,h.size,λk a=>h.blk k a λf=>f⟩
theorem Al.grown {w w':World} (h:Al w w'):∃q l,w'=Sort.grow (w.drewN q) l:=by
 refine ⟨w'.drawn - w.drawn,w'.heap.extract w.heap.size w'.heap.size,?_⟩;have e:=h.os;have d:=h.tape;have c:=h.output;have g:=h.drw;have j:=h.size;have b:=h.blk;obtain ⟨k,tp,dr,o,ou⟩:=w';obtain ⟨a,tp',dr',o',ou'⟩:=w;simp only at e d c g j b;subst e;subst d;subst c;simp only[Sort.grow,World.drewN,World.mk.injEq,and_true,true_and];refine ⟨?_,qO⟩;apply Array.ext_getElem?;intro i;rw[Array.getElem?_append];by_cases hi:i<a.size
 .rw[if_pos hi];exact b i hi λf=>f
 .rw[if_neg hi,Array.getElem?_extract];by_cases h7:i<k.size
  .rw[if_pos qO];congr 1;omega
  .rw[if_neg qO,Array.getElem?_eq_none qO]
structure New (w w':World) (b:Nat) (c:Array Value) (t:TypeId):Prop where
  blk:Az w' b c t
  ext:Al w w'
  eq:b=w.heap.size
  size:w'.heap.size=w.heap.size+1
theorem New.mk' (w:World) (c:Array Value) (t:TypeId):New w {w with heap:=w.heap.push (.cells c t (0,0))} w.heap.size c t:=
 ⟨by unfold Az;simp,⟨O,O,O,Nat.le_refl _,qP,λx a _=>by simp[Array.getElem?_push,Nat.ne_of_lt a]⟩,O,qP⟩
theorem New.keep {w w':World} {b:Nat} {c:Array Value} {t:TypeId} (h:New w w' b c t) {b':Nat} {c':Array Value} {t':TypeId} (a:Az w b' c' t'):Az w' b' c' t':=h.ext.keep a
theorem New.lt {w w':World} {b:Nat} {c:Array Value} {t:TypeId} (h:New w w' b c t) {b':Nat} {c':Array Value} {t':TypeId} (a:Az w b' c' t'):b'<b:=by rw[h.eq];exact a.lt
theorem New.ge {a w w':World} {b:Nat} {c:Array Value} {t:TypeId} (h:New w w' b c t) {M:Nat->Prop} (e:Chg M a w):a.heap.size<=b:=by rw[h.eq];exact e.size
structure Put (w w':World) (b:Nat) (c:Array Value) (t:TypeId):Prop where
  blk:Az w' b c t
  chg:Chg (λx=>x=b) w w'
  size:w'.heap.size=w.heap.size
theorem Put.of_setRow {w:World} {b:Nat} {c:Array Value} {t:TypeId} (h:Az w b c t) (c':Array Value):Put w (w.setRow b c') b c' t:=
 ⟨setRow_heap w b c c' t _ h,⟨O,O,O,Nat.le_refl _,by simp[World.setRow],λx _ a=>setRow_other w b x c' a⟩,by simp[World.setRow]⟩
theorem Put.keep {w w':World} {b:Nat} {c:Array Value} {t:TypeId} (h:Put w w' b c t) {b':Nat} {c':Array Value} {t':TypeId} (a:b'≠b) (d:Az w b' c' t'):Az w' b' c' t':=h.chg.keep a d
theorem Put.ext {a w w':World} {b:Nat} {c:Array Value} {t:TypeId} (h:Put w w' b c t) {M:Nat->Prop} (e:Chg M a w) (hb:a.heap.size<=b):Chg M a w':=
 e.step h.chg λx hx d=>by subst d;omega
theorem Put.step {d w w':World} {b:Nat} {c:Array Value} {t:TypeId} (h:Put w w' b c t) {M:Nat->Prop} (e:Chg M d w) (a:d.heap.size<=b∨M b):Chg M d w':=
 e.step h.chg λx hx f=>by subst f;rcases a with a|a;omega;exact a
def BA (w:World) (b o:Nat) (vs:List Value):Prop:=∀i v,vs[i]?=some v->w.cell? ⟨b,o+i,none⟩=some v
theorem BA.chg {M:Nat->Prop} {w w':World} {b o:Nat} {vs:List Value} (h:BA w b o vs) (e:Chg M w w') (c:¬M b):BA w' b o vs:=
 λi v a=>e.cell c (h i v a)
theorem BA.ext {w w':World} {b o:Nat} {vs:List Value} (h:BA w b o vs) (e:Al w w'):BA w' b o vs:=h.chg e λf=>f
theorem Az.cells {w:World} {b:Nat} {c:Array Value} {t:TypeId} (h:Az w b c t) {o:Nat} {vs:List Value} (d:(c.toList.drop o).take vs.length=vs):BA w b o vs:=by
 intro i v hi;refine h.cell ?_;have a:i<vs.length:=by
  rcases Nat.lt_or_ge i vs.length with h|h
  .exact h
  .simp[List.getElem?_eq_none h] at hi
 rw[<-d,List.getElem?_take_of_lt a,List.getElem?_drop] at hi;simpa using hi
def DD (P:Program) (t:TypeId) (n:Nat):Prop:=(P.info? t).map (λi=>i.size)=some n
def IU (P:Program) (t:TypeId) (n:Nat):Prop:=(P.info? t).map (λi=>i.bytes)=some n
def D_ (P:Program) (t:TypeId) (z:Value):Prop:=(P.info? t).bind (λi=>i.zero)=some z
def C_ (P:Program) (t:TypeId):Bool:=match P.underlying t with
  | some (.struct _)|some (.array _ _)|none=>false
  | some _=>true
def Gw (P:Program) (t:TypeId):Bool:=match P.underlying t with
  | some (.struct _)|some (.array _ _)=>true
  | _=>false
theorem DD.run {P:Program} {t:TypeId} {n:Nat} (h:DD P t n) (w:World):(sizeOf t).run P w=.ok n w:=by
 unfold DD at h;cases hi:P.info? t with
 | none=>simp[hi] at h
 | some i=>simp[hi] at h;simp[sizeOf,typeInfo,hi,h]
theorem D_.run {P:Program} {t:TypeId} {z:Value} (h:D_ P t z) (w:World):(zeroValue t).run P w=.ok z w:=by
 unfold D_ at h;cases hi:P.info? t with
 | none=>simp[hi] at h
 | some i=>simp[hi] at h;simp[zeroValue,typeInfo,hi,h]
theorem C_.run {P:Program} {t:TypeId} (h:C_ P t=true) (w:World):(isAgg t).run P w=.ok false w:=by
 unfold C_ at h;cases hi:P.underlying t with
 | none=>simp[hi] at h
 | some d=>cases d<;>simp[hi] at h<;>simp[isAgg,run_underlying hi]
theorem Gw.run {P:Program} {t:TypeId} (h:Gw P t=true) (w:World):(isAgg t).run P w=.ok true w:=by
 unfold Gw at h;cases hi:P.underlying t with
 | none=>simp[hi] at h
 | some d=>cases d<;>simp[hi] at h<;>simp[isAgg,run_underlying hi]
section
variable {P : Program} {σ : B0} {w : World} {dst : Option Tmp} {ty : TypeId} {pos : String} {af : Array Edge} {g : Option (Nat × Bool)}
theorem AZ {x:Operand} {v:Value} (a:ev σ x=v):(execOp (ev σ) ⟨dst,.move x,ty,pos,af,g⟩).run P w=.ok (.value v) w:=by subst a;rfl
theorem El {x:Operand} {v:Value} (a:ev σ x=v):(execOp (ev σ) ⟨dst,.assign x,ty,pos,af,g⟩).run P w=.ok (.value v) w:=by subst a;rfl
theorem Ag {c x y:Operand} {b:Bool} {v:Value} (a:ev σ c=.bool b) (d:(if b then ev σ x else ev σ y)=v):(execOp (ev σ) ⟨dst,.pick c x y,ty,pos,af,g⟩).run P w=.ok (.value v) w:=by
 subst d;simp only[execOp,a,asBool];cases b<;>rfl
theorem FX {x:Operand} {a:Addr} (b:ev σ x=.pointer (some a)):(execOp (ev σ) ⟨dst,.nilCheck x,ty,pos,af,g⟩).run P w=.ok (.value (.pointer (some a))) w:=by
 simp only[execOp,b];rfl
theorem CM {t:TypeId} {x:Operand} {b:Bool} (a:ev σ x=.bool b):(execOp (ev σ) ⟨dst,.unOp .not t x,ty,pos,af,g⟩).run P w=.ok (.value (.bool (!b))) w:=by
 simp only[execOp,a];rfl
theorem Dl {s t:TypeId} {x:Operand} {k k':IntKind} {n c:Int} (hs:∃d,P.underlying s=some d) (b:P.underlying t=some (.int k')) (e:ev σ x=.int k n) (a:k'.wrap n=c) :
 (execOp (ev σ) ⟨dst,.convert s t x,ty,pos,af,g⟩).run P w=.ok (.value (.int k' c)) w:=by
 obtain ⟨d,hd⟩:=hs;subst a;simp only[execOp,e,convert,Sem.run_bind,run_underlying hd,run_underlying b,Result.andThen_ok];rfl
variable {t t' : TypeId} {x y : Operand} {k : IntKind} {a b c : Int}
theorem Ar (f:ev σ x=.int k a) (e:ev σ y=.int k b) (d:k.wrap (a+b)=c):(execOp (ev σ) ⟨dst,.binOp .add t x y t',ty,pos,af,g⟩).run P w=.ok (.value (.int k c)) w:=by
 subst d;simp only[execOp,f,e,eqGuard,binOp];simp[Op.intArith]
theorem GO (f:ev σ x=.int k a) (e:ev σ y=.int k b) (d:k.wrap (a - b)=c):(execOp (ev σ) ⟨dst,.binOp .sub t x y t',ty,pos,af,g⟩).run P w=.ok (.value (.int k c)) w:=by
 subst d;simp only[execOp,f,e,eqGuard,binOp];simp[Op.intArith]
theorem L2 (f:ev σ x=.int k a) (e:ev σ y=.int k b) (d:k.wrap (a*b)=c):(execOp (ev σ) ⟨dst,.binOp .mul t x y t',ty,pos,af,g⟩).run P w=.ok (.value (.int k c)) w:=by
 subst d;simp only[execOp,f,e,eqGuard,binOp];simp[Op.intArith]
theorem Tj (h:ev σ x=.int k a) (f:ev σ y=.int k b) (e:b≠0) (d:a.tmod b=c):(execOp (ev σ) ⟨dst,.binOp .rem t x y t',ty,pos,af,g⟩).run P w=.ok (.value (.int k c)) w:=by
 subst d;simp only[execOp,h,f,eqGuard,binOp];simp[Op.intDiv,e]
theorem Qi (h:ev σ x=.int k a) (f:ev σ y=.int k b) (e:b≠0) (d:k.wrap (a.tdiv b)=c):(execOp (ev σ) ⟨dst,.binOp .quo t x y t',ty,pos,af,g⟩).run P w=.ok (.value (.int k c)) w:=by
 subst d;simp only[execOp,h,f,eqGuard,binOp];simp[Op.intDiv,e]
theorem A0 (d:ev σ x=.int k a) (c:ev σ y=.int k b):(execOp (ev σ) ⟨dst,.binOp .lss t x y t',ty,pos,af,g⟩).run P w=.ok (.value (.bool (decide (a<b)))) w:=by
 simp only[execOp,d,c,eqGuard,binOp];simp[Op.intCmp]
theorem G0 (d:ev σ x=.int k a) (c:ev σ y=.int k b):(execOp (ev σ) ⟨dst,.binOp .leq t x y t',ty,pos,af,g⟩).run P w=.ok (.value (.bool (decide (a<=b)))) w:=by
 simp only[execOp,d,c,eqGuard,binOp];simp[Op.intCmp]
theorem CU (d:ev σ x=.int k a) (c:ev σ y=.int k b):(execOp (ev σ) ⟨dst,.binOp .gtr t x y t',ty,pos,af,g⟩).run P w=.ok (.value (.bool (decide (b<a)))) w:=by
 simp only[execOp,d,c,eqGuard,binOp];simp[Op.intCmp]
theorem CT (d:ev σ x=.int k a) (c:ev σ y=.int k b):(execOp (ev σ) ⟨dst,.binOp .geq t x y t',ty,pos,af,g⟩).run P w=.ok (.value (.bool (decide (b<=a)))) w:=by
 simp only[execOp,d,c,eqGuard,binOp];simp[Op.intCmp]
theorem BF (d:ev σ x=.int k a) (c:ev σ y=.int k b):(execOp (ev σ) ⟨dst,.binOp .eql t x y t',ty,pos,af,g⟩).run P w=.ok (.value (.bool (decide (a=b)))) w:=by
 have:(a == b)=decide (a=b):=by rw[Bool.eq_iff_iff];simp
 rw[<-this];simp only[execOp,d,c,eqGuard,binOp];simp[Op.intCmp]
theorem CE (d:ev σ x=.int k a) (c:ev σ y=.int k b):(execOp (ev σ) ⟨dst,.binOp .neq t x y t',ty,pos,af,g⟩).run P w=.ok (.value (.bool (decide (a≠b)))) w:=by
 have:(a != b)=decide (a≠b):=by rw[Bool.eq_iff_iff];simp
 rw[<-this];simp only[execOp,d,c,eqGuard,binOp];simp[Op.intCmp]
theorem LQ {p q:Bool} (d:Nat) (a:P.underlying t=some .bool):(Op.equalIn (d+1) t (.bool p) (.bool q)).run P w=.ok (p == q) w:=by
 simp only[Op.equalIn,Sem.run_bind,run_underlying a,Result.andThen_ok];rfl
theorem UA {p q:Bool} (b:P.underlying t=some .bool) (c:ev σ x=.bool p) (a:ev σ y=.bool q):(execOp (ev σ) ⟨dst,.binOp .neq t x y t',ty,pos,af,g⟩).run P w=.ok (.value (.bool (p != q))) w:=by
 have h:=LQ (P:=P) (w:=w) (p:=p) (q:=q) 9999 b;simp only[execOp,c,a,eqGuard,binOp,Op.equal,Op.maxDepth];simp[h,bne]
theorem I7 {op:BinOp} {v:Value} (f:ev σ x=.int k a) (c:ev σ y=.int k b) (d:op=.and∨op=.or∨op=.xor∨op=.andNot) (e:(Op.intBits op k a b).run P w=.ok v w) :
 (execOp (ev σ) ⟨dst,.binOp op t x y t',ty,pos,af,g⟩).run P w=.ok (.value v) w:=by
 rcases d with rfl|rfl|rfl|rfl<;>(simp only[execOp,f,c,eqGuard,binOp];simp[e])
theorem U6 {k':IntKind} (h:ev σ x=.int k a) (d:ev σ y=.int k' b) (f:0<=b) (e:k.wrap (a*2 ^ (min b.toNat k.bits))=c) :
 (execOp (ev σ) ⟨dst,.binOp .shl t x y t',ty,pos,af,g⟩).run P w=.ok (.value (.int k c)) w:=by
 subst e;simp only[execOp,h,d,eqGuard,binOp];simp[Op.shift,Int.not_lt.2 f]
theorem HL {k':IntKind} (h:ev σ x=.int k a) (d:ev σ y=.int k' b) (f:0<=b) (e:a.fdiv (2 ^ (min b.toNat k.bits))=c) :
 (execOp (ev σ) ⟨dst,.binOp .shr t x y t',ty,pos,af,g⟩).run P w=.ok (.value (.int k c)) w:=by
 subst e;simp only[execOp,h,d,eqGuard,binOp];simp[Op.shift,Int.not_lt.2 f]
theorem AL {e:TypeId} {ad:Option Addr} {n cap:Nat} (b:P.underlying t=some (.slice e)) (a:ev σ x=.slice ad n cap) :
 (execOp (ev σ) ⟨dst,.call ⟨.builtin .len,#[x],#[t]⟩,ty,pos,af,g⟩).run P w=.ok (.value (.int .i64 n)) w:=by
 simp only[execOp,resolve,List.map_toArray,List.map_cons,List.map_nil,a];simp[invoke,builtin,Builtin.len_,run_underlying b,goInt]
theorem AT {fs:Array Field} {f:Field} {i n b o o':Nat} (e:ev σ x=.pointer (some ⟨b,o,none⟩)) (a:P.underlying t=some (.struct fs)) (d:fs[i]?=some f) (hs:DD P f.type (n+1)) (c:o+f.offset=o') :
 (execOp (ev σ) ⟨dst,.fieldAddr t x i,ty,pos,af,g⟩).run P w=.ok (.value (.pointer (some ⟨b,o',none⟩))) w:=by
 subst c;simp[execOp,e,Instr.fieldAt,run_underlying a,d,Instr.sureAddr,fieldPlace,hs.run,Addr.add_lit]
theorem AC {e:TypeId} {n b o o' len cap i:Nat} {k:IntKind} {a:Int} (j:ev σ x=.slice (some ⟨b,o,none⟩) len cap) (c:ev σ y=.int k a) (f:a=(i:Int)) (d:P.underlying t=some (.slice e)) (hs:DD P e n) (hi:i<len) (h:o+i*n=o') :
 (execOp (ev σ) ⟨dst,.indexAddr t x y,ty,pos,af,g⟩).run P w=.ok (.value (.pointer (some ⟨b,o',none⟩))) w:=by
 subst h;subst f;have h1:(0:Int)<=(i:Int)∧(i:Int)<(len:Int):=qO
 simp[execOp,j,c,Instr.indexAt,asIntOf,run_underlying d,hs.run,Addr.add_lit,hi]
theorem PS {e:TypeId} {a a':Option Addr} {n len cap lo b c':Nat} {k:IntKind} {l:Int} (c:P.underlying t=some (.slice e)) (hs:DD P e n) (h:ev σ x=.slice a len cap) (m:ev σ y=.int k l) (f:l=(lo:Int)) (j:lo<=len) (o:(if cap=lo then a else a.map (·.add (lo*n)))=a') (i:len - lo=b) (d:cap - lo=c') :
 (execOp (ev σ) ⟨dst,.slice t x (some y) none none,ty,pos,af,g⟩).run P w=.ok (.value (.slice a' b c')) w:=by
 subst o;subst i;subst d;subst f;have h2:(0:Int)<=(lo:Int)∧(lo:Int)<=(len:Int):=qO
 simp[execOp,h,m,Instr.sliceAt,Instr.slice,run_underlying c,Instr.sliceBounds,Instr.sliceBound,asIntOf,j,hs.run]
theorem KJ {e:TypeId} {a a':Option Addr} {n len cap hi:Nat} {k:IntKind} {l:Int} (d:P.underlying t=some (.slice e)) (hs:DD P e n) (i:ev σ x=.slice a len cap) (c:ev σ y=.int k l) (f:l=(hi:Int)) (b:hi<=cap) (h:(if cap=0 then a else a.map (·.add (0*n)))=a') :
 (execOp (ev σ) ⟨dst,.slice t x none (some y) none,ty,pos,af,g⟩).run P w=.ok (.value (.slice a' hi cap)) w:=by
 subst h;subst f;simp[execOp,i,c,Instr.sliceAt,Instr.slice,run_underlying d,Instr.sliceBounds,Instr.sliceBound,asIntOf,b,hs.run]
theorem AE {ad:Addr} {v:Value} (c:ev σ x=.pointer (some ad)) (b:C_ P t=true) (a:w.cell? ad=some v) :
 (execOp (ev σ) ⟨dst,.load t x,ty,pos,af,g⟩).run P w=.ok (.value v) w:=by
 simp[execOp,c,Instr.loadAt,Instr.sureAddr,loadVar,C_.run b,a]
theorem Aa {b o n:Nat} {vs:List Value} (d:ev σ x=.pointer (some ⟨b,o,none⟩)) (e:Gw P t=true) (hs:DD P t n) (h:vs.length=n) (f:BA w b o vs) :
 (execOp (ev σ) ⟨dst,.load t x,ty,pos,af,g⟩).run P w=.ok (.value (.agg vs.toArray)) w:=by
 subst h;have a:=run_loadCells_list (P:=P) w ⟨b,o,none⟩ vs (λj v c=>by rw[Addr.add_lit];exact f j v c);simp[execOp,d,Instr.loadAt,Instr.sureAddr,loadVar,Gw.run e,hs.run,a]
theorem B7 {b:Fn} {first a:List Operand} {vs us:List Value} (c:first.map (ev σ)=vs) (d:a.map (ev σ)=us) :
 (execOp (ev σ) ⟨dst,.makeFunc b first.toArray a.toArray,ty,pos,af,g⟩).run P w=.ok (.value (.func b vs.toArray us.toArray)) w:=by
 subst c;subst d;simp[execOp,Instr.makeFunc]
theorem Aj {i:Nat} {vs:Array Value} {v:Value} (b:ev σ x=.tuple vs) (a:vs[i]?=some v) :
 (execOp (ev σ) ⟨dst,.extract x i,ty,pos,af,g⟩).run P w=.ok (.value v) w:=by
 simp[execOp,b,Instr.extract,a]
theorem B' {parts:List (Nat×Operand)} {ps:List (Nat×Value)} {v:Value} (b:(parts.map λ(i,x)=>(i,ev σ x))=ps) (a:(Instr.build t ps.toArray).run P w=.ok v w) :
 (execOp (ev σ) ⟨dst,.build t parts.toArray,ty,pos,af,g⟩).run P w=.ok (.value v) w:=by
 subst b;simp[execOp,a]
theorem Gi {f : FuncId} {a : Func} {vs : Array Value} (b : P.funcs[f]? = some a) (d : (a.name == "runtime.NumGoroutine") = false) (c : a.body.isNone = false) :
 (callFunc f vs).run P w=.ok (.enter f vs) w:=by
 simp only[callFunc,Sem.run_bind,run_program,Result.andThen_ok,b,d,c,Bool.false_eq_true,if_false];rfl
theorem AV {f : FuncId} {a : Func} {args : List Operand} {tys : Array TypeId} {vs : List Value} (d : P.funcs[f]? = some a) (e : (a.name == "runtime.NumGoroutine") = false) (c : a.body.isNone = false) (b : args.map (ev σ) = vs) :
 (execOp (ev σ) ⟨dst,.call ⟨.value (.func f),args.toArray,tys⟩,ty,pos,af,g⟩).run P w=.ok (.enter f vs.toArray) w:=by
 subst b;simp[execOp,resolve,ev,Deferred.ofValue,invoke,Gi d e c]
theorem EH {f : FuncId} {a : Func} {z : Operand} {args : List Operand} {tys : Array TypeId} {first cap ws : Array Value} {vs : List Value} (h : ev σ z = .func (.func f) first cap) (e : P.funcs[f]? = some a) (i : (a.name == "runtime.NumGoroutine") = false) (d : a.body.isNone = false) (c : args.map (ev σ) = vs) (b : first ++ vs.toArray ++ cap = ws) :
 (execOp (ev σ) ⟨dst,.call ⟨.value z,args.toArray,tys⟩,ty,pos,af,g⟩).run P w=.ok (.enter f ws) w:=by
 subst c;subst b;simp[execOp,resolve,h,Deferred.ofValue,invoke,Gi e i d]
end
section
variable {P : Program} {N : Nat} {Q : DN} {σ : B0} {w : World} {K : B0 → World → Prop} {ops : Array Oper} {rest : List Oper} {d : Nat} {ty : TypeId} {pos : String} {af : Array Edge} {t : TypeId} {x y : Operand}
theorem BP {v:Value} {c:Array Value} (e:d<N) (f:ev σ x=v) (a:v.cells=c) (k:∀b w',New w w' b c t->DL P N ops K Q rest (Ef σ d (.pointer (some ⟨b,0,none⟩))) w') :
 DL P N ops K Q (⟨some d,.box t x,ty,pos,af,none⟩::rest) σ w:=by
 subst a;refine BV (v:=.pointer (some ⟨w.heap.size,0,none⟩)) (w':={w with heap:=w.heap.push (.cells v.cells t (0,0))}) O O e ?_ (k _ _ (New.mk' w v.cells t));simp[execOp,f,Instr.box,newVar,newRow]
theorem By {z:Value} {c:Array Value} (f:d<N) (a:D_ P t z) (e:z.cells=c) (k:∀b w',New w w' b c t->DL P N ops K Q rest (Ef σ d (.pointer (some ⟨b,0,none⟩))) w') :
 DL P N ops K Q (⟨some d,.alloc t,ty,pos,af,none⟩::rest) σ w:=by
 subst e;refine BV (v:=.pointer (some ⟨w.heap.size,0,none⟩)) (w':={w with heap:=w.heap.push (.cells z.cells t (0,0))}) O O f ?_ (k _ _ (New.mk' w z.cells t));simp[execOp,Instr.alloc,a.run,newVar,newRow]
theorem A9 {b o:Nat} {v:Value} {c c':Array Value} {e:TypeId} (m:ev σ x=.pointer (some ⟨b,o,none⟩)) (h:ev σ y=v) (f:v.oneCell'=true) (hs:DD P t 1) (g:Az w b c e) (i:o<c.size) (l:c.setIfInBounds o v=c')
 (k:∀w',Put w w' b c' e->DL P N ops K Q rest σ w'):DL P N ops K Q (⟨none,.store t x y,ty,pos,af,none⟩::rest) σ w:=by
 subst l;refine Gd (w':=w.setRow b (c.setIfInBounds o v)) O O ?_ (k _ (Put.of_setRow g _));have d:v.cells=#[v]:=by cases v<;>first|rfl|(simp[Value.oneCell'] at f;done)
 have a:=run_storeCells_at P b o e [v] 0 c w g (by simp;omega) (by simpa using f);have j:(c.toList.take (o+0)++[v]++c.toList.drop (o+0+[v].length)).toArray=c.setIfInBounds o v:=by
  apply Array.ext';simp only[Nat.add_zero,List.length_singleton,Array.toList_setIfInBounds];rw[List.set_eq_take_append_cons_drop,if_pos (by simpa using i)];simp
 rw[j] at a;simp[execOp,m,h,Instr.storeAt,Instr.sureAddr,storeVar,hs.run,d,a]
theorem A8 {b o n:Nat} {vs c c':Array Value} {e:TypeId} (f:ev σ x=.pointer (some ⟨b,o,none⟩)) (j:ev σ y=.agg vs) (i:∀v∈vs.toList,v.oneCell'=true) (hs:DD P t n) (h:vs.size=n) (d:Az w b c e) (l:o+n<=c.size) (g:(c.toList.take o++vs.toList++c.toList.drop (o+n)).toArray=c')
 (k:∀w',Put w w' b c' e->DL P N ops K Q rest σ w'):DL P N ops K Q (⟨none,.store t x y,ty,pos,af,none⟩::rest) σ w:=by
 subst g;subst h;refine Gd (w':=w.setRow b _) O O ?_ (k _ (Put.of_setRow d _));have a:=run_storeCells_at P b o e vs.toList 0 c w d (by simpa using l) i;simp only[Nat.add_zero,Array.length_toList] at a;simp[execOp,f,j,Instr.storeAt,Instr.sureAddr,storeVar,hs.run,Value.cells,a]
theorem A6 {z v:Value} {n:Nat} {c:Array Value} {j:TypeId} {f:String} {l:Array Edge} (q:d<N) (B:D_ P t z) (h:z.cells.size=n) (hs:DD P t n) (x:ev (Ef σ d (.pointer (some ⟨w.heap.size,0,none⟩))) y=v) (s:v.cells=c) (m:c.size=n) (o:∀u∈c.toList,u.oneCell'=true)
 (k:∀b w',New w w' b c t->DL P N ops K Q rest (Ef σ d (.pointer (some ⟨b,0,none⟩))) w') :
 DL P N ops K Q (⟨some d,.alloc t,ty,pos,af,none⟩::⟨none,.store t (.tmp d) y,j,f,l,none⟩::rest) σ w:=by
 subst s;refine BV (v:=.pointer (some ⟨w.heap.size,0,none⟩)) (w':={w with heap:=w.heap.push (.cells z.cells t (0,0))}) O O q ?_ ?_
 .simp[execOp,Instr.alloc,B.run,newVar,newRow]
 .refine Gd (w':={w with heap:=w.heap.push (.cells v.cells t (0,0))}) O O ?_ (k _ _ (New.mk' w v.cells t));have A:Az {w with heap:=w.heap.push (.cells z.cells t (0,0))} w.heap.size z.cells t:=(New.mk' w z.cells t).blk;have a:=run_storeCells_at P w.heap.size 0 t v.cells.toList 0 z.cells _ A (by simp[m,h]) o;have hd:ev (Ef σ d (.pointer (some ⟨w.heap.size,0,none⟩))) (.tmp d)=.pointer (some ⟨w.heap.size,0,none⟩):=by simp[ev,Ef]
  have p:World.setRow {w with heap:=w.heap.push (.cells z.cells t (0,0))} w.heap.size (z.cells.toList.take (0+0)++v.cells.toList++z.cells.toList.drop (0+0+v.cells.toList.length)).toArray={w with heap:=w.heap.push (.cells v.cells t (0,0))}:=by
   have e:(z.cells.toList.take (0+0)++v.cells.toList++z.cells.toList.drop (0+0+v.cells.toList.length)).toArray=v.cells:=by
    apply Array.ext';simp[m,<-h]
   rw[e];simp only[World.setRow];congr 1;apply Array.ext
   .simp
   .intro i o r;simp only[Array.getElem_modify,Array.getElem_push];by_cases hi:i<w.heap.size
    .simp[hi,Nat.ne_of_gt hi]
    .have:i=w.heap.size:=by simp at r;omega
     simp[this]
  rw[p] at a;have g:(storeCells ⟨w.heap.size,0,none⟩ v.cells.toList).run P (w.alloc (.cells z.cells t))=.ok () (w.alloc (.cells v.cells t)):=a;simp[execOp,hd,x,Instr.storeAt,Instr.sureAddr,storeVar,hs.run,m,g]
theorem Ah {e:TypeId} {len n:Nat} {z:Value} {parts:List (Nat×Operand)} {ps:List (Nat×Value)} {c:Array Value} (f:d<N) (g:(parts.map λ(i,x)=>(i,ev σ x))=ps) (a:P.underlying t=some (.slice e)) (hs:DD P e n) (m:D_ P e z) (j:¬(len*n > 2 ^ 24)) (l:len*n≠0)
 (h:Instr.fill (λi=>some (i*n,n)) ((Array.range (len*n)).map (z.cells[· % z.cells.size]!)) ps=some c)
 (k:∀b w',New w w' b c e->DL P N ops K Q rest (Ef σ d (.slice (some ⟨b,0,none⟩) len len)) w'):DL P N ops K Q (⟨some d,.buildSlice t len parts.toArray,ty,pos,af,none⟩::rest) σ w:=by
 subst g;refine BV (v:=.slice (some ⟨w.heap.size,0,none⟩) len len) (w':={w with heap:=w.heap.push (.cells c e (0,0))}) O O f ?_ (k _ _ (New.mk' w c e));simp only[execOp,Instr.buildSlice,List.map_toArray,Sem.run_bind,run_underlying a,Result.andThen_ok,hs.run,j,l,if_false,Sem.run_pure,m.run,h];simp[newRow]
end
theorem EY {P:Program} {ops:Array Oper} {w:World} {R R':Act->Prop} (h:∀a,R a->R' a):∀(l:List Oper) (a:Act),wpStill P ops w R l a->wpStill P ops w R' l a
 | [],a,hr=>h a hr
 | o::rest,a,hr=>by
  unfold wpStill at hr⊢;split
  .rename_i b
   rw[if_pos b] at hr;exact Oper.still_mono (λa'=>EY h rest a') hr
  .rename_i b
   rw[if_neg b] at hr;exact EY h rest _ hr
def V0 (P:Program) (N:Nat) (ops:Array Oper) (w:World) (K:B0->Prop) (l:List Oper) (σ:B0):Prop:=
  ∀dz a,Ok dz N a->C1 a=σ->wpStill P ops w (λa'=>Ok dz N a'∧K (C1 a')) l a
def P_ (P:Program) (N:Nat) (ops:Array Oper) (w:World) (K:B0->World->Prop) (Q:DN):Nat->List Oper->B0->Prop
  | n,l,σ=>V0 P N ops w (λσ'=>DL P N ops K Q (l.drop n) σ' w) (l.take n) σ
section
variable {P : Program} {N : Nat} {Q : DN} {σ : B0} {w : World} {K : B0 → World → Prop} {ops : Array Oper} {rest : List Oper} {n : Nat}
theorem ES {l:List Oper} (h:DL P N ops K Q l σ w):P_ P N ops w K Q 0 l σ:=λdz a c b=>by
 simp only[List.take_zero,List.drop_zero];exact ⟨c,b▸h⟩
theorem TY {o:Oper} (g:o.guard=none) {d:Nat} (hd:o.dst=some d) (e:d<N) {v:Value}
 (f:(execOp (ev σ) o).run P w=.ok (.value v) w) (k:P_ P N ops w K Q n rest (Ef σ d v)):P_ P N ops w K Q (n+1) (o::rest) σ:=by
 intro h a b c;simp only[List.take_succ_cons,List.drop_succ_cons];unfold wpStill;rw[if_pos (by simp[Region.wanted,g])];unfold Oper.still;rw[Ch,c,f];refine ⟨O,?_⟩;rw[hd];exact k h _ (b.put _ _) (by rw[DT b e,c])
theorem CA {d:Nat} {op:Op} {ty:TypeId} {pos:String} {af:Array Edge} {j:Nat} {b:Bool} {oj:Oper} {e:Nat} {gv u:Value}
 (o:ops[j]?=some oj) (c:oj.dst=some e) (q:e<N) (hd:d<N) (s:σ e=gv)
 (h:(gv=.bool b∧(execOp (ev σ) ⟨some d,op,ty,pos,af,none⟩).run P w=.ok (.value u) w)∨((gv=.bool (!b)∨gv=undef)∧u=undef))
 (k:P_ P N ops w K Q n rest (Ef σ d u)):P_ P N ops w K Q (n+1) (⟨some d,op,ty,pos,af,some (j,b)⟩::rest) σ:=by
 intro x a i l;simp only[List.take_succ_cons,List.drop_succ_cons];have p:=k x _ (i.put (some d) u) (by rw[DT i hd,l]);have r:a.tmps.getD e undef=gv:=by rw[<-s,<-l];rfl
 have f:e<a.tmps.size:=by rw[i.size];exact q
 have m:a.tmps[e]?=some gv:=by rw[Array.getElem?_eq_getElem f];simpa[f] using r
 unfold wpStill;rcases h with ⟨g,v⟩|⟨g,rfl⟩
 .subst g;rw[if_pos (by simp[Region.wanted,yielded,o,c,m])];unfold Oper.still;have t:(execOp a.eval ⟨some d,op,ty,pos,af,some (j,b)⟩).run P w=.ok (.value u) w:=by rw[Ch,l];exact v
  rw[t];exact ⟨O,p⟩
 .rw[if_neg]
  .exact p
  .rcases g with rfl|rfl
   .cases b<;>simp[Region.wanted,yielded,o,c,m]
   .simp[Region.wanted,yielded,o,c,m,undef]
theorem CI {dst:Option Tmp} {op:Op} {ty:TypeId} {pos:String} {af:Array Edge} {j:Nat} {b:Bool} {oj:Oper} {c:Nat}
 (q:ops[j]?=some oj) (f:oj.dst=some c) (l:c<N) (o:σ c=.bool b)
 (k:P_ P N ops w K Q (n+1) (⟨dst,op,ty,pos,af,none⟩::rest) σ):P_ P N ops w K Q (n+1) (⟨dst,op,ty,pos,af,some (j,b)⟩::rest) σ:=by
 intro p a g h;have e:=k p a g h;simp only[List.take_succ_cons,List.drop_succ_cons] at e⊢;have m:a.tmps.getD c undef=.bool b:=by rw[<-o,<-h];rfl
 have d:c<a.tmps.size:=by rw[g.size];exact l
 have i:a.tmps[c]?=some (.bool b):=by rw[Array.getElem?_eq_getElem d];simpa[d] using m
 unfold wpStill at e⊢;rw[if_pos (by simp[Region.wanted,yielded,q,f,i])];rw[if_pos (by rfl)] at e;exact e
theorem CR {d:Nat} {op:Op} {ty:TypeId} {pos:String} {af:Array Edge} {j:Nat} {b:Bool} {oj:Oper} {c:Nat} {v:Value}
 (f:ops[j]?=some oj) (a:oj.dst=some c) (hd:d<N∧c<N) (e:σ c=v) (g:v=.bool (!b)∨v=undef)
 (k:P_ P N ops w K Q n rest (Ef σ d undef)):P_ P N ops w K Q (n+1) (⟨some d,op,ty,pos,af,some (j,b)⟩::rest) σ:=
 CA f a hd.2 hd.1 e (.inr ⟨g,O⟩) k
theorem Er (w:World):Al w {w with drawn:=w.drawn+1}:=⟨O,O,O,Nat.le_succ _,Nat.le_refl _,λ_ _ _=>rfl⟩
theorem Lc {m:Nat} {l:List Oper} (n:Nat) (i:P.follows .mixedOrders=true) (g:Region.lexTailB .any l.toArray n=true)
 (h:∀w',Al w w'->w'.heap=w.heap->P_ P N l.toArray w' (Q .normal) Q n l σ):Wp P N (.region m l.toArray true) Q σ w:=by
 intro b a f j;have e:Dw b N (J1 (Q .normal) Q)=Dw b N Q:=by funext e a w;cases e<;>rfl
 refine wp_region_still_tail n i g ?_;have d:=h _ (Er w) O b a f j;have:(λa'=>Ok b N a'∧DL P N l.toArray (Q .normal) Q (l.drop n) (C1 a') {w with drawn:=w.drawn+1})=(λa'=>Ok b N a'∧DL P N l.toArray (Q .normal) Q (l.drop n) (C1 a') {w with drawn:=w.drawn+1}):=rfl;refine EY ?_ _ _ d;rintro a' ⟨c,k⟩;have:=k b a' c O
 rwa [e] at this
theorem Dt {u:Nat} {l:List Oper} {y:Code} (n:Nat) (q:P.follows .mixedOrders=true) (o:Region.lexTailB .any l.toArray n=true)
 (h:∀w',Al w w'->w'.heap=w.heap->P_ P N l.toArray w' (Wp P N y Q) Q n l σ):Wp P N (.seq (.region u l.toArray true) y) Q σ w:=by
 refine AI (Lc n q o λw' e r=>?_);have:J1 (Wp P N y Q) Q .normal=Wp P N y Q:=rfl;intro s a j c;have i:=h w' e r s a j c;refine EY ?_ _ _ i;rintro a' ⟨d,g⟩;refine ⟨d,λb p f t=>?_⟩;have k:=g b p f t;have m:Dw b N (J1 (J1 (Wp P N y Q) Q .normal) (J1 (Wp P N y Q) Q))=Dw b N (J1 (Wp P N y Q) Q):=by funext e a w;cases e<;>rfl
 rw[m];exact k
end
theorem A5 {n:Int} (h : -9223372036854775808<=n∧n<=9223372036854775807):IntKind.i64.wrap n=n:=by
 simp only[IntKind.wrap,IntKind.bits,IntKind.signed,Bool.true_and,Bool.false_and,decide_eq_true_eq,ge_iff_le,Int.reducePow,Nat.reduceSub,Bool.false_eq_true,if_false];split<;>omega
theorem QH {n:Int} (h:0<=n∧n<=18446744073709551615):IntKind.u64.wrap n=n:=by
 simp only[IntKind.wrap,IntKind.bits,IntKind.signed,Bool.true_and,Bool.false_and,decide_eq_true_eq,ge_iff_le,Int.reducePow,Nat.reduceSub,Bool.false_eq_true,if_false];omega
theorem Ex {P:Program} {N:Nat} {Q:DN} {σ:B0} {w:World} {x y:Code} (J:B0->World->Prop) (h:Wp P N x (J1 J Q) σ w) (k:∀σ' w',J σ' w'->Wp P N y Q σ' w'):Wp P N (.seq x y) Q σ w:=
 AI (O5 h λe σ' w' q=>by cases e<;>first|exact k _ _ q|exact q)
theorem Ja {P:Program} {d:Func} {R:Value->World->Prop} {t u s:Nat} (g:d.results=#[.tmp t,.tmp u,.tmp s]) {σ:B0} {w:World} {v v' v'':Value} (f:σ t=v) (c:σ u=v') (b:σ s=v'') (h:R (.tuple #[v,v',v'']) w):fin P d R .ret σ w:=
 ⟨.tuple #[v,v',v''],λa e=>by subst e;rw[<-f,<-c,<-b];simp[results,g,C1],h⟩
theorem E4 {P:Program} {w:World} {b o n:Nat} {t:TypeId} {vs:List Value} (d:Gw P t=true) (hs:DD P t n) (f:vs.length=n) (e:BA w b o vs):(loadVar t ⟨b,o,none⟩).run P w=.ok (.agg vs.toArray) w:=by
 subst f;have a:=run_loadCells_list (P:=P) w ⟨b,o,none⟩ vs (λj v c=>by rw[Addr.add_lit];exact e j v c);simp[loadVar,Gw.run d,hs.run,a]
theorem C5 {P:Program} {d:Func} {R:Value->World->Prop} {a0 t b n:Nat} (f:d.results=#[.cell a0 t]) {σ:B0} {w:World} {vs:List Value} (e:σ a0=.pointer (some ⟨b,0,none⟩)) (k:Gw P t=true) (hs:DD P t n) (i:vs.length=n) (g:BA w b 0 vs) (h:R (.agg vs.toArray) w):fin P d R .ret σ w:=
 ⟨.agg vs.toArray,λa j=>by
  subst j;have c:a.tmps.getD a0 undef=.pointer (some ⟨b,0,none⟩):=e;simp only[Array.getD_eq_getD_getElem?] at c;simp[results,f,c,asAddr,E4 k hs i g],h⟩
theorem DJ {P:Program} {d:Func} {R:Value->World->Prop} {a0 t b n u:Nat} (i:d.results=#[.cell a0 t,.tmp u]) {σ:B0} {w:World} {vs:List Value} {v':Value} (g:σ a0=.pointer (some ⟨b,0,none⟩)) (m:Gw P t=true) (hs:DD P t n) (k:vs.length=n) (j:BA w b 0 vs) (c:σ u=v') (h:R (.tuple #[.agg vs.toArray,v']) w):fin P d R .ret σ w:=
 ⟨.tuple #[.agg vs.toArray,v'],λa l=>by
  subst l;have e:a.tmps.getD a0 undef=.pointer (some ⟨b,0,none⟩):=g;have f:a.tmps.getD u undef=v':=c;simp only[Array.getD_eq_getD_getElem?] at e f;simp[results,i,e,f,asAddr,E4 m hs k j],h⟩
theorem D5 {P:Program} {e:Func} {R:Value->World->Prop} {a0 t b n u s:Nat} (k:e.results=#[.cell a0 t,.tmp u,.tmp s]) {σ:B0} {w:World} {vs:List Value} {v' v'':Value} (j:σ a0=.pointer (some ⟨b,0,none⟩)) (p:Gw P t=true) (hs:DD P t n) (m:vs.length=n) (l:BA w b 0 vs) (d:σ u=v') (c:σ s=v'') (h:R (.tuple #[.agg vs.toArray,v',v'']) w):fin P e R .ret σ w:=
 ⟨.tuple #[.agg vs.toArray,v',v''],λa o=>by
  subst o;have g:a.tmps.getD a0 undef=.pointer (some ⟨b,0,none⟩):=j;have i:a.tmps.getD u undef=v':=d;have f:a.tmps.getD s undef=v'':=c;simp only[Array.getD_eq_getD_getElem?] at g i f;simp[results,k,g,i,f,asAddr,E4 p hs m l],h⟩
abbrev I6 (x:Int):Value:=.int .i64 x
abbrev P6 (b o:Nat):Value:=.pointer (some ⟨b,o,none⟩)
abbrev nU (b:Bool) (v:Value):Value:=bif b then undef else v
abbrev yU (b:Bool) (v:Value):Value:=bif b then v else undef
section
variable {P : Program} {N : Nat} {Q : DN} {σ : B0} {w : World} {K : B0 → World → Prop} {ops : Array Oper} {rest : List Oper} {n d : Nat} {op : Op} {ty : TypeId} {pos : String} {af : Array Edge} {v : Value} {x : Operand}
theorem qV {w':World} (hr:(execOp (ev σ) ⟨some d,op,ty,pos,af,none⟩).run P w=.ok (.value v) w') (k:DL P N ops K Q rest (Ef σ d v) w') (hN:d<N:=by decide):DL P N ops K Q (⟨some d,op,ty,pos,af,none⟩::rest) σ w:=BV rfl rfl hN hr k
theorem qT (hr:(execOp (ev σ) ⟨some d,op,ty,pos,af,none⟩).run P w=.ok (.value v) w) (k:P_ P N ops w K Q n rest (Ef σ d v)) (hN:d<N:=by decide):P_ P N ops w K Q (n+1) (⟨some d,op,ty,pos,af,none⟩::rest) σ:=TY rfl rfl hN hr k
theorem qM (v:Value) (hx:ev σ x=v) (k:DL P N ops K Q rest (Ef σ d v) w) (hN:d<N:=by decide):DL P N ops K Q (⟨some d,.move x,ty,pos,af,none⟩::rest) σ w:=qV (AZ hx) k hN
theorem qA (v:Value) (hx:ev σ x=v) (k:DL P N ops K Q rest (Ef σ d v) w) (hN:d<N:=by decide):DL P N ops K Q (⟨some d,.assign x,ty,pos,af,none⟩::rest) σ w:=qV (El hx) k hN
theorem gA {A:Prop} {v:Value}:A∨((v=v∨v=undef)∧undef=undef):=.inr ⟨.inl O,O⟩
theorem gB {A:Prop} {u:Value}:A∨((undef=u∨undef=undef)∧undef=undef):=.inr ⟨.inr O,O⟩
theorem qG {j:Nat} {b:Bool} {oj:Oper} {dj:Nat} (gv u:Value)
    (h:(gv=.bool b∧(execOp (ev σ) ⟨some d,op,ty,pos,af,none⟩).run P w=.ok (.value u) w)∨((gv=.bool (!b)∨gv=undef)∧u=undef))
    (k:DL P N ops K Q rest (Ef σ d u) w) (hj:ops[j]?=some oj:=by rfl) (hdj:oj.dst=some dj:=by rfl) (hN:dj<N:=by decide) (hd:d<N:=by decide) (hy:σ dj=gv:=by rfl):DL P N ops K Q (⟨some d,op,ty,pos,af,some (j,b)⟩::rest) σ w:=J9 hj hdj hN hd hy h k
theorem qF {t:TypeId} {fs:Array Field} {f:Field} {i m:Nat} (b o o':Nat) (hx:ev σ x=.pointer (some ⟨b,o,none⟩)) (hu:P.underlying t=some (.struct fs)) (hf:fs[i]?=some f) (hs:DD P f.type (m+1)) (ho:o+f.offset=o')
    (k:DL P N ops K Q rest (Ef σ d (.pointer (some ⟨b,o',none⟩))) w) (hN:d<N:=by decide):DL P N ops K Q (⟨some d,.fieldAddr t x i,ty,pos,af,none⟩::rest) σ w:=qV (AT hx hu hf hs ho) k hN
end
end Go.Eng
namespace Go.Eng
open Go
theorem qC {P : Program} {N : Nat} {Q : DN} {σ : B0} {w : World} {c : Operand} {x y : Code} {p : Prop} [Decidable p] (hc : ev σ c = .bool (decide p)) (ht : p → Wp P N x Q σ w) (hf : ¬ p → Wp P N y Q σ w) : Wp P N (.cond c x y) Q σ w := As hc (fun h => ht (of_decide_eq_true h)) fun h => hf (of_decide_eq_false h)
theorem LK {a b : Nat} (h : Nat.ble a b = true) : a ≤ b := Nat.le_of_ble_eq_true h
theorem qR {P : Program} {f : FuncId} {fn : Func} {c : Code} {N : Nat} {args : Array Value} {w : World} {R : Value → World → Prop} (hf : P.funcs[f]? = some fn) (hb : fn.body = some c) (hn : fn.ntmps = N) (hsz : Nat.ble args.size N = true) (h : Chg Ab w w → Wp P N c (fin P fn R) (fun t => args.getD t undef) w) : CB P f args w R := C7 hf hb hn (LK hsz) (h (Chg.refl _ _))
theorem qE {P : Program} {N : Nat} {Q : DN} {σ : B0} {w : World} {K : B0 → World → Prop} {ops : Array Oper} {rest : List Oper} {d : Nat} {op : Op} {ty : TypeId} {pos : String} {af : Array Edge} {f : FuncId} {args : Array Value} {R : Value → World → Prop} (hN : Nat.ble (d + 1) N = true) (hr : (execOp (ev σ) ⟨some d, op, ty, pos, af, none⟩).run P w = .ok (.enter f args) w) (hc : CB P f args w R) (k : ∀ v w', R v w' → DL P N ops K Q rest (Ef σ d v) w') : DL P N ops K Q (⟨some d, op, ty, pos, af, none⟩ :: rest) σ w := Bj rfl rfl (LK hN) hr hc k
theorem BH {a b : Bool} (h : a = b) : Value.bool a = Value.bool b := congrArg Value.bool h
theorem qQ {p : Prop} (h : p := by first | exact Or.inl (by omega) | exact Or.inr rfl | exact Or.inr (by assumption) | exact Or.inr (by simp) | exact Or.inr (by omega) | exact Or.inr (by dsimp only; omega)) : p := h
theorem qS {p : Prop} (h : p := by simp [Value.oneCell']) : p := h
theorem qL {p : Prop} (h : p := by first | (simp; done) | exact Nat.le_of_ble_eq_true rfl) : p := h
end Go.Eng
namespace Go.Eng
open Go
inductive Re where
  | mk (kind:Int) (set:List (Int×Int)) (args:List Re) (mn mx:Int) (neg:Bool)
namespace Re
def kind:Re->Int | .mk k _ _ _ _ _=>k
def set:Re->List (Int×Int) | .mk _ s _ _ _ _=>s
def args:Re->List Re | .mk _ _ a _ _ _=>a
def mn:Re->Int | .mk _ _ _ m _ _=>m
def mx:Re->Int | .mk _ _ _ _ m _=>m
def neg:Re->Bool | .mk _ _ _ _ _ n=>n
mutual
def size:Re->Nat
  | .mk _ _ a _ _ _=>sizes a+1
def sizes:List Re->Nat
  | []=>0
  | t::ts=>size t+sizes ts
end
theorem size_pos (t:Re):0<t.size:=by cases t;simp[size]
theorem SS (t:Re):t.size=sizes t.args+1:=by cases t;rfl
theorem PN {b:List Re} {i:Nat} {t:Re} (h:b[i]?=some t):t.size<=sizes b:=by
 induction b generalizing i with
 | nil=>simp at h
 | cons a r ih=>
  cases i with
  | zero=>simp at h;subst h;simp[sizes]
  | succ i=>simp at h;have:=ih h;simp[sizes];omega
theorem size_arg {t:Re} {i:Nat} {x:Re} (h:t.args[i]?=some x):x.size<t.size:=by
 have:=PN h;rw[SS t];omega
end Re
abbrev R6 (t:Re) (sa:Option Addr) (sc:Nat) (aa:Option Addr) (ac:Nat):Array Value:=#[.int .i64 t.kind,.slice sa t.set.length sc,.slice aa t.args.length ac,.int .i64 t.mn,.int .i64 t.mx,.bool t.neg]
theorem AG {α:Type} {l:List α} {i:Nat} {y:α} (h:l[i]?=some y):i<l.length:=by
 rcases Nat.lt_or_ge i l.length with a|a
 .exact a
 .simp[List.getElem?_eq_none a] at h
def BO (w:World) (k:Nat) (v:Value) (rows:List (List Value)):Prop:=
 ∃a cap,v=.slice a rows.length cap∧rows.length<=9223372036854775807∧rows.length<=cap∧(rows=[]∨∃b o,a=some ⟨b,o,none⟩∧∀i r,rows[i]?=some r->BA w b (o+i*k) r)
theorem BO.ext {w w':World} {k:Nat} {v:Value} {rows:List (List Value)} (h:BO w k v rows) (e:Al w w'):BO w' k v rows:=by
 obtain ⟨a,cap,d,g,c,h⟩:=h;refine ⟨a,cap,d,g,c,?_⟩;rcases h with h|⟨b,o,j,c⟩
 .exact .inl h
 .exact .inr ⟨b,o,j,λi r f=>(c i r f).ext e⟩
theorem BO.nil (w:World) (k:Nat) (a:Option Addr) (cap:Nat):BO w k (.slice a 0 cap) []:=⟨a,cap,O,qP,qP,.inl O⟩
theorem BO.at {w:World} {k:Nat} {a:Option Addr} {n cap:Nat} {rows:List (List Value)} (h:BO w k (.slice a n cap) rows) (d:0<n) :
 ∃b o,a=some ⟨b,o,none⟩∧∀i r,rows[i]?=some r->BA w b (o+i*k) r:=by
 obtain ⟨a',cap',c,_,_,h⟩:=h;simp only[Value.slice.injEq] at c;obtain ⟨rfl,rfl,rfl⟩:=c;rcases h with rfl|h
 .simp at d
 .exact h
theorem BO.le {w:World} {k:Nat} {v:Value} {rows:List (List Value)} (h:BO w k v rows):rows.length<=9223372036854775807:=let ⟨_,_,_,h,_⟩:=h;h
theorem BO.cap {w:World} {k:Nat} {a:Option Addr} {n c:Nat} {rows:List (List Value)} (h:BO w k (.slice a n c) rows):n<=c∧rows.length=n:=by
 obtain ⟨a',cap',b,_,d,_⟩:=h;simp only[Value.slice.injEq] at b;obtain ⟨rfl,rfl,rfl⟩:=b;exact ⟨d,O⟩
theorem BO.form {w:World} {k:Nat} {v:Value} {rows:List (List Value)} (h:BO w k v rows):∃a cap,v=.slice a rows.length cap:=let ⟨a,c,h,_⟩:=h;⟨a,c,h⟩
def Dh (x:Int):List Value:=[.int .i64 x]
def CD (s:Int×Int):List Value:=[.int .i64 s.1,.int .i64 s.2]
def A2 (w:World) (v:Value) (l:List Int):Prop:=BO w 1 v (l.map Dh)
def BW (w:World) (v:Value) (l:List (Int×Int)):Prop:=BO w 2 v (l.map CD)
theorem A2.ext {w w':World} {v:Value} {l:List Int} (h:A2 w v l) (e:Al w w'):A2 w' v l:=BO.ext h e
theorem BW.ext {w w':World} {v:Value} {l:List (Int×Int)} (h:BW w v l) (e:Al w w'):BW w' v l:=BO.ext h e
theorem BA.at1 {w:World} {b o:Nat} {x y:Value} (h:BA w b o [x,y]):w.cell? ⟨b,o+1,none⟩=some y:=h 1 y O
theorem BA.at0 {w:World} {b o:Nat} {x:Value} {r:List Value} (h:BA w b o (x::r)):w.cell? ⟨b,o,none⟩=some x:=h 0 x O
theorem CZ {w:World} {a:Option Addr} {n c:Nat} {l:List (Int×Int)} (h:BW w (.slice a n c) l) (e:0<n) :
 ∃b o,a=some ⟨b,o,none⟩∧∀i s,l[i]?=some s->BA w b (o+i*2) [.int .i64 s.1,.int .i64 s.2]:=by
 obtain ⟨b,o,d,h⟩:=BO.at h e;exact ⟨b,o,d,λi s hs=>h i (CD s) (by simp[hs])⟩
mutual
def CG (w:World):Re->List Value->Prop
  | .mk k set args mn mx ng,vs=>∃sa sc aa ac,vs=[.int .i64 k,.slice sa set.length sc,.slice aa args.length ac,.int .i64 mn,.int .i64 mx,.bool ng]∧BW w (.slice sa set.length sc) set∧(args.length<=ac∧ac<=9223372036854775807)∧
      (args=[]∨∃b o,aa=some ⟨b,o,none⟩∧DM w b o args)
def DM (w:World) (b:Nat):Nat->List Re->Prop
  | _,[]=>True
  | o,t::ts=>(∃vs,BA w b o vs∧CG w t vs)∧DM w b (o+6) ts
end
mutual
theorem CG.ext {w w':World} (e:Al w w'):∀(t:Re) {vs:List Value},CG w t vs->CG w' t vs
 | .mk k set args mn mx ng,vs,h=>by
  simp only[CG] at h⊢;obtain ⟨l,m,d,a,i,hs,f,g⟩:=h;refine ⟨l,m,d,a,i,hs.ext e,f,?_⟩;rcases g with h|⟨b,o,c,j⟩
  .exact .inl h
  .exact .inr ⟨b,o,c,DM.ext e args j⟩
theorem DM.ext {w w':World} (e:Al w w') {b:Nat}:∀(a:List Re) {o:Nat},DM w b o a->DM w' b o a
 | [],_,_=>by simp only[DM]
 | t::a,o,h=>by
  simp only[DM] at h⊢;obtain ⟨⟨vs,c,d⟩,f⟩:=h;exact ⟨⟨vs,c.ext e,CG.ext e t d⟩,DM.ext e a f⟩
end
theorem DM.get {w:World} {b:Nat}:∀{a:List Re} {o i:Nat} {t:Re},DM w b o a->a[i]?=some t->∃vs,BA w b (o+i*6) vs∧CG w t vs
 | [],_,_,_,_,h=>by simp at h
 | x::a,o,0,t,h,hi=>by
  simp only[DM] at h;simp at hi;subst hi;simpa using h.1
 | x::a,o,i+1,t,h,hi=>by
  simp only[DM] at h;have:=DM.get h.2 (i:=i) (by simpa using hi)
  rwa [show o+(i+1)*6=o+6+i*6 from qO]
theorem CG.form {w:World} {t:Re} {vs:List Value} (h:CG w t vs):∃d e c a,vs=[.int .i64 t.kind,.slice d t.set.length e,.slice c t.args.length a,.int .i64 t.mn,.int .i64 t.mx,.bool t.neg]∧BW w (.slice d t.set.length e) t.set∧(t.args.length<=a∧a<=9223372036854775807)∧
 (t.args=[]∨∃b o,c=some ⟨b,o,none⟩∧DM w b o t.args):=by
 cases t;simp only[CG] at h;exact h
theorem CG.of {w:World} {k:Int} {set:List (Int×Int)} {args:List Re} {mn mx:Int} {f:Bool} {d c:Option Addr} {e a:Nat} (hs:BW w (.slice d set.length e) set) (h:(args.length<=a∧a<=9223372036854775807)) (g:args=[]∨∃b o,c=some ⟨b,o,none⟩∧DM w b o args) :
 CG w (.mk k set args mn mx f) [.int .i64 k,.slice d set.length e,.slice c args.length a,.int .i64 mn,.int .i64 mx,.bool f]:=by
 simp only[CG];exact ⟨d,e,c,a,O,hs,h,g⟩
theorem CG.len {w:World} {t:Re} {vs:List Value} (h:CG w t vs):vs.length=6:=by
 obtain ⟨_,_,_,_,rfl,_⟩:=h.form;rfl
def CQ (P:Program) (fv:Value) (args:Array Value) (w:World) (R:Value->World->Prop):Prop:=
 ∃ f fn first cap, fv = .func (.func f) first cap ∧ P.funcs[f]? = some fn ∧ (fn.name == "runtime.NumGoroutine") = false ∧ fn.body.isNone = false ∧ CB P f (first ++ args ++ cap) w R
theorem CQ.mk {P : Program} {f : FuncId} {a : Func} {first cap args ws : Array Value} {w : World} {R : Value → World → Prop} (d : P.funcs[f]? = some a) (e : (a.name == "runtime.NumGoroutine") = false) (c : a.body.isNone = false) (b : first ++ args ++ cap = ws) (h : CB P f ws w R) :
 CQ P (.func (.func f) first cap) args w R:=⟨f,a,first,cap,O,d,e,c,b▸h⟩
theorem CQ.mono {P:Program} {fv:Value} {args:Array Value} {w:World} {R R':Value->World->Prop} (h:CQ P fv args w R) (a:∀v w',R v w'->R' v w'):CQ P fv args w R':=
 let ⟨f,fn,first,cap,h1,h2,h3,h4,h5⟩:=h;⟨f,fn,first,cap,h1,h2,h3,h4,h5.mono a⟩
theorem DU {P:Program} {N:Nat} {Q:DN} {σ:B0} {w:World} {K:B0->World->Prop} {ops:Array Oper} {rest:List Oper} {d:Nat} {z:Operand} {args:List Operand} {tys:Array TypeId} {ty:TypeId} {pos:String} {af:Array Edge} {fv:Value} {vs:List Value} {R:Value->World->Prop}
 (b:d<N) (j:ev σ z=fv) (h:args.map (ev σ)=vs) (e:CQ P fv vs.toArray w R) (k:∀v w',R v w'->DL P N ops K Q rest (Ef σ d v) w') :
 DL P N ops K Q (⟨some d,.call ⟨.value z,args.toArray,tys⟩,ty,pos,af,none⟩::rest) σ w:=by
 obtain ⟨f,fn,first,cap,rfl,i,g,a,c⟩:=e;exact Bj O O b (EH j i g a h O) c k
section
variable {S : Type} (F : S → Re → Bool × S)
mutual
def CY:Re->S->Bool×S
  | .mk k set args mn mx ng,s=>match F s (.mk k set args mn mx ng) with
    | (false,s')=>(false,s')
    | (true,s')=>Cf args s'
def Cf:List Re->S->Bool×S
  | [],s=>(true,s)
  | t::ts,s=>match CY t s with
    | (false,s')=>(false,s')
    | (true,s')=>Cf ts s'
end
theorem Ee (t:Re) (s:S):CY F t s=if (F s t).1 then Cf F t.args (F s t).2 else (false,(F s t).2):=by
 cases t;simp only[CY,Re.args];split<;>rename_i h<;>simp[h]
theorem DG (t:Re) (a:List Re) (s:S):Cf F (t::a) s=if (CY F t s).1 then Cf F a (CY F t s).2 else (false,(CY F t s).2):=by
 simp only[Cf];split<;>rename_i h<;>simp[h]
end
def NS {α:Type} (p:α->Bool) (l:List α):Int:=match l.findIdx? p with
  | some i=>i
  | none=>-1
theorem Ij {α:Type} (p:α->Bool) (l:List α):decide (0<=NS p l)=l.any p:=by
 unfold NS;cases h:l.findIdx? p with
 | none=>
  have a:l.any p=false:=by
   rw[List.findIdx?_eq_none_iff] at h;rw[List.any_eq_false];intro x b;simp[h x b]
  rw[a];decide
 | some i=>
  have a:l.any p=true:=by
   rw[List.findIdx?_eq_some_iff_getElem] at h;obtain ⟨hi,c,_⟩:=h;rw[List.any_eq_true];exact ⟨_,List.getElem_mem hi,c⟩
  rw[a];simp
theorem Ii {α:Type} {p:α->Bool} {l:List α} {k:Nat} {x:α} (b:l[k]?=some x) (d:p x=true) (c:∀i y,i<k->l[i]?=some y->p y=false):NS p l=k:=by
 unfold NS;have a:k<l.length:=by
  rcases Nat.lt_or_ge k l.length with h|h
  .exact h
  .simp[List.getElem?_eq_none h] at b
 have:l.findIdx? p=some k:=by
  rw[List.findIdx?_eq_some_iff_getElem];refine ⟨a,?_,λj e=>?_⟩
  .rw[List.getElem?_eq_getElem a] at b;cases b;exact d
  .have:=c j l[j] e (List.getElem?_eq_getElem qO);simp[this]
 rw[this]
theorem HY {α:Type} {p:α->Bool} {l:List α} (a:∀(i:Nat) (y:α),l[i]?=some y->p y=false):NS p l = -1:=by
 unfold NS;have:l.findIdx? p=none:=by
  rw[List.findIdx?_eq_none_iff];intro x b;obtain ⟨i,hi⟩:=List.mem_iff_getElem?.1 b;simp[a i x hi]
 rw[this]
theorem BJ {a b:Int} (h:a=b):Value.int .i64 a=.int .i64 b:=by rw[h]
theorem CK {a b:Bool} (h:a=b):Value.bool a=.bool b:=by rw[h]
theorem Ao {w:World} {a:Option Addr} {n c:Nat} {l:List Int} (h:A2 w (.slice a n c) l) (f:0<n) :
 ∃b o,a=some ⟨b,o,none⟩∧∀i x,l[i]?=some x->w.cell? ⟨b,o+i,none⟩=some (.int .i64 x):=by
 obtain ⟨b,o,d,h⟩:=BO.at h f;refine ⟨b,o,d,λi x e=>?_⟩;have:=h i (Dh x) (by simp[e]) 0 _ O;simpa using this
theorem AK {α:Type} {l:List α} {i:Nat} (h:i<l.length):∃x,l[i]?=some x:=⟨_,List.getElem?_eq_getElem h⟩
theorem Gm {α:Type} {l:List α} {k:Nat} {x:α} (h:l[k]?=some x):l.drop k=x::l.drop (k+1):=by
 have a:=AG h;rw[List.drop_eq_getElem_cons a];rw[List.getElem?_eq_getElem a] at h;cases h;rfl
theorem GA {α:Type} {p:α->Bool} {l:List α} {k:Nat} {x:α} (d:l[k]?=some x) (c:p x=false) (b:∀(i:Nat) (y:α),i<k->l[i]?=some y->p y=false):∀(i:Nat) (y:α),i<k+1->l[i]?=some y->p y=false:=by
 intro i y hi a;rcases Nat.lt_or_ge i k with h|h
 .exact b i y h a
 .obtain rfl:i=k:=qO
  rw[d] at a;cases a;exact c
theorem GM {w:World} {b t k cap:Nat} {rows:List (List Value)} (h:Az w b rows.flatten.toArray t) (d:∀r∈rows,r.length=k) (g:rows.length<=9223372036854775807) (a:rows.length<=cap):BO w k (.slice (some ⟨b,0,none⟩) rows.length cap) rows:=by
 refine ⟨_,cap,O,g,a,.inr ⟨b,0,O,λi r c j u f=>?_⟩⟩;have l:(rows.flatten)[i*k+j]?=some u:=by
  clear h g a
  induction rows generalizing i with
  | nil=>simp at c
  | cons x rs ih=>
   have e:x.length=k:=d x qP;cases i with
   | zero=>
    simp at c;subst c;have m:=AG f;simp only[List.flatten_cons,Nat.zero_mul,Nat.zero_add];rw[List.getElem?_append_left m];exact f
   | succ i=>
    simp at c;simp only[List.flatten_cons];rw[List.getElem?_append_right (by rw[e,Nat.succ_mul];omega)];rw[show (i+1)*k+j - x.length=i*k+j from by rw[e,Nat.succ_mul];omega];exact ih (λr c=>d r (by simp[c])) _ c
 rw[Nat.zero_add];exact h.cell (by simpa using l)
theorem GS {w:World} {b t cap:Nat} (l:List Int) (h:Az w b (l.map Dh).flatten.toArray t) (d:l.length<=9223372036854775807) (a:l.length<=cap):A2 w (.slice (some ⟨b,0,none⟩) l.length cap) l:=by
 have:=GM (k:=1) (cap:=cap) h (by intro r c;simp only[List.mem_map] at c;obtain ⟨x,_,rfl⟩:=c;rfl) (by simpa using d) (by simpa using a);simpa[A2] using this
theorem K6 {w:World} {b t cap:Nat} (l:List (Int×Int)) (h:Az w b (l.map CD).flatten.toArray t) (d:l.length<=9223372036854775807) (a:l.length<=cap):BW w (.slice (some ⟨b,0,none⟩) l.length cap) l:=by
 have:=GM (k:=2) (cap:=cap) h (by intro r c;simp only[List.mem_map] at c;obtain ⟨x,_,rfl⟩:=c;rfl) (by simpa using d) (by simpa using a);simpa[BW] using this
theorem CG.one {w:World} {t:Re} {vs:List Value} (h:CG w t vs):∀u∈vs,u.oneCell'=true:=by
 obtain ⟨_,_,_,_,rfl,_⟩:=h.form;simp[Value.oneCell']
end Go.Eng
namespace Go.Proofs
open Go Go.Eng
structure Dfa where
 start:Int
 accept:List Int
 next:List (List Int)
end Go.Proofs
namespace Go.Proofs
open Go Go.Eng
--BEGIN
def Bu (d:Dfa) (s:Int) (x:Nat):Int:=if s<0 then -1 else (d.next.getD s.toNat []).getD x (-1)
def Co (d:Dfa) (s:Int):Int:=if s<0 then -1 else d.accept.getD s.toNat (-1)
def beh (d:Dfa) (s:Int):List Nat->Int
  | []=>Co d s
  | x::w=>beh d (Bu d s x) w
def C0 (c:Nat) (w:List Nat):Prop:=∀x∈w,x<c
theorem C0.tail {c x:Nat} {w:List Nat} (h:C0 c (x::w)):C0 c w:=λy a=>h y (List.mem_cons_of_mem _ a)
theorem C0.head {c x:Nat} {w:List Nat} (h:C0 c (x::w)):x<c:=h x List.mem_cons_self
theorem C0.cons {c x:Nat} {w:List Nat} (d:x<c) (h:C0 c w):C0 c (x::w):=λy b=>by
 rcases List.mem_cons.1 b with rfl|a
 .exact d
 .exact h y a
theorem C0.nil (c:Nat):C0 c []:=λx h=>by cases h
structure OkD (n c:Nat) (d:Dfa):Prop where
 nl:d.next.length=n
 al:d.accept.length=n
 st:0<=d.start∧d.start<n
 acc:∀x∈d.accept,-1<=x
 row:∀r∈d.next,r.length=c∧∀x∈r,-1<=x∧x<n
def BG (c:Nat) (d:Dfa) (s:Int):Prop:=∃w,C0 c w∧0<=beh d s w
def Ea (c:Nat) (d:Dfa) (s t:Int):Prop:=∀w,C0 c w->beh d s w=beh d t w
theorem E3 {d:Dfa} {s:Int} (h:s<0) (x:Nat):Bu d s x = -1:=by unfold Bu;rw[if_pos h]
theorem C6 {d:Dfa}:∀{w:List Nat} {s:Int},s<0->beh d s w = -1
 | [],s,h=>by unfold beh Co;rw[if_pos h]
 | x::w,s,h=>by unfold beh;rw[E3 h];exact C6 qD
theorem DQ {d:Dfa} {s x:Nat} {r:List Int} {t:Int} (h:d.next[s]?=some r) (a:r[x]?=some t):Bu d ((s:Nat):Int) x=t:=by
 unfold Bu;rw[if_neg qO,Int.toNat_natCast,List.getD_eq_getElem?_getD,List.getD_eq_getElem?_getD,h,Option.getD_some,a,Option.getD_some]
theorem Cn {d:Dfa} {s:Nat} {t:Int} (h:d.accept[s]?=some t):Co d ((s:Nat):Int)=t:=by
 unfold Co;rw[if_neg qO,Int.toNat_natCast,List.getD_eq_getElem?_getD,h,Option.getD_some]
theorem OkD.to {n c:Nat} {d:Dfa} (h:OkD n c d) {s:Int} {x:Nat} : -1<=Bu d s x∧Bu d s x<n:=by
 have hn:=h.st;unfold Bu;split
 .omega
 .rw[List.getD_eq_getElem?_getD,List.getD_eq_getElem?_getD];cases h1:d.next[s.toNat]? with
  | none=>simp;omega
  | some r=>
   simp only[Option.getD_some];cases h2:r[x]? with
   | none=>simp;omega
   | some t=>exact (h.row r (List.mem_of_getElem? h1)).2 t (List.mem_of_getElem? h2)
theorem OkD.at' {n c:Nat} {d:Dfa} (h:OkD n c d) {s:Int} : -1<=Co d s:=by
 unfold Co;split
 .omega
 .rw[List.getD_eq_getElem?_getD];cases h1:d.accept[s.toNat]? with
  | none=>simp
  | some t=>exact h.acc t (List.mem_of_getElem? h1)
theorem OkD.beh {n c:Nat} {d:Dfa} (h:OkD n c d):∀{w:List Nat} {s:Int},-1<=beh d s w
 | [],_=>h.at'
 | _::w,_=>OkD.beh h (w:=w)
theorem OkD.dead {n c:Nat} {d:Dfa} (h:OkD n c d) {s:Int} (e:¬BG c d s) {w:List Nat} (b:C0 c w):Go.Proofs.beh d s w = -1:=by
 have h1:=h.beh (w:=w) (s:=s);rcases Int.lt_or_le (Go.Proofs.beh d s w) 0 with a|a
 .omega
 .exact absurd ⟨w,b,a⟩ e
theorem Ol {c x:Nat} {d:Dfa} {s:Int} (h:BG c d (Bu d s x)) (e:x<c):BG c d s:=by
 obtain ⟨w,b,a⟩:=h;exact ⟨x::w,C0.cons e b,a⟩
theorem CC {c:Nat} {d:Dfa} {s:Int} (h:s<0):¬BG c d s:=λ⟨w,_,a⟩=>by rw[C6 h] at a;omega
theorem Ea.to {c x:Nat} {d:Dfa} {s t:Int} (h:Ea c d s t) (b:x<c):Ea c d (Bu d s x) (Bu d t x):=λw a=>h (x::w) (C0.cons b a)
theorem Ea.live {c:Nat} {d:Dfa} {s t:Int} (h:Ea c d s t) (e:BG c d s):BG c d t:=by
 obtain ⟨w,a,b⟩:=e;exact ⟨w,a,by rw[<-h w a];exact b⟩
theorem MX {c:Nat}:∀{L:List (List Int)} {i x:Nat} {r:List Int},(∀r∈L,r.length=c)->L[i]?=some r->x<c->L.flatten[i*c+x]?=r[x]?
 | [],_,_,_,_,h,_=>by simp at h
 | q::L,0,x,r,h,hi,hx=>by
  simp at hi;subst hi;rw[List.flatten_cons,Nat.zero_mul,Nat.zero_add,List.getElem?_append_left (by rw[h q List.mem_cons_self];exact hx)]
 | q::L,i+1,x,r,h,hi,hx=>by
  have a:=h q List.mem_cons_self;rw[List.flatten_cons,List.getElem?_append_right (by rw[a,Nat.add_mul];omega),a,show (i+1)*c+x - c=i*c+x by rw[Nat.add_mul];omega];exact MX (λr b=>h r (List.mem_cons_of_mem _ b)) (by simpa using hi) hx
theorem H5 {c:Nat}:∀{L:List (List Int)},(∀r∈L,r.length=c)->L.flatten.length=L.length*c
 | [],_=>qP
 | q::L,h=>by
  rw[List.flatten_cons,List.length_append,h q List.mem_cons_self,H5 λr a=>h r (List.mem_cons_of_mem _ a),List.length_cons,Nat.add_mul];omega
def FZ (l:List Int):Int:=l.foldl max 0
theorem HQ (l:List Int) (x:Int):FZ (l++[x])=max (FZ l) x:=by unfold FZ;rw[List.foldl_append];rfl
theorem Q6:∀(m:List Int) (z:Int),z<=m.foldl max z
 | [],_=>Int.le_refl _
 | x::m,z=>by
  have:=Q6 m (max z x);simp only[List.foldl_cons];omega
theorem ML {l:List Int} (m:List Int):FZ l<=FZ (l++m):=by
 unfold FZ;rw[List.foldl_append];exact Q6 m _
theorem Q5 (l:List Int):0<=FZ l:=by
 have:=ML (l:=[]) l;simpa[FZ] using this
theorem JC {l:List Int} {i j:Nat} (h:i<=j):FZ (l.take i)<=FZ (l.take j):=by
 have e:l.take j=l.take i++(l.take j).drop i:=by
  have:=List.take_append_drop i (l.take j);rw[List.take_take,Nat.min_eq_left h] at this;exact this.symm
 rw[e];exact ML _
structure Bfs (n c:Nat) (C:Dfa):Prop where
 ok:OkD n c C
 st:C.start=0
 ord:∀(k:Nat) (x:Int),C.next.flatten[k]?=some x->x<=FZ (C.next.flatten.take k)+1
 rch:∀i:Nat,i<n->((i:Nat):Int)<=FZ (C.next.flatten.take (i*c))
 fin:FZ C.next.flatten=n - 1
def Cj (c:Nat) (f:List Nat->Int) (C:Dfa):Prop:=∃m,Bfs m c C∧(∀w,C0 c w->beh C 0 w=f w)∧(∀s t:Int,0<=s->s<m->0<=t->t<m->Ea c C s t->s=t)∧∀(s:Int) (x:Nat),x<c->0<=Bu C s x->BG c C (Bu C s x)
theorem RV {n c i x:Nat} {C:Dfa} (h:OkD n c C) (hi:i<n) (e:x<c):C.next.flatten[i*c+x]?=some (Bu C ((i:Nat):Int) x):=by
 have b:C.next[i]?=some (C.next[i]'(by rw[h.nl];exact hi)):=List.getElem?_eq_getElem _;have a:=h.row _ (List.mem_of_getElem? b);rw[MX (λr b=>(h.row r b).1) b e];have d:(C.next[i]'(by rw[h.nl];exact hi))[x]?=some ((C.next[i]'(by rw[h.nl];exact hi))[x]'(by rw[a.1];exact e)):=List.getElem?_eq_getElem _;rw[d,DQ b d]
theorem FC {l:List Int} {k:Nat} {x:Int} (h:l[k]?=some x):l.take (k+1)=l.take k++[x]:=by rw[List.take_add_one,h];rfl
theorem Cj.steps {c n m:Nat} {A B:Dfa} (o:Bfs n c A) (u:Bfs m c B) (Q:∀w,C0 c w->beh A 0 w=beh B 0 w)
 (M:∀s t:Int,0<=s->s<n->0<=t->t<n->Ea c A s t->s=t) (K:∀s t:Int,0<=s->s<m->0<=t->t<m->Ea c B s t->s=t)
 (L:∀(s:Int) (x:Nat),x<c->0<=Bu A s x->BG c A (Bu A s x)) (R:∀(s:Int) (x:Nat),x<c->0<=Bu B s x->BG c B (Bu B s x)) :
 ∀k,k<=n*c->k<=m*c->A.next.flatten.take k=B.next.flatten.take k∧∀j:Int,0<=j->j<=FZ (A.next.flatten.take k)->∀w,C0 c w->beh A j w=beh B j w:=by
 intro k
 induction k with
 | zero=>
  intro _ _;refine ⟨qP,λj f d w b=>?_⟩;have:j=0:=by simp[FZ] at d;omega
  rw[this];exact Q w b
 | succ k ih=>
  intro hn hm;obtain ⟨C,r⟩:=ih qO qO;have P:0<c:=by
   rcases Nat.eq_zero_or_pos c with h|h
   .subst h;omega
   .exact h
  obtain ⟨i,x,rfl,p⟩:∃i x,k=i*c+x∧x<c:=⟨k / c,k % c,by rw[Nat.mul_comm];exact (Nat.div_add_mod k c).symm,Nat.mod_lt _ P⟩;have g:i<n:=by
   apply Classical.byContradiction;intro h;have:n*c<=i*c:=Nat.mul_le_mul_right c qO;omega
  have F:i<m:=by
   apply Classical.byContradiction;intro h;have:m*c<=i*c:=Nat.mul_le_mul_right c qO;omega
  have hi:=o.rch i g;have hmono:FZ (A.next.flatten.take (i*c))<=FZ (A.next.flatten.take (i*c+x)):=JC qO;have y:=r ((i:Nat):Int) qO qO;have v:=RV o.ok g p;have z:=RV u.ok F p;obtain ⟨s,hs⟩:∃s,Bu A ((i:Nat):Int) x=s:=⟨_,O⟩;obtain ⟨t,q⟩:∃t,Bu B ((i:Nat):Int) x=t:=⟨_,O⟩;rw[hs] at v;rw[q] at z;have a:∀w,C0 c w->beh A s w=beh B t w:=λw b=>by
   have:=y (x::w) (C0.cons p b);simp only[beh,hs,q] at this;exact this
  have oA:=o.ord _ _ v;have N:=u.ord _ _ z;rw[<-C] at N;have G:=o.ok.to (s:=((i:Nat):Int)) (x:=x);have I:=u.ok.to (s:=((i:Nat):Int)) (x:=x);rw[hs] at G;rw[q] at I;have E:s=t:=by
   rcases Int.lt_or_le s 0 with f|f
   .rcases Int.lt_or_le t 0 with d|d
    .omega
    .exfalso;have:=R ((i:Nat):Int) x p (by rw[q];exact d);rw[q] at this;obtain ⟨w,b,e⟩:=this;rw[<-a w b,C6 f] at e;omega
   .rcases Int.lt_or_le t 0 with d|d
    .exfalso;have:=L ((i:Nat):Int) x p (by rw[hs];exact f);rw[hs] at this;obtain ⟨w,b,e⟩:=this;rw[a w b,C6 d] at e;omega
    .rcases Int.lt_or_le (FZ (A.next.flatten.take (i*c+x))) s with e|e
     .rcases Int.lt_or_le (FZ (A.next.flatten.take (i*c+x))) t with H|H
      .omega
      .-- B's is old: then A's is the same old one
       have D:∀w,C0 c w->beh A s w=beh A t w:=λw b=>(a w b).trans (r t d H w b).symm;have J:FZ (A.next.flatten.take (i*c+x))<=n - 1:=by
        rw[<-o.fin];have:=JC (l:=A.next.flatten) (i:=i*c+x) (j:=max (i*c+x) A.next.flatten.length) qO
        rwa [List.take_of_length_le (show A.next.flatten.length<=max (i*c+x) A.next.flatten.length by omega)] at this
       exact M s t f G.2 d qO D
     .have D:∀w,C0 c w->beh B t w=beh B s w:=λw b=>(a w b).symm.trans (r s f e w b);have J:FZ (A.next.flatten.take (i*c+x))<=m - 1:=by
       rw[<-u.fin,C];have:=JC (l:=B.next.flatten) (i:=i*c+x) (j:=max (i*c+x) B.next.flatten.length) qO
       rwa [List.take_of_length_le (show B.next.flatten.length<=max (i*c+x) B.next.flatten.length by omega)] at this
      exact (K t s d I.2 f qO D).symm
  subst E;refine ⟨by rw[FC v,FC z,C],λj f d w b=>?_⟩;rw[FC v,HQ] at d;rcases Int.lt_or_le (FZ (A.next.flatten.take (i*c+x))) j with e|e
  .have:j=s:=qO
   rw[this];exact a w b
  .exact r j f e w b
theorem OZ {c:Nat}:∀{L M:List (List Int)},(∀r∈L,r.length=c)->(∀r∈M,r.length=c)->L.length=M.length->L.flatten=M.flatten->L=M
 | [],[],_,_,_,_=>rfl
 | [],_::_,_,_,h,_=>by cases h
 | _::_,[],_,_,h,_=>by cases h
 | q::L,r::M,h1,h2,h3,h4=>by
  rw[List.flatten_cons,List.flatten_cons] at h4;obtain ⟨b,d⟩:=List.append_inj h4 (by rw[h1 q List.mem_cons_self,h2 r List.mem_cons_self]);rw[b,OZ (λx a=>h1 x (List.mem_cons_of_mem _ a)) (λx a=>h2 x (List.mem_cons_of_mem _ a)) (by simpa using h3) d]
theorem Cj.uniq {c:Nat} {f g:List Nat->Int} {A B:Dfa} (H:Cj c f A) (I:Cj c g B) (s:∀w,C0 c w->f w=g w):A=B:=by
 obtain ⟨n,a,G,F,E⟩:=H;obtain ⟨m,b,D,C,K⟩:=I;have J:∀w,C0 c w->beh A 0 w=beh B 0 w:=λw q=>by rw[G w q,D w q,s w q]
 have d:=Cj.steps a b J F C E K;have k:=H5 (L:=A.next) (c:=c) λr e=>(a.ok.row r e).1;have j:=H5 (L:=B.next) (c:=c) λr e=>(b.ok.row r e).1;rw[a.ok.nl] at k;rw[b.ok.nl] at j;have nA:=a.ok.st;have nB:=b.ok.st;have p:n=m:=by
  rcases Nat.lt_trichotomy n m with h|h|h
  .exfalso;have o:=(d (n*c) (Nat.le_refl _) (Nat.mul_le_mul_right c qO)).1;have l:=b.rch n h;rw[<-o,List.take_of_length_le qO,a.fin] at l;omega
  .exact h
  .exfalso;have o:=(d (m*c) (Nat.mul_le_mul_right c qO) (Nat.le_refl _)).1;have l:=a.rch m h;rw[o,List.take_of_length_le qO,b.fin] at l;omega
 subst p;obtain ⟨t,x⟩:=d (n*c) (Nat.le_refl _) (Nat.le_refl _);rw[List.take_of_length_le qO,List.take_of_length_le qO] at t;rw[List.take_of_length_le qO,a.fin] at x;have u:=OZ (c:=c) (λr e=>(a.ok.row r e).1) (λr e=>(b.ok.row r e).1) (by rw[a.ok.nl,b.ok.nl]) t;have v:A.accept=B.accept:=by
  apply List.ext_getElem (by rw[a.ok.al,b.ok.al]);intro i o l;have z:=x ((i:Nat):Int) qO (by have:=a.ok.al;omega) [] (C0.nil c);simp only[beh] at z
  rwa [Cn (List.getElem?_eq_getElem o),Cn (List.getElem?_eq_getElem l)] at z
 have y:A.start=B.start:=by rw[a.st,b.st]
 cases A;cases B;simp only at u v y;rw[u,v,y]
theorem LW {n m c:Nat} {d C:Dfa} {st:List Int} (ok:OkD n c d) (b:Bfs m c C) (hl:st.length=m) (h0:st[0]?=some d.start)
    (hinj:∀(i j:Nat) s t,st[i]?=some s->st[j]?=some t->Ea c d s t->i=j)
    (hacc:∀(i:Nat) s,st[i]?=some s->Co C ((i:Nat):Int)=Co d s)
    (hnext:∀(i x:Nat) s,st[i]?=some s->x<c->(Bu C ((i:Nat):Int) x = -1∧¬BG c d (Bu d s x))∨∃(j:Nat) (t:Int),Bu C ((i:Nat):Int) x=((j:Nat):Int)∧st[j]?=some t∧Ea c d t (Bu d s x)∧BG c d t):Cj c (beh d d.start) C:=by
  have hb:∀(w:List Nat) (i:Nat) s,C0 c w->st[i]?=some s->beh C ((i:Nat):Int) w=beh d s w:=by
    intro w
    induction w with
    | nil=>exact λi s _ hs=>hacc i s hs
    | cons x w ih=>
      intro i s hw hs;simp only[beh];rcases hnext i x s hs hw.head with ⟨h1,h2⟩|⟨j,t,h1,h2,h3,_⟩
      · rw[h1,C6 qD,ok.dead h2 hw.tail]
      · rw[h1,ih j t hw.tail h2,h3 w hw.tail]
  have aa:∀s:Int,0<=s->s<m->∃(i:Nat) (t:Int),s=((i:Nat):Int)∧st[i]?=some t:=λs h1 h2=>by
    obtain ⟨i,rfl⟩:=Int.eq_ofNat_of_zero_le h1;exact ⟨i,st[i]'(by omega),O,List.getElem?_eq_getElem _⟩
  refine ⟨m,b,λw hw=>hb w 0 d.start hw h0,?_,?_⟩
  · intro s t s0 s1 t0 t1 he;obtain ⟨i,p,rfl,hp⟩:=aa s s0 s1;obtain ⟨j,q,rfl,hq⟩:=aa t t0 t1;have:=hinj i j p q hp hq λw hw=>by rw[<-hb w i p hw hp,<-hb w j q hw hq];exact he w hw
    omega
  · intro s x hx h1;rcases Int.lt_or_le s 0 with h2|h2
    · rw[E3 h2] at h1;omega
    · rcases Int.lt_or_le s m with h3|h3
      · obtain ⟨i,p,rfl,hp⟩:=aa s h2 h3;rcases hnext i x p hp hx with ⟨h4,_⟩|⟨j,t,h4,h5,_,w,hw,h7⟩
        · omega
        · exact ⟨w,hw,by rw[h4,hb w j t hw h5];exact h7⟩
      · exfalso;unfold Bu at h1;have e:C.next[s.toNat]?=none:=List.getElem?_eq_none (by rw[b.ok.nl];omega);rw[if_neg qO] at h1;simp[List.getD_eq_getElem?_getD,e] at h1
--END
end Go.Proofs
namespace Go.Proofs
open Go Go.Eng Go.Sort
--BEGIN
theorem Do:∀{l m:List Nat},l.Nodup->(∀x∈l,x∈m)->l.length<=m.length
 | [],_,_,_=>Nat.zero_le _
 | x::l,m,hd,h=>by
  have a:=List.nodup_cons.1 hd;have b:=h x List.mem_cons_self;have d:=Do (l:=l) (m:=m.erase x) a.2 λy c=>(List.mem_erase_of_ne (show y≠x from λe=>a.1 (by rw[<-e];exact c))).2 (h y (List.mem_cons_of_mem _ c));rw[List.length_erase_of_mem b] at d;have:=List.length_pos_of_mem b;simp only[List.length_cons];omega
structure Num (keys:List (Option (List Int))) (ks:List (List Int)) (out:List Int):Prop where
 len:out.length=keys.length
 nd:ks.Nodup
 non:∀(s:Nat),keys[s]?=some none->out[s]?=some (-1)
 som:∀(s:Nat) k,keys[s]?=some (some k)->∃j:Nat,out[s]?=some ((j:Nat):Int)∧ks[j]?=some k
 all:∀k∈ks,some k∈keys
theorem Num.start:Num [] [] []:=⟨O,List.nodup_nil,λs h=>by simp at h,λs k h=>by simp at h,λk h=>by cases h⟩
theorem BI {α:Type} {l:List α} {a x:α} {i:Nat} (h:(l++[a])[i]?=some x):l[i]?=some x∨(i=l.length∧x=a):=by
 rcases Nat.lt_or_ge i l.length with b|b
 .left;rwa [List.getElem?_append_left b] at h
 .right;rw[List.getElem?_append_right b] at h;have c:=AG h;simp at c;rw[show i - l.length=0 by omega] at h;simp at h;exact ⟨qO,h.symm⟩
theorem Num.none {keys:List (Option (List Int))} {b:List (List Int)} {out:List Int} (h:Num keys b out):Num (keys++[Option.none]) b (out++[-1]):=by
 refine ⟨by simp[h.len],h.nd,λs hs=>?_,λs k hs=>?_,λk f=>List.mem_append_left _ (h.all k f)⟩
 .rcases BI hs with a|⟨a,_⟩
  .have:=h.non s a
   rwa [List.getElem?_append_left (AG this)]
  .rw[a,List.getElem?_append_right (by rw[h.len];exact Nat.le_refl _),h.len,Nat.sub_self];rfl
 .rcases BI hs with a|⟨_,e⟩
  .obtain ⟨j,c,d⟩:=h.som s k a;exact ⟨j,by rw[List.getElem?_append_left (AG c)];exact c,d⟩
  .cases e
theorem Num.hit {keys:List (Option (List Int))} {b:List (List Int)} {out:List Int} {k:List Int} {j:Nat} (h:Num keys b out) (g:b[j]?=some k):Num (keys++[some k]) b (out++[((j:Nat):Int)]):=by
 refine ⟨by simp[h.len],h.nd,λs hs=>?_,λs q hs=>?_,λq e=>List.mem_append_left _ (h.all q e)⟩
 .rcases BI hs with a|⟨_,c⟩
  .have:=h.non s a
   rwa [List.getElem?_append_left (AG this)]
  .cases c
 .rcases BI hs with a|⟨a,c⟩
  .obtain ⟨i,d,f⟩:=h.som s q a;exact ⟨i,by rw[List.getElem?_append_left (AG d)];exact d,f⟩
  .cases c;exact ⟨j,by rw[a,List.getElem?_append_right (by rw[h.len];exact Nat.le_refl _),h.len,Nat.sub_self];rfl,g⟩
theorem Num.new {keys:List (Option (List Int))} {d:List (List Int)} {out:List Int} {k:List Int} (h:Num keys d out) (n:k∉d):Num (keys++[some k]) (d++[k]) (out++[((d.length:Nat):Int)]):=by
 refine ⟨by simp[h.len],?_,λs hs=>?_,λs q hs=>?_,λq m=>?_⟩
 .rw[List.nodup_append];exact ⟨h.nd,qP,λa o b g=>by rw[List.mem_singleton] at g;subst g;exact λe=>n (e▸o)⟩
 .rcases BI hs with c|⟨_,f⟩
  .have:=h.non s c
   rwa [List.getElem?_append_left (AG this)]
  .cases f
 .rcases BI hs with c|⟨c,f⟩
  .obtain ⟨i,l,j⟩:=h.som s q c;exact ⟨i,by rw[List.getElem?_append_left (AG l)];exact l,by rw[List.getElem?_append_left (AG j)];exact j⟩
  .cases f;exact ⟨d.length,by rw[c,List.getElem?_append_right (by rw[h.len];exact Nat.le_refl _),h.len,Nat.sub_self];rfl,qP⟩
 .rcases List.mem_append.1 m with c|c
  .exact List.mem_append_left _ (h.all q c)
  .rw[List.mem_singleton] at c;subst c;simp
theorem Num.eq_iff {keys:List (Option (List Int))} {g:List (List Int)} {out:List Int} (h:Num keys g out) {s t:Nat} {k q:List Int} (hs:keys[s]?=some (some k)) (n:keys[t]?=some (some q)):out[s]?=out[t]?↔k=q:=by
 obtain ⟨i,m,c⟩:=h.som s k hs;obtain ⟨j,l,a⟩:=h.som t q n;rw[m,l];constructor
 .intro e;have:i=j:=by simp at e;omega
  subst this;rw[c] at a;exact Option.some.inj a
 .intro e;subst e;have hi:=AG c;have d:=AG a;rw[List.getElem?_eq_getElem hi] at c;rw[List.getElem?_eq_getElem d] at a;have f:=(Option.some.inj c).trans (Option.some.inj a).symm;have:i=j:=by
   rcases Nat.lt_trichotomy i j with b|b|b
   .exact absurd f (List.pairwise_iff_getElem.1 h.nd i j hi d b)
   .exact b
   .exact absurd f.symm (List.pairwise_iff_getElem.1 h.nd j i d hi b)
  rw[this]
def CH (p:List Int) (s:Int):Int:=if s<0 then -1 else p.getD s.toNat (-1)
theorem CV {p:List Int} {s:Nat} {x:Int} (h:p[s]?=some x):CH p ((s:Nat):Int)=x:=by
 unfold CH;rw[if_neg qO,Int.toNat_natCast,List.getD_eq_getElem?_getD,h,Option.getD_some]
theorem Gj {p:List Int} {s:Int} (h:s<0):CH p s = -1:=by unfold CH;rw[if_pos h]
structure Refd (n c:Nat) (d:Dfa) (p:List Int) (cnt:Nat):Prop where
 len:p.length=n
 dead:∀s:Nat,s<n->¬BG c d s->p[s]?=some (-1)
 liv:∀s:Nat,s<n->BG c d s->∃j:Nat,p[s]?=some ((j:Nat):Int)∧j<cnt
 onto:∀j:Nat,j<cnt->∃s:Nat,s<n∧BG c d s∧p[s]?=some ((j:Nat):Int)
 acc:∀s t:Nat,s<n->t<n->BG c d s->BG c d t->p[s]?=p[t]?->Co d s=Co d t
 eqv:∀s t:Nat,s<n->t<n->BG c d s->BG c d t->Ea c d s t->p[s]?=p[t]?
theorem Refd.cnt_le {n c b:Nat} {d:Dfa} {p:List Int} (h:Refd n c d p b):b<=n:=by
 -- each number has a state
 have i:∀k,k<=b->∃l:List Nat,l.length=k∧l.Nodup∧(∀s∈l,s<n∧∃j:Nat,j<k∧p[s]?=some ((j:Nat):Int)):=by
  intro k
  induction k with
  | zero=>exact λ_=>⟨[],O,List.nodup_nil,λs h=>by cases h⟩
  | succ k ih=>
   intro hk;obtain ⟨l,o,g,f⟩:=ih qO;obtain ⟨s,hs,_,q⟩:=h.onto k qO;refine ⟨s::l,by simp[o],List.nodup_cons.2 ⟨λw=>?_,g⟩,λt x=>?_⟩
   .obtain ⟨_,j,hj,e⟩:=f s w;rw[q] at e;simp at e;omega
   .rcases List.mem_cons.1 x with rfl|v
    .exact ⟨hs,k,qO,q⟩
    .obtain ⟨u,j,h6,r⟩:=f t v;exact ⟨u,j,qO,r⟩
 obtain ⟨l,o,g,f⟩:=i b (Nat.le_refl _);have:=Do (m:=List.range n) g λs hs=>List.mem_range.2 (f s hs).1;simpa[o] using this
theorem Refd.ptLive {n c cnt:Nat} {d:Dfa} {p:List Int} (h:Refd n c d p cnt) {s:Int} (hs : -1<=s∧s<n):(0<=CH p s↔BG c d s)∧-1<=CH p s:=by
 rcases Int.lt_or_le s 0 with h1|h1
 ·rw[Gj h1];exact ⟨⟨λh=>absurd h qD,λh=>absurd h (CC h1)⟩,Int.le_refl _⟩
 ·obtain ⟨k,rfl⟩:=Int.eq_ofNat_of_zero_le h1;by_cases hl:BG c d ((k:Nat):Int)
  ·obtain ⟨j,h2,_⟩:=h.liv k qO hl;rw[CV h2];exact ⟨⟨λ_=>hl,λ_=>qO⟩,qO⟩
  ·rw[CV (h.dead k qO hl)];exact ⟨⟨λh=>absurd h qD,λh=>absurd h hl⟩,Int.le_refl _⟩
theorem Refd.ptEqv {n c g:Nat} {d:Dfa} {p:List Int} (h:Refd n c d p g) {s t:Int} (hs : -1<=s∧s<n) (y : -1<=t∧t<n) (l:Ea c d s t):CH p s=CH p t:=by
 obtain ⟨v,a2⟩:=h.ptLive hs;obtain ⟨x,b2⟩:=h.ptLive y;by_cases f:BG c d s
 .have b:=l.live f;have u:0<=s:=by rcases Int.lt_or_le s 0 with e|e;exact absurd f (CC e);exact e
  have o:0<=t:=by rcases Int.lt_or_le t 0 with e|e;exact absurd b (CC e);exact e
  obtain ⟨i,rfl⟩:=Int.eq_ofNat_of_zero_le u;obtain ⟨j,rfl⟩:=Int.eq_ofNat_of_zero_le o;have m:=h.eqv i j qO qO f b l;obtain ⟨a,k,_⟩:=h.liv i qO f;rw[CV k,CV (m▸k)]
 .have b:¬BG c d t:=λr=>f (Ea.live (λw q=>(l w q).symm) r);have m:¬0<=CH p s:=λh=>f (v.1 h);have k:¬0<=CH p t:=λh=>b (x.1 h);omega
def DS (c:Nat) (d:Dfa) (p:List Int) (s:Nat):List Int:=CH p s::(List.range c).map λx=>CH p (Bu d s x)
theorem Em {c:Nat} {d:Dfa} {p:List Int} {s t:Nat}:DS c d p s=DS c d p t↔CH p s=CH p t∧∀x,x<c->CH p (Bu d s x)=CH p (Bu d t x):=by
 unfold DS;rw[List.cons.injEq];constructor
 .rintro ⟨a,b⟩;refine ⟨a,λx e=>?_⟩;have:=congrArg (λl=>l[x]?) b;simpa[e] using this
 .rintro ⟨a,b⟩;exact ⟨a,List.map_congr_left λx e=>b x (List.mem_range.1 e)⟩
theorem Refd.of_num {n c:Nat} {d:Dfa} {keys:List (Option (List Int))} {x:List (List Int)} {q:List Int} (b:Num keys x q) (y:keys.length=n) (hd:∀s:Nat,s<n->¬BG c d s->keys[s]?=some none) {a:Nat->List Int} (g:∀s:Nat,s<n->BG c d s->keys[s]?=some (some (a s)))
 (A:∀s t:Nat,s<n->t<n->BG c d s->BG c d t->a s=a t->Co d s=Co d t) (B:∀s t:Nat,s<n->t<n->BG c d s->BG c d t->Ea c d s t->a s=a t):Refd n c d q x.length:=by
 refine ⟨by rw[b.len,y],λs hs h=>b.non s (hd s hs h),λs hs h=>?_,λj u=>?_,λs t hs o m l h=>?_,λs t hs o m l h=>?_⟩
 .obtain ⟨j,v,f⟩:=b.som s _ (g s hs h);exact ⟨j,v,AG f⟩
 .obtain ⟨k,e⟩:=AK u;obtain ⟨s,hs⟩:=List.getElem?_of_mem (b.all k (List.mem_of_getElem? e));have r:s<n:=by rw[<-y];exact AG hs
  have w:BG c d s:=Classical.byContradiction λh=>by rw[hd s r h] at hs;cases hs
  obtain ⟨i,v,f⟩:=b.som s k hs;refine ⟨s,r,w,?_⟩;have hi:=AG f;rw[List.getElem?_eq_getElem hi] at f;rw[List.getElem?_eq_getElem u] at e;have z:=(Option.some.inj f).trans (Option.some.inj e).symm;have:i=j:=by
   rcases Nat.lt_trichotomy i j with p|p|p
   .exact absurd z (List.pairwise_iff_getElem.1 b.nd i j hi u p)
   .exact p
   .exact absurd z.symm (List.pairwise_iff_getElem.1 b.nd j i u hi p)
  rw[<-this];exact v
 .exact A s t hs o m l ((b.eq_iff (g s hs m) (g t o l)).1 h)
 .exact (b.eq_iff (g s hs m) (g t o l)).2 (B s t hs o m l h)
structure PartsOf (n c:Nat) (d:Dfa) (q:List Int):Prop where
 len:q.length=n
 live:∀s:Int,-1<=s∧s<n->(0<=CH q s↔BG c d s)∧-1<=CH q s∧CH q s<n
 iff:∀s t:Int,-1<=s∧s<n->-1<=t∧t<n->(CH q s=CH q t↔Ea c d s t)
theorem Refd.same {n c g:Nat} {d:Dfa} {p q:List Int} (Q:Refd n c d p g) (B:Refd n c d q g) (hf:∀s t:Nat,s<n->t<n->BG c d s->BG c d t->q[s]?=q[t]?->p[s]?=p[t]?) :
 ∀s t:Nat,s<n->t<n->BG c d s->BG c d t->p[s]?=p[t]?->q[s]?=q[t]?:=by
 intro s t hs U S M J;apply Classical.byContradiction;intro H;obtain ⟨a,N,r⟩:=B.liv s hs S;obtain ⟨b,P,F⟩:=B.liv t U M;have L:a≠b:=λe=>H (by rw[N,P,e])
 -- each number of q other than b goes to a number of p; all are met
 have x:∀j:Nat,∃i:Nat,j<g->(i<g∧∀u:Nat,u<n->BG c d u->q[u]?=some ((j:Nat):Int)->p[u]?=some ((i:Nat):Int)):=by
  intro j;by_cases C:j<g
  .obtain ⟨u,w,y,D⟩:=B.onto j C;obtain ⟨i,hi,G⟩:=Q.liv u w y;refine ⟨i,λ_=>⟨G,λv Z V I=>?_⟩⟩;rw[<-hf u v w Z y V (by rw[D,I])];exact hi
  .exact ⟨0,λh=>absurd h C⟩
 obtain ⟨f,k⟩:=Classical.axiomOfChoice x;have E:=Do (l:=List.range g) (m:=((List.range g).erase b).map f) List.nodup_range λi hi=>by
  rw[List.mem_range] at hi;obtain ⟨u,w,y,K⟩:=Q.onto i hi;obtain ⟨j,C,o⟩:=B.liv u w y;have T:=(k j o).2 u w y C;rw[K] at T;have z:f j=i:=by simp at T;omega
  by_cases A:j=b
  .-- then a serves
   subst A;have R:=(k a r).2 s hs S N;have X:=(k j o).2 t U M P;have W:f a=f j:=by rw[J,X] at R;simp at R;omega
   refine List.mem_map.2 ⟨a,(List.mem_erase_of_ne L).2 (List.mem_range.2 r),by rw[W,z]⟩
  .exact List.mem_map.2 ⟨j,(List.mem_erase_of_ne A).2 (List.mem_range.2 o),z⟩
 rw[List.length_map,List.length_erase_of_mem (List.mem_range.2 F),List.length_range] at E;omega
theorem Refd.final {n c F:Nat} {d:Dfa} {p q:List Int} (ok:OkD n c d) (K:Refd n c d p F) (g:Refd n c d q F)
 (S:∀s t:Nat,s<n->t<n->BG c d s->BG c d t->(q[s]?=q[t]?↔DS c d p s=DS c d p t)):PartsOf n c d q:=by
 have H:∀s:Nat,s<n->BG c d s->∃a:Nat,p[s]?=some ((a:Nat):Int)∧CH p s=((a:Nat):Int):=λs hs l=>by
  obtain ⟨a,e,_⟩:=K.liv s hs l;exact ⟨a,e,CV e⟩
 have D:∀s t:Nat,s<n->t<n->BG c d s->BG c d t->(p[s]?=p[t]?↔CH p s=CH p t):=λs t hs y M I=>by
  obtain ⟨a,e,r⟩:=H s hs M;obtain ⟨b,A,Q⟩:=H t y I;rw[e,r,A,Q];simp
 have B:=K.same g λs t hs y M I h=>(D s t hs y M I).2 (Em.1 ((S s t hs y M I).1 h)).1;have P:∀w,C0 c w->∀s t:Int,-1<=s∧s<n->-1<=t∧t<n->CH q s=CH q t->beh d s w=beh d t w:=by
  intro w
  induction w with
  | nil=>
   intro z s t hs y h;obtain ⟨G,V⟩:=g.ptLive hs;obtain ⟨E,b2⟩:=g.ptLive y;by_cases m:BG c d s
   .have f:BG c d t:=E.1 (by rw[<-h];exact G.2 m);have C:0<=s:=by rcases Int.lt_or_le s 0 with e|e;exact absurd m (CC e);exact e
    have R:0<=t:=by rcases Int.lt_or_le t 0 with e|e;exact absurd f (CC e);exact e
    obtain ⟨i,rfl⟩:=Int.eq_ofNat_of_zero_le C;obtain ⟨j,rfl⟩:=Int.eq_ofNat_of_zero_le R;obtain ⟨a,e,_⟩:=g.liv i qO m;obtain ⟨b,r,_⟩:=g.liv j qO f;rw[CV e,CV r] at h;exact g.acc i j qO qO m f (by rw[e,r,h])
   .have f:¬BG c d t:=λr=>m (G.1 (by rw[h];exact E.2 r));rw[ok.dead m z,ok.dead f z]
  | cons x w ih=>
   intro z s t hs y h;obtain ⟨G,V⟩:=g.ptLive hs;obtain ⟨E,b2⟩:=g.ptLive y;by_cases m:BG c d s
   .have f:BG c d t:=E.1 (by rw[<-h];exact G.2 m);have C:0<=s:=by rcases Int.lt_or_le s 0 with e|e;exact absurd m (CC e);exact e
    have R:0<=t:=by rcases Int.lt_or_le t 0 with e|e;exact absurd f (CC e);exact e
    obtain ⟨i,rfl⟩:=Int.eq_ofNat_of_zero_le C;obtain ⟨j,rfl⟩:=Int.eq_ofNat_of_zero_le R;obtain ⟨a,e,_⟩:=g.liv i qO m;obtain ⟨b,r,_⟩:=g.liv j qO f;rw[CV e,CV r] at h;have A:=(Em.1 ((S i j qO qO m f).1 (by rw[e,r,h]))).2 x z.head;have N:=ok.to (s:=((i:Nat):Int)) (x:=x);have L:=ok.to (s:=((j:Nat):Int)) (x:=x);simp only[beh];refine ih z.tail _ _ N L ?_;obtain ⟨c1,c2⟩:=K.ptLive N;obtain ⟨T,d2⟩:=K.ptLive L;obtain ⟨U,e2⟩:=g.ptLive N;obtain ⟨Z,f2⟩:=g.ptLive L;by_cases o:BG c d (Bu d ((i:Nat):Int) x)
    .have k:BG c d (Bu d ((j:Nat):Int) x):=T.1 (by rw[<-A];exact c1.2 o);obtain ⟨u,W⟩:=Int.eq_ofNat_of_zero_le (show 0<=Bu d ((i:Nat):Int) x by rcases Int.lt_or_le (Bu d ((i:Nat):Int) x) 0 with e|e;exact absurd o (CC e);exact e);obtain ⟨v,X⟩:=Int.eq_ofNat_of_zero_le (show 0<=Bu d ((j:Nat):Int) x by rcases Int.lt_or_le (Bu d ((j:Nat):Int) x) 0 with e|e;exact absurd k (CC e);exact e);rw[W] at o A N⊢;rw[X] at k A L⊢;have Q:=B u v qO qO o k ((D u v qO qO o k).2 A);obtain ⟨a',J,_⟩:=g.liv u qO o;rw[CV J,CV (Q▸J)]
    .have k:¬BG c d (Bu d ((j:Nat):Int) x):=λr=>o (c1.1 (by rw[A];exact T.2 r));have J:¬0<=CH q (Bu d ((i:Nat):Int) x):=λh=>o (U.1 h);have h6:¬0<=CH q (Bu d ((j:Nat):Int) x):=λh=>k (Z.1 h);omega
   .have f:¬BG c d t:=λr=>m (G.1 (by rw[h];exact E.2 r));rw[ok.dead m z,ok.dead f z]
 refine ⟨g.len,λs hs=>⟨(g.ptLive hs).1,(g.ptLive hs).2,?_⟩,λs t hs y=>⟨λh w z=>P w z s t hs y h,λh=>g.ptEqv hs y h⟩⟩;have hcn:=g.cnt_le;by_cases m:BG c d s
 .have C:0<=s:=by rcases Int.lt_or_le s 0 with e|e;exact absurd m (CC e);exact e
  obtain ⟨i,rfl⟩:=Int.eq_ofNat_of_zero_le C;obtain ⟨a,e,r⟩:=g.liv i qO m;rw[CV e];omega
 .have:=(g.ptLive hs).1;have J:¬0<=CH q s:=λh=>m (this.1 h);have:=hs.1;have hst:=ok.st;omega
--END
end Go.Proofs
namespace Go.Proofs
open Go Go.Eng Go.Sort
--BEGIN
structure IntoP (n c:Nat) (d:Dfa) (into:List (List Int)) (s k:Nat):Prop where
 len:into.length=n
 snd:∀(t:Nat) l,into[t]?=some l->∀x∈l,0<=x∧x<n∧∃y,y<c∧Bu d x y=((t:Nat):Int)
 cmp:∀s' y:Nat,y<c->(s'<s∨(s'=s∧y<k))->0<=Bu d ((s':Nat):Int) y->∃l,into[(Bu d ((s':Nat):Int) y).toNat]?=some l∧((s':Nat):Int)∈l
 sht:∀l∈into,l.length<=s*c+k
theorem IntoP.start (n c:Nat) (d:Dfa):IntoP n c d (List.replicate n []) 0 0:=by
 have b:∀(t:Nat) l,(List.replicate n ([]:List Int))[t]?=some l->l=[]:=λt l h=>(List.mem_replicate.1 (List.mem_of_getElem? h)).2;exact ⟨qP,λt l h x a=>(by rw[b t l h] at a;cases a),λs' y _ h=>qO,λl e=>by rw[(List.mem_replicate.1 e).2];exact Nat.zero_le _⟩
theorem IntoP.row {n c s k:Nat} {d:Dfa} {a:List (List Int)} (h:IntoP n c d a s k) (g:k=c):IntoP n c d a (s+1) 0:=by
 subst g;exact ⟨h.len,h.snd,λe y b h1 f=>h.cmp e y b qO f,λl i=>by have:=h.sht l i;rw[Nat.add_mul];omega⟩
theorem IntoP.skip {n c s k:Nat} {d:Dfa} {into:List (List Int)} (h:IntoP n c d into s k) (ht:Bu d ((s:Nat):Int) k<0):IntoP n c d into s (k+1):=by
 refine ⟨h.len,h.snd,λs' y hy h1 h2=>?_,λl hl=>by have:=h.sht l hl;omega⟩;by_cases he:s'=s∧y=k
 ·obtain ⟨rfl,rfl⟩:=he;omega
 ·exact h.cmp s' y hy qO h2
theorem IntoP.add {n c s k t:Nat} {d:Dfa} {into:List (List Int)} {l:List Int} (h:IntoP n c d into s k) (hs:s<n) (hk:k<c) (ht:Bu d ((s:Nat):Int) k=((t:Nat):Int)) (hl:into[t]?=some l):IntoP n c d (into.set t (l++[((s:Nat):Int)])) s (k+1):=by
 have ac:=AG hl;have aa:∀(i:Nat) q,(into.set t (l++[((s:Nat):Int)]))[i]?=some q->(i=t∧q=l++[((s:Nat):Int)])∨(i≠t∧into[i]?=some q):=by
  intro i q hq;rw[List.getElem?_set] at hq;split at hq
  ·rename_i he
   exact .inl ⟨he.symm,(Option.some.inj hq).symm⟩
  ·rename_i he
   exact .inr ⟨λe=>he e.symm,hq⟩
 refine ⟨by simp[h.len],λi q hq x hx=>?_,λs' y hy h1 h2=>?_,λq hq=>?_⟩
 ·rcases aa i q hq with ⟨rfl,rfl⟩|⟨_,h3⟩
  ·rcases List.mem_append.1 hx with h4|h4
   ·exact h.snd i l hl x h4
   ·rw[List.mem_singleton] at h4;subst h4;exact ⟨qO,qO,k,hk,ht⟩
  ·exact h.snd i q h3 x hx
 ·have ab:(∃q,into[(Bu d ((s':Nat):Int) y).toNat]?=some q∧((s':Nat):Int)∈q)->∃q,(into.set t (l++[((s:Nat):Int)]))[(Bu d ((s':Nat):Int) y).toNat]?=some q∧((s':Nat):Int)∈q:=by
   rintro ⟨q,h3,h4⟩;by_cases he:(Bu d ((s':Nat):Int) y).toNat=t
   ·rw[he] at h3⊢;rw[hl] at h3;cases h3;exact ⟨_,by rw[List.getElem?_set,if_pos O,if_pos ac],List.mem_append_left _ h4⟩
   ·exact ⟨q,by rw[List.getElem?_set,if_neg (λe=>he e.symm)];exact h3,h4⟩
  by_cases he:s'=s∧y=k
  ·obtain ⟨rfl,rfl⟩:=he;rw[ht,Int.toNat_natCast];exact ⟨_,by rw[List.getElem?_set,if_pos O,if_pos ac],qP⟩
  ·exact ab (h.cmp s' y hy qO h2)
 ·obtain ⟨i,hi⟩:=List.getElem?_of_mem hq;rcases aa i q hi with ⟨_,rfl⟩|⟨_,h3⟩
  ·have:=h.sht l (List.mem_of_getElem? hl);simp;omega
  ·have:=h.sht q (List.mem_of_getElem? h3);omega
structure LiveP (n c:Nat) (d:Dfa) (M:List Bool) (work:List Int) (k:Nat):Prop where
 len:M.length=n
 wrk:∀x∈work,∃i:Nat,x=((i:Nat):Int)∧M[i]?=some true
 snd:∀i:Nat,M[i]?=some true->BG c d ((i:Nat):Int)
 acc:∀i:Nat,i<k->0<=Co d ((i:Nat):Int)->M[i]?=some true
 cnt:work.length+M.countP (λb=>!b)<=n
theorem LiveP.start (n c:Nat) (d:Dfa):LiveP n c d (List.replicate n false) [] 0:=by
 refine ⟨qP,λx h=>(by cases h),λi h=>?_,λi h=>qO,?_⟩
 .have:=(List.mem_replicate.1 (List.mem_of_getElem? h)).2;cases this
 .simp[List.countP_replicate]
theorem count_set {M:List Bool} {i:Nat} (h:M[i]?=some false):(M.set i true).countP (λb=>!b)+1=M.countP λb=>!b:=by
 have hi:=AG h;have e:M=M.take i++false::M.drop (i+1):=by
  have a:M.drop i=false::M.drop (i+1):=by
   rw[List.drop_eq_getElem_cons hi];rw[List.getElem?_eq_getElem hi] at h;rw[Option.some.inj h]
  rw[<-a,List.take_append_drop]
 have c:M.set i true=M.take i++true::M.drop (i+1):=by rw[List.set_eq_take_append_cons_drop,if_pos hi]
 rw[c]
 conv=>rhs;rw[e]
 rw[List.countP_append,List.countP_append,List.countP_cons,List.countP_cons];simp;omega
theorem FJ {M:List Bool} {i j:Nat} (h:M[j]?=some true):(M.set i true)[j]?=some true:=by
 rw[List.getElem?_set];split
 .rename_i a
  subst a;rw[if_pos (AG h)]
 .exact h
theorem K9 {M:List Bool} {i j:Nat} (h:(M.set i true)[j]?=some true):j=i∨M[j]?=some true:=by
 rw[List.getElem?_set] at h;split at h
 .rename_i a;exact .inl a.symm
 .exact .inr h
theorem LiveP.mark {n c k i:Nat} {d:Dfa} {M:List Bool} {work:List Int} (h:LiveP n c d M work k) (e:M[i]?=some false) (g:BG c d ((i:Nat):Int)):LiveP n c d (M.set i true) (work++[((i:Nat):Int)]) k:=by
 have hi:=AG e;refine ⟨by simp[h.len],λx l=>?_,λj b=>?_,λj b m=>FJ (h.acc j b m),?_⟩
 .rcases List.mem_append.1 l with a|a
  .obtain ⟨j,f,o⟩:=h.wrk x a;exact ⟨j,f,FJ o⟩
  .rw[List.mem_singleton] at a;exact ⟨i,a,by rw[List.getElem?_set,if_pos O,if_pos hi]⟩
 .rcases K9 b with a|a
  .rw[a];exact g
  .exact h.snd j a
 .have:=count_set e;have:=h.cnt;simp;omega
theorem LiveP.next {n c k:Nat} {d:Dfa} {M:List Bool} {work:List Int} (h:LiveP n c d M work k) (e:0<=Co d ((k:Nat):Int)->M[k]?=some true):LiveP n c d M work (k+1):=
 ⟨h.len,h.wrk,h.snd,λi hi a=>by rcases Nat.lt_or_ge i k with b|b;exact h.acc i b a;obtain rfl:i=k:=qO;exact e a,h.cnt⟩
def Gg (into:List (List Int)) (M:List Bool) (work:List Int):Prop:=∀t:Nat,M[t]?=some true->((t:Nat):Int)∈work∨∀l,into[t]?=some l->∀x∈l,M[x.toNat]?=some true
theorem Gg.mark {a:List (List Int)} {M:List Bool} {work:List Int} {i:Nat} (h:Gg a M work):Gg a (M.set i true) (work++[((i:Nat):Int)]):=by
 intro t d;rcases K9 d with b|b
 .left;rw[b];simp
 .rcases h t b with c|c
  .exact .inl (List.mem_append_left _ c)
  .exact .inr λl e x f=>FJ (c l e x f)
def G2 (into:List (List Int)) (M:List Bool) (work:List Int) (u:Nat) (lu:List Int) (k:Nat):Prop:=
 (∀t:Nat,M[t]?=some true->t≠u->((t:Nat):Int)∈work∨∀l,into[t]?=some l->∀x∈l,M[x.toNat]?=some true)∧∀x∈lu.take k,M[x.toNat]?=some true
theorem Gg.open {a:List (List Int)} {M:List Bool} {work:List Int} {u:Nat} (h:Gg a M (work++[((u:Nat):Int)])) (d:List Int):G2 a M work u d 0:=by
 refine ⟨λt e hne=>?_,λx f=>by simp at f⟩;rcases h t e with b|b
 .rcases List.mem_append.1 b with c|c
  .exact .inl c
  .rw[List.mem_singleton] at c;omega
 .exact .inr b
theorem G2.seen {a:List (List Int)} {M:List Bool} {work:List Int} {u k:Nat} {c:List Int} {x:Int} (h:G2 a M work u c k) (f:c[k]?=some x) (e:M[x.toNat]?=some true):G2 a M work u c (k+1):=by
 refine ⟨h.1,λy d=>?_⟩;rw[List.take_add_one,f] at d;rcases List.mem_append.1 d with b|b
 .exact h.2 y b
 .simp at b;subst b;exact e
theorem G2.mark {a:List (List Int)} {M:List Bool} {work:List Int} {u k i:Nat} {f:List Int} (h:G2 a M work u f k) (e:f[k]?=some ((i:Nat):Int)) (j:M[i]?=some false):G2 a (M.set i true) (work++[((i:Nat):Int)]) u f (k+1):=by
 have hi:=AG j;refine ⟨λt n c=>?_,λy g=>?_⟩
 .rcases K9 n with b|b
  .left;rw[b];simp
  .rcases h.1 t b c with d|d
   .exact .inl (List.mem_append_left _ d)
   .exact .inr λl m x e=>FJ (d l m x e)
 .rw[List.take_add_one,e] at g;rcases List.mem_append.1 g with b|b
  .exact FJ (h.2 y b)
  .simp at b;subst b;rw[Int.toNat_natCast,List.getElem?_set,if_pos O,if_pos hi]
theorem G2.done {a:List (List Int)} {M:List Bool} {work:List Int} {u k:Nat} {c:List Int} (h:G2 a M work u c k) (g:a[u]?=some c) (e:k=c.length):Gg a M work:=by
 intro t f;by_cases d:t=u
 .subst d;right;intro l b x i;rw[g] at b;cases b;exact h.2 x (by rw[e,List.take_length];exact i)
 .exact h.1 t f d
structure LiveOf (n c:Nat) (d:Dfa) (M:List Bool):Prop where
 len:M.length=n
 iff:∀s:Nat,s<n->(M[s]?=some true↔BG c d ((s:Nat):Int))
theorem NL {n c:Nat} {d:Dfa} {M:List Bool} {a:List (List Int)} (ok:OkD n c d) (p:IntoP n c d a n 0) (i:LiveP n c d M [] n) (o:Gg a M []):LiveOf n c d M:=by
 refine ⟨i.len,λs hs=>⟨i.snd s,?_⟩⟩;rintro ⟨w,b,h⟩;have f:∀(w:List Nat) (s:Nat),s<n->C0 c w->0<=beh d ((s:Nat):Int) w->M[s]?=some true:=by
  intro w
  induction w with
  | nil=>exact λs hs _ h=>i.acc s hs h
  | cons x w ih=>
   intro s hs b h;simp only[beh] at h;have r:=ok.to (s:=((s:Nat):Int)) (x:=x);rcases Int.lt_or_le (Bu d ((s:Nat):Int) x) 0 with e|e
   .rw[C6 e] at h;omega
   .obtain ⟨t,k⟩:=Int.eq_ofNat_of_zero_le e;rw[k] at h r;have q:=ih t qO b.tail h;obtain ⟨l,j,m⟩:=p.cmp s x b.head (.inl hs) e;rw[k,Int.toNat_natCast] at j;rcases o t q with g|g
    .cases g
    .have:=g l j _ m
     rwa [Int.toNat_natCast] at this
 exact f w s hs b h
--END
end Go.Proofs
namespace Go.Proofs
open Go Go.Eng
set_option maxRecDepth 100000
theorem Ad:DD prog 3 1:=by unfold DD;kernel_rfl
theorem Dj:IU prog 3 8:=by unfold IU;kernel_rfl
theorem BY:D_ prog 3 (.int .i64 0):=by unfold D_;kernel_rfl
theorem Ai:C_ prog 3=true:=by kernel_rfl
theorem EZ:DD prog 4 1:=by unfold DD;kernel_rfl
theorem VL:IU prog 4 1:=by unfold IU;kernel_rfl
theorem Uv:D_ prog 4 (.bool false):=by unfold D_;kernel_rfl
theorem E7:C_ prog 4=true:=by kernel_rfl
theorem K8:DD prog 5 1:=by unfold DD;kernel_rfl
theorem Ue:IU prog 5 1:=by unfold IU;kernel_rfl
theorem SB:D_ prog 5 (.int .u8 0):=by unfold D_;kernel_rfl
theorem VC:C_ prog 5=true:=by kernel_rfl
theorem PO:DD prog 9 1:=by unfold DD;kernel_rfl
theorem Vm:IU prog 9 16:=by unfold IU;kernel_rfl
theorem SA:D_ prog 9 (.string ByteArray.empty):=by unfold D_;kernel_rfl
theorem MY:C_ prog 9=true:=by kernel_rfl
theorem Ay:DD prog 22 1:=by unfold DD;kernel_rfl
theorem IR:IU prog 22 24:=by unfold IU;kernel_rfl
theorem DY:D_ prog 22 (.slice none 0 0):=by unfold D_;kernel_rfl
theorem Ax:C_ prog 22=true:=by kernel_rfl
theorem Lu:DD prog 27 1:=by unfold DD;kernel_rfl
theorem Tf:D_ prog 27 (.int .i64 0):=by unfold D_;kernel_rfl
theorem JX:C_ prog 27=true:=by kernel_rfl
theorem C4:DD prog 37 1:=by unfold DD;kernel_rfl
theorem Tn:IU prog 37 24:=by unfold IU;kernel_rfl
theorem OM:D_ prog 37 (.slice none 0 0):=by unfold D_;kernel_rfl
theorem DW:C_ prog 37=true:=by kernel_rfl
theorem A':DD prog 46 1:=by unfold DD;kernel_rfl
theorem A4:C_ prog 46=true:=by kernel_rfl
theorem Aw:DD prog 48 3:=by unfold DD;kernel_rfl
theorem Ce:D_ prog 48 (.agg #[(.int .i64 0),(.slice none 0 0),(.slice none 0 0)]):=by unfold D_;kernel_rfl
theorem BB:Gw prog 48=true:=by kernel_rfl
theorem Lt:DD prog 66 1:=by unfold DD;kernel_rfl
theorem JW:C_ prog 66=true:=by kernel_rfl
theorem Ca:DD prog 68 6:=by unfold DD;kernel_rfl
theorem Lm:D_ prog 68 (.agg #[(.int .i64 0),(.slice none 0 0),(.slice none 0 0),(.int .i64 0),(.int .i64 0),(.bool false)]):=by unfold D_;kernel_rfl
theorem DK:Gw prog 68=true:=by kernel_rfl
theorem Ls:DD prog 69 1:=by unfold DD;kernel_rfl
theorem Uu:D_ prog 69 (.slice none 0 0):=by unfold D_;kernel_rfl
theorem G9:C_ prog 69=true:=by kernel_rfl
theorem EM:DD prog 87 1:=by unfold DD;kernel_rfl
theorem VK:IU prog 87 24:=by unfold IU;kernel_rfl
theorem Te:D_ prog 87 (.slice none 0 0):=by unfold D_;kernel_rfl
theorem D3:C_ prog 87=true:=by kernel_rfl
theorem CJ:DD prog 94 2:=by unfold DD;kernel_rfl
theorem O0:IU prog 94 16:=by unfold IU;kernel_rfl
theorem FF:D_ prog 94 (.agg #[(.int .i64 0),(.int .i64 0)]):=by unfold D_;kernel_rfl
theorem GF:Gw prog 94=true:=by kernel_rfl
theorem T6:DD prog 111 2:=by unfold DD;kernel_rfl
theorem Io:D_ prog 111 (.agg #[(.int .i64 0),(.int .i64 0)]):=by unfold D_;kernel_rfl
theorem Hm:DD prog 117 2:=by unfold DD;kernel_rfl
theorem Uf:IU prog 117 48:=by unfold IU;kernel_rfl
theorem K2:D_ prog 117 (.agg #[(.slice none 0 0),(.slice none 0 0)]):=by unfold D_;kernel_rfl
theorem Ul:Gw prog 117=true:=by kernel_rfl
theorem T5:DD prog 162 1:=by unfold DD;kernel_rfl
theorem Tt:D_ prog 162 (.slice none 0 0):=by unfold D_;kernel_rfl
theorem LO:C_ prog 162=true:=by kernel_rfl
theorem T4:DD prog 228 1:=by unfold DD;kernel_rfl
theorem Ts:D_ prog 228 .nilFunc:=by unfold D_;kernel_rfl
theorem Ik:C_ prog 228=true:=by kernel_rfl
theorem T3:DD prog 263 1:=by unfold DD;kernel_rfl
theorem Tr:D_ prog 263 .nilFunc:=by unfold D_;kernel_rfl
theorem Ot:C_ prog 263=true:=by kernel_rfl
theorem mixed:prog.follows .mixedOrders=true:=by kernel_rfl
end Go.Proofs
namespace Go.Eng
open Go
def Cq (l:List (Int×Int)) (r:Int):Bool:=l.any λs=>decide (s.1<=r) && decide (r<=s.2)
theorem BD {w:World} {base e size n:Nat} {v:Value} {xs:List Value} (h:w.ownsRow base e size v n xs):∃a c,v=.slice a n c:=by
 rcases h.2 with ⟨rfl,rfl⟩|⟨g,cap,cur,rfl,_⟩
 .exact ⟨_,_,O⟩
 .exact ⟨_,_,O⟩
theorem Av {M:Nat->Prop} {w w':World} {base e size n:Nat} {v:Value} {xs:List Value} (h:w.ownsRow base e size v n xs) (c:Chg M w w') (i:∀k,v.ownBlock=some k->¬M k):w'.ownsRow base e size v n xs:=by
 refine ⟨h.1,?_⟩;rcases h.2 with f|⟨g,cap,b,rfl,d,a,rest⟩
 .exact .inl f
 .refine .inr ⟨g,cap,b,O,d,?_,rest⟩;rw[c.blk g (Array.getElem?_eq_some_iff.1 a).1 (i g O)];exact a
theorem Sg {w:World} {base e size n m cap:Nat} {a:Option Addr} {xs:List Value} (h:w.ownsRow base e size (.slice a n cap) n xs) (o:m<=n) (h0:0<n):w.ownsRow base e size (.slice a m cap) m (xs.take (m*size)):=by
 rcases h.2 with ⟨h1,rfl⟩|⟨g,cap',c,k,l,j,hnc,d,i,b⟩
 .omega
 .simp only[Value.slice.injEq] at k;obtain ⟨rfl,_,rfl⟩:=k;have f:m*size<=n*size:=Nat.mul_le_mul_right _ o;refine ⟨by rw[List.length_take,h.1];omega,.inr ⟨g,cap,c,O,l,j,qO,d,i,?_⟩⟩;rw[<-b,List.take_take,Nat.min_eq_left f]
theorem Am {w w':World} {base e size n:Nat} {v:Value} {xs:List Value} (h:w.ownsRow base e size v n xs) (c:Al w w'):w'.ownsRow base e size v n xs:=Av h c λ_ _ f=>f
theorem BS {w:World} {base e size n:Nat} {a:Option Addr} {c:Nat} {xs:List Value} (h:w.ownsRow base e size (.slice a n c) n xs) (hn:0<n) :
 ∃g,a=some ⟨g,0,none⟩∧base<=g∧BA w g 0 xs:=by
 rcases h.2 with ⟨h1,rfl⟩|⟨g,cap,cur,b,d,hgg,_,_,_,htake⟩
 .omega
 .simp only[Value.slice.injEq] at b;obtain ⟨rfl,_,rfl⟩:=b;refine ⟨g,O,d,λi v b=>?_⟩;have:=h.cells (g:=g) O i v b
  rwa [Addr.add_lit] at this
theorem EO {w:World} {base e k n:Nat} {v:Value} {rows:List (List Value)} (h:w.ownsRow base e k v n rows.flatten) (p:∀r∈rows,r.length=k) (m:rows.length=n) (hpos:0<k):BO w k v rows:=by
 obtain ⟨t,s⟩:=h;rcases s with ⟨rfl,rfl⟩|⟨g,cap,cur,rfl,hb,c,hnc,f,hcs,a⟩
 .have:rows=[]:=List.eq_nil_of_length_eq_zero m;subst this;exact BO.nil w k _ _
 .refine ⟨_,cap,by rw[m],by simp only[maxLen] at f;omega,qO,.inr ⟨g,0,O,λi r b j u o=>?_⟩⟩;have d:(rows.flatten)[i*k+j]?=some u:=by
   clear a c t m
   induction rows generalizing i with
   | nil=>simp at b
   | cons x rs ih=>
    have q:x.length=k:=p x qP;cases i with
    | zero=>
     simp at b;subst b;have y:=AG o;simp only[List.flatten_cons,Nat.zero_mul,Nat.zero_add];rw[List.getElem?_append_left y];exact o
    | succ i=>
     simp at b;simp only[List.flatten_cons];rw[List.getElem?_append_right (by rw[q,Nat.succ_mul];omega)];rw[show (i+1)*k+j - x.length=i*k+j from by rw[q,Nat.succ_mul];omega];exact ih (λr b=>p r (by simp[b])) _ b
  rw[<-a] at d;have l:i*k+j<n*k:=by
   have:=AG d;simp at this;omega
  rw[List.getElem?_take_of_lt l] at d;show w.cell? ⟨g,0+i*k+j,none⟩=some u;rw[Nat.zero_add];simp only[World.cell?,c];simpa using d
theorem Hd {P:Program} {w w':World} {base t ty e size bytes n m c:Nat} {i:TypeInfo} {z v v':Value} {xs news:List Value} {a:Addr} (G:P.underlying t=some (.slice e)) (hi:P.info? e=some i) (I:i.zero=some z) (l:i.size=size) (r:i.bytes=bytes) (E:z.cells.size=size) (D:0<size)
 (d:w.ownsRow base e size v n xs) (B:news.length=m*size) (b:∀j u,news[j]?=some u->w.cell? (a.add j)=some u) (H:∀u∈news,u.oneCell'=true) (y:n+m<=maxLen) (f:(n+m)*bytes<=140737488355328)
 (q:(Builtin.append_ #[t,t] ty #[v,.slice (some a) m c]).run P w=.ok v' w'):∀k,v'.ownBlock=some k->v.ownBlock=some k∨w.heap.size<=k:=by
 rcases d.2 with ⟨rfl,rfl⟩|⟨g,cap,s,rfl,hbg,K,hnc,hcm,C,htake⟩
 .have J:xs=[]:=List.eq_nil_of_length_eq_zero (by simpa using d.1);subst J;obtain ⟨v2,w2,h,F,_⟩:=run_append_own (P:=P) w w.heap.size t ty e i z size bytes G hi I l r E D (.slice none 0 0) 0 [] (World.ownsRow_nil w w.heap.size e size) a m c news B b H y f (Nat.le_refl _);rw[h] at q;cases q;intro k x;exact .inr (F.lt k x).1
 .have hsmall:n+m<=9223372036854775807:=by simp only[maxLen] at y;omega
  subst l;subst r
  by_cases o:n+m<=cap
  .have A:n*i.size+news.length<=s.size:=by rw[B,C,<-Nat.add_mul];exact Nat.mul_le_mul_right _ o
   have h:=run_append_room (P:=P) w t ty e i G hi g n cap s K a m c news B b H o A;rw[h] at q;cases q;intro k x;exact .inl x
  .have p:∀j u,xs[j]?=some u->w.cell? ((⟨g,0,none⟩:Addr).add j)=some u:=d.cells (g:=g) O;have h:=run_append_grow (P:=P) w t ty e i z G hi I ⟨g,0,none⟩ n cap xs d.1 p a m c news B b qO qO (growslice_fits qO f);rw[h] at q;cases q;intro k x;simp only[Value.ownBlock,Option.some.injEq] at x;exact .inr qO
theorem GC {P:Program} {w w':World} {base t ty e size bytes n m c:Nat} {i:TypeInfo} {z v v':Value} {xs news:List Value} {a:Addr} (x:P.underlying t=some (.slice e)) (hi:P.info? e=some i) (C:i.zero=some z) (p:i.size=size) (y:i.bytes=bytes)
 (f:w.ownsRow base e size v n xs) (s:news.length=m*size) (b:∀j u,news[j]?=some u->w.cell? (a.add j)=some u) (G:∀u∈news,u.oneCell'=true) (A:n+m<=maxLen) (d:(n+m)*bytes<=140737488355328)
 (l:(Builtin.append_ #[t,t] ty #[v,.slice (some a) m c]).run P w=.ok v' w'):w.drawn<=w'.drawn:=by
 have hsmall:n+m<=9223372036854775807:=by simp only[maxLen] at A;omega
 subst p;subst y
 rcases f.2 with ⟨rfl,rfl⟩|⟨g,cap,q,rfl,hbg,H,hnc,hcm,B,htake⟩
 .by_cases D:m=0
  .subst D;have F:(Builtin.append_ #[t,t] ty #[.slice none 0 0,.slice (some a) 0 c]).run P w=.ok (.slice none 0 0) w:=by
    simp[Builtin.append_,run_underlying x,sizeOf,typeInfo,hi,Builtin.lenOf,Builtin.firstCells,loadCells,loadCellsFrom]
   rw[F] at l;cases l;exact Nat.le_refl _
  .have h:=run_append_nil (P:=P) w t ty e i z x hi C a m c news s b qO qO (by have E:=d;simp only[Nat.zero_add] at E;omega);rw[h] at l;cases l;exact Nat.le_succ _
 .by_cases k:n+m<=cap
  .have r:n*i.size+news.length<=q.size:=by rw[s,B,<-Nat.add_mul];exact Nat.mul_le_mul_right _ k
   have h:=run_append_room (P:=P) w t ty e i x hi g n cap q H a m c news s b G k r;rw[h] at l;cases l;exact Nat.le_refl _
  .have o:∀j u,xs[j]?=some u->w.cell? ((⟨g,0,none⟩:Addr).add j)=some u:=f.cells (g:=g) O;have h:=run_append_grow (P:=P) w t ty e i z x hi C ⟨g,0,none⟩ n cap xs f.1 o a m c news s b qO qO (growslice_fits qO d);rw[h] at l;cases l;exact Nat.le_succ _
theorem BU {P:Program} {N:Nat} {Q:DN} {σ:B0} {w:World} {K:B0->World->Prop} {ops:Array Oper} {rest:List Oper} {d:Nat} {ty:TypeId} {pos:String} {af:Array Edge} {t:TypeId} {s x:Operand}
 {base e size bytes n m c C D:Nat} {z v:Value} {xs news:List Value} (M:d<N) (E:P.underlying t=some (.slice e)) (f:DD P e size) (l:IU P e bytes) (r:D_ P e z) (y:z.cells.size=size) (I:0<size)
 (hs:ev σ s=v) (o:w.ownsRow base e size v n xs) (J:ev σ x=.slice (some ⟨C,D,none⟩) m c) (G:news.length=m*size) (g:BA w C D news) (H:∀u∈news,u.oneCell'=true)
 (p:n+m<=maxLen) (a:(n+m)*bytes<=140737488355328) (q:base<=w.heap.size)
 (k:∀v' w',w'.ownsRow base e size v' (n+m) (xs++news)->Chg (λx=>v.ownBlock=some x) w w'->(∀k,v'.ownBlock=some k->v.ownBlock=some k∨w.heap.size<=k)->DL P N ops K Q rest (Ef σ d v') w') :
 DL P N ops K Q (⟨some d,.call ⟨.builtin .append,#[s,x],#[t,t]⟩,ty,pos,af,none⟩::rest) σ w:=by
 unfold DD at f;unfold IU at l;unfold D_ at r;cases hi:P.info? e with
 | none=>rw[hi] at f;simp at f
 | some i=>
 rw[hi] at f l r;simp at f l r;obtain ⟨v',w',F,R,A,_⟩:=run_append_own (P:=P) w base t ty e i z size bytes E hi r f l y I v n xs o ⟨C,D,none⟩ m c news G (λj u B=>by rw[Addr.add_lit];exact g j u B) H p a q;refine BV (v:=v') (w':=w') O O M ?_ (k v' w' R ⟨A.os,A.tape,A.output,GC (P:=P) E hi r f l o G (λj u B=>by rw[Addr.add_lit];exact g j u B) H p a F,A.size,λb L S=>A.block b L (λh=>S h.symm)⟩ (Hd (P:=P) E hi r f l y I o G (λj u B=>by rw[Addr.add_lit];exact g j u B) H p a F));simp[execOp,resolve,invoke,builtin,hs,J,F]
end Go.Eng
namespace Go.Eng
open Go
abbrev EK:=Value->World->Prop
def Jt (F:EK):Prop:=∀v w w',Al w w'->F v w->F v w'
inductive Fact where
  | eq (v:Value)
  | re (t:Re)
  | res (ts:List Re)
  | gen (F:EK) (h:Jt F)
def Fact.In:Fact->EK
  | .eq u,v,_=>v=u
  | .re t,v,w=>∃vs,v=.agg vs.toArray∧CG w t vs
  | .res ts,v,w=>∃b,v=.slice (some ⟨b,0,none⟩) ts.length ts.length∧DM w b 0 ts
  | .gen F _,v,w=>F v w
theorem Fact.ext {F:Fact} {v:Value} {w w':World} (h:F.In v w) (e:Al w w'):F.In v w':=by
 cases F with
 | eq u=>exact h
 | re t=>obtain ⟨vs,a,c⟩:=h;exact ⟨vs,a,CG.ext e t c⟩
 | res ts=>obtain ⟨b,a,c⟩:=h;exact ⟨b,a,DM.ext e ts c⟩
 | gen F hF=>exact hF _ _ _ e h
def Td (P:Program) (N:Nat) (o:Oper) (R:EK) (σ:B0) (w:World):Prop:=
 ∀dz a,Ok dz N a->C1 a=σ->∀(Q:Exit->Act->World->Prop) (K:Act->World->Prop),(∀v w',Al w w'->R v w'->K (a.put o.dst v) w')->o.wp P a w K Q
def Holds (ds:List Nat) (Fs:List Fact) (j:Nat) (σ:B0) (w:World):Prop:=∀d F,ds[j]?=some d->Fs[j]?=some F->F.In (σ d) w
def Hk (ds:List Nat) (o:Oper) (σ:B0):Prop:=∀j b,o.guard=some (j,b)->∃d,ds[j]?=some d∧σ d=.bool b
def O' (ds:List Nat) (o:Oper) (σ:B0):Prop:=∃j b d,o.guard=some (j,b)∧ds[j]?=some d∧(σ d=.bool (!b)∨σ d=undef)
theorem BR {ds:List Nat} {o:Oper} {σ:B0} {j:Nat} {b:Bool} {d:Nat} (h:o.guard=some (j,b)) (hd:ds[j]?=some d) (a:σ d=.bool (!b)∨σ d=undef):O' ds o σ:=⟨j,b,d,h,hd,a⟩
section
variable {P : Program} {N : Nat} {o : Oper} {R : EK} {σ : B0} {w : World}
theorem Aq {v:Value} {w':World} (b:(execOp (ev σ) o).run P w=.ok (.value v) w') (e:Al w w') (h:R v w'):Td P N o R σ w:=by
 intro dz a ha c Q K d;unfold Oper.wp;rw[Ch,c,b];simp only[Oper.upon];exact d _ _ e h
theorem DO {f:FuncId} {args:Array Value} (b:(execOp (ev σ) o).run P w=.ok (.enter f args) w) (d:CB P f args w λv w'=>R v w'∧Al w w'):Td P N o R σ w:=by
 intro dz a ha g Q K c;unfold Oper.wp;rw[Ch,g,b];simp only[Oper.upon];refine Calls.mono d ?_;rintro e w' ⟨v,rfl,r,x⟩;exact c _ _ x r
theorem AQ {ds:List Nat} (h:o.guard=none):Hk ds o σ:=λj b a=>by rw[h] at a;cases a
theorem AX {ds:List Nat} {j:Nat} {b:Bool} {d:Nat} (h:o.guard=some (j,b)) (hd:ds[j]?=some d) (c:σ d=.bool b):Hk ds o σ:=λj' b' a=>by
 rw[h] at a;cases a;exact ⟨d,hd,c⟩
end
def Et (N i:Nat) (o:Oper) (d:Nat) (ws:List Nat):Bool:=
 (match o.dst with|some d'=>Nat.beq d' d|none=>false) && Nat.blt d N && (o.after.all λe=>!Region.binds .any e || Nat.blt e.on i) && ws.all λj=>o.after.any λe=>Region.binds .any e && Nat.beq e.on j
def Ia (N:Nat):Nat->List Oper->List Nat->List (List Nat)->Bool
  | _,[],[],[]=>true
  | i,o::l,d::ds,ws::wss=>Et N i o d ws && Ia N (i+1) l ds wss
  | _,_,_,_=>false
def FY:List Nat->Bool
  | []=>true
  | d::ds=>!ds.contains d && FY ds
theorem Cg:∀{ds:List Nat},FY ds=true->∀{i j d:Nat},ds[i]?=some d->ds[j]?=some d->i=j
 | [],_,i,_,_,h,_=>by simp at h
 | x::ds,hn,i,j,d,hi,hj=>by
  simp only[FY,Bool.and_eq_true,Bool.not_eq_true',List.contains_eq_mem,decide_eq_false_iff_not] at hn;cases i with
  | zero=>
   cases j with
   | zero=>rfl
   | succ j=>simp at hi hj;subst hi;exact absurd (List.mem_of_getElem? hj) hn.1
  | succ i=>
   cases j with
   | zero=>simp at hi hj;subst hj;exact absurd (List.mem_of_getElem? hi) hn.1
   | succ j=>simp at hi hj;rw[Cg hn.2 hi hj]
theorem GX {N:Nat}:∀{i:Nat} {l:List Oper} {ds:List Nat} {wss:List (List Nat)},Ia N i l ds wss=true->∀{j:Nat} {o:Oper},l[j]?=some o->∃d ws,ds[j]?=some d∧wss[j]?=some ws∧Et N (i+j) o d ws=true
 | _,[],_,_,_,j,o,h=>by simp at h
 | i,x::l,[],_,hB,_,_,_=>by simp[Ia] at hB
 | i,x::l,d::ds,[],hB,_,_,_=>by simp[Ia] at hB
 | i,x::l,d::ds,ws::wss,hB,j,o,h=>by
  simp only[Ia,Bool.and_eq_true] at hB;cases j with
  | zero=>simp at h;subst h;exact ⟨d,ws,O,O,hB.1⟩
  | succ j=>
   simp at h;obtain ⟨c,a,b,e,f⟩:=GX hB.2 h;exact ⟨c,a,by simpa using b,by simpa using e,by rw[show i+(j+1)=i+1+j from qO];exact f⟩
theorem Md {N:Nat}:∀{i:Nat} {l:List Oper} {ds:List Nat} {wss:List (List Nat)},Ia N i l ds wss=true->ds.length=l.length
 | _,[],[],[],_=>rfl
 | _,[],[],_::_,hB=>by simp[Ia] at hB
 | _,[],_::_,_,hB=>by simp[Ia] at hB
 | i,x::l,[],_,hB=>by simp[Ia] at hB
 | i,x::l,d::ds,[],hB=>by simp[Ia] at hB
 | i,x::l,d::ds,ws::wss,hB=>by
  simp only[Ia,Bool.and_eq_true] at hB;simp[Md hB.2]
def Im (P:Program) (N:Nat) (ds:List Nat) (Fs:List Fact) (σ:B0) (w:World) (o:Oper) (ws:List Nat) (F:Fact):Prop:=
 ∀σ' w',Al w w'->(∀t,ds.contains t=false->σ' t=σ t)->(∀j,ws.contains j=true->Holds ds Fs j σ' w')->(Hk ds o σ'∧Td P N o F.In σ' w')∨(O' ds o σ'∧F.In undef w')
inductive DagSteps (P:Program) (N:Nat) (ds:List Nat) (Fs:List Fact) (σ:B0) (w:World):List Oper->List (List Nat)->List Fact->Prop where
  | nil:DagSteps P N ds Fs σ w [] [] []
  | cons {o:Oper} {ws:List Nat} {F:Fact} {l:List Oper} {wss:List (List Nat)} {Gs:List Fact}:Im P N ds Fs σ w o ws F->DagSteps P N ds Fs σ w l wss Gs->DagSteps P N ds Fs σ w (o::l) (ws::wss) (F::Gs)
theorem DagSteps.get {P:Program} {N:Nat} {ds:List Nat} {d:List Fact} {σ:B0} {w:World}:∀{l:List Oper} {wss:List (List Nat)} {e:List Fact},DagSteps P N ds d σ w l wss e->∀{j:Nat} {o:Oper},l[j]?=some o->∃ws F,wss[j]?=some ws∧e[j]?=some F∧Im P N ds d σ w o ws F
 | _,_,_,.nil,j,o,h=>by simp at h
 | _,_,_,.cons h1 h2,0,o,h=>by simp at h;subst h;exact ⟨_,_,O,O,h1⟩
 | _,_,_,.cons h1 h2,j+1,o,h=>by
  obtain ⟨ws,F,a,b,c⟩:=h2.get (j:=j) (by simpa using h);exact ⟨ws,F,by simpa using a,by simpa using b,c⟩
theorem IE {P:Program} {N:Nat} {Q:DN} {σ:B0} {w:World} {id:Nat} {l:List Oper} (ds:List Nat) (wss:List (List Nat)) (Fs:List Fact) {Gs:List Fact} (hG:Fs=Gs) (hm:P.follows .mixedOrders=true) (hB:Ia N 0 l ds wss=true) (hn:FY ds=true)
 (J:∀w1,Al w w1->DagSteps P N ds Fs σ w1 l wss Gs)
 (k:∀σ' w',Al w w'->(∀t,ds.contains t=false->σ' t=σ t)->(∀j,Holds ds Fs j σ' w')->Q .normal σ' w'):Wp P N (.region id l.toArray true) Q σ w:=by
 intro dz a y C;refine wp_region_any hm ?_;obtain ⟨w1,ad⟩:∃w1:World,w1={w with drawn:=w.drawn+1}:=⟨_,O⟩;have af:Al w w1:=by rw[ad];exact Er w
 rw[<-ad];have ab:=J w1 af;rw[<-hG] at ab;have hlen:=Md hB;have ai:∀(m:Nat) (listed:Array Bool) (a:Act) (w':World),listed.size=l.length->listed.toList.count false<=m->Ok dz N a->Al w1 w'->(∀t,ds.contains t=false->C1 a t=σ t)->(∀j,listed.getD j false=true->Holds ds Fs j (C1 a) w')->
  wpAny P .any l.toArray (Dw dz N Q) m listed a w':=by
  intro m;have K:∀(listed:Array Bool) (a:Act) (w':World),listed.size=l.length->Ok dz N a->Al w1 w'->(∀t,ds.contains t=false->C1 a t=σ t)->(∀j,listed.getD j false=true->Holds ds Fs j (C1 a) w')->listed.toList.count false=0->Dw dz N Q .normal a w':=by
   intro listed a w' hs y L R H hc;refine ⟨y,k _ _ (af.trans L) R λj=>?_⟩;intro d F hd hF;have g:j<listed.size:=by have:=AG hd;omega
   refine H j ?_ d F hd hF;rw[List.count_eq_zero] at hc;have:listed[j]≠false:=λh=>hc (by rw[<-h];exact Array.getElem_mem_toList g);simp only[Array.getD_eq_getD_getElem?,Array.getElem?_eq_getElem g,Option.getD_some];simpa using this
  induction m with
  | zero=>
   intro listed a w' hs hc y L R H;have I:listed.toList.count false=0:=qO
   refine ⟨?_,K listed a w' hs y L R H I⟩;rw[List.eq_nil_iff_forall_not_mem];intro i hi;obtain ⟨h1,o,V,_⟩:=mem_ready.1 hi;have g:i<listed.size:=by have:=(Array.getElem?_eq_some_iff.1 V).1;simp at this;omega
   simp only[Array.getD_eq_getD_getElem?,Array.getElem?_eq_getElem g,Option.getD_some] at h1;rw[List.count_eq_zero] at I;exact I (by rw[<-h1];exact Array.getElem_mem_toList g)
  | succ m ih=>
   intro listed a w' hs hc y L R H;refine ⟨λhr=>K listed a w' hs y L R H ?_,λi hi=>?_⟩
   .-- none is ready: K are listed
    have ac:∀i,i<listed.size->listed.getD i true=true:=by
     intro i
     induction i using Nat.strongRecOn with
     | _ i ihi=>
      intro hi;cases hv:listed.getD i true with
      | true=>rfl
      | false=>
       exfalso;obtain ⟨o,ho⟩:=AK (l:=l) (i:=i) qO;obtain ⟨d,ws,_,_,h3⟩:=GX hB ho;have:i∈Region.ready .any l.toArray listed:=by
        refine mem_ready.2 ⟨hv,o,by simpa using ho,λe C T=>?_⟩;simp only[Et,Bool.and_eq_true,Array.all_eq_true_iff_forall_mem,Bool.or_eq_true,Bool.not_eq_true',Nat.zero_add] at h3;have:=(h3.1.2 e C).resolve_left (by simp[T]);have s:e.on<i:=by simpa[Nat.blt_eq] using this
        have h4:=ihi e.on s qO;have g:e.on<listed.size:=qO
        simpa only[Array.getD_eq_getD_getElem?,Array.getElem?_eq_getElem g,Option.getD_some] using h4
       rw[hr] at this;cases this
    rw[List.count_eq_zero];intro ag;obtain ⟨i,hi,C⟩:=List.getElem_of_mem ag;have g:i<listed.size:=by simpa using hi
    have:=ac i g;simp only[Array.getD_eq_getD_getElem?,Array.getElem?_eq_getElem g,Option.getD_some] at this;simp at C;rw[this] at C;cases C
   .obtain ⟨h1,o,V,h3⟩:=mem_ready.1 hi;have ho:l[i]?=some o:=by simpa using V
    have hil:i<l.length:=AG ho;obtain ⟨d,ws,hd,ak,h4⟩:=GX hB ho;obtain ⟨ws',F,G,hF,U⟩:=ab.get ho;rw[ak] at G;cases G;simp only[Et,Bool.and_eq_true,List.all_eq_true,Array.any_eq_true',Array.all_eq_true_iff_forall_mem,Bool.or_eq_true,Bool.not_eq_true',Nat.zero_add] at h4;obtain ⟨⟨⟨n,Pl⟩,_⟩,X⟩:=h4;have n:o.dst=some d:=by
     split at n
     .rename_i M h;rw[h,Nat.eq_of_beq_eq_true n]
     .cases n
    have Pl:d<N:=by simpa[Nat.blt_eq] using Pl
    have hH:∀j,ws.contains j=true->Holds ds Fs j (C1 a) w':=by
     intro j g;have an:j∈ws:=by simpa using g
     obtain ⟨e,C,T⟩:=X j an;obtain ⟨aj,ah⟩:=T;have:e.on=j:=Nat.eq_of_beq_eq_true ah;exact H j (this▸h3 e C aj)
    have D:∀v w2,Al w' w2->F.In v w2->wpAny P .any l.toArray (Dw dz N Q) m (listed.setIfInBounds i true) (a.put o.dst v) w2:=by
     intro v w2 ae hv;have E:C1 (a.put o.dst v)=Ef (C1 a) d v:=by rw[n];exact DT y Pl v
     refine ih _ _ _ (by simpa using hs) ?_ (y.put _ _) (L.trans ae) ?_ ?_
     .have ao:i<listed.toList.length:=by simp;omega
      have hl:listed.toList[i]=false:=by
       have g:i<listed.size:=qO
       simp only[Array.getD_eq_getD_getElem?,Array.getElem?_eq_getElem g,Option.getD_some] at h1;simpa using h1
      rw[Array.toList_setIfInBounds,List.count_set ao,hl,if_pos (by rfl),if_neg qD];omega
     .intro t ht;rw[E,<-R t ht];simp only[Ef];cases T:Nat.beq t d
      .rfl
      .exfalso;have:t=d:=Nat.eq_of_beq_eq_true T;subst this;have:=List.mem_of_getElem? hd;simp[this] at ht
     .intro j g M F' B W;rw[E];by_cases S:j=i
      .subst S;rw[hd] at B;cases B;rw[hF] at W;cases W;simp only[Ef,Nat.beq_refl,cond_true];exact hv
      .have ap:Nat.beq M d=false:=by
        cases T:Nat.beq M d
        .rfl
        .exfalso;have:M=d:=Nat.eq_of_beq_eq_true T;subst this;exact S (Cg hn B hd)
       simp only[Ef,ap,cond_false];rw[getD_set_ne _ (Ne.symm S)] at g;exact Fact.ext (H j g M F' B W) ae
    rcases U (C1 a) w' L R hH with ⟨hg,am⟩|⟨⟨j,b,z,u,A,r⟩,aa⟩
    .have hw:Region.wanted o (yielded l.toArray a.tmps)=true:=by
      cases u:o.guard with
      | none=>simp[Region.wanted,u]
      | some p=>
       obtain ⟨j,b⟩:=p;obtain ⟨z,A,r⟩:=hg j b u;obtain ⟨oj,x⟩:=AK (l:=l) (i:=j) (by have:=AG A;omega);obtain ⟨al,_,q,_,h5⟩:=GX hB x;rw[A] at q;cases q;simp only[Et,Bool.and_eq_true] at h5;obtain ⟨⟨⟨c,f⟩,_⟩,_⟩:=h5;have c:oj.dst=some z:=by
        split at c
        .rename_i M h;rw[h,Nat.eq_of_beq_eq_true c]
        .cases c
       have f:z<N:=by simpa[Nat.blt_eq] using f
       have Z:a.tmps[z]?=some (Value.bool b):=by
        have V:a.tmps.getD z undef=.bool b:=r;have s:z<a.tmps.size:=by rw[y.size];exact f
        rw[Array.getElem?_eq_getElem s];simpa[s] using V
       simp[Region.wanted,u,yielded,x,c,Z]
     unfold wpOp;simp only[V,hw,if_true];exact Or.inl (am _ a y O _ _ D)
    .have hw:Region.wanted o (yielded l.toArray a.tmps)=false:=by
      obtain ⟨oj,x⟩:=AK (l:=l) (i:=j) (by have:=AG A;omega);obtain ⟨al,_,q,_,h5⟩:=GX hB x;rw[A] at q;cases q;simp only[Et,Bool.and_eq_true] at h5;obtain ⟨⟨⟨c,f⟩,_⟩,_⟩:=h5;have c:oj.dst=some z:=by
       split at c
       .rename_i M h;rw[h,Nat.eq_of_beq_eq_true c]
       .cases c
      have f:z<N:=by simpa[Nat.blt_eq] using f
      have s:z<a.tmps.size:=by rw[y.size];exact f
      have Z:a.tmps[z]?=some (C1 a z):=by
       rw[Array.getElem?_eq_getElem s];simp[C1,s]
      rcases r with r|r
      .rw[r] at Z;cases b<;>simp[Region.wanted,u,yielded,x,c,Z]
      .rw[r] at Z;simp[Region.wanted,u,yielded,x,c,Z,undef]
     unfold wpOp;simp only[V,hw,Bool.false_eq_true,if_false];exact D undef w' (Al.refl _) aa
 refine ai _ _ _ _ qP qP y (Al.refl _) (λt _=>by rw[C]) ?_;intro j g;exfalso;simp only[Array.getD_eq_getD_getElem?,Array.getElem?_replicate] at g;split at g<;>simp at g
theorem NK {x a:Value} (h:x=a):[x]=[a]:=by rw[h]
theorem JF {x y a b:Value} (h:x=a) (c:y=b):[x,y]=[a,b]:=by rw[h,c]
theorem U_ {x y z u a b c d:Value} (h:x=a) (g:y=b) (e:z=c) (f:u=d):[x,y,z,u]=[a,b,c,d]:=by rw[h,g,e,f]
section
variable {P : Program} {N : Nat} {σ : B0} {w : World} {dst : Option Tmp} {ty : TypeId} {pos : String} {af : Array Edge} {g : Option (Nat × Bool)} {t : TypeId} {x y : Operand}
theorem Dy {e:TypeId} {len n:Nat} {z:Value} {parts:List (Nat×Operand)} {ps:List (Nat×Value)} {c:Array Value} (b:(parts.map λ(i,x)=>(i,ev σ x))=ps) (a:P.underlying t=some (.slice e)) (hs:DD P e n) (d:D_ P e z) (h:¬(len*n > 2 ^ 24)) (j:len*n≠0)
 (f:Instr.fill (λi=>some (i*n,n)) ((Array.range (len*n)).map (z.cells[· % z.cells.size]!)) ps=some c) :
 (execOp (ev σ) ⟨dst,.buildSlice t len parts.toArray,ty,pos,af,g⟩).run P w=.ok (.value (.slice (some ⟨w.heap.size,0,none⟩) len len)) {w with heap:=w.heap.push (.cells c e (0,0))}:=by
 subst b;simp only[execOp,Instr.buildSlice,List.map_toArray,Sem.run_bind,run_underlying a,Result.andThen_ok,hs.run,h,j,if_false,Sem.run_pure,d.run,f];simp[newRow]
end
end Go.Eng
namespace Go.Eng
open Go
inductive FactT (M:Nat->Prop) where
  | eq (v:Value)
  | gen (F:EK) (h:∀v w w',Chg M w w'->F v w->F v w')
  | own (F:EK) (h:∀v w w',Al w w'->F v w->F v w')
  | till (F:EK) (h:∀v w w',Al w w'->F v w->F v w')
def FactT.In {M:Nat->Prop}:FactT M->EK
  | .eq u,v,_=>v=u
  | .gen F _,v,w=>F v w
  | .own F _,v,w=>F v w
  | .till F _,v,w=>F v w
def FactT.At {M:Nat->Prop} (done:Bool):FactT M->EK
  | .till F _,v,w=>done=false->F v w
  | F,v,w=>F.In v w
theorem FactT.at_in {M:Nat->Prop} {F:FactT M} {v:Value} {w:World} (h:F.In v w) (a:Bool):F.At a v w:=by
 cases F<;>first|exact h|exact λ_=>h
theorem FactT.at_false {M:Nat->Prop} {F:FactT M} {v:Value} {w:World} (h:F.At false v w):F.In v w:=by
 cases F<;>first|exact h|exact h O
def FactT.isOwn {M:Nat->Prop}:FactT M->Bool
  | .own _ _=>true
  | _=>false
theorem FactT.chg {M:Nat->Prop} {F:FactT M} {v:Value} {w w':World} {a:Bool} (h:F.At a v w) (e:Chg M w w') (b:F.isOwn=false):F.At true v w':=by
 cases F with
 | eq u=>exact h
 | gen F hF=>exact hF _ _ _ e h
 | own F hF=>cases b
 | till F hF=>intro hd;cases hd
theorem FactT.ext {M:Nat->Prop} {F:FactT M} {v:Value} {w w':World} {a:Bool} (h:F.At a v w) (e:Al w w'):F.At a v w':=by
 cases F with
 | eq u=>exact h
 | gen F hF=>exact hF _ _ _ (Al.chg e) h
 | own F hF=>exact hF _ _ _ e h
 | till F hF=>exact λhd=>hF _ _ _ e (h hd)
def Qp {M:Nat->Prop} (c:Nat):Nat->List (FactT M)->Bool
  | _,[]=>true
  | i,F::l=>(!F.isOwn || Nat.beq i c) && Qp c (i+1) l
theorem MD {M:Nat->Prop} {c:Nat}:∀{i:Nat} {l:List (FactT M)},Qp c i l=true->∀{j:Nat} {F:FactT M},l[j]?=some F->i+j≠c->F.isOwn=false
 | _,[],_,_,_,h,_=>by simp at h
 | i,G::l,hB,0,F,h,hne=>by
  simp at h;subst h;simp only[Qp,Bool.and_eq_true,Bool.or_eq_true,Bool.not_eq_true'] at hB;rcases hB.1 with h|h
  .exact h
  .exact absurd (Nat.eq_of_beq_eq_true h) hne
 | i,G::l,hB,j+1,F,h,hne=>by
  simp only[Qp,Bool.and_eq_true] at hB;simp at h;exact MD hB.2 h qO
def CP (M:Nat->Prop) (P:Program) (N:Nat) (o:Oper) (R:EK) (σ:B0) (w:World):Prop:=
 ∀dz a,Ok dz N a->C1 a=σ->∀(Q:Exit->Act->World->Prop) (K:Act->World->Prop),(∀v w',Chg M w w'->R v w'->K (a.put o.dst v) w')->o.wp P a w K Q
def Lf {M:Nat->Prop} (ds:List Nat) (Fs:List (FactT M)) (done:Bool) (j:Nat) (σ:B0) (w:World):Prop:=∀d F,ds[j]?=some d->Fs[j]?=some F->F.At done (σ d) w
section
variable {M : Nat → Prop} {P : Program} {N : Nat} {o : Oper} {R : EK} {σ : B0} {w : World}
theorem AR {v:Value} {w':World} (b:(execOp (ev σ) o).run P w=.ok (.value v) w') (e:Chg M w w') (h:R v w'):CP M P N o R σ w:=by
 intro dz a ha c Q K d;unfold Oper.wp;rw[Ch,c,b];simp only[Oper.upon];exact d _ _ e h
theorem Jy {w':World} (b:(execOp (ev σ) o).run P w=.ok .skip w') (e:Chg M w w') (h:R undef w'):CP M P N o R σ w:=by
 intro dz a ha c Q K d;unfold Oper.wp;rw[Ch,c,b];simp only[Oper.upon];exact d _ _ e h
theorem Dv {f:FuncId} {args:Array Value} (b:(execOp (ev σ) o).run P w=.ok (.enter f args) w) (d:CB P f args w λv w'=>R v w'∧Chg M w w'):CP M P N o R σ w:=by
 intro dz a ha g Q K c;unfold Oper.wp;rw[Ch,g,b];simp only[Oper.upon];refine Calls.mono d ?_;rintro e w' ⟨v,rfl,r,x⟩;exact c _ _ x r
end
def E8 (N i:Nat) (o:Oper) (d:Nat) (ws:List Nat):Bool:=
 (match o.dst with|some d'=>Nat.beq d' d && Nat.blt d N|none=>Nat.ble N d) && (o.after.all λe=>!Region.binds .any e || Nat.blt e.on i) && (ws.all λj=>o.after.any λe=>Region.binds .any e && Nat.beq e.on j) && o.guard.isNone
def FO (N:Nat):Nat->List Oper->List Nat->List (List Nat)->Bool
  | _,[],[],[]=>true
  | i,o::l,d::ds,ws::wss=>E8 N i o d ws && FO N (i+1) l ds wss
  | _,_,_,_=>false
theorem Dr {N:Nat}:∀{i:Nat} {l:List Oper} {ds:List Nat} {wss:List (List Nat)},FO N i l ds wss=true->∀{j:Nat} {o:Oper},l[j]?=some o->∃d ws,ds[j]?=some d∧wss[j]?=some ws∧E8 N (i+j) o d ws=true
 | _,[],_,_,_,j,o,h=>by simp at h
 | i,x::l,[],_,hB,_,_,_=>by simp[FO] at hB
 | i,x::l,d::ds,[],hB,_,_,_=>by simp[FO] at hB
 | i,x::l,d::ds,ws::wss,hB,j,o,h=>by
  simp only[FO,Bool.and_eq_true] at hB;cases j with
  | zero=>simp at h;subst h;exact ⟨d,ws,O,O,hB.1⟩
  | succ j=>
   simp at h;obtain ⟨c,a,b,e,f⟩:=Dr hB.2 h;exact ⟨c,a,by simpa using b,by simpa using e,by rw[show i+(j+1)=i+1+j from qO];exact f⟩
theorem H6 {N:Nat}:∀{i:Nat} {l:List Oper} {ds:List Nat} {wss:List (List Nat)},FO N i l ds wss=true->ds.length=l.length
 | _,[],[],[],_=>rfl
 | _,[],[],_::_,hB=>by simp[FO] at hB
 | _,[],_::_,_,hB=>by simp[FO] at hB
 | i,x::l,[],_,hB=>by simp[FO] at hB
 | i,x::l,d::ds,[],hB=>by simp[FO] at hB
 | i,x::l,d::ds,ws::wss,hB=>by
  simp only[FO,Bool.and_eq_true] at hB;simp[H6 hB.2]
def IQ (c:Nat) (wss:List (List Nat)) (i:Nat):Bool:=Nat.beq i c || (wss.getD c []).contains i
def valOf (o:Oper) (v:Value):Value:=match o.dst with
  | some _=>v
  | none=>undef
def My {M:Nat->Prop} (P:Program) (N:Nat) (ds:List Nat) (Fs:List (FactT M)) (σ:B0) (w:World) (own calm:Bool) (o:Oper) (ws:List Nat) (F:FactT M):Prop:=
 ∀σ' w',Chg (bif calm then Ab else M) w w'->(∀t,ds.contains t=false->σ' t=σ t)->(∀j,ws.contains j=true->Lf ds Fs (!calm) j σ' w')->CP (bif own then M else Ab) P N o (λv w=>F.In (Go.Eng.valOf o v) w) σ' w'
inductive DagStepsT {M:Nat->Prop} (P:Program) (N:Nat) (ds:List Nat) (Fs:List (FactT M)) (σ:B0) (w:World) (c:Nat) (all:List (List Nat)):Nat->List Oper->List (List Nat)->List (FactT M)->Prop where
  | nil {i:Nat}:DagStepsT P N ds Fs σ w c all i [] [] []
  | cons {i:Nat} {o:Oper} {ws:List Nat} {F:FactT M} {l:List Oper} {wss:List (List Nat)} {Gs:List (FactT M)}:My P N ds Fs σ w (Nat.beq i c) (IQ c all i) o ws F->DagStepsT P N ds Fs σ w c all (i+1) l wss Gs->DagStepsT P N ds Fs σ w c all i (o::l) (ws::wss) (F::Gs)
theorem DagStepsT.get {M:Nat->Prop} {P:Program} {N:Nat} {ds:List Nat} {e:List (FactT M)} {σ:B0} {w:World} {c:Nat} {d:List (List Nat)}:∀{i:Nat} {l:List Oper} {wss:List (List Nat)} {f:List (FactT M)},DagStepsT P N ds e σ w c d i l wss f->∀{j:Nat} {o:Oper},l[j]?=some o->∃ws F,wss[j]?=some ws∧f[j]?=some F∧My P N ds e σ w (Nat.beq (i+j) c) (IQ c d (i+j)) o ws F
 | _,_,_,_,.nil,j,o,h=>by simp at h
 | _,_,_,_,.cons h1 h2,0,o,h=>by simp at h;subst h;exact ⟨_,_,O,O,h1⟩
 | i,_,_,_,.cons h1 h2,j+1,o,h=>by
  obtain ⟨ws,F,a,b,c⟩:=h2.get (j:=j) (by simpa using h);exact ⟨ws,F,by simpa using a,by simpa using b,by rw[show i+(j+1)=i+1+j from qO];exact c⟩
def EP (n m:Nat):Array Bool:=(List.replicate n true++List.replicate (m - n) false).toArray
theorem GY {l:List Bool} {n i:Nat} (hi:i<n) (hl:n<=l.length) (c:l[i]?=some false):((l.set i true).take n).count false+1=(l.take n).count false:=by
 have a:i<(l.take n).length:=by simp;omega
 rw[List.take_set,List.count_set a];have:(l.take n)[i]=false:=by
  have b:(l.take n)[i]?=some false:=by rw[List.getElem?_take_of_lt hi];exact c
  rw[List.getElem?_eq_getElem a] at b;simpa using b
 rw[this,if_pos (by rfl),if_neg qD];have:0<(l.take n).count false:=by
  rw[List.count_pos_iff];rw[<-this];exact List.getElem_mem a
 omega
theorem MV {l:List Bool} {n:Nat} (hl:n<=l.length) (b:(l.take n).count false=0) (c:∀t,n<=t->t<l.length->l[t]?=some false):l=List.replicate n true++List.replicate (l.length - n) false:=by
 apply List.ext_getElem?;intro i;rcases Nat.lt_or_ge i n with h|h
 .rw[List.getElem?_append_left (by simpa using h),List.getElem?_replicate,if_pos h];have hi:i<l.length:=qO
  rw[List.getElem?_eq_getElem hi];cases hv:l[i] with
  | true=>rfl
  | false=>
   exfalso;rw[List.count_eq_zero] at b;apply b;have:(l.take n)[i]?=some false:=by rw[List.getElem?_take_of_lt h,List.getElem?_eq_getElem hi,hv]
   exact List.mem_of_getElem? this
 .rw[List.getElem?_append_right (by simpa using h),List.getElem?_replicate,List.length_replicate];rcases Nat.lt_or_ge i l.length with a|a
  .rw[if_pos qO,c i h a]
  .rw[if_neg qO,List.getElem?_eq_none a]
theorem Gt {P:Program} {N:Nat} {Q:DN} {σ:B0} {w:World} {id:Nat} {l:List Oper} (M:Nat->Prop) (n c:Nat) (ds:List Nat) (wss:List (List Nat)) (Fs:List (FactT M)) {Gs:List (FactT M)} (hG:Fs=Gs) (hO:Qp c 0 Gs=true) (hm:P.follows .mixedOrders=true) (hB:FO N 0 (l.take n) ds wss=true) (hn:FY ds=true)
 (hT:(decide (n<l.length) && Region.sinkB .any l.toArray n && Region.chainB .any l.toArray n && Region.seqB .any l.toArray (l.length - n) n (EP n l.length))=true)
 (af:∀w1,Al w w1->DagStepsT P N ds Fs σ w1 c wss 0 (l.take n) wss Gs)
 (k:∀σ' w1 w',Al w w1->Chg M w1 w'->(∀t,ds.contains t=false->σ' t=σ t)->(∀j,Lf ds Fs true j σ' w')->DL P N l.toArray (Q .normal) Q (l.drop n) σ' w'):Wp P N (.region id l.toArray true) Q σ w:=by
 intro dz a T R;have eQ:Dw dz N (J1 (Q .normal) Q)=Dw dz N Q:=by funext e a w;cases e<;>rfl
 refine wp_region_any hm ?_;obtain ⟨w1,ap⟩:∃w1:World,w1={w with drawn:=w.drawn+1}:=⟨_,O⟩;have ar:Al w w1:=by rw[ap];exact Er w
 rw[<-ap];have am:=af w1 ar;rw[<-hG] at am;simp only[Bool.and_eq_true,decide_eq_true_eq] at hT;obtain ⟨⟨⟨a4,hs⟩,hc⟩,aq⟩:=hT;have L:∀{q:Bool} {u u':World},Chg (bif q then M else Ab) u u'->Chg M u u':=fun {q u u'} h=>by cases q with|true=>exact h|false=>exact Al.chg h
 have hlen:ds.length=n:=by rw[H6 hB];simp;omega
 have av:∀(m:Nat) (listed:Array Bool) (a:Act) (w':World),(listed.toList.take n).count false=m->HeadInv .any l.toArray n listed->Ok dz N a->Chg (bif listed.getD c false then M else Ab) w1 w'->(∀t,ds.contains t=false->C1 a t=σ t)->(∀j,listed.getD j false=true->Lf ds Fs (listed.getD c false) j (C1 a) w')->
  wpAny P .any l.toArray (Dw dz N Q) (m+(l.length - n)) listed a w':=by
  intro m
  induction m with
  | zero=>
   intro listed a w' a0 p T hx hu hh;have ad:listed.size=l.length:=by simpa using p.size
   have hl:listed=EP n l.length:=by
    apply Array.ext';rw[EP];have:=MV (l:=listed.toList) (n:=n) (by simp;omega) a0 (by
     intro t A X;have Z:t<listed.size:=by simpa using X
     have:=p.tail t A (by simpa[ad] using Z);simp only[Array.getD_eq_getD_getElem?,Array.getElem?_eq_getElem Z,Option.getD_some] at this;simp[Z,this])
    rw[this];simp[ad]
   rw[Nat.zero_add];have A:=k (C1 a) w1 w' ar (L hx) hu (λj d F hd K=>by
    have D:j<n:=by have:=AG hd;omega
    have X:=hh j (by
     rw[hl,EP];simp[Array.getD_eq_getD_getElem?,List.getElem?_append_left,D]) d F hd K
    cases F with
    | till F K=>intro hd;cases hd
    | eq u=>exact X
    | gen F K=>exact X
    | own F K=>exact X) dz a T O
   rw[eQ] at A;have:=wpAny_of_seq (P:=P) (md:=.any) (ops:=l.toArray) (Q':=Dw dz N Q) (l.drop n) n listed a w' (λj=>by simp[List.getElem?_drop]) (by rw[List.length_drop,hl];exact aq) A
   rwa [List.length_drop] at this
  | succ m ih=>
   intro listed a w' hcm p T hx hu hh;have ad:listed.size=l.length:=by simpa using p.size
   obtain ⟨i0,W,ae⟩:∃i,i<n∧listed.getD i true=false:=by
    have:0<(listed.toList.take n).count false:=qO
    rw[List.count_pos_iff] at this;obtain ⟨i,hi,R⟩:=List.getElem_of_mem this;have B:i<n:=by simp at hi;omega
    refine ⟨i,B,?_⟩;have s:i<listed.size:=by simp at hi;omega
    simp only[Array.getD_eq_getD_getElem?,Array.getElem?_eq_getElem s,Option.getD_some];simpa using R
   rw[show m+1+(l.length - n)=(m+(l.length - n))+1 by omega];refine ⟨λhr=>?_,λi hi=>?_⟩
   .exfalso;have an:∀i,i<n->listed.getD i true=true:=by
     intro i
     induction i using Nat.strongRecOn with
     | _ i ihi=>
      intro hi;cases hv:listed.getD i true with
      | true=>rfl
      | false=>
       exfalso;obtain ⟨o,ho⟩:=AK (l:=l) (i:=i) qO;have H:(l.take n)[i]?=some o:=by rw[List.getElem?_take_of_lt hi];exact ho
       obtain ⟨d,ws,_,_,h3⟩:=Dr hB H;have:i∈Region.ready .any l.toArray listed:=by
        refine mem_ready.2 ⟨hv,o,by simpa using ho,λe R y=>?_⟩;simp only[E8,Bool.and_eq_true,Array.all_eq_true_iff_forall_mem,Bool.or_eq_true,Bool.not_eq_true',Nat.zero_add] at h3;have:=(h3.1.1.2 e R).resolve_left (by simp[y]);have a8:e.on<i:=by simpa[Nat.blt_eq] using this
        have h4:=ihi e.on a8 qO;have D:e.on<listed.size:=qO
        simpa only[Array.getD_eq_getD_getElem?,Array.getElem?_eq_getElem D,Option.getD_some] using h4
       rw[hr] at this;cases this
    rw[an i0 W] at ae;cases ae
   .have B:i<n:=by
     rcases Nat.lt_or_ge i n with h|h
     .exact h
     .exact absurd hi (tail_waits hs hc (by simpa using a4) p _ i0 O W ae i h)
    obtain ⟨A,o,X,h3⟩:=mem_ready.1 hi;have s:i<listed.size:=qO
    have ho:l[i]?=some o:=by simpa using X
    have H:(l.take n)[i]?=some o:=by rw[List.getElem?_take_of_lt B];exact ho
    obtain ⟨d,ws,hd,ax,h4⟩:=Dr hB H;obtain ⟨ws',F,V,K,E⟩:=am.get H;rw[ax] at V;cases V;simp only[Nat.zero_add] at E;simp only[E8,Bool.and_eq_true,List.all_eq_true,Array.any_eq_true',Array.all_eq_true_iff_forall_mem,Bool.or_eq_true,Bool.not_eq_true',Nat.zero_add] at h4;obtain ⟨⟨⟨f,_⟩,ah⟩,ac⟩:=h4;have ac:o.guard=none:=by simpa using ac
    -- what is sure to come ahead of the change
    have G:IQ c wss i=true->listed.getD c false=false:=by
     intro b;simp only[IQ,Bool.or_eq_true] at b;rcases b with b|b
     .have:i=c:=Nat.eq_of_beq_eq_true b;subst this;exact getD_both A
     .cases hlc:listed.getD c false with
      | false=>rfl
      | true=>
       exfalso;have a3:c<n:=by
        rcases Nat.lt_or_ge c n with h|h
        .exact h
        .rcases Nat.lt_or_ge c l.length with h'|h'
         .have:=getD_both (p.tail c h (by simpa using h'));rw[this] at hlc;cases hlc
         .simp[Array.getElem?_eq_none (show listed.size<=c by omega)] at hlc
       obtain ⟨oc,ak⟩:=AK (l:=l) (i:=c) qO;have aj:(l.take n)[c]?=some oc:=by rw[List.getElem?_take_of_lt a3];exact ak
       obtain ⟨dc,az,_,ai,U⟩:=Dr hB aj;have a9:wss.getD c []=az:=by simp[ai]
       rw[a9] at b;simp only[E8,Bool.and_eq_true,List.all_eq_true,Array.any_eq_true',Nat.zero_add] at U;obtain ⟨e,R,ab,aa⟩:=U.1.2 i (by simpa using b);have a5:e.on=i:=Nat.eq_of_beq_eq_true aa;have:=p.closed c oc (by simpa using ak) hlc e R ab;rw[a5,getD_both A] at this;cases this
    have hH:∀j,ws.contains j=true->Lf ds Fs (!IQ c wss i) j (C1 a) w':=by
     intro j D S F' x z;have a2:j∈ws:=by simpa using D
     obtain ⟨e,R,y⟩:=ah j a2;obtain ⟨ab,aa⟩:=y;have:e.on=j:=Nat.eq_of_beq_eq_true aa;have U:=hh j (this▸h3 e R ab) S F' x z;cases b:IQ c wss i with
     | true=>rw[G b] at U;exact U
     | false=>
      cases F' with
      | till F K=>intro hd;cases hd
      | eq u=>exact U
      | gen F K=>exact U
      | own F K=>exact U
    have I:(∀J,Chg (bif Nat.beq i c then M else Ab) w' J->Chg (bif (listed.setIfInBounds i true).getD c false then M else Ab) w1 J):=by
     intro J g;by_cases r:i=c
     .subst r;rw[Nat.beq_refl] at g;have hg:(listed.setIfInBounds i true).getD i false=true:=by simp[Array.getD_eq_getD_getElem?,s]
      rw[hg];exact (L hx).trans g
     .have y:Nat.beq i c=false:=by cases y:Nat.beq i c;rfl;exact absurd (Nat.eq_of_beq_eq_true y) r
      rw[y] at g;rw[getD_set_ne _ r];exact hx.ext g
    have al:∀v J,Chg (bif Nat.beq i c then M else Ab) w' J->F.In (Go.Eng.valOf o v) J->wpAny P .any l.toArray (Dw dz N Q) (m+(l.length - n)) (listed.setIfInBounds i true) (a.put o.dst v) J:=by
     intro v J g hv;have C:(∀t,t≠d->C1 (a.put o.dst v) t=C1 a t)∧C1 (a.put o.dst v) d=Go.Eng.valOf o v:=by
      cases hod:o.dst with
      | none=>
       rw[hod] at f;have aw:N<=d:=Nat.le_of_ble_eq_true f;refine ⟨λt _=>rfl,?_⟩;simp only[Go.Eng.valOf,hod];show a.tmps.getD d undef=undef;have:a.tmps.size<=d:=by rw[T.size];exact aw
       simp[Array.getElem?_eq_none this]
      | some S=>
       rw[hod] at f;simp only[Bool.and_eq_true] at f;have a1:S=d:=Nat.eq_of_beq_eq_true f.1;have au:d<N:=by simpa[Nat.blt_eq] using f.2
       subst a1;rw[DT T au v];refine ⟨λt ht=>?_,?_⟩
       .have:Nat.beq t S=false:=by cases y:Nat.beq t S;rfl;exact absurd (Nat.eq_of_beq_eq_true y) ht
        simp[Ef,this]
       .simp[Ef,Go.Eng.valOf,hod]
     refine ih _ _ _ ?_ (p.set hi B) (T.put _ _) (I J g) ?_ ?_
     .have hl:listed.toList[i]?=some false:=by
       simp only[Array.getD_eq_getD_getElem?,Array.getElem?_eq_getElem s,Option.getD_some] at A;simp[s,A]
      have:=GY (l:=listed.toList) B (by simp;omega) hl;rw[Array.toList_setIfInBounds];omega
     .intro t ht;rw[C.1 t (λh=>by
       subst h;have:=List.mem_of_getElem? hd;simp[this] at ht),hu t ht]
     .intro j D S F' x z;by_cases ag:j=i
      .subst ag;rw[hd] at x;cases x;rw[K] at z;cases z;rw[C.2];exact FactT.at_in hv _
      .have a7:S≠d:=by
        intro h;subst h;exact ag (Cg hn x hd)
       rw[C.1 S a7];rw[getD_set_ne _ (Ne.symm ag)] at D;have h6:=hh j D S F' x z;by_cases r:i=c
       .have hg:(listed.setIfInBounds i true).getD c false=true:=by rw[<-r];simp[Array.getD_eq_getD_getElem?,s]
        rw[hg];exact FactT.chg h6 (L g) (MD hO (by rw[<-hG];exact z) qO)
       .have y:Nat.beq i c=false:=by
         cases y:Nat.beq i c
         .rfl
         .exact absurd (Nat.eq_of_beq_eq_true y) r
        rw[y] at g;rw[getD_set_ne _ r];exact FactT.ext h6 g
    have a6:Chg (bif IQ c wss i then Ab else M) w1 w':=by
     cases b:IQ c wss i with
     | true=>rw[G b] at hx;exact hx
     | false=>exact L hx
    have ay:=E (C1 a) w' a6 hu hH;have hw:Region.wanted o (yielded l.toArray a.tmps)=true:=by simp[Region.wanted,ac]
    unfold wpOp;simp only[X,hw,if_true];exact Or.inl (ay _ a T O _ _ al)
 have ao:HeadInv .any l.toArray n (Array.replicate l.toArray.size false):=
  ⟨qP,λj oj _ hl=>(by rw[getD_replicate_false] at hl;cases hl),λt _ ht=>getD_in (by simpa using ht) (getD_replicate_false _ _)⟩
 have A:=av n (Array.replicate l.toArray.size false) a w1 (by simp;omega) ao T (by rw[getD_replicate_false];exact Chg.refl _ _) (λt _=>by rw[R]) (λj D=>by rw[getD_replicate_false] at D;cases D);have e3:n+(l.length - n)=l.toArray.size:=by simp;omega
 rw[e3] at A;exact A
section
variable {M : Nat → Prop} {P : Program} {N : Nat} {σ : B0} {w : World} {ty : TypeId} {pos : String} {af : Array Edge} {g : Option (Nat × Bool)} {t : TypeId} {x y : Operand} {R : EK}
theorem Mt {b o:Nat} {v:Value} {c:Array Value} {e:TypeId} (m:ev σ x=.pointer (some ⟨b,o,none⟩)) (p:ev σ y=v) (j:v.oneCell'=true) (hs:DD P t 1) (f:Az w b c e) (q:o<c.size) (l:M b) (k:∀w',Put w w' b (c.setIfInBounds o v) e->R undef w') :
 CP M P N ⟨none,.store t x y,ty,pos,af,g⟩ R σ w:=by
 have i:=Put.of_setRow f (c.setIfInBounds o v);refine Jy (w':=w.setRow b (c.setIfInBounds o v)) ?_ (i.chg.mono λz _ h=>by subst h;exact l) (k _ i);have d:v.cells=#[v]:=by cases v<;>first|rfl|(simp[Value.oneCell'] at j;done)
 have a:=run_storeCells_at P b o e [v] 0 c w f (by simp;omega) (by simpa using j);have n:(c.toList.take (o+0)++[v]++c.toList.drop (o+0+[v].length)).toArray=c.setIfInBounds o v:=by
  apply Array.ext';simp only[Nat.add_zero,List.length_singleton,Array.toList_setIfInBounds];rw[List.set_eq_take_append_cons_drop,if_pos (by simpa using q)];simp
 rw[n] at a;simp[execOp,m,p,Instr.storeAt,Instr.sureAddr,storeVar,hs.run,d,a]
theorem Jx {b o n:Nat} {vs c:Array Value} {e:TypeId} (l:ev σ x=.pointer (some ⟨b,o,none⟩)) (p:ev σ y=.agg vs) (m:∀v∈vs.toList,v.oneCell'=true) (hs:DD P t n) (k:vs.size=n) (f:Az w b c e) (q:o+n<=c.size) (j:M b) (i:∀w',Put w w' b (c.toList.take o++vs.toList++c.toList.drop (o+n)).toArray e->R undef w') :
 CP M P N ⟨none,.store t x y,ty,pos,af,g⟩ R σ w:=by
 subst k;have d:=Put.of_setRow f (c.toList.take o++vs.toList++c.toList.drop (o+vs.size)).toArray;refine Jy (w':=w.setRow b _) ?_ (d.chg.mono λz _ h=>by subst h;exact j) (i _ d);have a:=run_storeCells_at P b o e vs.toList 0 c w f (by simpa using q) m;simp only[Nat.add_zero,Array.length_toList] at a;simp[execOp,l,p,Instr.storeAt,Instr.sureAddr,storeVar,hs.run,Value.cells,a]
end
end Go.Eng
namespace Go.Proofs
open Go Go.Eng
set_option maxRecDepth 100000
section
variable {P : Program} {σ : B0} {w : World} {dst : Option Tmp} {ty : TypeId} {pos : String} {af : Array Edge} {g : Option (Nat × Bool)} {t t' e : TypeId} {x y : Operand}
theorem L5 {a:Option Addr} {n c b c':Nat} (d:P.underlying t=some (.slice e)) (hx:ev σ x=.slice a n c) (hy:ev σ y=.slice none b c') :
 (execOp (ev σ) ⟨dst,.binOp .eql t x y t',ty,pos,af,g⟩).run P w=.ok (.value (.bool a.isNone)) w:=by
 have h:(Op.equalIn 10000 t (.slice a n c) (.slice none b c')).run P w=.ok a.isNone w:=by
  rw[Op.equalIn];cases a<;>simp[run_underlying d]
 cases a<;>simp_all[execOp,eqGuard,binOp,Op.equal,Op.maxDepth]
theorem KL {s:Operand} {a a':Option Addr} {n c c' size:Nat} (d:P.underlying t=some (.slice e)) (hs:DD P e size) (h:ev σ s=.slice a n c) (f:n<=c) (b:ev σ x=.slice a' 0 c') :
 (execOp (ev σ) ⟨dst,.call ⟨.builtin .append,#[s,x],#[t,t]⟩,ty,pos,af,g⟩).run P w=.ok (.value (.slice a n c)) w:=by
 have hz:size*0=0:=Nat.mul_zero _;cases a<;>cases a'<;>simp[execOp,resolve,invoke,builtin,Builtin.append_,h,b,run_underlying d,hs.run,Builtin.lenOf,Builtin.firstCells,loadCells,loadCellsFrom,storeCells,f]
theorem HI {N:Nat} {Q:DN} {K:B0->World->Prop} {ops:Array Oper} {rest:List Oper} {d size:Nat} (c:d<N) (a:P.underlying t=some (.slice e)) (hs:DD P e size)
 (k:∀b w',New w w' b #[] e->DL P N ops K Q rest (Ef σ d (.slice (some ⟨b,0,none⟩) 0 0)) w'):DL P N ops K Q (⟨some d,.buildSlice t 0 #[],ty,pos,af,none⟩::rest) σ w:=by
 refine BV (v:=.slice (some ⟨w.heap.size,0,none⟩) 0 0) (w':={w with heap:=w.heap.push (.cells #[] e (0,0))}) O O c ?_ (k _ _ (New.mk' w #[] e));have f:Array.range 0=#[]:=rfl;simp[execOp,Instr.buildSlice,run_underlying a,hs.run,Instr.fill,newRow,f]
end
theorem FM {w:World} {b e base size:Nat} (h:Az w b #[] e) (a:base<=b):w.ownsRow base e size (.slice (some ⟨b,0,none⟩) 0 0) 0 []:=
 ⟨qP,.inr ⟨b,0,#[],O,a,h,Nat.le_refl _,by simp[maxLen],qP,qP⟩⟩
theorem Qb {α:Type} {l a:List α} {n i:Nat} (hc:a.length=n) (hi:2*i+1<n) (h:∀k,k<n->a[k]?=if k<i∨n - i<=k then l[n - 1 - k]? else l[k]?) {x y:α} (m:a[i]?=some x) (g:a[n - 1 - i]?=some y) :
 ∀k,k<n->((a.set i y).set (n - 1 - i) x)[k]?=if k<i+1∨n - (i+1)<=k then l[n - 1 - k]? else l[k]?:=by
 intro k j;have e:=h i qO;rw[m,if_neg qO] at e;have f:=h (n - 1 - i) qO;rw[g,if_neg qO] at f;by_cases c:k=n - 1 - i
 .subst c;rw[List.getElem?_set_self (by simp;omega),if_pos qO,show n - 1 - (n - 1 - i)=i from qO,e]
 .rw[List.getElem?_set_ne qO];by_cases d:k=i
  .subst d;rw[List.getElem?_set_self qO,if_pos qO,f]
  .rw[List.getElem?_set_ne qO,h k j];by_cases b:k<i∨n - i<=k
   .rw[if_pos b,if_pos qO]
   .rw[if_neg b,if_neg qO]
theorem Qc {α:Type} {l a:List α} {n i:Nat} (d:l.length=n) (hc:a.length=n) (hi:n<=2*i+1) (h:∀k,k<n->a[k]?=if k<i∨n - i<=k then l[n - 1 - k]? else l[k]?):a=l.reverse:=by
 apply List.ext_getElem?;intro k;by_cases c:k<n
 .rw[h k c,List.getElem?_reverse qO,d];by_cases b:k<i∨n - i<=k
  .rw[if_pos b]
  .rw[if_neg b,show n - 1 - k=k from qO]
 .rw[List.getElem?_eq_none qO,List.getElem?_eq_none (by simp;omega)]
theorem JQ {l:List Int} {rest:List Value} {i:Nat} (hi:i<l.length) (y:Int):(l.map (Value.int .i64)++rest).toArray.setIfInBounds i (.int .i64 y)=((l.set i y).map (Value.int .i64)++rest).toArray:=by
 apply Array.ext';rw[Array.toList_setIfInBounds,List.map_set];simp only;rw[List.set_append,if_pos (by simpa using hi)]
theorem HX {w:World} {b T:Nat} {l:List Int} {rest:List Value} (h:Az w b (l.map (Value.int .i64)++rest).toArray T) {i:Nat} {x:Int} (a:l[i]?=some x):w.cell? ⟨b,i,none⟩=some (.int .i64 x):=by
 refine h.cell ?_;have:=AG a;simp only[List.getElem?_toArray];rw[List.getElem?_append_left (by simpa using this)];simp[a]
theorem T_ (r:World) (b c T:Nat) (l:List Int) (rest:List Value) (m:Az r b (l.map (Value.int .i64)++rest).toArray T) (hl:l.length<=1000000000) :
 CB prog 73 #[.slice (some ⟨b,0,none⟩) l.length c] r λ_ w=>Az w b (l.reverse.map (Value.int .i64)++rest).toArray T∧Chg (λx=>x=b) r w:=by
 refine C7 func73 O ntmps73 (LK O) ?_;have E:Chg (λx=>x=b) r r:=Chg.refl _ _;refine Y (qM _ O (qV (AL underlying22 O) (qV (GO O O (A5 qO)) (qA _ O (qA _ O (AA (AO (Ap (λnn_ σ I=>∃(i:Nat) (j:Int) (g:List Int),(∃jj_,σ=BK jj_ [(0,(.slice (some ⟨b,0,none⟩) l.length c)),(2,(I6 (i:Int))),(3,(I6 j))])∧Chg (λx=>x=b) r I∧Az I b ((g.map (Value.int .i64)++rest).toArray) T∧(j=(l.length:Int) - 1 - (i:Int))∧(g.length=l.length)∧(∀k,k<l.length->g[k]?=if k<i∨l.length - i<=k then l[l.length - 1 - k]? else l[k]?)∧(i<=l.length)∧nn_=l.length - i) (n:=l.length - 0) ?_ ?_))))))))
 .exact ⟨0,((l.length:Nat):Int) - 1,l,Ac.out ⟨O,O,O,trivial⟩,E,m,qO,O,(λk hk=>by rw[if_neg qO]),Nat.zero_le _,O⟩
 .clear E m;rintro _ _ I ⟨i,j,g,⟨j1,rfl⟩,E,m,hj,q,p,hi,rfl⟩;refine AI (Y (qM _ O (qM _ O (qV (A0 O O) (AA (qC O (λK=>?_) (λK=>?_)))))))
  .obtain ⟨x,R⟩:=AK (l:=g) (i:=i) qO;obtain ⟨y,V⟩:=AK (l:=g) (i:=l.length - 1 - i) qO;refine AM (AB (AI (AO ?_)));obtain ⟨P,a⟩:∃Z:List (FactT ((λx=>x=b))),Z=[.eq (.slice (some ⟨b,0,none⟩) l.length c),.eq (I6 (i:Int)),.eq (.slice (some ⟨b,0,none⟩) l.length c),.eq (I6 j),.eq (.slice (some ⟨b,0,none⟩) l.length c),.eq (I6 j),.eq (.pointer (some ⟨b,0+(l.length - 1 - i),none⟩)),.eq (I6 y),.eq (.slice (some ⟨b,0,none⟩) l.length c),.eq (I6 (i:Int)),.eq (.pointer (some ⟨b,0+i,none⟩)),.eq (I6 x),.eq (.pointer (some ⟨b,0+i,none⟩)),.own (λ_ w=>Az w b ((g.set i y).map (Value.int .i64)++rest).toArray T) (λ_ _ _ e h=>Al.keep e h)]:=⟨_,O⟩;refine Gt ((λx=>x=b)) 14 13 [14,15,16,17,18,19,20,21,22,23,24,25,26,41] [[],[],[],[],[],[],[4,5],[6],[],[],[8,9],[10],[0,1,4,5,6,7,11],[0,1,4,5,6,7,11,12]] P a O mixed qK qK qK ?_ ?_
   .intro wd s;refine DagStepsT.cons (λd w' X U H=>?_) ?_
    .exact AR (AZ (U 0 O)) (Chg.refl _ _) O
    refine DagStepsT.cons (λd w' X U H=>?_) ?_
    .exact AR (AZ (U 2 O)) (Chg.refl _ _) O
    refine DagStepsT.cons (λd w' X U H=>?_) ?_
    .exact AR (AZ (U 0 O)) (Chg.refl _ _) O
    refine DagStepsT.cons (λd w' X U H=>?_) ?_
    .exact AR (AZ (U 3 O)) (Chg.refl _ _) O
    refine DagStepsT.cons (λd w' X U H=>?_) ?_
    .exact AR (AZ (U 0 O)) (Chg.refl _ _) O
    refine DagStepsT.cons (λd w' X U H=>?_) ?_
    .exact AR (AZ (U 3 O)) (Chg.refl _ _) O
    refine DagStepsT.cons (λd w' X U H=>?_) ?_
    .have N:d 18=(.slice (some ⟨b,0,none⟩) l.length c):=H 4 O 18 (.eq (.slice (some ⟨b,0,none⟩) l.length c)) O (by rw[a];rfl);have G:d 19=(.int .i64 j):=H 5 O 19 (.eq (.int .i64 j)) O (by rw[a];rfl);exact AR (AC (i:=l.length - 1 - i) N G qO underlying22 Ad qO qO) (Chg.refl _ _) O
    refine DagStepsT.cons (λd w' X U H=>?_) ?_
    .have L:d 20=(.pointer (some ⟨b,0+(l.length - 1 - i),none⟩)):=H 6 O 20 (.eq (.pointer (some ⟨b,0+(l.length - 1 - i),none⟩))) O (by rw[a];rfl);exact AR (AE L Ai (by rw[Nat.zero_add];exact (Chg.keep X (λf=>f) (s.keep m) |> λh=>HX h V))) (Chg.refl _ _) O
    refine DagStepsT.cons (λd w' X U H=>?_) ?_
    .exact AR (AZ (U 0 O)) (Chg.refl _ _) O
    refine DagStepsT.cons (λd w' X U H=>?_) ?_
    .exact AR (AZ (U 2 O)) (Chg.refl _ _) O
    refine DagStepsT.cons (λd w' X U H=>?_) ?_
    .have C:d 22=(.slice (some ⟨b,0,none⟩) l.length c):=H 8 O 22 (.eq (.slice (some ⟨b,0,none⟩) l.length c)) O (by rw[a];rfl);have t:d 23=(.int .i64 ((i:Nat):Int)):=H 9 O 23 (.eq (.int .i64 ((i:Nat):Int))) O (by rw[a];rfl);exact AR (AC (i:=i) C t qO underlying22 Ad qO qO) (Chg.refl _ _) O
    refine DagStepsT.cons (λd w' X U H=>?_) ?_
    .have B:d 24=(.pointer (some ⟨b,0+i,none⟩)):=H 10 O 24 (.eq (.pointer (some ⟨b,0+i,none⟩))) O (by rw[a];rfl);exact AR (AE B Ai (by rw[Nat.zero_add];exact (Chg.keep X (λf=>f) (s.keep m) |> λh=>HX h R))) (Chg.refl _ _) O
    refine DagStepsT.cons (λd w' X U H=>?_) ?_
    .have M:d 14=(.slice (some ⟨b,0,none⟩) l.length c):=H 0 O 14 (.eq (.slice (some ⟨b,0,none⟩) l.length c)) O (by rw[a];rfl);have F:d 15=(.int .i64 ((i:Nat):Int)):=H 1 O 15 (.eq (.int .i64 ((i:Nat):Int))) O (by rw[a];rfl);exact AR (AC (i:=i) M F qO underlying22 Ad qO qO) (Chg.refl _ _) O
    refine DagStepsT.cons (λd w' X U H=>?_) ?_
    .have J:d 26=(.pointer (some ⟨b,0+i,none⟩)):=H 12 O 26 (.eq (.pointer (some ⟨b,0+i,none⟩))) O (by rw[a];rfl);have D:d 21=(.int .i64 y):=H 7 O 21 (.eq (.int .i64 y)) O (by rw[a];rfl);exact Mt J D O Ad (Chg.keep X (λf=>f) (s.keep m)) (by simp;omega) O (λw9 h=>by have S:=h.blk;rw[Nat.zero_add,JQ qO y] at S;exact S)
    exact DagStepsT.nil
   .intro d wd3 W s X3 U H;have u:d 16=(.slice (some ⟨b,0,none⟩) l.length c):=H 2 16 (.eq (.slice (some ⟨b,0,none⟩) l.length c)) O (by rw[a];rfl);have A:d 17=(.int .i64 j):=H 3 17 (.eq (.int .i64 j)) O (by rw[a];rfl);have z:d 25=(.int .i64 x):=H 11 25 (.eq (.int .i64 x)) O (by rw[a];rfl);obtain m:=(show (.own (λ_ w=>Az w b ((g.set i y).map (Value.int .i64)++rest).toArray T) (λ_ _ _ e h=>Al.keep e h):FactT ((λx=>x=b))).In (d 41) W from H 13 41 (.own (λ_ w=>Az w b ((g.set i y).map (Value.int .i64)++rest).toArray T) (λ_ _ _ e h=>Al.keep e h)) O (by rw[a];rfl));obtain ⟨j3,rfl⟩:=Ac.out (σ:=d) (l:=[(0,(.slice (some ⟨b,0,none⟩) l.length c)),(2,(.int .i64 ((i:Nat):Int))),(3,(.int .i64 j)),(16,(.slice (some ⟨b,0,none⟩) l.length c)),(17,(.int .i64 j)),(25,(.int .i64 x))]) ⟨U 0 O,U 2 O,U 3 O,u,A,z,trivial⟩;clear U H;replace E:=(E.ext s).step X3 (λx _ h=>h);refine qV (AC (b:=b) (o:=0) (len:=l.length) (cap:=c) (i:=l.length - 1 - i) (o':=0+(l.length - 1 - i)) O O qO underlying22 Ad qO qO) (A9 (b:=b) (o:=0+(l.length - 1 - i)) (c':=(((g.set i y).set (l.length - 1 - i) x).map (Value.int .i64)++rest).toArray) (v:=(I6 x)) O O O Ad m (by simp;omega) (by rw[Nat.zero_add];exact JQ (by simp;omega) x) ?_);intro w4 Q;replace E:=Q.step E qQ;replace m:=Q.blk;refine AA (AN (AB (AJ (qM _ O (qV (Ar O O (A5 qO)) (qM _ O (qV (GO O O (A5 qO)) (qA _ O (qA _ O (AA (AB ?_)))))))))));exact ⟨l.length - (i+1),qO,i+1,j - 1,(g.set i y).set (l.length - 1 - i) x,Ac.out ⟨O,O,O,trivial⟩,E,m,qO,(by simpa using q),Qb q qO p R V,qO,O⟩
  .refine Ak (AP (AP (Ae (EQ results73 ?_))));rw[<-Qc O q qO p];exact ⟨m,E⟩
theorem SY (b:World) (a:Option Addr) (c:Nat) :
 CB prog 73 #[.slice a 0 c] b λ_ w=>Al b w:=by
 refine qR func73 O ntmps73 O (λE=>(Y (qM _ O (qV (AL underlying22 O) (qV (GO (c:=(-1)) O O qD) (qA _ O (qA _ O (AA (AO (Ap (λnn_ σ d=>(∃jj_,σ=BK jj_ [(0,(.slice a 0 c)),(2,(I6 0)),(3,(I6 (-1)))])∧Chg Ab b d∧nn_=0) (n:=0) ?_ ?_))))))))))
 .exact ⟨Ac.out ⟨O,O,O,trivial⟩,E,O⟩
 .clear E;rintro _ _ d ⟨⟨j1,rfl⟩,E,rfl⟩;refine AI (Y (qM _ O (qM _ O (qV (A0 O O) (AA (AW O (Ak (AP (AP (Ae (EQ results73 ?_)))))))))));exact E
theorem US (j:World) (v:Value) (x:Int) (l:List Int) (hs:A2 j v l) :
 CB prog 171 #[v,.int .i64 x] j λr w=>r=.int .i64 (NS (λy=>decide (x=y)) l)∧Al j w:=by
 obtain ⟨a,c,rfl⟩:=BO.form hs;have hlen:l.length<=9223372036854775807:=by simpa using BO.le hs
 simp only[List.length_map] at hs⊢;refine qR func171 O ntmps171 O (λE=>(Y (qA _ O (AA (AI (Y (qM _ O (qV (AL underlying22 O) (qM _ O (AA (AO (Ap (λnn_ σ q=>∃(k:Nat),(∃jj_,σ=BK jj_ [(0,(.slice a l.length c)),(1,(I6 x)),(7,(I6 (l.length:Int))),(8,(I6 (k:Int)))])∧Chg Ab j q∧(k<=l.length)∧(∀(i:Nat) (y:Int),i<k->l[i]?=some y->decide (x=y)=false)∧nn_=l.length - k) (n:=l.length - 0) ?_ ?_))))))))))))
 .exact ⟨0,Ac.out ⟨O,O,O,O,trivial⟩,E,Nat.zero_le _,(λi y h=>absurd h (Nat.not_lt_zero _)),O⟩
 .clear E;rintro _ _ q ⟨k,⟨j1,rfl⟩,E,hk,e,rfl⟩;refine Y (qV (A0 O O) (AA (AI (qC O (λp=>?_) (λp=>?_)))))
  .obtain ⟨y,g⟩:=AK (l:=l) (i:=k) qO;obtain ⟨b,o,rfl,d⟩:=Ao hs qO;refine AM (AB (AI (AO (Y (qM _ O (qA _ O (AA (Y (qM _ O (qM _ O (qM _ O (qV (AC (b:=b) (o:=o) (len:=l.length) (cap:=c) (i:=k) (o':=o+k) O O O underlying22 Ad qO qO) (qV (AE O Ai (E.cell (λf=>f) (d k y g))) (qV (BF O O) (AA (qC O (λm=>?_) (λm=>?_)))))))))))))))))
   .refine Y (qM _ O (qA _ O (AA (AS (A1 (AU (AU (A1 (AU (AY results171 (v:=(.int .i64 ((k:Nat):Int))) O ?_))))))))));exact ⟨BJ (Ii g (by simpa using m) e).symm,E⟩
   .refine AM (AN (AB (AJ (qV (Ar O O (A5 qO)) (qM _ O (AA (AB ?_)))))));exact ⟨l.length - (k+1),qO,k+1,Ac.out ⟨O,O,O,O,trivial⟩,E,qO,GA g (by simpa using m) e,O⟩
  .have hkk:k=l.length:=qO
   refine Ak (AP (AP (Ae (AB (Y (qA _ O (AA (AS (AY results171 (v:=(.int .i64 (-1))) O ?_)))))))));exact ⟨BJ (HY λi y g=>e i y (by have:=AG g;omega) g).symm,E⟩
theorem UT (a:World) (v:Value) (x:Int) (l:List Int) (hs:A2 a v l) :
 CB prog 131 #[v,.int .i64 x] a λr w=>r=.bool (l.contains x)∧Al a w:=by
 refine qR func131 O ntmps131 O (λE=>(Y (qA _ O (AA (Y (qM v O (qM _ O (qE O (AV func171 kQ kQ O) (US _ v x l hs) ?_))))))));rintro _ w9 ⟨rfl,b⟩;replace E:=E.ext b;refine qV (CT O O) (qA _ O (AA (AS (AY results131 (v:=(.bool (decide ((0:Int)<=NS (λy=>decide (x=y)) l)))) O ?_))));exact ⟨CK ((Ij _ l).trans (by rw[List.contains_eq_any_beq];congr 1)),E⟩
theorem GR {w:World} {b T c:Nat} {l:List Int} {rest:List Value} (h:Az w b (l.map (Value.int .i64)++rest).toArray T) (e:l.length<=c) (hm:l.length<=2000000):A2 w (.slice (some ⟨b,0,none⟩) l.length c) l:=by
 refine ⟨_,c,qP,by simp;omega,by simpa using e,.inr ⟨b,0,O,λi r d=>?_⟩⟩;rw[List.getElem?_map,Option.map_eq_some_iff] at d;obtain ⟨x,f,rfl⟩:=d;intro j u a
 match j,a with
 | 0,a=>
  simp[Dh] at a;subst a;have:=HX h f;simpa using this
end Go.Proofs
namespace Go.Proofs
open Go Go.Eng
set_option maxRecDepth 100000
theorem MA {P:Program} {w:World} {e:TypeId} {cs:Array Value} {o:Nat} {v:Value} (a:C_ P e=true) (b:cs[o]?=some v):(part e cs o).run P w=.ok v w:=by
 simp[part,C_.run a,b]
theorem On {α:Type} {l m:List α} (hl:l.length=m.length) (h:∀i,i<l.length->l[i]?=m[i]?):l=m:=by
 apply List.ext_getElem?;intro i;rcases Nat.lt_or_ge i l.length with a|a
 .exact h i a
 .rw[List.getElem?_eq_none a,List.getElem?_eq_none qO]
section
variable {P : Program} {σ : B0} {w : World} {dst : Option Tmp} {ty : TypeId} {pos : String} {af : Array Edge} {g : Option (Nat × Bool)} {t t' e : TypeId} {x y : Operand}
theorem LP {n m : Field} (d : Nat) (a b c f : Int) (z : P.stoodInHeld t = false) (B : P.underlying t = some (.struct #[n, m])) (j : n.name ≠ "_") (i : m.name ≠ "_") (h : n.offset = 0) (g : m.offset = 1) (r : n.type = e) (s : m.type = e) (A : P.underlying e = some (.int .i64)) (v : C_ P e = true) :
 (Op.equalIn (d+2) t (.agg #[.int .i64 a,.int .i64 b]) (.agg #[.int .i64 c,.int .i64 f])).run P w=.ok (decide (a=c) && decide (b=f)) w:=by
 have q:∀x y:Int,(Op.equalIn (d+1) e (.int .i64 x) (.int .i64 y)).run P w=.ok (x == y) w:=λx y=>run_equalIn_int w d e .i64 .i64 x y A;have o:∀x y:Int,(part e #[.int .i64 x,.int .i64 y] 0).run P w=.ok (.int .i64 x) w:=λx y=>MA v O;have p:∀x y:Int,(part e #[.int .i64 x,.int .i64 y] 1).run P w=.ok (.int .i64 y) w:=λx y=>MA v O;have u:(program).run P w=.ok P w:=rfl;rw[Op.equalIn];simp only[Sem.run_bind,run_underlying B,Result.andThen_ok,u,z];by_cases k:a=c
 .by_cases l:b=f
  .simp[j,i,h,g,r,s,o,p,q,k,l]
  .simp[j,i,h,g,r,s,o,p,q,k,l]
 .simp[j,i,h,g,r,s,o,p,q,k]
theorem PT {i d : Field} {a b c f : Int} (n : P.stoodInHeld t = false) (z : P.underlying t = some (.struct #[i, d])) (m : i.name ≠ "_") (l : d.name ≠ "_") (k : i.offset = 0) (j : d.offset = 1) (o : i.type = e) (q : d.type = e) (u : P.underlying e = some (.int .i64)) (s : C_ P e = true) (v : P.eqGuardType P.depth t = false)
 (p:ev σ x=.agg #[.int .i64 a,.int .i64 b]) (r:ev σ y=.agg #[.int .i64 c,.int .i64 f]) :
 (execOp (ev σ) ⟨dst,.binOp .neq t x y t',ty,pos,af,g⟩).run P w=.ok (.value (.bool (!(decide (a=c) && decide (b=f))))) w:=by
 have h:=LP (P:=P) (w:=w) 9998 a b c f n z m l k j o q u s;simp only[execOp,p,r,Sem.run_bind,run_eqGuard_agg w .neq t x y _ _ v,Result.andThen_ok,run_neq_struct,h];rfl
end
theorem TE:prog.eqGuardType prog.depth 94=false:=by kernel_rfl
theorem PG:prog.stoodInHeld 94=false:=by kernel_rfl
theorem T2 (f:World) (C F:Value) (c d:List (Int×Int)) (r:BW f C c) (u:BW f F d) :
 CB prog 135 #[C,F] f λv w=>v=.bool (decide (c=d))∧Al f w:=by
 obtain ⟨J,c1,rfl⟩:=BO.form r;obtain ⟨I,c2,rfl⟩:=BO.form u;have hb1:c.length<=9223372036854775807:=by simpa using BO.le r
 simp only[List.length_map] at r u⊢;refine qR func135 O ntmps135 O (λE=>(Y (qA _ O (AA (AI (Y (qM _ O (qV (AL underlying37 O) (qM _ O (qV (AL underlying37 O) (qV (CE O O) (AA (qC O (λx=>?_) (λx=>?_))))))))))))))
 .refine Y (qA _ O (AA (AS (AU (AY results135 (v:=(.bool false)) O ?_)))));exact ⟨CK (by symm;rw[decide_eq_false_iff_not];intro h;rw[h] at x;exact x O),E⟩
 .refine AM (AB (AI (Y (qM _ O (qV (AL underlying37 O) (qM _ O (AA (AO (Ap (λnn_ σ D=>∃(k:Nat),(∃jj_,σ=BK jj_ [(0,(.slice J c.length c1)),(1,(.slice I d.length c2)),(12,(I6 (c.length:Int))),(13,(I6 (k:Int)))])∧Chg Ab f D∧(k<=c.length)∧(∀(i:Nat),i<k->c[i]?=d[i]?)∧nn_=c.length - k) (n:=c.length - 0) ?_ ?_)))))))))
  .exact ⟨0,Ac.out ⟨O,O,O,O,trivial⟩,E,Nat.zero_le _,(λi h=>absurd h (Nat.not_lt_zero _)),O⟩
  .clear E;rintro _ _ D ⟨k,⟨j2,rfl⟩,E,hk,e,rfl⟩;refine Y (qV (A0 O O) (AA (AI (qC O (λy=>?_) (λy=>?_)))))
   .obtain ⟨p,t⟩:=AK (l:=c) (i:=k) qO;obtain ⟨q,m⟩:=AK (l:=d) (i:=k) qO;obtain ⟨H,B,rfl,s⟩:=CZ r qO;obtain ⟨K,A,rfl,z⟩:=CZ u qO;refine AM (AB (AI (AO (Y (qM _ O (qA _ O (AA (Dt 8 mixed qK ?_))))))));intro w4 G _;replace E:=E.ext G;refine qT (AZ O) (qT (AZ O) (qT (AC (b:=H) (o:=B) (len:=c.length) (cap:=c1) (i:=k) (o':=B+k*2) O O O underlying37 CJ qO qO) (qT (Aa O GF CJ O ((s k p t).ext E)) (qT (AZ O) (qT (AZ O) (qT (AC (b:=K) (o:=A) (len:=d.length) (cap:=c2) (i:=k) (o':=A+k*2) O O O underlying37 CJ qO qO) (qT (Aa O GF CJ O ((z k q m).ext E)) (ES (BV (v:=(.bool (!(decide (p.1=q.1) && decide (p.2=q.2))))) O O qD (PT PG underlying94 qD qD O O O O underlying3 Ai TE O O) (AA (As O (λa=>?_) (λa=>?_))))))))))))
    .have j:=a;replace a:=by simpa using a
     refine Y (qA _ O (AA (AS (A1 (AU (AU (A1 (AU (AY results135 (v:=(.bool false)) O ?_)))))))));exact ⟨CK (by symm;rw[decide_eq_false_iff_not];intro h;subst h;rw[t] at m;cases m;simp at a),E⟩
    .have j:=a;replace a:=by simpa using a
     have g:p=q:=by obtain ⟨p1,p2⟩:=p;obtain ⟨q1,q2⟩:=q;simp at a;simp;exact a
     refine AM (AN (AB (AJ (qV (Ar O O (A5 qO)) (qM _ O (AA (AB ?_)))))));exact ⟨c.length - (k+1),qO,k+1,Ac.out ⟨O,O,O,O,trivial⟩,E,qO,(λi hi=>by rcases Nat.lt_or_ge i k with h|h;exact e i h;obtain rfl:i=k:=qO;rw[t,m,g]),O⟩
   .have hkk:k=c.length:=qO
    refine Ak (AP (AP (Ae (AB (Y (qA _ O (AA (AS (AY results135 (v:=(.bool true)) O ?_)))))))));exact ⟨CK (by symm;rw[decide_eq_true_eq];exact On qO (λi hi=>e i qO)),E⟩
theorem M9 {w:World} {b o:Nat} {l:List (Int×Int)} (h:∀i s,l[i]?=some s->BA w b (o+i*2) [.int .i64 s.1,.int .i64 s.2]):BA w b o (l.map CD).flatten:=by
 induction l generalizing o with
 | nil=>intro i v a;simp at a
 | cons s l ih=>
  have f:=h 0 s O;have c:=ih (o:=o+2) (λi u d=>by have:=h (i+1) u (by simpa using d);rwa [show o+(i+1)*2=o+2+i*2 from qO] at this);intro i v a;simp only[List.map_cons,List.flatten_cons] at a;have e:(CD s).length=2:=rfl;rcases Nat.lt_or_ge i 2 with hi|hi
  .rw[List.getElem?_append_left qO] at a;have:=f i v a;simpa using this
  .rw[List.getElem?_append_right qO] at a;have:=c (i - 2) v (by rw[e] at a;exact a)
   rwa [show o+2+(i - 2)=o+i from qO] at this
theorem FH (l:List (Int×Int)):(l.map CD).flatten.length=l.length*2:=by
 induction l with
 | nil=>rfl
 | cons s l ih=>simp only[List.map_cons,List.flatten_cons,List.length_append,ih,List.length_cons];have:(CD s).length=2:=rfl;omega
theorem PJ (l:List (Int×Int)):∀u∈(l.map CD).flatten,u.oneCell'=true:=by
 intro u a;simp only[List.mem_flatten,List.mem_map] at a;obtain ⟨r,⟨s,_,rfl⟩,a⟩:=a;simp[CD] at a;rcases a with rfl|rfl<;>rfl
def GZ (x y:Int):Int:=if x<y then -1 else if y<x then 1 else 0
theorem Tl (a:World) (x:Int):CB prog 161 #[.int .i64 x] a λv w=>v=.bool false∧Al a w:=by
 refine qR func161 O ntmps161 O (λE=>(Y (qA _ O (AA (Y (qM _ O (qM _ O (qV (CE O O) (qA _ O (AA (AS (AY results161 (v:=(.bool (decide ((x:Int)≠x)))) O ?_))))))))))));exact ⟨CK qP,E⟩
theorem Kr (d:World) (x y:Int):CB prog 110 #[.int .i64 x,.int .i64 y] d λv w=>v=.int .i64 (GZ x y)∧Al d w:=by
 refine qR func110 O ntmps110 O (λE=>(Y (qA _ O (AA (Y (qM _ O (qE O (AV func161 kQ kQ O) (Tl _ x) ?_)))))));rintro _ w9 ⟨rfl,e⟩;refine qA _ O (AA (Y (qM _ O (qE O (AV func161 kQ kQ O) (Tl _ y) ?_))));rintro _ w19 ⟨rfl,b⟩;replace E:=(E.ext e).ext b;refine qA _ O (AA (AI (Y (qM _ O (AA (AW O (AM (AB (AI (Y (qM _ O (AA (AW O (AM (AB (AI (Y (qM _ O (qM _ O (qV (A0 O O) (AA (qC O (λa=>?_) (λa=>?_)))))))))))))))))))))))
 .refine Y (qA _ O (AA (AS (AU (AY results110 (v:=(.int .i64 (-1))) O ?_)))));exact ⟨BJ (by unfold GZ;rw[if_pos a]),E⟩
 .refine AM (AB (AI (Y (qM _ O (qM _ O (qV (CU O O) (AA (qC O (λc=>?_) (λc=>?_)))))))))
  .refine Y (qA _ O (AA (AS (AU (AY results110 (v:=(.int .i64 1)) O ?_)))));exact ⟨BJ (by unfold GZ;rw[if_neg a,if_pos c]),E⟩
  .refine AM (AB (Y (qA _ O (AA (AS (AY results110 (v:=(.int .i64 0)) O ?_))))));exact ⟨BJ (by unfold GZ;rw[if_neg a,if_neg c]),E⟩
section
variable {P : Program} {σ : B0} {w : World} {dst : Option Tmp} {ty : TypeId} {pos : String} {af : Array Edge} {g : Option (Nat × Bool)} {tys : Array TypeId} {x y : Operand} {k : IntKind} {a b c : Int}
theorem I4 (f:ev σ x=.int k a) (e:ev σ y=.int k b) (d:min a b=c) :
 (execOp (ev σ) ⟨dst,.call ⟨.builtin .min,#[x,y],tys⟩,ty,pos,af,g⟩).run P w=.ok (.value (.int k c)) w:=by
 subst d;have:(if b<a then b else a)=min a b:=by split<;>omega
 simp[execOp,resolve,invoke,builtin,Builtin.min_,Builtin.min2,f,e,this]
theorem Qj (f:ev σ x=.int k a) (e:ev σ y=.int k b) (d:max a b=c) :
 (execOp (ev σ) ⟨dst,.call ⟨.builtin .max,#[x,y],tys⟩,ty,pos,af,g⟩).run P w=.ok (.value (.int k c)) w:=by
 subst d;have:(if a<b then b else a)=max a b:=by split<;>omega
 simp[execOp,resolve,invoke,builtin,Builtin.max_,Builtin.max2,f,e,this]
end
end Go.Proofs
namespace Go.Proofs
open Go Go.Eng
set_option maxRecDepth 100000
def FB (s:Int×Int):Bool:=(decide (0<=s.1) && decide (s.1<=s.2)) && decide (s.2<=1114111)
theorem SE (s:Int×Int) (m:World) :
 CB prog 120 #[.agg #[.int .i64 s.1,.int .i64 s.2]] m λv w=>v=.bool (FB s)∧Al m w:=by
 refine qR func120 O ntmps120 O (λE=>(Y (BP (v:=(.agg #[(I6 s.1),(I6 s.2)])) (c:=#[(I6 s.1),(I6 s.2)]) qD O O ?_)));intro j w1 l;replace E:=E.ext l.ext;have k:=l.blk;refine qA _ O (AA (Y (qF j 0 0 O underlying94 O Ad O (qV (AE O Ai (k.cell O)) ?_))));obtain ⟨a,f⟩:∃e,(decide ((0:Int)<=s.1))=e:=⟨_,O⟩;refine qV ((CT O O).trans (by rw[f];try rfl)) (qM _ O (qG (.bool a) (yU a (P6 j 0)) (by cases a<;>first|exact gA|exact gB|exact .inl ⟨O,AT O underlying94 O Ad O⟩) (qG (.bool a) (yU a (I6 s.1)) (by cases a<;>first|exact gA|exact gB|exact .inl ⟨O,AE O Ai (k.cell O)⟩) (qG (.bool a) (yU a (P6 j 1)) (by cases a<;>first|exact gA|exact gB|exact .inl ⟨O,AT O underlying94 O Ad O⟩) (qG (.bool a) (yU a (I6 s.2)) (by cases a<;>first|exact gA|exact gB|exact .inl ⟨O,AE O Ai (k.cell O)⟩) ?_)))));obtain ⟨o,i⟩:∃e,(decide ((s.1:Int)<=s.2))=e:=⟨_,O⟩;refine qG (.bool a) (yU a (.bool o)) (by cases a<;>first|exact gA|exact gB|exact .inl ⟨O,(G0 O O).trans (by rw[i];try rfl)⟩) ?_;obtain ⟨b,d⟩:∃e,(a && o)=e:=⟨_,O⟩;refine qV (Ag (v:=.bool b) O (by rw[<-d];cases a<;>rfl)) (qM _ O (qG (.bool b) (yU b (P6 j 1)) (by cases b<;>first|exact gA|exact gB|exact .inl ⟨O,AT O underlying94 O Ad O⟩) (qG (.bool b) (yU b (I6 s.2)) (by cases b<;>first|exact gA|exact gB|exact .inl ⟨O,AE O Ai (k.cell O)⟩) ?_)));obtain ⟨n,h⟩:∃e,(decide ((s.2:Int)<=1114111))=e:=⟨_,O⟩;refine qG (.bool b) (yU b (.bool n)) (by cases b<;>first|exact gA|exact gB|exact .inl ⟨O,(G0 O O).trans (by rw[h];try rfl)⟩) ?_;obtain ⟨p,g⟩:∃e,(b && n)=e:=⟨_,O⟩;refine qV (Ag (v:=.bool p) O (by rw[<-g];cases b<;>rfl)) (qA _ O (AA ?_));subst g;subst h;subst d;subst i;subst f;refine AS (AY results120 (v:=(.bool (((decide ((0:Int)<=s.1)) && (decide ((s.1:Int)<=s.2))) && (decide ((s.2:Int)<=1114111))))) O ?_);exact ⟨O,E⟩
def PZ (k n:Int):Bool:=if k=3∨k=4∨k=7 then decide (2<=n) else if k=5∨k=6∨k=8∨k=9∨k=10 then decide (n=1) else decide (n=0)
def IM (t:Re):Bool:=
 (((PZ t.kind t.args.length && (decide (t.kind=2) || decide ((t.set.length:Int)=0))) && ((decide (t.kind=6) || decide (t.kind=9)) || decide (t.mn=0))) && (decide (t.kind=6) || decide (t.mx=0))) && (decide (t.kind=10) || !t.neg)
theorem UV (wb w0:World) (t:Re) (vs:List Value) (ht:CG wb t vs) :
 CB prog 202 #[.agg vs.toArray] w0 λv w=>v=.bool (IM t)∧Al w0 w:=by
 obtain ⟨sa,sc,aa,ac,rfl,hset,hlen,hargs⟩:=ht.form;refine qR func202 O ntmps202 O (λE=>(Y (BP (v:=(.agg (R6 t sa sc aa ac))) (c:=(R6 t sa sc aa ac)) qD O O ?_)));intro l w1 N1;replace E:=E.ext N1.ext;have k:=N1.blk;refine qA _ O (AA (Y (qF l 0 2 O underlying68 O Lt O (qV (AE O JW (k.cell O)) (qV (AL underlying66 O) (qA _ O (AA (Y (qM _ O (qV (BF O O) (qA _ O (AA (Ex (λσ W2=>∃(ok:Bool),(∃jj_,σ=BK jj_ [(1,(P6 l 0)),(4,(.bool ok))])∧Chg Ab w0 W2∧Az W2 l (R6 t sa sc aa ac) 68∧(ok=PZ t.kind t.args.length)) ?_ ?_)))))))))))))
 .skip
  refine Y (qF l 0 0 O underlying68 O Ad O (qV (AE O Ai (k.cell O)) (AA (AO (AI (Y (qV (BF O O) (qA _ O (AA (qC O (λR=>?_) (λR=>?_)))))))))))
  .have F:=decide_eq_true R;refine AM (AB (A7 (BH F) (AJ (qM _ O (qV (CT O O) (qA _ O (AA (AN (AB ?_)))))))));exact ⟨(decide ((2:Int)<=((t.args.length:Nat):Int))),Ac.out ⟨O,O,trivial⟩,E,k,(by unfold PZ;(repeat' split)<;>first|rfl|omega)⟩
  .have F:=decide_eq_false R;refine Y (qV (BF O O) (qA _ O (AA (qC O (λP=>?_) (λP=>?_)))))
   .have L:=decide_eq_true P;refine AM (AB (A7 (BH L) (AJ (qM _ O (qV (CT O O) (qA _ O (AA (AN (AB ?_)))))))));exact ⟨(decide ((2:Int)<=((t.args.length:Nat):Int))),Ac.out ⟨O,O,trivial⟩,E,k,(by unfold PZ;(repeat' split)<;>first|rfl|omega)⟩
   .have L:=decide_eq_false P;refine AJ (qV (BF O O) (qA _ O (AA (AB (qC O (λak=>?_) (λak=>?_))))))
    .refine AJ (qM _ O (qV (CT O O) (qA _ O (AA (AN (AB ?_))))));exact ⟨(decide ((2:Int)<=((t.args.length:Nat):Int))),Ac.out ⟨O,O,trivial⟩,E,k,(by unfold PZ;(repeat' split)<;>first|rfl|omega)⟩
    .refine AI (Y (qV (BF O O) (qA _ O (AA (qC O (λX=>?_) (λX=>?_))))))
     .have q:=decide_eq_true X;refine AM (AB (A7 (BH q) (AJ (qM _ O (qV (BF O O) (qA _ O (AA (AN (AB ?_)))))))));exact ⟨(decide ((((t.args.length:Nat):Int):Int)=1)),Ac.out ⟨O,O,trivial⟩,E,k,(by unfold PZ;(repeat' split)<;>first|rfl|omega)⟩
     .have q:=decide_eq_false X;refine Y (qV (BF O O) (qA _ O (AA (qC O (λW=>?_) (λW=>?_)))))
      .have D:=decide_eq_true W;refine AM (AB (A7 (BH D) (AJ (qM _ O (qV (BF O O) (qA _ O (AA (AN (AB ?_)))))))));exact ⟨(decide ((((t.args.length:Nat):Int):Int)=1)),Ac.out ⟨O,O,trivial⟩,E,k,(by unfold PZ;(repeat' split)<;>first|rfl|omega)⟩
      .have D:=decide_eq_false W;refine Y (qV (BF O O) (qA _ O (AA (qC O (λV=>?_) (λV=>?_)))))
       .have A:=decide_eq_true V;refine AM (AB (A7 (BH A) (AJ (qM _ O (qV (BF O O) (qA _ O (AA (AN (AB ?_)))))))));exact ⟨(decide ((((t.args.length:Nat):Int):Int)=1)),Ac.out ⟨O,O,trivial⟩,E,k,(by unfold PZ;(repeat' split)<;>first|rfl|omega)⟩
       .have A:=decide_eq_false V;refine Y (qV (BF O O) (qA _ O (AA (qC O (λT=>?_) (λT=>?_)))))
        .have n:=decide_eq_true T;refine AM (AB (A7 (BH n) (AJ (qM _ O (qV (BF O O) (qA _ O (AA (AN (AB ?_)))))))));exact ⟨(decide ((((t.args.length:Nat):Int):Int)=1)),Ac.out ⟨O,O,trivial⟩,E,k,(by unfold PZ;(repeat' split)<;>first|rfl|omega)⟩
        .have n:=decide_eq_false T;refine AJ (qV (BF O O) (qA _ O (AA (AB (qC O (λab=>?_) (λab=>?_))))))
         .refine AJ (qM _ O (qV (BF O O) (qA _ O (AA (AN (AB ?_))))));exact ⟨(decide ((((t.args.length:Nat):Int):Int)=1)),Ac.out ⟨O,O,trivial⟩,E,k,(by unfold PZ;(repeat' split)<;>first|rfl|omega)⟩
         .refine AM (AN (AB ?_));exact ⟨(decide ((((t.args.length:Nat):Int):Int)=0)),Ac.out ⟨O,O,trivial⟩,E,k,(by unfold PZ;(repeat' split)<;>first|rfl|omega)⟩
 .clear E k;rintro _ W2 ⟨ok,⟨j2,rfl⟩,E,k,ai⟩;refine Y (qM _ O (qM _ O (qG (.bool ok) (yU ok (P6 l 0)) (by cases ok<;>first|exact gA|exact gB|exact .inl ⟨O,AT O underlying68 O Ad O⟩) (qG (.bool ok) (yU ok (I6 t.kind)) (by cases ok<;>first|exact gA|exact gB|exact .inl ⟨O,AE O Ai (k.cell O)⟩) ?_))));obtain ⟨f,y⟩:∃e,(decide ((t.kind:Int)=2))=e:=⟨_,O⟩;refine qG (.bool ok) (yU ok (.bool f)) (by cases ok<;>first|exact gA|exact gB|exact .inl ⟨O,(BF O O).trans (by rw[y];try rfl)⟩) (qG (.bool ok) (yU ok (.bool f)) (by cases ok<;>first|exact gA|exact gB|exact .inl ⟨O,AZ O⟩) (qG (yU ok (.bool f)) (yU ok (nU f (P6 l 1))) (by cases ok<;>cases f<;>first|exact gA|exact gB|exact .inl ⟨O,AT O underlying68 O C4 O⟩) (qG (yU ok (.bool f)) (yU ok (nU f (.slice sa t.set.length sc))) (by cases ok<;>cases f<;>first|exact gA|exact gB|exact .inl ⟨O,AE O DW (k.cell O)⟩) (qG (yU ok (.bool f)) (yU ok (nU f (I6 (t.set.length:Int)))) (by cases ok<;>cases f<;>first|exact gA|exact gB|exact .inl ⟨O,AL underlying37 O⟩) ?_))));obtain ⟨ag,x⟩:∃e,(decide ((((t.set.length:Nat):Int):Int)=0))=e:=⟨_,O⟩;refine qG (yU ok (.bool f)) (yU ok (nU f (.bool ag))) (by cases ok<;>cases f<;>first|exact gA|exact gB|exact .inl ⟨O,(BF O O).trans (by rw[x];try rfl)⟩) ?_;obtain ⟨U,H⟩:∃e,(f || ag)=e:=⟨_,O⟩;refine qG (.bool ok) (yU ok (.bool U)) (by cases ok<;>first|exact gA|exact gB|exact .inl ⟨O,Ag (v:=.bool U) O (by rw[<-H];cases f<;>rfl)⟩) ?_;obtain ⟨a,r⟩:∃e,(ok && U)=e:=⟨_,O⟩;refine qV (Ag (v:=.bool a) O (by rw[<-r];cases ok<;>rfl)) (qM _ O (qG (.bool a) (yU a (P6 l 0)) (by cases a<;>first|exact gA|exact gB|exact .inl ⟨O,AT O underlying68 O Ad O⟩) (qG (.bool a) (yU a (I6 t.kind)) (by cases a<;>first|exact gA|exact gB|exact .inl ⟨O,AE O Ai (k.cell O)⟩) ?_)));obtain ⟨j,B⟩:∃e,(decide ((t.kind:Int)=6))=e:=⟨_,O⟩;refine qG (.bool a) (yU a (.bool j)) (by cases a<;>first|exact gA|exact gB|exact .inl ⟨O,(BF O O).trans (by rw[B];try rfl)⟩) (qG (.bool a) (yU a (.bool j)) (by cases a<;>first|exact gA|exact gB|exact .inl ⟨O,AZ O⟩) (qG (yU a (.bool j)) (yU a (nU j (P6 l 0))) (by cases a<;>cases j<;>first|exact gA|exact gB|exact .inl ⟨O,AT O underlying68 O Ad O⟩) (qG (yU a (.bool j)) (yU a (nU j (I6 t.kind))) (by cases a<;>cases j<;>first|exact gA|exact gB|exact .inl ⟨O,AE O Ai (k.cell O)⟩) ?_)));obtain ⟨ad,z⟩:∃e,(decide ((t.kind:Int)=9))=e:=⟨_,O⟩;refine qG (yU a (.bool j)) (yU a (nU j (.bool ad))) (by cases a<;>cases j<;>first|exact gA|exact gB|exact .inl ⟨O,(BF O O).trans (by rw[z];try rfl)⟩) ?_;obtain ⟨g,G⟩:∃e,(j || ad)=e:=⟨_,O⟩;refine qG (.bool a) (yU a (.bool g)) (by cases a<;>first|exact gA|exact gB|exact .inl ⟨O,Ag (v:=.bool g) O (by rw[<-G];cases j<;>rfl)⟩) (qG (.bool a) (yU a (.bool g)) (by cases a<;>first|exact gA|exact gB|exact .inl ⟨O,AZ O⟩) (qG (yU a (.bool g)) (yU a (nU g (P6 l 3))) (by cases a<;>cases g<;>first|exact gA|exact gB|exact .inl ⟨O,AT O underlying68 O Ad O⟩) (qG (yU a (.bool g)) (yU a (nU g (I6 t.mn))) (by cases a<;>cases g<;>first|exact gA|exact gB|exact .inl ⟨O,AE O Ai (k.cell O)⟩) ?_)));obtain ⟨ah,K⟩:∃e,(decide ((t.mn:Int)=0))=e:=⟨_,O⟩;refine qG (yU a (.bool g)) (yU a (nU g (.bool ah))) (by cases a<;>cases g<;>first|exact gA|exact gB|exact .inl ⟨O,(BF O O).trans (by rw[K];try rfl)⟩) ?_;obtain ⟨S,I⟩:∃e,(g || ah)=e:=⟨_,O⟩;refine qG (.bool a) (yU a (.bool S)) (by cases a<;>first|exact gA|exact gB|exact .inl ⟨O,Ag (v:=.bool S) O (by rw[<-I];cases g<;>rfl)⟩) ?_;obtain ⟨b,N⟩:∃e,(a && S)=e:=⟨_,O⟩;refine qV (Ag (v:=.bool b) O (by rw[<-N];cases a<;>rfl)) (qM _ O (qG (.bool b) (yU b (P6 l 0)) (by cases b<;>first|exact gA|exact gB|exact .inl ⟨O,AT O underlying68 O Ad O⟩) (qG (.bool b) (yU b (I6 t.kind)) (by cases b<;>first|exact gA|exact gB|exact .inl ⟨O,AE O Ai (k.cell O)⟩) ?_)));obtain ⟨h,M⟩:∃e,(decide ((t.kind:Int)=6))=e:=⟨_,O⟩;refine qG (.bool b) (yU b (.bool h)) (by cases b<;>first|exact gA|exact gB|exact .inl ⟨O,(BF O O).trans (by rw[M];try rfl)⟩) (qG (.bool b) (yU b (.bool h)) (by cases b<;>first|exact gA|exact gB|exact .inl ⟨O,AZ O⟩) (qG (yU b (.bool h)) (yU b (nU h (P6 l 4))) (by cases b<;>cases h<;>first|exact gA|exact gB|exact .inl ⟨O,AT O underlying68 O Ad O⟩) (qG (yU b (.bool h)) (yU b (nU h (I6 t.mx))) (by cases b<;>cases h<;>first|exact gA|exact gB|exact .inl ⟨O,AE O Ai (k.cell O)⟩) ?_)));obtain ⟨ae,J⟩:∃e,(decide ((t.mx:Int)=0))=e:=⟨_,O⟩;refine qG (yU b (.bool h)) (yU b (nU h (.bool ae))) (by cases b<;>cases h<;>first|exact gA|exact gB|exact .inl ⟨O,(BF O O).trans (by rw[J];try rfl)⟩) ?_;obtain ⟨Q,C⟩:∃e,(h || ae)=e:=⟨_,O⟩;refine qG (.bool b) (yU b (.bool Q)) (by cases b<;>first|exact gA|exact gB|exact .inl ⟨O,Ag (v:=.bool Q) O (by rw[<-C];cases h<;>rfl)⟩) ?_;obtain ⟨d,m⟩:∃e,(b && Q)=e:=⟨_,O⟩;refine qV (Ag (v:=.bool d) O (by rw[<-m];cases b<;>rfl)) (qM _ O (qG (.bool d) (yU d (P6 l 0)) (by cases d<;>first|exact gA|exact gB|exact .inl ⟨O,AT O underlying68 O Ad O⟩) (qG (.bool d) (yU d (I6 t.kind)) (by cases d<;>first|exact gA|exact gB|exact .inl ⟨O,AE O Ai (k.cell O)⟩) ?_)));obtain ⟨i,u⟩:∃e,(decide ((t.kind:Int)=10))=e:=⟨_,O⟩;refine qG (.bool d) (yU d (.bool i)) (by cases d<;>first|exact gA|exact gB|exact .inl ⟨O,(BF O O).trans (by rw[u];try rfl)⟩) (qG (.bool d) (yU d (.bool i)) (by cases d<;>first|exact gA|exact gB|exact .inl ⟨O,AZ O⟩) (qG (yU d (.bool i)) (yU d (nU i (P6 l 5))) (by cases d<;>cases i<;>first|exact gA|exact gB|exact .inl ⟨O,AT O underlying68 O EZ O⟩) (qG (yU d (.bool i)) (yU d (nU i (.bool t.neg))) (by cases d<;>cases i<;>first|exact gA|exact gB|exact .inl ⟨O,AE O E7 (k.cell O)⟩) ?_)));obtain ⟨af,p⟩:∃e,(!t.neg)=e:=⟨_,O⟩;refine qG (yU d (.bool i)) (yU d (nU i (.bool af))) (by cases d<;>cases i<;>first|exact gA|exact gB|exact .inl ⟨O,(CM O).trans (by rw[p];try rfl)⟩) ?_;obtain ⟨Z,s⟩:∃e,(i || af)=e:=⟨_,O⟩;refine qG (.bool d) (yU d (.bool Z)) (by cases d<;>first|exact gA|exact gB|exact .inl ⟨O,Ag (v:=.bool Z) O (by rw[<-s];cases i<;>rfl)⟩) ?_;obtain ⟨aj,o⟩:∃e,(d && Z)=e:=⟨_,O⟩;refine qV (Ag (v:=.bool aj) O (by rw[<-o];cases d<;>rfl)) (qA _ O (AA ?_));subst o;subst s;subst p;subst u;subst m;subst C;subst J;subst M;subst N;subst I;subst K;subst G;subst z;subst B;subst r;subst H;subst x;subst y;refine AS (AY results202 (v:=(.bool ((((ok && ((decide ((t.kind:Int)=2)) || (decide ((((t.set.length:Nat):Int):Int)=0)))) && (((decide ((t.kind:Int)=6)) || (decide ((t.kind:Int)=9))) || (decide ((t.mn:Int)=0)))) && ((decide ((t.kind:Int)=6)) || (decide ((t.mx:Int)=0)))) && ((decide ((t.kind:Int)=10)) || (!t.neg))))) O ?_);subst ai;exact ⟨O,E⟩
def EG:Option Int->List (Int×Int)->Int
  | _,[]=>0
  | p,s::r=>if FB s=false then 1 else if (match p with|some h=>decide (s.1<h+2)|none=>false)=true then 3 else EG (some s.2) r
theorem Ds (p:Option Int) (s:Int×Int) (r:List (Int×Int)):EG p (s::r)=if FB s=false then 1 else if (match p with|some h=>decide (s.1<h+2)|none=>false)=true then 3 else EG (some s.2) r:=rfl
def BT (l:List (Int×Int)):Int:=if 16<l.length then 2 else EG none l
def Df (l:List (Int×Int)) (k:Nat):Option Int:=if k=0 then none else (l[k - 1]?).map (·.2)
theorem Q4 {l:List (Int×Int)} {k:Nat} {s:Int×Int} (h:l[k]?=some s):Df l (k+1)=some s.2:=by
 unfold Df;simp[h]
theorem U8 {l:List (Int×Int)} {k:Nat} {s:Int×Int} {p:Int} (a:0<k->∃q,l[k - 1]?=some q∧q.2=p∧Df l k=some p)
 (c:(decide ((0:Int)<((k:Nat):Int)) && decide (s.1<p+2))=false):¬(match Df l k with|some h=>decide (s.1<h+2)|none=>false)=true:=by
 by_cases b:0<k
 .obtain ⟨q,_,_,d⟩:=a b;rw[d];simp at c⊢;exact c b
 .have:Df l k=none:=by unfold Df;rw[if_pos qO]
  rw[this];simp
theorem L1 (w0:World) (v:Value) (l:List (Int×Int)) (hs:BW w0 v l) :
  CB prog 63 #[v] w0 fun v w=>v=.int .i64 (BT l)∧Al w0 w:=by
 obtain ⟨a,c,rfl⟩:=BO.form hs;have au:l.length≤9223372036854775807:=by simpa using BO.le hs
 simp only[List.length_map] at hs⊢;refine qR func63 rfl ntmps63 rfl (fun E=>(Y (qA _ rfl (AA (AI (Y (qM _ rfl (qV (AL underlying37 rfl) (qV (CU rfl rfl) (AA (qC rfl (fun an=>?_) (fun an=>?_))))))))))))
 ·refine Y (qA _ rfl (AA (AS (AU (AY results63 (v:=(.int .i64 2)) rfl ?_)))));exact ⟨by unfold BT;rw[if_pos qO],E⟩
 ·have ap:BT l=EG none l:=by unfold BT;rw[if_neg qO]
  rw[ap];refine AM (AB (AI (Y (qM _ rfl (qV (AL underlying37 rfl) (qM _ rfl (AA (AO (Ap (fun nn_ σ W2=>∃(k:Nat),(∃jj_,σ=BK jj_ [(0,(.slice a l.length c)),(8,(.slice a l.length c)),(9,(I6 (l.length:Int))),(10,(I6 (k:Int)))])∧Chg Ab w0 W2∧(k≤l.length)∧(EG none l=EG (Df l k) (l.drop k))∧(∀h,Df l k=some h→0≤h∧h≤1114111)∧nn_=l.length - k) (n:=l.length - 0) ?_ ?_)))))))))
  ·exact ⟨0,Ac.out ⟨rfl,rfl,rfl,rfl,trivial⟩,E,Nat.zero_le _,rfl,(by intro h hh;simp[Df] at hh),rfl⟩
  ·clear E;rintro _ _ W2 ⟨k,⟨j2,rfl⟩,E,hk,aa,ao,rfl⟩;refine Y (qV (A0 rfl rfl) (AA (AI (qC rfl (fun av=>?_) (fun av=>?_)))))
   ·have ac:k<l.length:=qO
    obtain ⟨s,ag⟩:∃s,l[k]?=some s:=⟨_,List.getElem?_eq_getElem ac⟩;obtain ⟨b,o,rfl,ab⟩:=CZ hs qO;have ar:l.drop k=s::l.drop (k+1):=by rw[List.drop_eq_getElem_cons ac];rw[List.getElem?_eq_getElem ac] at ag;cases ag;rfl
    rw[ar] at aa;refine AM (AB (AI (AO (Y (qM _ rfl (qV (AC (b:=b) (o:=o) (len:=l.length) (cap:=c) (i:=k) (o':=o+k*2) rfl rfl rfl underlying37 CJ qO qO) (qV (Aa rfl GF CJ rfl ((ab k s ag).ext E)) (By (c:=#[(I6 0),(I6 0)]) qD FF rfl ?_))))))));intro b4 w4 N4;have F4:=N4.ge E;replace E:=E.ext N4.ext;have B4:=N4.blk;refine qA _ rfl (A8 (b:=b4) (o:=0) (c':=#[(I6 s.1),(I6 s.2)]) rfl rfl qS CJ rfl B4 qL rfl ?_);intro w5 S5;replace E:=S5.step E qQ;replace B4:=S5.blk;refine AA (AI (Y (qV (Aa (vs:=[(I6 s.1),(I6 s.2)]) rfl GF CJ rfl (B4.cells rfl)) (qE rfl (AV func120 kQ kQ rfl) (SE s _) ?_))));rintro _ w9 ⟨rfl,X9⟩;replace B4:=X9.keep B4;replace E:=E.ext X9;refine qV (CM rfl) (AA (As rfl (fun hv=>?_) (fun hv=>?_)))
    ·have am:=hv;replace hv:=by simpa using hv
     refine Y (qA _ rfl (AA (AS (AU (A1 (AU (AU (A1 (AU (AY results63 (v:=(.int .i64 1)) rfl ?_))))))))));exact ⟨by rw[aa];rw[Ds,if_pos hv],E⟩
    ·have am:=hv;replace hv:=by simpa using hv
     have ah:FB s=true:=by simpa using hv
     have aq:0≤s.2∧s.2≤1114111:=by unfold FB at ah;simp at ah;omega
     obtain ⟨p,ae⟩:∃p,(Df l k).getD 0=p:=⟨_,rfl⟩;have ai:0<k→∃q,l[k - 1]?=some q∧q.2=p∧Df l k=some p:=by
      intro h0;have h1:k - 1<l.length:=qO
      have h2:Df l k=some (l[k - 1]).2:=by unfold Df;rw[if_neg qO,List.getElem?_eq_getElem h1];rfl
      rw[h2] at ae;simp at ae;exact ⟨_,List.getElem?_eq_getElem h1,ae,by rw[h2,ae]⟩
     have hpb:0≤p∧p≤1114111:=by
      by_cases h0:0<k
      ·obtain ⟨q,_,_,h3⟩:=ai h0;exact ao p h3
      ·have:Df l k=none:=by unfold Df;rw[if_pos qO]
       rw[this] at ae;simp at ae;omega
     refine AM (AB (Dt 13 mixed qK ?_));intro w7 X7 _;replace B4:=X7.keep B4;replace E:=E.ext X7;refine qT (AZ rfl) ?_;obtain ⟨e8,ad⟩:∃e,(decide ((0:Int)<((k:Nat):Int)))=e:=⟨_,rfl⟩;refine qT ((CU rfl rfl).trans (by rw[ad];try rfl)) (qT (AZ rfl) (CA (oj:=_) (gv:=(.bool e8)) (u:=(yU e8 (P6 b4 0))) rfl rfl qD qD rfl (by cases e8<;>first|exact gA|exact gB|exact .inl ⟨rfl,AT rfl underlying94 rfl Ad rfl⟩) (CA (oj:=_) (gv:=(.bool e8)) (u:=(yU e8 (I6 s.1))) rfl rfl qD qD rfl (by cases e8<;>first|exact gA|exact gB|exact .inl ⟨rfl,AE rfl Ai (B4.cell rfl)⟩) (CA (oj:=_) (gv:=(.bool e8)) (u:=(yU e8 (.slice (some ⟨b,o,none⟩) l.length c))) rfl rfl qD qD rfl (by cases e8<;>first|exact gA|exact gB|exact .inl ⟨rfl,AZ rfl⟩) (CA (oj:=_) (gv:=(.bool e8)) (u:=(yU e8 (I6 (k:Int)))) rfl rfl qD qD rfl (by cases e8<;>first|exact gA|exact gB|exact .inl ⟨rfl,AZ rfl⟩) (CA (oj:=_) (gv:=(.bool e8)) (u:=(yU e8 (I6 ((k:Int) - 1)))) rfl rfl qD qD rfl (by cases e8<;>first|exact gA|exact gB|exact .inl ⟨rfl,GO (c:=(k:Int) - 1) rfl rfl (A5 (by have:=of_decide_eq_true ad;omega))⟩) (CA (oj:=_) (gv:=(.bool e8)) (u:=(yU e8 (.pointer (some ⟨b,o+(k - 1)*2,none⟩)))) rfl rfl qD qD rfl (by cases e8<;>first|exact gA|exact gB|exact .inl ⟨rfl,AC (i:=k - 1) rfl rfl (by have:=of_decide_eq_true ad;omega) underlying37 CJ (by have:=of_decide_eq_true ad;omega) qO⟩) (CA (oj:=_) (gv:=(.bool e8)) (u:=(yU e8 (.pointer (some ⟨b,o+(k - 1)*2+1,none⟩)))) rfl rfl qD qD rfl (by cases e8<;>first|exact gA|exact gB|exact .inl ⟨rfl,AT rfl underlying94 rfl Ad rfl⟩) (CA (oj:=_) (gv:=(.bool e8)) (u:=(yU e8 (I6 p))) rfl rfl qD qD rfl (by cases e8<;>first|exact gA|exact gB|exact .inl ⟨rfl,AE rfl Ai ((by have:=of_decide_eq_true ad;obtain ⟨q,hq,rfl,_⟩:=ai qO;exact ((ab (k - 1) q hq).ext E).at1))⟩) (CA (oj:=_) (gv:=(.bool e8)) (u:=(yU e8 (I6 (p+2)))) rfl rfl qD qD rfl (by cases e8<;>first|exact gA|exact gB|exact .inl ⟨rfl,Ar (c:=p+2) rfl rfl (A5 (by have:=of_decide_eq_true ad;omega))⟩) ?_))))))))));obtain ⟨e9,ak⟩:∃e,(decide ((s.1:Int)<p+2))=e:=⟨_,rfl⟩;refine CA (oj:=_) (gv:=(.bool e8)) (u:=(yU e8 (.bool e9))) rfl rfl qD qD rfl (by cases e8<;>first|exact gA|exact gB|exact .inl ⟨rfl,(A0 rfl rfl).trans (by rw[ak];try rfl)⟩) (ES ?_);obtain ⟨aw,af⟩:∃e,(e8 && e9)=e:=⟨_,rfl⟩;refine qV (Ag (v:=.bool aw) rfl (by rw[←af];cases e8<;>rfl)) (AA ?_);subst af;subst ak;subst ad;refine As rfl (fun hf=>?_) (fun hf=>?_)
     ·have ax:=hf;have aj:0<k∧s.1<p+2:=by simpa using hf
      obtain ⟨q,_,_,h3⟩:=ai aj.1;refine Y (qA _ rfl (AA (AS (A1 (AU (AU (A1 (AU (AY results63 (v:=(.int .i64 3)) rfl ?_)))))))));exact ⟨by rw[aa];rw[Ds,if_neg (by simp[ah]),h3,if_pos (by simp[aj.2])],E⟩
     ·have ax:=hf;refine AM (AN (AB (AJ (qV (Ar rfl rfl (A5 qO)) (qM _ rfl (AA (AB ?_)))))));exact ⟨l.length - (k+1),qO,k+1,Ac.out ⟨rfl,rfl,rfl,rfl,trivial⟩,E,qO,(by rw[aa];rw[Ds,if_neg (by simp[ah]),if_neg ?_,Q4 ag];exact U8 ai hf),(by intro h hh;rw[Q4 ag] at hh;cases hh;exact aq),rfl⟩
   ·have al:k=l.length:=qO
    rw[al,List.drop_length] at aa;refine Ak (AP (AP (Ae (AB (Y (qA _ rfl (AA (AS (AY results63 (v:=(.int .i64 0)) rfl ?_)))))))));exact ⟨by rw[aa];rfl,E⟩
end Go.Proofs
namespace Go.Proofs
open Go Go.Eng
set_option maxRecDepth 100000
theorem NR (j:World) (v fv:Value) (l:List (Int)) (p:Int->Bool) (hs:A2 j v l) (A:∀(w:World) (x:Int),Al j w->x∈l->CQ prog fv #[.int .i64 x] w λr w'=>r=.bool (p x)∧Al w w') :
 CB prog 102 #[v,fv] j λr w=>r=.int .i64 (NS p l)∧Al j w:=by
 obtain ⟨a,c,rfl⟩:=BO.form hs;have hlen:l.length<=9223372036854775807:=by simpa using BO.le hs
 simp only[List.length_map] at hs⊢;refine qR func102 O ntmps102 O (λE=>(Y (qA _ O (AA (AI (Y (qM _ O (qV (AL underlying22 O) (qM _ O (AA (AO (Ap (λnn_ σ t=>∃(k:Nat),(∃jj_,σ=BK jj_ [(0,(.slice a l.length c)),(1,fv),(7,(I6 (l.length:Int))),(8,(I6 (k:Int)))])∧Chg Ab j t∧(k<=l.length)∧(∀(i:Nat) (y:Int),i<k->l[i]?=some y->p y=false)∧nn_=l.length - k) (n:=l.length - 0) ?_ ?_))))))))))))
 .exact ⟨0,Ac.out ⟨O,O,O,O,trivial⟩,E,Nat.zero_le _,(λi y h=>absurd h (Nat.not_lt_zero _)),O⟩
 .clear E;rintro _ _ t ⟨k,⟨j1,rfl⟩,E,hk,e,rfl⟩;refine Y (qV (A0 O O) (AA (AI (qC O (λq=>?_) (λq=>?_)))))
  .obtain ⟨x,m⟩:=AK (l:=l) (i:=k) qO;obtain ⟨b,o,rfl,d⟩:=Ao hs qO;refine AM (AB (AI (AO (Y (qM _ O (qA _ O (AA (Y (qM _ O (qM _ O (qM _ O (qV (AC (b:=b) (o:=o) (len:=l.length) (cap:=c) (i:=k) (o':=o+k) O O O underlying22 Ad qO qO) (qV (AE O Ai (E.cell (λf=>f) (d k x m))) (DU qD O O (A _ x E (List.mem_of_getElem? m)) ?_))))))))))))));rintro _ w9 ⟨rfl,z⟩;replace E:=E.ext z;refine AA (As O (λg=>?_) (λg=>?_))
   .have s:=g;refine Y (qM _ O (qA _ O (AA (AS (A1 (AU (AU (A1 (AU (AY results102 (v:=(.int .i64 ((k:Nat):Int))) O ?_))))))))));exact ⟨BJ (Ii m g e).symm,E⟩
   .have s:=g;refine AM (AN (AB (AJ (qV (Ar O O (A5 qO)) (qM _ O (AA (AB ?_)))))));exact ⟨l.length - (k+1),qO,k+1,Ac.out ⟨O,O,O,O,trivial⟩,E,qO,GA m g e,O⟩
  .have hkk:k=l.length:=qO
   refine Ak (AP (AP (Ae (AB (Y (qA _ O (AA (AS (AY results102 (v:=(.int .i64 (-1))) O ?_)))))))));exact ⟨BJ (HY λi y u=>e i y (by have:=AG u;omega) u).symm,E⟩
theorem JR (a:World) (v fv:Value) (l:List (Int)) (p:Int->Bool) (hs:A2 a v l) (c:∀(w:World) (x:Int),Al a w->x∈l->CQ prog fv #[.int .i64 x] w λr w'=>r=.bool (p x)∧Al w w') :
 CB prog 44 #[v,fv] a λr w=>r=.bool (l.any p)∧Al a w:=by
 refine qR func44 O ntmps44 O (λE=>(Y (qA _ O (AA (Y (qM v O (qM _ O (qE O (AV func102 kQ kQ O) (NR _ v fv l p hs c) ?_))))))));rintro _ w9 ⟨rfl,b⟩;replace E:=E.ext b;refine qV (CT O O) (qA _ O (AA (AS (AY results44 (v:=(.bool (decide ((0:Int)<=NS p l)))) O ?_))));exact ⟨CK (Ij p l),E⟩
theorem Lq (g:World) (v fv:Value) (l:List (Int×Int)) (p:Int×Int->Bool) (hs:BW g v l) (z:∀(w:World) (x:Int×Int),Al g w->x∈l->CQ prog fv #[.agg #[.int .i64 x.1,.int .i64 x.2]] w λr w'=>r=.bool (p x)∧Al w w') :
 CB prog 150 #[v,fv] g λr w=>r=.int .i64 (NS p l)∧Al g w:=by
 obtain ⟨a,c,rfl⟩:=BO.form hs;have hlen:l.length<=9223372036854775807:=by simpa using BO.le hs
 simp only[List.length_map] at hs⊢;refine qR func150 O ntmps150 O (λE=>(Y (qA _ O (AA (AI (Y (qM _ O (qV (AL underlying37 O) (qM _ O (AA (AO (Ap (λnn_ σ t=>∃(k:Nat),(∃jj_,σ=BK jj_ [(0,(.slice a l.length c)),(1,fv),(7,(I6 (l.length:Int))),(8,(I6 (k:Int)))])∧Chg Ab g t∧(k<=l.length)∧(∀(i:Nat) (y:Int×Int),i<k->l[i]?=some y->p y=false)∧nn_=l.length - k) (n:=l.length - 0) ?_ ?_))))))))))))
 .exact ⟨0,Ac.out ⟨O,O,O,O,trivial⟩,E,Nat.zero_le _,(λi y h=>absurd h (Nat.not_lt_zero _)),O⟩
 .clear E;rintro _ _ t ⟨k,⟨j1,rfl⟩,E,hk,e,rfl⟩;refine Y (qV (A0 O O) (AA (AI (qC O (λm=>?_) (λm=>?_)))))
  .obtain ⟨x,j⟩:=AK (l:=l) (i:=k) qO;obtain ⟨b,o,rfl,d⟩:=CZ hs qO;refine AM (AB (AI (AO (Y (qM _ O (qA _ O (AA (Y (qM _ O (qM _ O (qM _ O (qV (AC (b:=b) (o:=o) (len:=l.length) (cap:=c) (i:=k) (o':=o+k*2) O O O underlying37 CJ qO qO) (qV (Aa O GF CJ O ((d k x j).ext E)) (DU qD O O (z _ x E (List.mem_of_getElem? j)) ?_))))))))))))));rintro _ w9 ⟨rfl,u⟩;replace E:=E.ext u;refine AA (As O (λf=>?_) (λf=>?_))
   .have q:=f;refine Y (qM _ O (qA _ O (AA (AS (A1 (AU (AU (A1 (AU (AY results150 (v:=(.int .i64 ((k:Nat):Int))) O ?_))))))))));exact ⟨BJ (Ii j f e).symm,E⟩
   .have q:=f;refine AM (AN (AB (AJ (qV (Ar O O (A5 qO)) (qM _ O (AA (AB ?_)))))));exact ⟨l.length - (k+1),qO,k+1,Ac.out ⟨O,O,O,O,trivial⟩,E,qO,GA j f e,O⟩
  .have hkk:k=l.length:=qO
   refine Ak (AP (AP (Ae (AB (Y (qA _ O (AA (AS (AY results150 (v:=(.int .i64 (-1))) O ?_)))))))));exact ⟨BJ (HY λi y s=>e i y (by have:=AG s;omega) s).symm,E⟩
theorem Lr (a:World) (v fv:Value) (l:List (Int×Int)) (p:Int×Int->Bool) (hs:BW a v l) (c:∀(w:World) (x:Int×Int),Al a w->x∈l->CQ prog fv #[.agg #[.int .i64 x.1,.int .i64 x.2]] w λr w'=>r=.bool (p x)∧Al w w') :
 CB prog 105 #[v,fv] a λr w=>r=.bool (l.any p)∧Al a w:=by
 refine qR func105 O ntmps105 O (λE=>(Y (qA _ O (AA (Y (qM v O (qM _ O (qE O (AV func150 kQ kQ O) (Lq _ v fv l p hs c) ?_))))))));rintro _ w9 ⟨rfl,b⟩;replace E:=E.ext b;refine qV (CT O O) (qA _ O (AA (AS (AY results105 (v:=(.bool (decide ((0:Int)<=NS p l)))) O ?_))));exact ⟨CK (Ij p l),E⟩
theorem VB (j:World) (s:Int×Int) (r:Int) (b:Nat) (h:Az j b #[.int .i64 r] 3) :
 CB prog 106 #[.agg #[.int .i64 s.1,.int .i64 s.2],.pointer (some ⟨b,0,none⟩)] j λv w=>v=.bool (decide (s.1<=r) && decide (r<=s.2))∧Al j w:=by
 refine qR func106 O ntmps106 O (λE=>(Y (BP (v:=(.agg #[(I6 s.1),(I6 s.2)])) (c:=#[(I6 s.1),(I6 s.2)]) qD O O ?_)));intro k w1 i;replace h:=i.keep h;replace E:=E.ext i.ext;have l:=i.blk;refine qA _ O (AA (Y (qF k 0 0 O underlying94 O Ad O (qV (AE O Ai (l.cell O)) (qV (AE O Ai (h.cell O)) ?_)))));obtain ⟨a,f⟩:∃e,(decide ((s.1:Int)<=r))=e:=⟨_,O⟩;refine qV ((G0 O O).trans (by rw[f];try rfl)) (qM _ O (qG (.bool a) (yU a (I6 r)) (by cases a<;>first|exact gA|exact gB|exact .inl ⟨O,AE O Ai (h.cell O)⟩) (qG (.bool a) (yU a (P6 k 1)) (by cases a<;>first|exact gA|exact gB|exact .inl ⟨O,AT O underlying94 O Ad O⟩) (qG (.bool a) (yU a (I6 s.2)) (by cases a<;>first|exact gA|exact gB|exact .inl ⟨O,AE O Ai (l.cell O)⟩) ?_))));obtain ⟨m,g⟩:∃e,(decide ((r:Int)<=s.2))=e:=⟨_,O⟩;refine qG (.bool a) (yU a (.bool m)) (by cases a<;>first|exact gA|exact gB|exact .inl ⟨O,(G0 O O).trans (by rw[g];try rfl)⟩) ?_;obtain ⟨n,d⟩:∃e,(a && m)=e:=⟨_,O⟩;refine qV (Ag (v:=.bool n) O (by rw[<-d];cases a<;>rfl)) (qA _ O (AA ?_));subst d;subst g;subst f;refine AS (AY results106 (v:=(.bool ((decide ((s.1:Int)<=r)) && (decide ((r:Int)<=s.2))))) O ?_);exact ⟨O,E⟩
theorem VA (a:World) (v:Value) (l:List (Int×Int)) (r:Int) (hs:BW a v l) :
 CB prog 49 #[v,.int .i64 r] a λu w=>u=.bool (Cq l r)∧Al a w:=by
 refine qR func49 O ntmps49 O (λE=>(Y (BP (v:=(I6 r)) (c:=#[(I6 r)]) qD O O ?_)));intro f w1 d;replace E:=E.ext d.ext;have b:=d.blk;refine qA _ O (AA (Y (qM v O (qV (B7 O O) (qE O (AV func105 kQ kQ O) (Lr _ v _ l (λs=>decide (s.1<=r) && decide (r<=s.2)) (hs.ext E) (λw x g _=>CQ.mk (first:=#[]) (cap:=#[.pointer (some ⟨f,0,none⟩)]) func106 kQ kQ O (VB w x r f (g.keep b)))) ?_)))));rintro _ w9 ⟨rfl,e⟩;replace b:=e.keep b;replace E:=E.ext e;refine qA _ O (AA (AS (AY results49 (v:=(.bool (Cq l r))) O ?_)));exact ⟨O,E⟩
def QX (r:Int):Bool:=decide (0<=r) && decide (r<=1114111)
end Go.Proofs
namespace Go.Proofs
open Go Go.Eng
set_option maxRecDepth 100000
abbrev Sp:=Int×Int
def EL (s:Sp):Prop:=0<=s.1∧s.1<=s.2∧s.2<=1114111
structure Canon (l:List Sp):Prop where
 ok:∀s∈l,EL s
 gap:l.Pairwise λs t=>s.2+2<=t.1
theorem Vg (a b:Int):a<=b∨b<a:=qO
theorem LJ (a b:Int):a<b∨b<=a:=qO
theorem F0 {l:List Sp} {r:Int}:Cq l r=true↔∃s∈l,s.1<=r∧r<=s.2:=by
 unfold Cq;simp[List.any_eq_true]
theorem Cv (s:Sp) (l:List Sp) (r:Int):Cq (s::l) r=((decide (s.1<=r) && decide (r<=s.2)) || Cq l r):=rfl
theorem EE (a b:List Sp) (r:Int):Cq (a++b) r=(Cq a r || Cq b r):=by
 unfold Cq;rw[List.any_append]
theorem Fy (r:Int):Cq [] r=false:=rfl
theorem RJ {a b:List Sp} (h:a.Perm b) (r:Int):Cq a r=Cq b r:=by
 rw[Bool.eq_iff_iff,F0,F0];exact ⟨λ⟨s,hs,q⟩=>⟨s,h.mem_iff.1 hs,q⟩,λ⟨s,hs,q⟩=>⟨s,h.mem_iff.2 hs,q⟩⟩
theorem Canon.nil:Canon []:=⟨λ_ h=>(by cases h),List.Pairwise.nil⟩
theorem Canon.one {s:Sp} (h:EL s):Canon [s]:=⟨λt a=>by rw[List.mem_singleton] at a;subst a;exact h,List.pairwise_singleton _ _⟩
theorem Canon.tail {s:Sp} {l:List Sp} (h:Canon (s::l)):Canon l:=⟨λt a=>h.ok t (List.mem_cons_of_mem _ a),(List.pairwise_cons.1 h.gap).2⟩
theorem Canon.head {s:Sp} {l:List Sp} (h:Canon (s::l)):EL s:=h.ok s List.mem_cons_self
theorem Canon.far {s:Sp} {l:List Sp} (h:Canon (s::l)):∀t∈l,s.2+2<=t.1:=(List.pairwise_cons.1 h.gap).1
theorem Canon.cons {s:Sp} {l:List Sp} (c:EL s) (d:∀t∈l,s.2+2<=t.1) (b:Canon l):Canon (s::l):=
 ⟨λt a=>by rcases List.mem_cons.1 a with rfl|a;exact c;exact b.ok t a,List.pairwise_cons.2 ⟨d,b.gap⟩⟩
theorem FQ {s:Sp} {l:List Sp} (h:Canon (s::l)) {r:Int} (hr:r<=s.2+1):Cq l r=false:=by
 cases e:Cq l r with
 | false=>rfl
 | true=>
  obtain ⟨t,a,h1,_⟩:=F0.1 e;have:=h.far t a;omega
theorem Ga {s:Sp} {l:List Sp} (h:Canon (s::l)) {r:Int} (hr:r<s.1):Cq (s::l) r=false:=by
 have a:=h.head;rw[Cv,FQ h (by unfold EL at a;omega),Bool.or_false,decide_eq_false qO];rfl
theorem Hc:∀{a b:List Sp},Canon a->Canon b->(∀r,Cq a r=Cq b r)->a=b
 | [],[],_,_,_=>rfl
 | [],t::b,_,hb,h=>by
  have f:=hb.head;unfold EL at f;have:=h t.1;rw[Fy,Cv,decide_eq_true (Int.le_refl _),decide_eq_true qO] at this;simp at this
 | s::a,[],ha,_,h=>by
  have f:=ha.head;unfold EL at f;have:=h s.1;rw[Fy,Cv,decide_eq_true (Int.le_refl _),decide_eq_true qO] at this;simp at this
 | s::a,t::b,ha,hb,h=>by
  have f:=ha.head;have g:=hb.head;unfold EL at f g;have e:∀{s:Sp} {l:List Sp} {r:Int},s.1<=r->r<=s.2->Cq (s::l) r=true:=λd c=>by
   rw[Cv,decide_eq_true d,decide_eq_true c];rfl
  have j:s.1=t.1:=by
   rcases Int.lt_trichotomy s.1 t.1 with d|d|d
   .have c:=h s.1;rw[e (Int.le_refl _) qO,Ga hb d] at c;cases c
   .exact d
   .have c:=h t.1;rw[e (s:=t) (Int.le_refl _) qO,Ga ha d] at c;cases c
  have k:s.2=t.2:=by
   rcases Int.lt_trichotomy s.2 t.2 with d|d|d
   .have c:=h (s.2+1);rw[e (s:=t) qO qO,Cv,FQ ha (Int.le_refl _),decide_eq_false (p:=s.2+1<=s.2) qO] at c;simp at c
   .exact d
   .have c:=h (t.2+1);rw[e (s:=s) qO qO,Cv,FQ hb (Int.le_refl _),decide_eq_false (p:=t.2+1<=t.2) qO] at c;simp at c
  have m:s=t:=Prod.ext j k;subst m;have i:a=b:=Hc ha.tail hb.tail λr=>by
   rcases Vg r (s.2+1) with d|d
   .rw[FQ ha d,FQ hb d]
   .have c:=h r;rw[Cv,Cv,decide_eq_false (p:=r<=s.2) qO] at c;simpa using c
  rw[i]
def JO (out:List Sp) (s:Sp):List Sp:=match out.getLast? with
  | some c=>if s.1<=c.2+1 then out.dropLast++[(c.1,max c.2 s.2)] else out++[s]
  | none=>[s]
def Kf (l:List Sp):List Sp:=l.foldl JO []
theorem G7 (o:List Sp) (c s:Sp):JO (o++[c]) s=if s.1<=c.2+1 then o++[(c.1,max c.2 s.2)] else o++[c]++[s]:=by
 unfold JO;simp
theorem Ke (s:Sp):JO [] s=[s]:=rfl
structure JInv (out l:List Sp) (m:Int):Prop where
 can:Canon out
 low:∀s∈out,s.1<=m
 mem:∀r,Cq out r=Cq l r
 len:out.length<=l.length
theorem Iv {α:Type} (l:List α):l=[]∨∃o c,l=o++[c]:=by
 rcases List.eq_nil_or_concat l with h|⟨o,c,h⟩
 .exact .inl h
 .exact .inr ⟨o,c,by simpa using h⟩
theorem G_ {o:List Sp} {c:Sp}:Canon (o++[c])↔Canon o∧EL c∧∀t∈o,t.2+2<=c.1:=by
 constructor
 .intro h;have b:=List.pairwise_append.1 h.gap;exact ⟨⟨λt a=>h.ok t (by simp[a]),b.1⟩,h.ok c qP,λt a=>b.2.2 t a c qP⟩
 .rintro ⟨b,e,f⟩;refine ⟨λt a=>?_,List.pairwise_append.2 ⟨b.gap,List.pairwise_singleton _ _,λt a u d=>?_⟩⟩
  .rcases List.mem_append.1 a with a|a
   .exact b.ok t a
   .rw[List.mem_singleton] at a;subst a;exact e
  .rw[List.mem_singleton] at d;subst d;exact f t a
theorem Ph {out l:List Sp} {m:Int} {s:Sp} (h:JInv out l m) (hs:EL s) (hm:m<=s.1):JInv (JO out s) (l++[s]) s.1:=by
 rcases Iv out with rfl|⟨o,c,rfl⟩
 .rw[Ke];refine ⟨Canon.one hs,λt a=>by rw[List.mem_singleton] at a;subst a;exact Int.le_refl _,λr=>?_,qP⟩;rw[EE,<-h.mem r];rfl
 .obtain ⟨j,d,i⟩:=G_.1 h.can;have hc:=h.low c qP;unfold EL at d hs;rw[G7];split
  .rename_i k
   have hmx:max c.2 s.2=c.2∨max c.2 s.2=s.2:=qO
   have hge:c.2<=max c.2 s.2∧s.2<=max c.2 s.2:=qO
   refine ⟨G_.2 ⟨j,⟨d.1,by simp only;omega,by simp only;omega⟩,i⟩,λt a=>?_,λr=>?_,?_⟩
   .rcases List.mem_append.1 a with a|a
    .have:=h.low t (by simp[a]);omega
    .rw[List.mem_singleton] at a;subst a;simp only;omega
   .have b:=h.mem r;rw[EE] at b;rw[EE,EE,<-b];have e:Cq [(c.1,max c.2 s.2)] r=(Cq [c] r || Cq [s] r):=by
     rw[Bool.eq_iff_iff];simp only[Cv,Fy,Bool.or_false,Bool.or_eq_true,Bool.and_eq_true,decide_eq_true_eq];constructor
     .intro ⟨f,g⟩;omega
     .rintro (⟨f,g⟩|⟨f,g⟩)<;>omega
    rw[e,Bool.or_assoc]
   .have:=h.len;simp at this⊢;omega
  .rename_i k
   refine ⟨G_.2 ⟨h.can,hs,λt a=>?_⟩,λt a=>?_,λr=>?_,?_⟩
   .rcases List.mem_append.1 a with a|a
    .have:=i t a;omega
    .rw[List.mem_singleton] at a;subst a;omega
   .rcases List.mem_append.1 a with a|a
    .have:=h.low t a;omega
    .rw[List.mem_singleton] at a;subst a;exact Int.le_refl _
   .rw[EE _ [s],EE l,h.mem r]
   .have:=h.len;simp at this⊢;omega
theorem Ki:∀(r:List Sp) {out l:List Sp} {m:Int},JInv out l m->(∀s∈r,EL s∧m<=s.1)->r.Pairwise (λs t=>s.1<=t.1)->∃m',JInv (r.foldl JO out) (l++r) m'
 | [],out,l,m,h,_,_=>⟨m,by simpa using h⟩
 | s::r,out,l,m,h,hv,hp=>by
  have a:=hv s List.mem_cons_self;have b:=List.pairwise_cons.1 hp;obtain ⟨m',d⟩:=Ki r (Ph h a.1 a.2) (λt c=>⟨(hv t (List.mem_cons_of_mem _ c)).1,b.1 t c⟩) b.2;exact ⟨m',by simpa using d⟩
theorem Pi {l:List Sp} (a:∀s∈l,EL s) (b:l.Pairwise (λs t=>s.1<=t.1)):Canon (Kf l)∧(∀r,Cq (Kf l) r=Cq l r)∧(Kf l).length<=l.length:=by
 obtain ⟨m,h⟩:=Ki l (out:=[]) (l:=[]) (m:=0) ⟨Canon.nil,λ_ h=>by (cases h),λ_=>rfl,Nat.le_refl _⟩ (λs hs=>⟨a s hs,(a s hs).1⟩) b;exact ⟨h.can,h.mem,h.len⟩
def FE (l out:List Sp):Prop:=∃l',l'.Perm l∧l'.Pairwise (λs t=>s.1<=t.1)∧out=Kf l'
theorem FE.all {l out:List Sp} (h:FE l out) (c:∀s∈l,EL s):Canon out∧(∀r,Cq out r=Cq l r)∧out.length<=l.length:=by
 obtain ⟨l',a,d,rfl⟩:=h;have b:=Pi (λs hs=>c s (a.mem_iff.1 hs)) d;exact ⟨b.1,λr=>(b.2.1 r).trans (RJ a r),by rw[<-a.length_eq];exact b.2.2⟩
theorem Gr {l:List Sp} (h:Canon l) {r:Int} (hr:r<0∨1114111<r):Cq l r=false:=by
 cases e:Cq l r with
 | false=>rfl
 | true=>obtain ⟨t,a,q1,q2⟩:=F0.1 e;have:=h.ok t a;unfold EL at this;omega
theorem H9 {a b:List Sp} (e:Canon a) (f:Canon b) (h:∀r,0<=r->r<=1114111->Cq a r=Cq b r):a=b:=
 Hc e f λr=>by
  rcases LJ r 0 with d|d
  .rw[Gr e (.inl d),Gr f (.inl d)]
  .rcases LJ 1114111 r with c|c
   .rw[Gr e (.inr c),Gr f (.inr c)]
   .exact h r d c
end Go.Proofs
namespace Go.Proofs
open Go Go.Eng
set_option maxRecDepth 100000
abbrev Ll:Nat:=94
theorem Dc {w:World} {base c e size n:Nat} {v:Value} {xs:List Value} (h:w.ownsRow base e size v n xs) (i:c<=base):w.ownsRow c e size v n xs:=by
 obtain ⟨f,j⟩:=h;refine ⟨f,j.imp id ?_⟩;rintro ⟨g,cap,d,a,b,r⟩;exact ⟨g,cap,d,a,Nat.le_trans i b,r⟩
theorem Qn {w:World} {base e size n c:Nat} {a:Option Addr} {xs:List Value} (h:w.ownsRow base e size (.slice a n c) n xs):n<=c:=by
 rcases h.2 with ⟨h1,h2⟩|⟨g,cap,cur,d,_,_,b,_⟩
 .omega
 .simp only[Value.slice.injEq] at d;obtain ⟨_,_,rfl⟩:=d;exact b
def Jv (w:World) (base:Nat) (r:Value) (l:List Sp):Prop:=(∃a c,r=.slice a l.length c)∧w.ownsRow base Ll 2 r l.length (l.map CD).flatten
theorem Jv.at {w:World} {base:Nat} {r:Value} {l:List Sp} (h:Jv w base r l):BW w r l:=
 EO h.2 (by intro x a;simp only[List.mem_map] at a;obtain ⟨p,_,rfl⟩:=a;rfl) qP qD
theorem FU (l:List Sp) (s:Sp):((l++[s]).map CD).flatten=(l.map CD).flatten++[.int .i64 s.1,.int .i64 s.2]:=by simp[CD]
theorem Mf (k:World) (v:Value) (l:List Sp) (h:BW k v l) (hl:l.length<=8796093022208) :
 CB prog 52 #[v] k λr w=>Jv w k.heap.size r l∧Al k w:=by
 obtain ⟨a,c,rfl⟩:=BO.form h;simp only[List.length_map] at h⊢;obtain ⟨base,i⟩:∃base,base=k.heap.size:=⟨_,O⟩;rw[<-i];refine qR func52 O ntmps52 O (λE=>(Y (qA _ O (AA (AI (Y (qM _ O (BV (v:=(.bool a.isNone)) O O qD (L5 underlying37 O O) (AA (As O (λp=>?_) (λp=>?_)))))))))))
 .have q:=p;have B:l.length=0:=by rcases Nat.eq_zero_or_pos l.length with A|A;exact A;obtain ⟨b,o,rfl,_⟩:=CZ h A;simp at p
  have g:l=[]:=List.eq_nil_of_length_eq_zero B;refine Y (qA _ O (AA (AS (AU (AY results52 (v:=(.slice none 0 0)) O ?_)))));subst g;exact ⟨⟨⟨none,0,O⟩,World.ownsRow_nil _ _ _ _⟩,E⟩
 .have q:=p;rcases Bool.eq_false_or_eq_true (decide (l.length=0)) with t|t
  .have d:=t;replace d:=of_decide_eq_true d;refine AM (AB (Y (HI qD underlying37 CJ ?_)));intro y D e;have H:=e.ge E;replace E:=E.ext e.ext;have u:=e.blk;refine qM _ O (qV (KL underlying37 CJ (a':=a) (c':=c) O (Nat.le_refl _) (by show Value.slice a l.length c=_;rw[d])) (qA _ O (AA (AS (AY results52 (v:=(.slice (some ⟨y,0,none⟩) 0 0)) O ?_)))));have g:l=[]:=List.eq_nil_of_length_eq_zero d;subst g;exact ⟨⟨⟨_,0,O⟩,FM (base:=base) (size:=2) u qO⟩,E⟩
  .have d:=t;replace d:=of_decide_eq_false d;obtain ⟨b,o,rfl,z⟩:=CZ h qO;refine AM (AB (Y (HI qD underlying37 CJ ?_)));intro y D e;have H:=e.ge E;replace E:=E.ext e.ext;have u:=e.blk;refine qM _ O ?_;have f:=FM (base:=base) (size:=2) u qO;have s:base<=D.heap.size:=by have:=e.ext.size;omega
   refine BU (base:=base) (n:=0) (m:=l.length) (xs:=[]) (news:=(l.map CD).flatten) (size:=2) (bytes:=16) (v:=(.slice (some ⟨y,0,none⟩) 0 0)) qD underlying37 CJ O0 FF O qD O f O (FH l) ((M9 z).ext e.ext) (PJ l) (by unfold maxLen;omega) qO (s) ?_;intro v9 w29 j C Dv9;replace E:=E.step C (λx hx h=>absurd (f.lt x h).1 qO);obtain ⟨F,G,rfl⟩:=BD j;refine qA _ O (AA (AS (AY results52 (v:=(.slice F (0+l.length) G)) O ?_)));simp only[Nat.zero_add,List.nil_append] at j⊢;exact ⟨⟨⟨F,G,O⟩,j⟩,E⟩
theorem Lx {P:Program} {N:Nat} {Q:DN} {σ:B0} {w:World} {K:B0->World->Prop} {ops:Array Oper} {rest:List Oper} {d:Nat} {ty:TypeId} {pos:String} {af:Array Edge} {t:TypeId} {s x:Operand}
  {base e size bytes n m c:Nat} {ax:Option Addr} {z v:Value} {xs news:List Value} (hN:d<N) (hu:P.underlying t=some (.slice e)) (hsz:DD P e size) (hby:IU P e bytes) (hz:D_ P e z) (hzs:z.cells.size=size) (h0:0<size)
  (hs:ev σ s=v) (hown:w.ownsRow base e size v n xs) (hx:ev σ x=.slice ax m c) (hl:news.length=m*size) (hany:(m=0∧news=[])∨∃bx ox,ax=some ⟨bx,ox,none⟩∧BA w bx ox news) (h1:∀u∈news,u.oneCell'=true)
  (h63:n+m<=maxLen) (hbytes:(n+m)*bytes<=140737488355328) (hbase:base<=w.heap.size)
  (k:∀v' w',w'.ownsRow base e size v' (n+m) (xs++news)->Chg (λx=>v.ownBlock=some x) w w'->(∀k,v'.ownBlock=some k->v.ownBlock=some k∨w.heap.size<=k)->DL P N ops K Q rest (Ef σ d v') w') :
  DL P N ops K Q (⟨some d,.call ⟨.builtin .append,#[s,x],#[t,t]⟩,ty,pos,af,none⟩::rest) σ w:=by
 rcases hany with ⟨rfl,rfl⟩|⟨bx,ox,rfl,hc⟩
 ·obtain ⟨a,c',rfl⟩:=BD hown;refine BV O O hN (KL hu hsz hs (Qn hown) hx) (k _ w (by simpa using hown) (Chg.refl _ _) λ_ h=>.inl h)
 ·exact BU hN hu hsz hby hz hzs h0 hs hown hx hl hc h1 h63 hbytes hbase k
theorem RH {w:World} {a:Option Addr} {n c:Nat} {l:List Int} (h:A2 w (.slice a n c) l):(n=0∧l.map (Value.int .i64)=[])∨∃b o,a=some ⟨b,o,none⟩∧BA w b o (l.map (Value.int .i64)):=by
 have hn:n=l.length:=by have:=(BO.cap h).2;simpa using this.symm
 rcases Nat.eq_zero_or_pos n with d|d
 .left;exact ⟨d,by rw[List.eq_nil_of_length_eq_zero (show l.length=0 by omega)];rfl⟩
 .right;obtain ⟨b,o,f,g⟩:=Ao h d;exact ⟨b,o,f,λi u e=>by rw[List.getElem?_map,Option.map_eq_some_iff] at e;obtain ⟨x,j,rfl⟩:=e;exact g i x j⟩
def Ck (w:World) (v:Value) (ll:List (List Sp)):Prop:=∃vs:List Value,BO w 1 v (vs.map λx=>[x])∧vs.length=ll.length∧∀(i:Nat) (u:Value) (l:List Sp),vs[i]?=some u->ll[i]?=some l->BW w u l
theorem Ck.ext {w w':World} {v:Value} {a:List (List Sp)} (h:Ck w v a) (e:Al w w'):Ck w' v a:=by
 obtain ⟨vs,b,d,f⟩:=h;exact ⟨vs,b.ext e,d,λi u l c g=>(f i u l c g).ext e⟩
theorem Ck.form {w:World} {v:Value} {b:List (List Sp)} (h:Ck w v b):∃a c,v=.slice a b.length c∧b.length<=c∧b.length<=9223372036854775807:=by
 obtain ⟨vs,d,e,_⟩:=h;obtain ⟨a,c,rfl⟩:=d.form;have:=d.cap;have:=d.le;simp only[List.length_map] at *;rw[e] at *;exact ⟨a,c,O,qO,qO⟩
theorem Ei {w:World} {a:Option Addr} {n c:Nat} {m:List (List Sp)} (h:Ck w (.slice a n c) m) (r:0<n) :
 ∃b o,a=some ⟨b,o,none⟩∧∀i l,m[i]?=some l->∃e d,w.cell? ⟨b,o+i,none⟩=some (.slice e l.length d)∧BW w (.slice e l.length d) l:=by
 obtain ⟨vs,s,h2,u⟩:=h;obtain ⟨b,o,t,q⟩:=BO.at s r;refine ⟨b,o,t,λi l k=>?_⟩;have hi:i<vs.length:=by have:=AG k;omega
 have j:vs[i]?=some vs[i]:=List.getElem?_eq_getElem hi;have f:=u i vs[i] l j k;obtain ⟨e,d,g⟩:=BO.form f;simp only[List.length_map] at g;have p:=q i [vs[i]] (by simp[j]) 0 _ O;rw[Nat.mul_one,Nat.add_zero,g] at p;rw[g] at f;exact ⟨e,d,p,f⟩
theorem Hw {a:List (List Sp)} {k:Nat} {l:List Sp} (h:a[k]?=some l):(a.take (k+1)).flatten=(a.take k).flatten++l:=by
 rw[List.take_add_one,h];simp
theorem Sv (a:List (List Sp)) (k:Nat):(a.take k).flatten.length<=a.flatten.length:=by
 have h:a.flatten=(a.take k).flatten++(a.drop k).flatten:=by rw[<-List.flatten_append,List.take_append_drop]
 rw[h,List.length_append];omega
end Go.Proofs
namespace Go.Eng
open Go
section
variable {κ ν : Type} [DecidableEq κ]
def A3:List (κ×ν)->κ->Option ν
  | [],_=>none
  | p::r,k=>if p.1=k then some p.2 else A3 r k
def D8:List (κ×ν)->κ->ν->List (κ×ν)
  | [],k,v=>[(k,v)]
  | p::r,k,v=>if p.1=k then (k,v)::r else p::D8 r k v
def G1 (eV:ν->Value):List (κ×ν)->κ->Nat->Option (Nat×Value)
  | [],_,_=>none
  | p::r,k,i=>if p.1=k then some (i,eV p.2) else G1 eV r k (i+1)
theorem G' {eV:ν->Value}:∀{es:List (κ×ν)} {k:κ} {i:Nat},A3 es k=none->G1 eV es k i=none
 | [],_,_,_=>rfl
 | p::r,k,i,h=>by
  unfold A3 at h;unfold G1;split at h
  .cases h
  .rename_i a;rw[if_neg a];exact G' h
theorem Ep {eV:ν->Value}:∀{es:List (κ×ν)} {k:κ} {i:Nat} {v:ν},A3 es k=some v->∃j,G1 eV es k i=some (i+j,eV v)∧es[j]?=some (k,v)∧∀u,D8 es k u=es.set j (k,u)
 | [],_,_,_,h=>by cases h
 | p::r,k,i,v,h=>by
  unfold A3 at h;unfold G1;split at h
  .rename_i d
   cases h;rw[if_pos d];exact ⟨0,O,by obtain ⟨a,b⟩:=p;simp at d;subst d;rfl,λu=>by unfold D8;rw[if_pos d];rfl⟩
  .rename_i c
   rw[if_neg c];obtain ⟨j,e,f,g⟩:=Ep (eV:=eV) (i:=i+1) h;exact ⟨j+1,by rw[e];congr 2;omega,by simpa using f,λu=>by unfold D8;rw[if_neg c,g u];rfl⟩
theorem Dm:∀{es:List (κ×ν)} {k:κ} (v:ν),A3 es k=none->D8 es k v=es++[(k,v)]
 | [],_,_,_=>rfl
 | p::r,k,v,h=>by
  unfold A3 at h;unfold D8;split at h
  .cases h
  .rename_i a;rw[if_neg a,Dm v h];rfl
theorem RN (es:List (κ×ν)) (k:κ) (v:ν) (q:κ):A3 (D8 es k v) q=if k=q then some v else A3 es q:=by
 induction es with
 | nil=>unfold D8 A3 A3;rfl
 | cons p r ih=>
  unfold D8;split
  .rename_i b
   unfold A3;by_cases h:k=q
   .rw[if_pos h,if_pos h]
   .rw[if_neg h,if_neg h,if_neg (by rw[b];exact h)]
  .rename_i a
   unfold A3;rw[ih];by_cases h:k=q
   .rw[if_pos h,if_neg (by rw[<-h];exact a),if_pos h]
   .rw[if_neg h,if_neg h]
theorem EI {es:List (κ×ν)} {k:κ} {v:ν} (h:A3 es k=some v):(k,v)∈es:=by
 obtain ⟨j,_,a,_⟩:=Ep (eV:=λ_=>undef) (i:=0) h;exact List.mem_of_getElem? a
theorem Cm {es:List (κ×ν)} {k:κ}:(A3 es k).isSome=true↔k∈es.map (·.1):=by
 induction es with
 | nil=>simp[A3]
 | cons p r ih=>
  unfold A3;by_cases h:p.1=k
  .simp[h]
  .rw[if_neg h,ih];simp[Ne.symm h]
end
def GJ {κ ν:Type} (ek:κ->Value) (eV:ν->Value) (es:List (κ×ν)):List MapEntry:=es.zipIdx.map λp=>{key:=ek p.1.1,val:=eV p.1.2,born:=p.2}
def BZ {κ ν:Type} (w:World) (b:Nat) (ek:κ->Value) (eV:ν->Value) (es:List (κ×ν)):Prop:=w.heap[b]?=some (.map (GJ ek eV es).toArray es.length)
theorem RU {κ ν:Type} (ek:κ->Value) (eV:ν->Value) (es:List (κ×ν)):(GJ ek eV es).length=es.length:=by simp[GJ]
theorem Je {κ ν:Type} {ek:κ->Value} {eV:ν->Value} {es:List (κ×ν)} {i:Nat}:(GJ ek eV es)[i]?=(es[i]?).map λp=>{key:=ek p.1,val:=eV p.2,born:=i}:=by
 unfold GJ;rw[List.getElem?_map,List.getElem?_zipIdx];cases es[i]?<;>simp
theorem Ow {κ ν:Type} (ek:κ->Value) (eV:ν->Value) (es:List (κ×ν)):(GJ ek eV es).map (λe=>(e.key,e.val))=es.map λp=>(ek p.1,eV p.2):=by
 apply List.ext_getElem?;intro i;rw[List.getElem?_map,Je,List.getElem?_map];cases es[i]?<;>rfl
section
variable {κ ν : Type} {ek : κ → Value} {eV : ν → Value} {es : List (κ × ν)} {w w' : World} {b : Nat}
theorem BZ.lt (h:BZ w b ek eV es):b<w.heap.size:=(Array.getElem?_eq_some_iff.1 h).1
theorem Chg.keepM {M:Nat->Prop} (h:Chg M w w') (c:¬M b) (a:BZ w b ek eV es):BZ w' b ek eV es:=(h.blk b a.lt c).trans a
theorem Al.keepM (h:Al w w') (a:BZ w b ek eV es):BZ w' b ek eV es:=Chg.keepM h (λf=>f) a
theorem New.keepM {n:Nat} {c:Array Value} {t:TypeId} (h:New w w' n c t) (a:BZ w b ek eV es):BZ w' b ek eV es:=h.ext.keepM a
theorem New.ltM {n:Nat} {c:Array Value} {t:TypeId} (h:New w w' n c t) (a:BZ w b ek eV es):b<n:=by rw[h.eq];exact a.lt
theorem Put.keepM {n:Nat} {c:Array Value} {t:TypeId} (h:Put w w' n c t) (a:b≠n) (d:BZ w b ek eV es):BZ w' b ek eV es:=h.chg.keepM a d
end
structure NewO (w w':World) (b:Nat) (o:Obj):Prop where
 at':w'.heap[b]?=some o
 ext:Al w w'
 eq:b=w.heap.size
 size:w'.heap.size=w.heap.size+1
theorem NewO.mk' (w:World) (o:Obj):NewO w {w with heap:=w.heap.push o} w.heap.size o:=
 ⟨qP,⟨O,O,O,Nat.le_refl _,qP,λx a _=>by simp[Array.getElem?_push,Nat.ne_of_lt a]⟩,O,qP⟩
section
variable {w w' : World} {b : Nat} {o : Obj}
theorem NewO.keep (h:NewO w w' b o) {b':Nat} {c':Array Value} {t':TypeId} (a:Az w b' c' t'):Az w' b' c' t':=h.ext.keep a
theorem NewO.lt (h:NewO w w' b o) {b':Nat} {c':Array Value} {t':TypeId} (a:Az w b' c' t'):b'<b:=by rw[h.eq];exact a.lt
theorem NewO.ge (h:NewO w w' b o) {a:World} {M:Nat->Prop} (e:Chg M a w):a.heap.size<=b:=by rw[h.eq];exact e.size
variable {κ ν : Type} {ek : κ → Value} {eV : ν → Value} {es : List (κ × ν)} {b' : Nat}
theorem NewO.keepM (h:NewO w w' b o) (a:BZ w b' ek eV es):BZ w' b' ek eV es:=h.ext.keepM a
theorem NewO.ltM (h:NewO w w' b o) (a:BZ w b' ek eV es):b'<b:=by rw[h.eq];exact a.lt
end
structure PutO (w w':World) (b:Nat) (o:Obj):Prop where
 at':w'.heap[b]?=some o
 chg:Chg (λx=>x=b) w w'
 size:w'.heap.size=w.heap.size
theorem PutO.mk' {w:World} {b:Nat} (o:Obj) (c:b<w.heap.size):PutO w {w with heap:=w.heap.setIfInBounds b o} b o:=
 ⟨by simp[c],⟨O,O,O,Nat.le_refl _,qP,λx hx a=>by simp[Array.getElem?_setIfInBounds,Ne.symm a]⟩,qP⟩
section
variable {w w' : World} {b : Nat} {o : Obj}
theorem PutO.keep (h:PutO w w' b o) {b':Nat} {c':Array Value} {t':TypeId} (a:b'≠b) (c:Az w b' c' t'):Az w' b' c' t':=h.chg.keep a c
theorem PutO.step (h:PutO w w' b o) {c:World} {M:Nat->Prop} (e:Chg M c w) (a:c.heap.size<=b∨M b):Chg M c w':=
 e.step h.chg λx hx d=>by subst d;rcases a with a|a;omega;exact a
variable {κ ν : Type} {ek : κ → Value} {eV : ν → Value} {es : List (κ × ν)} {b' : Nat}
theorem PutO.keepM (h:PutO w w' b o) (a:b'≠b) (c:BZ w b' ek eV es):BZ w' b' ek eV es:=h.chg.keepM a c
end
structure KeyOk (P:Program) (kt:TypeId) {κ:Type} [DecidableEq κ] (ek:κ->Value):Prop where
 check:∀(b:Bool) (w:World) (k:κ),(Instr.checkKey b 10000 kt (ek k)).run P w=.ok () w
 find:∀(ν:Type) (w:World) (k:κ) (es:List (κ×ν)) (eV:ν->Value) (L:List MapEntry),L.map (λe=>(e.key,e.val))=es.map (λp=>(ek p.1,eV p.2))->(Instr.findKey kt (ek k) L).run P w=.ok (G1 eV es k 0) w
 same:∀k,Instr.sameBits 10000 (ek k) (ek k)=true
def Cd (x:Int):Value:=.int .i64 x
def GI (s:ByteArray):Value:=.string s
theorem Dz {P:Program} {kt:TypeId} (d:P.underlying kt=some (.int .i64)):KeyOk P kt Cd where
 check:=λb w k=>by rw[show (10000:Nat)=9999+1 from O,Instr.checkKey];simp only[Sem.run_bind,run_underlying d,Result.andThen_ok,Cd];rfl
 find:=λν w k es eV L g=>by
  have c:∀(L:List MapEntry) (es:List (Int×ν)) (i:Nat),L.map (λe=>(e.key,e.val))=es.map (λp=>(Cd p.1,eV p.2))->Instr.findNow (.int .i64) (Cd k) L i=some (G1 eV es k i):=by
   intro L
   induction L with
   | nil=>
    intro es i h;cases es with
    | nil=>rfl
    | cons _ _=>simp at h
   | cons e L ih=>
    intro es i h;cases es with
    | nil=>simp at h
    | cons p es=>
     simp only[List.map_cons,List.cons.injEq,Prod.mk.injEq] at h;obtain ⟨⟨l,j⟩,f⟩:=h;unfold Instr.findNow G1;rw[l];simp only[Cd,Instr.sameNow,if_true];by_cases a:p.1=k
     .rw[if_pos a,a];simp[j]
     .have:(k == p.1)=false:=by simp;exact λh=>a h.symm
      rw[if_neg a,this];exact ih es (i+1) f
  simp[Instr.findKey,run_underlying d,c L es 0 g]
 same:=λk=>by unfold Cd;rw[Instr.sameBits];simp
theorem GQ {P:Program} {kt:TypeId} (d:P.underlying kt=some .string):KeyOk P kt GI where
 check:=λb w k=>by rw[show (10000:Nat)=9999+1 from O,Instr.checkKey];simp only[Sem.run_bind,run_underlying d,Result.andThen_ok,GI];rfl
 find:=λν w k es eV L g=>by
  have c:∀(L:List MapEntry) (es:List (ByteArray×ν)) (i:Nat),L.map (λe=>(e.key,e.val))=es.map (λp=>(GI p.1,eV p.2))->Instr.findNow .string (GI k) L i=some (G1 eV es k i):=by
   intro L
   induction L with
   | nil=>
    intro es i h;cases es with
    | nil=>rfl
    | cons _ _=>simp at h
   | cons e L ih=>
    intro es i h;cases es with
    | nil=>simp at h
    | cons p es=>
     simp only[List.map_cons,List.cons.injEq,Prod.mk.injEq] at h;obtain ⟨⟨l,j⟩,f⟩:=h;unfold Instr.findNow G1;rw[l];simp only[GI,Instr.sameNow];by_cases a:p.1=k
     .rw[if_pos a,a,(MapKept.bytes_beq k k).2 rfl];simp[j]
     .have:(k == p.1)=false:=by rw[Bool.eq_false_iff];exact λh=>a ((MapKept.bytes_beq _ _).1 h).symm
      rw[if_neg a,this];exact ih es (i+1) f
  simp[Instr.findKey,run_underlying d,c L es 0 g]
 same:=λk=>by unfold GI;rw[Instr.sameBits];exact (MapKept.bytes_beq k k).2 O
section
variable {P : Program} {N : Nat} {Q : DN} {σ : B0} {w : World} {K : B0 → World → Prop} {ops : Array Oper} {rest : List Oper} {d : Nat} {ty : TypeId} {pos : String} {af : Array Edge} {g : Option (Nat × Bool)} {dst : Option Tmp} {t kt et : TypeId} {m x y : Operand} {b : Nat}
variable {κ ν : Type} [DecidableEq κ] {ek : κ → Value} {eV : ν → Value} {es : List (κ × ν)} {k : κ} {v : ν}
omit [DecidableEq κ] in
theorem EB (ek:κ->Value) (eV:ν->Value) (c:d<N) (a:∀b w',NewO w w' b (.map #[] 0)->BZ w' b ek eV []->DL P N ops K Q rest (Ef σ d (.map (some b))) w') :
 DL P N ops K Q (⟨some d,.makeMap t none,ty,pos,af,none⟩::rest) σ w:=by
 refine BV (v:=.map (some w.heap.size)) (w':={w with heap:=w.heap.push (.map #[] 0)}) O O c ?_ (a _ _ (NewO.mk' w _) (NewO.mk' w _).at');simp[execOp,Instr.makeMap]
theorem Gz (g:P.underlying t=some (.map kt et)) (d:KeyOk P kt ek) (a:BZ w b ek eV es) :
 (Instr.mapUpdate t (.map (some b)) (ek k) (eV v)).run P w=.ok () {w with heap:=w.heap.setIfInBounds b (.map (GJ ek eV (D8 es k v)).toArray (D8 es k v).length)}:=by
 have hlt:=a.lt;unfold BZ at a;have l:(getObj b).run P w=.ok (.map (GJ ek eV es).toArray es.length) w:=by simp[getObj,Sem.run,a]
 have hs:∀o,(setObj b o).run P w=.ok () {w with heap:=w.heap.setIfInBounds b o}:=λo=>by simp[setObj,Sem.run,a]
 have h:=d.find ν w k es eV (GJ ek eV es) (Ow ek eV es);simp only[Instr.mapUpdate,Sem.run_bind,run_underlying g,Result.andThen_ok,l,d.check,h];cases hgm:A3 es k with
 | none=>
  rw[G' hgm];simp only[hs];congr 4
  .apply Array.ext';rw[Dm v hgm];simp[GJ,List.zipIdx_append]
  .rw[Dm v hgm];simp
 | some u=>
  obtain ⟨j,e,c,f⟩:=Ep (eV:=eV) (i:=0) hgm;rw[Nat.zero_add] at e;rw[e];have n:=AG c;have m:(GJ ek eV es).toArray[j]?=some {key:=ek k,val:=eV u,born:=j}:=by rw[List.getElem?_toArray,Je,c];rfl
  simp only[m,Option.map_some,Option.getD_some,Instr.keyThatStays,d.same,if_true,Sem.run_bind,Sem.run_pure,Result.andThen_ok,hs];congr 4
  .apply Array.ext';rw[f v];apply List.ext_getElem?;intro i;rw[List.getElem?_toArray.symm.trans (by rfl)]<;>simp only[Array.getElem?_toList,Array.getElem?_modify,List.getElem?_toArray,Je,List.getElem?_set];by_cases hi:j=i
   .subst hi;simp[c,n]
   .simp[hi]
  .rw[f v];simp
theorem Dk (c:P.underlying t=some (.map kt et)) (g:KeyOk P kt ek) (a:BZ w b ek eV es) (h:ev σ m=.map (some b)) (f:ev σ x=ek k) (i:ev σ y=eV v)
 (d:∀w',PutO w w' b (.map (GJ ek eV (D8 es k v)).toArray (D8 es k v).length)->BZ w' b ek eV (D8 es k v)->DL P N ops K Q rest σ w') :
 DL P N ops K Q (⟨none,.mapUpdate t m x y,ty,pos,af,none⟩::rest) σ w:=by
 have e:=Gz (k:=k) (v:=v) c g a;refine Gd O O (w':={w with heap:=w.heap.setIfInBounds b (.map (GJ ek eV (D8 es k v)).toArray (D8 es k v).length)}) ?_ (d _ (PutO.mk' _ a.lt) (PutO.mk' _ a.lt).at');simp[execOp,h,f,i,e]
theorem HH (c:P.underlying t=some (.map kt et)) (g:KeyOk P kt ek) (a:BZ w b ek eV es) (h:ev σ m=.map (some b)) (f:ev σ x=ek k) (i:ev σ y=eV v)
 (d:∀w',PutO w w' b (.map (GJ ek eV (D8 es k v)).toArray (D8 es k v).length)->BZ w' b ek eV (D8 es k v)->DL P N ops K Q rest σ w') :
 DL P N ops K Q (⟨none,.insert t m x y,ty,pos,af,none⟩::rest) σ w:=by
 have e:=Gz (k:=k) (v:=v) c g a;refine Gd O O (w':={w with heap:=w.heap.setIfInBounds b (.map (GJ ek eV (D8 es k v)).toArray (D8 es k v).length)}) ?_ (d _ (PutO.mk' _ a.lt) (PutO.mk' _ a.lt).at');simp[execOp,h,f,i,e]
theorem Ix (c:Bool) {z:ν} (f:P.underlying t=some (.map kt et)) (d:KeyOk P kt ek) (l:D_ P et (eV z)) (a:BZ w b ek eV es) :
 (Instr.lookup t (.map (some b)) (ek k) c).run P w=.ok (if c then .tuple #[eV ((A3 es k).getD z),.bool (A3 es k).isSome] else eV ((A3 es k).getD z)) w:=by
 unfold BZ at a;have h:(getObj b).run P w=.ok (.map (GJ ek eV es).toArray es.length) w:=by simp[getObj,Sem.run,a]
 have g:=d.find ν w k es eV (GJ ek eV es) (Ow ek eV es);simp only[Instr.lookup,Sem.run_bind,run_underlying f,Result.andThen_ok,h,Sem.run_pure,d.check,g];cases hgm:A3 es k with
 | none=>rw[G' hgm];simp[l.run]
 | some u=>
  obtain ⟨j,e,_,_⟩:=Ep (eV:=eV) (i:=0) hgm;rw[e];simp
theorem Ek {z:ν} (h:P.underlying t=some (.map kt et)) (d:KeyOk P kt ek) (f:D_ P et (eV z)) (a:BZ w b ek eV es) (c:ev σ m=.map (some b)) (e:ev σ x=ek k) :
 (execOp (ev σ) ⟨dst,.lookup t m x false,ty,pos,af,g⟩).run P w=.ok (.value (eV ((A3 es k).getD z))) w:=by
 simp[execOp,c,e,Ix false h d f a]
theorem FK {z:ν} (h:P.underlying t=some (.map kt et)) (d:KeyOk P kt ek) (f:D_ P et (eV z)) (a:BZ w b ek eV es) (c:ev σ m=.map (some b)) (e:ev σ x=ek k) :
 (execOp (ev σ) ⟨dst,.lookup t m x true,ty,pos,af,g⟩).run P w=.ok (.value (.tuple #[eV ((A3 es k).getD z),.bool (A3 es k).isSome])) w:=by
 simp[execOp,c,e,Ix true h d f a]
omit [DecidableEq κ] in
theorem L3 (e:P.underlying t=some (.map kt et)) (a:BZ w b ek eV es) (c:ev σ m=.map (some b)) :
 (execOp (ev σ) ⟨dst,.call ⟨.builtin .len,#[m],#[t]⟩,ty,pos,af,g⟩).run P w=.ok (.value (.int .i64 es.length)) w:=by
 unfold BZ at a;have d:(getObj b).run P w=.ok (.map (GJ ek eV es).toArray es.length) w:=by simp[getObj,Sem.run,a]
 simp[execOp,resolve,c,invoke,builtin,Builtin.len_,run_underlying e,d,goInt,RU]
end
def Vq (w:World) (it b n:Nat) (seen:List Nat):Prop:=w.heap[it]?=some (.mapIter (some b) n seen.toArray n)
end Go.Eng
namespace Go.Proofs
open Go Go.Eng Go.Sort
section
variable {P : Program} {N : Nat} {Q : DN} {σ : B0} {w : World} {K : B0 → World → Prop} {ops : Array Oper} {rest : List Oper} {d : Nat} {ty : TypeId} {pos : String} {af : Array Edge} {t : TypeId} {x y : Operand}
theorem Dx {e bytes n:Nat} {z:Value} (p:d<N) (o:P.underlying t=some (.slice e)) (a:DD P e 1) (c:IU P e bytes) (f:D_ P e z) (l:z.cells=#[z]) (r:ev σ x=.int .i64 ((n:Nat):Int)) (s:ev σ y=.int .i64 ((n:Nat):Int)) (hb:n*bytes<=140737488355328) (hn:n<=140737488355328)
 (k:∀b w',New w w' b (List.replicate n z).toArray e->DL P N ops K Q rest (Ef σ d (.slice (some ⟨b,0,none⟩) n n)) w'):DL P N ops K Q (⟨some d,.makeSlice t x y,ty,pos,af,none⟩::rest) σ w:=by
 refine BV (v:=.slice (some ⟨w.heap.size,0,none⟩) n n) (w':={w with heap:=w.heap.push (.cells (List.replicate n z).toArray e (0,0))}) O O p ?_ (k _ _ (New.mk' w _ e));unfold DD at a;unfold IU at c;unfold D_ at f;cases hi:P.info? e with
 | none=>rw[hi] at a;simp at a
 | some i=>
 rw[hi] at a c f;simp at a c f;have h:=run_make (P:=P) w t e i _ o hi f .i64 .i64 ((n:Nat):Int) ((n:Nat):Int) qO (Int.le_refl _) (by rw[c];have:((bytes:Nat):Int)*((n:Nat):Int)=(((n*bytes:Nat):Nat):Int):=(by rw[Int.natCast_mul,Int.mul_comm]);rw[this];omega) qO;have q:madeCells z.cells (n*i.size)=(List.replicate n z).toArray:=by
  rw[a,Nat.mul_one,l];apply Array.ext';simp only[madeCells];apply List.ext_getElem?;intro j;simp only[Array.toList_map,List.getElem?_map,List.getElem?_replicate];rcases Nat.lt_or_ge j n with m|m
  .have g:(Array.range n).toList[j]?=some j:=by simp[m]
   rw[g,if_pos m];simp[Nat.mod_one]
  .have g:(Array.range n).toList[j]?=none:=by simp;omega
   rw[g,if_neg qO];rfl
 simp only[Int.toNat_natCast,q] at h;simp only[execOp,r,s,Sem.run_bind,h,Result.andThen_ok];rfl
theorem De {dst:Option Tmp} {g:Option (Nat×Bool)} {s:TypeId} {e:TypeId} {b n c:Nat} {l:List Int} (hs:P.underlying s=some (.slice e)) (f:P.underlying e=some (.int .u8)) (p:P.underlying t=some .string) (a:ev σ x=.slice (some ⟨b,0,none⟩) n c)
 (d:Az w b (l.map (Value.int .u8)).toArray e) (k:l.length=n):(execOp (ev σ) ⟨dst,.convert s t x,ty,pos,af,g⟩).run P w=.ok (.value (.string (strOfNums l))) w:=by
 have h:=run_convert_bytes_arg (P:=P) w s e hs f b 0 n c l k (λi hi=>by
  rw[Nat.zero_add];have m:l[i]?=some l[i]:=List.getElem?_eq_getElem qO;have j:=d.cell (o:=i) (v:=.int .u8 (l.getD i 0)) (by simp[List.getD,m]);exact j) t p
 simp only[execOp,a,Sem.run_bind,h,Result.andThen_ok];rfl
end
def CW (base e size n:Nat) (xs:List Value) (old:Value) (hs:Nat):EK:=λv w=>(∃a c,v=.slice a n c)∧w.ownsRow base e size v n xs∧∀k,v.ownBlock=some k->old.ownBlock=some k∨hs<=k
theorem Jo (base e size n:Nat) (xs:List Value) (a:Value) (hs:Nat):∀v w w',Al w w'->CW base e size n xs a hs v w->CW base e size n xs a hs v w':=by
 rintro v w w' e ⟨b,c,d⟩;exact ⟨b,Am c e,d⟩
theorem CL {P:Program} {N:Nat} {σ:B0} {w:World} {dst:Option Tmp} {ty:TypeId} {pos:String} {af:Array Edge} {g:Option (Nat×Bool)} {M:Nat->Prop} {t:TypeId} {s x:Operand} {base e size bytes n m c D E hs:Nat} {z v:Value} {xs news:List Value} (H:P.underlying t=some (.slice e)) (f:DD P e size) (l:IU P e bytes) (A:D_ P e z) (B:z.cells.size=size) (Q:0<size)
 (U:ev σ s=v) (o:w.ownsRow base e size v n xs) (T:ev σ x=.slice (some ⟨D,E,none⟩) m c) (J:news.length=m*size) (r:BA w D E news) (K:∀u∈news,u.oneCell'=true)
 (p:n+m<=maxLen) (d:(n+m)*bytes<=140737488355328) (q:base<=w.heap.size) (R:∀y,v.ownBlock=some y->M y) (F:hs<=w.heap.size) :
 CP M P N ⟨dst,.call ⟨.builtin .append,#[s,x],#[t,t]⟩,ty,pos,af,g⟩ (CW base e size (n+m) (xs++news) v hs) σ w:=by
 unfold DD at f;unfold IU at l;unfold D_ at A;cases hi:P.info? e with
 | none=>rw[hi] at f;simp at f
 | some i=>
 rw[hi] at f l A;simp at f l A;have a:∀j u,news[j]?=some u->w.cell? ((⟨D,E,none⟩:Addr).add j)=some u:=λj u hj=>by rw[Addr.add_lit];exact r j u hj
 obtain ⟨v',w',I,L,C,_⟩:=run_append_own (P:=P) w base t ty e i z size bytes H hi A f l B Q v n xs o ⟨D,E,none⟩ m c news J a K p d q;have Z:Chg (λx=>v.ownBlock=some x) w w':=⟨C.os,C.tape,C.output,GC (P:=P) H hi A f l o J a K p d I,C.size,λb V W=>C.block b V (λh=>W h.symm)⟩;have hW:=Hd (P:=P) H hi A f l B Q o J a K p d I;refine AR (v:=v') (w':=w') (by simp[execOp,resolve,invoke,builtin,U,T,I]) (Z.mono λy _ X=>R y X) ⟨BD L,L,λk S=>?_⟩;rcases hW k S with G|G
 .exact .inl G
 .exact .inr (Nat.le_trans F G)
def Ct (e:Nat) (c:Array Value) (hs:Nat):EK:=λv w=>∃b,v=.slice (some ⟨b,0,none⟩) 1 1∧Az w b c e∧hs<=b
theorem JH (e:Nat) (c:Array Value) (hs:Nat):∀v w w',Al w w'->Ct e c hs v w->Ct e c hs v w':=by
 rintro v w w' x ⟨b,a,d,f⟩;exact ⟨b,a,Al.keep x d,f⟩
theorem Cl {P:Program} {N:Nat} {σ:B0} {w:World} {dst:Option Tmp} {ty:TypeId} {pos:String} {af:Array Edge} {g:Option (Nat×Bool)} {M:Nat->Prop} {t e n hs:Nat} {x:Operand} {v z:Value} {c:Array Value} (f:P.underlying t=some (.slice e)) (b:DD P e n) (m:D_ P e z) (l:ev σ x=v)
 (j:¬(1*n > 2 ^ 24)) (k:1*n≠0) (h:Instr.fill (λi=>some (i*n,n)) ((Array.range (1*n)).map (z.cells[· % z.cells.size]!)) [(0,v)]=some c) (a:hs<=w.heap.size) :
 CP M P N ⟨dst,.buildSlice t 1 #[(0,x)],ty,pos,af,g⟩ (Ct e c hs) σ w:=by
 have d:=New.mk' w c e;exact AR (Dy (parts:=[(0,x)]) (ps:=[(0,v)]) (by simp only[List.map,l]) f b m j k h) (Al.chg d.ext) ⟨_,O,d.blk,a⟩
theorem FL {w:World} {b e base:Nat} {v:Value} (h:Az w b #[v] e) (a:base<=b):w.ownsRow base e 1 (.slice (some ⟨b,0,none⟩) 1 1) 1 [v]:=
 ⟨O,.inr ⟨b,1,#[v],O,a,h,Nat.le_refl _,qD,O,O⟩⟩
abbrev TB:Nat:=4
structure LSt (To e sz:Nat) (w:World) (base:Nat) (vo:Value) (vs:List Value) (ns:List (Nat×List Value)):Prop where
 o:w.ownsRow base To 1 vo ns.length vs
 len:vs.length=ns.length
 inn:∀(i:Nat) v p,vs[i]?=some v->ns[i]?=some p->w.ownsRow base e sz v p.1 p.2
 apo:∀(i:Nat) v b,vs[i]?=some v->v.ownBlock=some b->vo.ownBlock≠some b
theorem LSt.start (To e sz:Nat) (w:World) (base:Nat):LSt To e sz w base (.slice none 0 0) [] []:=
 ⟨World.ownsRow_nil _ _ _ _,O,λi v p h=>by simp at h,λi v b h=>by simp at h⟩
theorem LSt.chg {M:Nat->Prop} {To e sz base:Nat} {w w':World} {j:Value} {vs:List Value} {ns:List (Nat×List Value)} (h:LSt To e sz w base j vs ns) (c:Chg M w w') (g:∀b,base<=b->b<w.heap.size->¬M b):LSt To e sz w' base j vs ns:=
 ⟨Av h.o c λk a=>g k (h.o.lt k a).1 (h.o.lt k a).2,h.len,λi v l d f=>Av (h.inn i v l d f) c λk a=>g k ((h.inn i v l d f).lt k a).1 ((h.inn i v l d f).lt k a).2,h.apo⟩
theorem LSt.ext {To e sz base:Nat} {w w':World} {a:Value} {vs:List Value} {ns:List (Nat×List Value)} (h:LSt To e sz w base a vs ns) (c:Al w w'):LSt To e sz w' base a vs ns:=h.chg c λ_ _ _ f=>f
theorem LSt.on {To e sz base n:Nat} {w:World} {a:Value} {vs:List Value} {ns:List (Nat×List Value)} (h:LSt To e sz w base a vs ns) (b:n=ns.length):w.ownsRow base To 1 a n vs:=by subst b;exact h.o
theorem LSt.push {To e sz base A n m:Nat} {w w':World} {r v' u:Value} {vs us:List Value} {ns:List (Nat×List Value)} (h:LSt To e sz w base r vs ns) (F:n=ns.length) (y:w.ownsRow A e sz u m us) (E:base<=A) (z:∀k,r.ownBlock=some k->k<A)
 (D:w'.ownsRow base To 1 v' (n+1) (vs++[u])) (B:Chg (λx=>r.ownBlock=some x) w w') (C:∀k,v'.ownBlock=some k->r.ownBlock=some k∨w.heap.size<=k):LSt To e sz w' base v' (vs++[u]) (ns++[(m,us)]):=by
 have g:∀(i:Nat) v,(vs++[u])[i]?=some v->vs[i]?=some v∨(i=vs.length∧v=u):=by
  intro i v d;rcases Nat.lt_or_ge i vs.length with a|a
  .left;rwa [List.getElem?_append_left a] at d
  .right;rw[List.getElem?_append_right a] at d;have f:=AG d;simp at f;obtain rfl:i=vs.length:=qO
   simp at d;exact ⟨O,d.symm⟩
 have q:∀b,u.ownBlock=some b->r.ownBlock≠some b:=λb s G=>by
  have a:=z b G;have f:=(y.lt b s).1;omega
 refine ⟨by rw[List.length_append,<-F];exact D,by simp[h.len],?_,?_⟩
 .intro i v p d j;rcases g i v d with a|⟨a,rfl⟩
  .rw[List.getElem?_append_left (by have:=AG a;have:=h.len;omega)] at j;exact Av (h.inn i v p a j) B λk t=>h.apo i v k a t
  .rw[a,h.len] at j;simp at j;subst j;exact Dc (Av y B λk t=>q k t) E
 .intro i v b d c o;rcases g i v d with a|⟨_,rfl⟩
  .rcases C b o with f|f
   .exact h.apo i v b a c f
   .obtain ⟨p,j⟩:=AK (l:=ns) (i:=i) (by have:=AG a;have:=h.len;omega);have:=((h.inn i v p a j).lt b c).2;omega
  .rcases C b o with f|f
   .exact q b c f
   .have:=(y.lt b c).2;omega
theorem I9 {w w':World} {base e size n cap g i:Nat} {xs:List Value} {b:Array Value} {v:Value} (h:w.ownsRow base e size (.slice (some ⟨g,0,none⟩) n cap) n xs) (o:Az w g b e) (hi:i<n*size) (c:Az w' g (b.setIfInBounds i v) e):w'.ownsRow base e size (.slice (some ⟨g,0,none⟩) n cap) n (xs.set i v):=by
 rcases h.2 with ⟨p,_⟩|⟨g',cap',cur',m,d,k,l,f,j,a⟩
 .simp at p
 .simp only[Value.slice.injEq,Option.some.injEq,Addr.mk.injEq,and_true] at m;obtain ⟨rfl,_,rfl⟩:=m;unfold Az at o c;rw[o] at k;simp only[Option.some.injEq,Obj.cells.injEq,and_true] at k;obtain ⟨rfl,_⟩:=k;refine ⟨by simpa using h.1,.inr ⟨g,cap,_,O,d,c,l,f,by simpa using j,?_⟩⟩;rw[<-a,Array.toList_setIfInBounds,List.take_set]
theorem MB {w:World} {base e size n cap g:Nat} {xs:List Value} (h:w.ownsRow base e size (.slice (some ⟨g,0,none⟩) n cap) n xs):∃a,Az w g a e∧n*size<=a.size:=by
 rcases h.2 with ⟨i,_⟩|⟨g',cap',b,f,hbg,j,d,hcm,c,htake⟩
 .simp at i
 .simp only[Value.slice.injEq,Option.some.injEq,Addr.mk.injEq,and_true] at f;obtain ⟨rfl,_,rfl⟩:=f;exact ⟨b,j,by rw[c];exact Nat.mul_le_mul_right _ d⟩
structure GSt (To e sz:Nat) (w:World) (base:Nat) (vo:Value) (vs:List Value) (ns:List (Nat×List Value)):Prop where
 l:LSt To e sz w base vo vs ns
 ap:∀(i j:Nat) v u b,vs[i]?=some v->vs[j]?=some u->v.ownBlock=some b->u.ownBlock=some b->i=j
theorem GSt.ext {To e sz base:Nat} {w w':World} {a:Value} {vs:List Value} {ns:List (Nat×List Value)} (h:GSt To e sz w base a vs ns) (c:Al w w'):GSt To e sz w' base a vs ns:=⟨h.l.ext c,h.ap⟩
theorem GSt.made {To e sz base b n:Nat} {w:World} (l:Az w b (List.replicate n (Value.slice none 0 0)).toArray To) (f:base<=b) (k:n<=9223372036854775807) (hbw:base<=b):GSt To e sz w base (.slice (some ⟨b,0,none⟩) n n) (List.replicate n (.slice none 0 0)) (List.replicate n (0,[])):=by
 have d:∀(i:Nat) v,(List.replicate n (Value.slice none 0 0))[i]?=some v->v=.slice none 0 0:=λi v h=>by
  have:=List.mem_of_getElem? h;exact (List.mem_replicate.1 this).2
 refine ⟨⟨?_,qP,λi v p h g=>?_,λi v b h a=>?_⟩,λi j v u b h _ a=>?_⟩
 .rw[List.length_replicate];exact ⟨qP,.inr ⟨b,n,_,O,f,l,Nat.le_refl _,k,qP,qP⟩⟩
 .have c:=(List.mem_replicate.1 (List.mem_of_getElem? g)).2;subst c;rw[d i v h];exact World.ownsRow_nil _ _ _ _
 .rw[d i v h] at a;cases a
 .rw[d i v h] at a;cases a
theorem GSt.grow {To e sz:Nat} {w w' M:World} {base g cap k n m m':Nat} {v v':Value} {vs:List Value} {ns:List (Nat×List Value)} {xs xs':List Value} {B:Array Value} (h:GSt To e sz w base (.slice (some ⟨g,0,none⟩) n cap) vs ns) (N:n=ns.length) (I:vs[k]?=some v) (hp:ns[k]?=some (m,xs))
 (Q:w'.ownsRow base e sz v' m' xs') (J:Chg (λx=>v.ownBlock=some x) w w') (L:∀k,v'.ownBlock=some k->v.ownBlock=some k∨w.heap.size<=k)
 (P:Az w' g B To) (G:Put w' M g (B.setIfInBounds k v') To):GSt To e sz M base (.slice (some ⟨g,0,none⟩) n cap) (vs.set k v') (ns.set k (m',xs')):=by
 have hkl:=AG I;have D:v.ownBlock≠some g:=λe=>h.l.apo k v g I e O;have hgl:=(h.l.o.lt g O).2;have s:v'.ownBlock≠some g:=λe=>by rcases L g e with f|f;exact D f;omega
 have C:w'.ownsRow base To 1 (.slice (some ⟨g,0,none⟩) n cap) ns.length vs:=Av h.l.o J λq t=>by cases t;exact D
 rw[<-N] at C;have H:=I9 C P (i:=k) (by have:=h.l.len;omega) G.blk;have d:∀(i:Nat) u,(vs.set k v')[i]?=some u->(i=k∧u=v')∨(i≠k∧vs[i]?=some u):=by
  intro i u a;rw[List.getElem?_set] at a;split at a
  .rename_i F
   exact .inl ⟨F.symm,(Option.some.inj a).symm⟩
  .rename_i F
   exact .inr ⟨λe=>F e.symm,a⟩
 have A:∀(i:Nat) u,vs[i]?=some u->∃q,ns[i]?=some q:=λi u a=>AK (by have:=AG a;have:=h.l.len;omega);have r:∀(i:Nat) u b,i≠k->vs[i]?=some u->u.ownBlock=some b->v.ownBlock≠some b∧v'.ownBlock≠some b∧b≠g:=by
  intro i u b hi a c;have f:v.ownBlock≠some b:=λe=>hi (h.ap i k u v b a I c e);refine ⟨f,λe=>?_,λe=>h.l.apo i u b a c (by rw[e];rfl)⟩;rcases L b e with p|p
  .exact f p
  .obtain ⟨q,t⟩:=A i u a;have:=((h.l.inn i u q a t).lt b c).2;omega
 refine ⟨⟨by rw[List.length_set,<-N];exact H,by simp[h.l.len],?_,?_⟩,?_⟩
 .intro i u q a t;rcases d i u a with ⟨rfl,rfl⟩|⟨f,p⟩
  .rw[List.getElem?_set,if_pos O,if_pos (by have:=h.l.len;omega)] at t;have E:=Option.some.inj t;subst E;exact Av Q G.chg λb c e=>s (e▸c)
  .rw[List.getElem?_set,if_neg (λe=>f e.symm)] at t;exact Av (Av (h.l.inn i u q p t) J λb c=>(r i u b f p c).1) G.chg λb c e=>(r i u b f p c).2.2 e
 .intro i u b a c;rcases d i u a with ⟨rfl,rfl⟩|⟨f,p⟩
  .intro e;cases e;exact s c
  .exact h.l.apo i u b p c
 .intro i j u z b a S c y;rcases d i u a with ⟨rfl,rfl⟩|⟨f,p⟩<;>rcases d j z S with ⟨rfl,rfl⟩|⟨R,K⟩
  .rfl
  .exact absurd c (r j z b R K y).2.1
  .exact absurd y (r i u b f p c).2.1
  .exact h.ap i j u z b p K c y
end Go.Proofs
namespace Go.Proofs
open Go Go.Eng
set_option maxRecDepth 100000
def Dd (w:World) (v:Value) (ll:List (List Int)):Prop:=∃vs:List Value,BO w 1 v (vs.map λx=>[x])∧vs.length=ll.length∧∀(i:Nat) (u:Value) (l:List Int),vs[i]?=some u->ll[i]?=some l->A2 w u l
theorem Dd.ext {w w':World} {v:Value} {a:List (List Int)} (h:Dd w v a) (e:Al w w'):Dd w' v a:=by
 obtain ⟨vs,b,d,f⟩:=h;exact ⟨vs,b.ext e,d,λi u l c g=>(f i u l c g).ext e⟩
theorem Dd.form {w:World} {v:Value} {b:List (List Int)} (h:Dd w v b):∃a c,v=.slice a b.length c∧b.length<=c∧b.length<=9223372036854775807:=by
 obtain ⟨vs,d,e,_⟩:=h;obtain ⟨a,c,rfl⟩:=d.form;have:=d.cap;have:=d.le;simp only[List.length_map] at *;rw[e] at *;exact ⟨a,c,O,qO,qO⟩
theorem BL {w:World} {a:Option Addr} {n c:Nat} {m:List (List Int)} (h:Dd w (.slice a n c) m) (r:0<n) :
 ∃b o,a=some ⟨b,o,none⟩∧∀i l,m[i]?=some l->∃e d,w.cell? ⟨b,o+i,none⟩=some (.slice e l.length d)∧A2 w (.slice e l.length d) l:=by
 obtain ⟨vs,s,h2,u⟩:=h;obtain ⟨b,o,t,q⟩:=BO.at s r;refine ⟨b,o,t,λi l k=>?_⟩;have hi:i<vs.length:=by have:=AG k;omega
 have j:vs[i]?=some vs[i]:=List.getElem?_eq_getElem hi;have f:=u i vs[i] l j k;obtain ⟨e,d,g⟩:=BO.form f;simp only[List.length_map] at g;have p:=q i [vs[i]] (by simp[j]) 0 _ O;rw[Nat.mul_one,Nat.add_zero,g] at p;rw[g] at f;exact ⟨e,d,p,f⟩
def BC (w:World) (d:Dfa) (vs:List Value):Prop:=∃aa ac na nc,vs=[.int .i64 d.start,.slice aa d.accept.length ac,.slice na d.next.length nc]∧A2 w (.slice aa d.accept.length ac) d.accept∧Dd w (.slice na d.next.length nc) d.next
theorem BC.ext {w w':World} {d:Dfa} {vs:List Value} (h:BC w d vs) (e:Al w w'):BC w' d vs:=by
 obtain ⟨f,a,j,c,b,g,i⟩:=h;exact ⟨f,a,j,c,b,g.ext e,i.ext e⟩
def HU (l:List Int):Int:=l.foldl min (l.headD 0)
def JE (l:List Int):Int:=l.foldl max (l.headD 0)
theorem F6 (f:Int->Int->Int) {l:List Int} {k:Nat} {x z:Int} (a:l[k]?=some x):(l.take (k+1)).foldl f z=f ((l.take k).foldl f z) x:=by
 rw[List.take_add_one,a];simp[List.foldl_append]
theorem IJ:∀(l:List Int) (z:Int),l.foldl min z<=z∧∀x∈l,l.foldl min z<=x
 | [],z=>⟨Int.le_refl _,λx h=>by simp at h⟩
 | y::l,z=>by
  obtain ⟨h1,b⟩:=IJ l (min z y);refine ⟨by simp only[List.foldl_cons];omega,λx a=>?_⟩;simp only[List.foldl_cons];rcases List.mem_cons.1 a with rfl|a
  .omega
  .exact b x a
theorem HS:∀(l:List Int) (z:Int),l.foldl min z=z∨l.foldl min z∈l
 | [],z=>.inl O
 | y::l,z=>by
  simp only[List.foldl_cons];rcases HS l (min z y) with h|h
  .rw[h];by_cases hc:z<=y
   .left;omega
   .right;rw[show min z y=y from qO];simp
  .right;simp[h]
theorem IK:∀(l:List Int) (z:Int),z<=l.foldl max z∧∀x∈l,x<=l.foldl max z
 | [],z=>⟨Int.le_refl _,λx h=>by simp at h⟩
 | y::l,z=>by
  obtain ⟨h1,b⟩:=IK l (max z y);refine ⟨by simp only[List.foldl_cons];omega,λx a=>?_⟩;simp only[List.foldl_cons];rcases List.mem_cons.1 a with rfl|a
  .omega
  .exact b x a
theorem HV:∀(l:List Int) (z:Int),l.foldl max z=z∨l.foldl max z∈l
 | [],z=>.inl O
 | y::l,z=>by
  simp only[List.foldl_cons];rcases HV l (max z y) with h|h
  .rw[h];by_cases hc:y<=z
   .left;omega
   .right;rw[show max z y=y from qO];simp
  .right;simp[h]
theorem MU {l:List Int} (h:l≠[]):l.headD 0∈l:=by cases l with|nil=>exact absurd rfl h|cons x l=>simp
theorem HT {l:List Int} (h:l≠[]) {z:Int}:z<=HU l↔∀x∈l,z<=x:=by
 constructor
 .intro a x c;have:=(IJ l (l.headD 0)).2 x c;unfold HU at a;omega
 .intro a;unfold HU;rcases HS l (l.headD 0) with b|b
  .rw[b];exact a _ (MU h)
  .exact a _ b
theorem LI {l:List Int} (h:l≠[]) {z:Int}:JE l<z↔∀x∈l,x<z:=by
 constructor
 .intro a x c;have:=(IK l (l.headD 0)).2 x c;unfold JE at a;omega
 .intro a;unfold JE;rcases HV l (l.headD 0) with b|b
  .rw[b];exact a _ (MU h)
  .exact a _ b
theorem Oj (p:World) (v:Value) (l:List Int) (h:A2 p v l) (B:l≠[]):CB prog 75 #[v] p λr w=>r=.int .i64 (HU l)∧Al p w:=by
 obtain ⟨a,c,rfl⟩:=BO.form h;have hlen:l.length<=9223372036854775807:=by simpa using BO.le h
 simp only[List.length_map] at h⊢;have e:0<l.length:=List.length_pos_iff.2 B;obtain ⟨b,o,rfl,j⟩:=Ao h e;obtain ⟨g,d⟩:=AK (l:=l) (i:=0) e;have C:l.headD 0=g:=by cases l with|nil=>simp at d|cons y l=>simpa using d
 refine qR func75 O ntmps75 O (λE=>(Y (qA (I6 0) O (AA (AI (Y (qM (.slice (some ⟨b,o,none⟩) l.length c) O (qV (AL (ad:=some ⟨b,o,none⟩) (n:=l.length) (cap:=c) underlying22 O) (qV (A0 (k:=.i64) (a:=(l.length:Int)) (b:=1) O O) (AA ?_))))))))));have t:(decide ((((l.length:Nat):Int):Int)<1))=false:=by simp;omega
 refine AW (BH t) (AM (AB (Y (qM (.slice (some ⟨b,o,none⟩) l.length c) O (qV (AC (b:=b) (o:=o) (len:=l.length) (cap:=c) (i:=0) (o':=o+0) O O O underlying22 Ad qO qO) (qV (AE (v:=(I6 g)) O Ai (E.cell (λf=>f) (j 0 g d))) (qA (I6 g) O (AA (AI (Y (qA (I6 1) O (AA (AO (Ap (λnn_ σ u=>∃(k:Nat) (m:Int),(∃jj_,σ=BK jj_ [(0,(.slice (some ⟨b,o,none⟩) l.length c)),(4,(I6 (k:Int))),(3,(I6 m))])∧Chg Ab p u∧(1<=k∧k<=l.length)∧(m=(l.take k).foldl min (l.headD 0))∧nn_=l.length - k) (n:=l.length - 1) ?_ ?_))))))))))))))
 .exact ⟨1,g,Ac.out ⟨O,O,O,trivial⟩,E,⟨Nat.le_refl _,qO⟩,(by rw[F6 _ d,C];simp),O⟩
 .clear E;rintro _ _ u ⟨k,m,⟨j2,rfl⟩,E,hk,A,rfl⟩;refine AI (Y (qM (I6 (k:Int)) O (qM (.slice (some ⟨b,o,none⟩) l.length c) O (qV (AL (ad:=some ⟨b,o,none⟩) (n:=l.length) (cap:=c) underlying22 O) (qV (A0 (k:=.i64) (a:=(k:Int)) (b:=(l.length:Int)) O O) (AA (qC O (λs=>?_) (λs=>?_))))))))
  .obtain ⟨x,z⟩:=AK (l:=l) (i:=k) qO;refine AM (AB (AI (AO (AJ (qM (I6 m) O (qM (.slice (some ⟨b,o,none⟩) l.length c) O (qM (I6 (k:Int)) O (qV (AC (b:=b) (o:=o) (len:=l.length) (cap:=c) (i:=k) (o':=o+k) O O O underlying22 Ad qO qO) (qV (AE (v:=(I6 x)) O Ai (E.cell (λf=>f) (j k x z))) (qV (I4 O O O) (qA (I6 (min m x)) O (AA (AN (AB (AJ (qM (I6 (k:Int)) O (qV (Ar (k:=.i64) (a:=(k:Int)) (b:=1) (c:=(k:Int)+1) O O (A5 qO)) (qA (I6 ((k:Int)+1)) O (AA (AB ?_))))))))))))))))))));exact ⟨l.length - (k+1),qO,k+1,(min m x),Ac.out ⟨O,O,O,trivial⟩,E,⟨qO,qO⟩,(by rw[F6 _ z,A]),O⟩
  .have q:k=l.length:=qO
   refine Ak (AP (AP (Ae (AB (Y (qM (I6 m) O (qA (I6 m) O (AA (AS (AY results75 (v:=(.int .i64 m)) O (⟨BJ ?_,E⟩)))))))))));rw[A,q,List.take_length];rfl
theorem Q9 (p:World) (v:Value) (l:List Int) (h:A2 p v l) (B:l≠[]):CB prog 76 #[v] p λr w=>r=.int .i64 (JE l)∧Al p w:=by
 obtain ⟨a,c,rfl⟩:=BO.form h;have hlen:l.length<=9223372036854775807:=by simpa using BO.le h
 simp only[List.length_map] at h⊢;have e:0<l.length:=List.length_pos_iff.2 B;obtain ⟨b,o,rfl,j⟩:=Ao h e;obtain ⟨g,d⟩:=AK (l:=l) (i:=0) e;have C:l.headD 0=g:=by cases l with|nil=>simp at d|cons y l=>simpa using d
 refine qR func76 O ntmps76 O (λE=>(Y (qA (I6 0) O (AA (AI (Y (qM (.slice (some ⟨b,o,none⟩) l.length c) O (qV (AL (ad:=some ⟨b,o,none⟩) (n:=l.length) (cap:=c) underlying22 O) (qV (A0 (k:=.i64) (a:=(l.length:Int)) (b:=1) O O) (AA ?_))))))))));have t:(decide ((((l.length:Nat):Int):Int)<1))=false:=by simp;omega
 refine AW (BH t) (AM (AB (Y (qM (.slice (some ⟨b,o,none⟩) l.length c) O (qV (AC (b:=b) (o:=o) (len:=l.length) (cap:=c) (i:=0) (o':=o+0) O O O underlying22 Ad qO qO) (qV (AE (v:=(I6 g)) O Ai (E.cell (λf=>f) (j 0 g d))) (qA (I6 g) O (AA (AI (Y (qA (I6 1) O (AA (AO (Ap (λnn_ σ u=>∃(k:Nat) (m:Int),(∃jj_,σ=BK jj_ [(0,(.slice (some ⟨b,o,none⟩) l.length c)),(4,(I6 (k:Int))),(3,(I6 m))])∧Chg Ab p u∧(1<=k∧k<=l.length)∧(m=(l.take k).foldl max (l.headD 0))∧nn_=l.length - k) (n:=l.length - 1) ?_ ?_))))))))))))))
 .exact ⟨1,g,Ac.out ⟨O,O,O,trivial⟩,E,⟨Nat.le_refl _,qO⟩,(by rw[F6 _ d,C];simp),O⟩
 .clear E;rintro _ _ u ⟨k,m,⟨j2,rfl⟩,E,hk,A,rfl⟩;refine AI (Y (qM (I6 (k:Int)) O (qM (.slice (some ⟨b,o,none⟩) l.length c) O (qV (AL (ad:=some ⟨b,o,none⟩) (n:=l.length) (cap:=c) underlying22 O) (qV (A0 (k:=.i64) (a:=(k:Int)) (b:=(l.length:Int)) O O) (AA (qC O (λs=>?_) (λs=>?_))))))))
  .obtain ⟨x,z⟩:=AK (l:=l) (i:=k) qO;refine AM (AB (AI (AO (AJ (qM (I6 m) O (qM (.slice (some ⟨b,o,none⟩) l.length c) O (qM (I6 (k:Int)) O (qV (AC (b:=b) (o:=o) (len:=l.length) (cap:=c) (i:=k) (o':=o+k) O O O underlying22 Ad qO qO) (qV (AE (v:=(I6 x)) O Ai (E.cell (λf=>f) (j k x z))) (qV (Qj O O O) (qA (I6 (max m x)) O (AA (AN (AB (AJ (qM (I6 (k:Int)) O (qV (Ar (k:=.i64) (a:=(k:Int)) (b:=1) (c:=(k:Int)+1) O O (A5 qO)) (qA (I6 ((k:Int)+1)) O (AA (AB ?_))))))))))))))))))));exact ⟨l.length - (k+1),qO,k+1,(max m x),Ac.out ⟨O,O,O,trivial⟩,E,⟨qO,qO⟩,(by rw[F6 _ z,A]),O⟩
  .have q:k=l.length:=qO
   refine Ak (AP (AP (Ae (AB (Y (qM (I6 m) O (qA (I6 m) O (AA (AS (AY results76 (v:=(.int .i64 m)) O (⟨BJ ?_,E⟩)))))))))));rw[A,q,List.take_length];rfl
def Cx (n:Int) (r:List Int):Bool:=decide (HU r < -1) || decide (n<=JE r)
def IC (d:Dfa):Bool:=(decide (d.start<0) || decide ((d.next.length:Int)<=d.start)) || decide (HU d.accept < -1)
def D0 (c:Nat) (r:List Int):Bool:=decide ((r.length:Int)=0) || decide ((r.length:Int)≠(c:Int))
def ER (d:Dfa):Nat:=(d.next.headD []).length
def Af (d:Dfa):Int:=
 if 200<d.next.length then 2 else if d.next.length=0∨d.accept.length≠d.next.length then 3 else if 16<ER d then 2
 else if d.next.any (D0 (ER d))=true then 3
 else if (IC d || d.next.any (Cx d.next.length))=true then 1 else 0
theorem Cw (w0:World) (d:Dfa) (vs:List Value) (hd:BC w0 d vs):CB prog 24 #[.agg vs.toArray] w0 λr w=>r=.int .i64 (Af d)∧Al w0 w:=by
 obtain ⟨aa,ac,na,N,rfl,ha,hn⟩:=hd;have hal:d.accept.length<=9223372036854775807:=by simpa using BO.le ha
 obtain ⟨_,_,hv,hcap,hle⟩:=hn.form;simp only[Value.slice.injEq] at hv;obtain ⟨rfl,_,rfl⟩:=hv;refine qR func24 O ntmps24 O (λE=>(Y (BP (v:=(.agg #[(I6 d.start),(.slice aa d.accept.length ac),(.slice na d.next.length N)])) (c:=#[(I6 d.start),(.slice aa d.accept.length ac),(.slice na d.next.length N)]) qD O O ?_)));intro P wr Nr;replace E:=E.ext Nr.ext;have a:=Nr.blk;refine qA _ O (AA (Y (qF P 0 2 O underlying48 O A' O (qV (AE O A4 (a.cell O)) (qV (AL underlying46 O) (qA _ O (AA (AI (AO (Y (qM _ O (qV (CU O O) (qA _ O (AA (qC O (λh1=>?_) (λh1=>?_))))))))))))))))
 .refine Y (qA _ O (AA (AS (A1 (AU (AY results24 (v:=(.int .i64 2)) O ?_))))));exact ⟨BJ (by unfold Af;rw[if_pos qO]),E⟩
 .refine Y (qM _ O ?_);obtain ⟨I,ap⟩:∃e,(decide ((((d.next.length:Nat):Int):Int)=0))=e:=⟨_,O⟩;refine qV ((BF O O).trans (by rw[ap];try rfl)) (qM _ O (qG (.bool I) (nU I (P6 P 1)) (by cases I<;>first|exact gA|exact gB|exact .inl ⟨O,AT O underlying48 O Ay O⟩) (qG (.bool I) (nU I (.slice aa d.accept.length ac)) (by cases I<;>first|exact gA|exact gB|exact .inl ⟨O,AE O Ax (a.cell O)⟩) (qG (.bool I) (nU I (I6 (d.accept.length:Int))) (by cases I<;>first|exact gA|exact gB|exact .inl ⟨O,AL underlying22 O⟩) (qG (.bool I) (nU I (I6 (d.next.length:Int))) (by cases I<;>first|exact gA|exact gB|exact .inl ⟨O,AZ O⟩) ?_)))));obtain ⟨e3,aq⟩:∃e,(decide ((((d.accept.length:Nat):Int):Int)≠((d.next.length:Nat):Int)))=e:=⟨_,O⟩;refine qG (.bool I) (nU I (.bool e3)) (by cases I<;>first|exact gA|exact gB|exact .inl ⟨O,(CE O O).trans (by rw[aq];try rfl)⟩) ?_;obtain ⟨e4,aj⟩:∃e,(I || e3)=e:=⟨_,O⟩;refine qV (Ag (v:=.bool e4) O (by rw[<-aj];cases I<;>rfl)) (qA _ O (AA ?_));subst aj;subst aq;subst ap;refine As O (λh2=>?_) (λh2=>?_)
  .have av:=h2;refine Y (qA _ O (AA (AS (A1 (AU (AY results24 (v:=(.int .i64 3)) O ?_))))));exact ⟨BJ (by unfold Af;rw[if_neg qO,if_pos (by simp only[Bool.or_eq_true,decide_eq_true_eq] at h2;omega)]),E⟩
  .have av:=h2;simp only[Bool.or_eq_false_iff,decide_eq_false_iff_not] at h2;have C:¬(d.next.length=0∨d.accept.length≠d.next.length):=qO
   obtain ⟨K,z⟩:=AK (l:=d.next) (i:=0) qO;have ao:ER d=K.length:=by unfold ER;cases hq:d.next with|nil=>rw[hq] at z;simp at z|cons y l=>rw[hq] at z;simp at z;simp[z]
   obtain ⟨R,D,au,H⟩:=BL hn qO;subst au;obtain ⟨ay,a0,U,hints0⟩:=H 0 K z;refine Y (qF P 0 2 O underlying48 O A' O (qV (AE O A4 (a.cell O)) (qV (AC (b:=R) (o:=D) (len:=d.next.length) (cap:=N) (i:=0) (o':=D+0) O O O underlying46 Ay qO qO) (qV (AE O Ax (E.cell (λf=>f) U)) (qV (AL underlying22 O) (qV (CU O O) (qA _ O (AA (qC O (λh3=>?_) (λh3=>?_))))))))))
   .refine Y (qA _ O (AA (AS (A1 (AU (AY results24 (v:=(.int .i64 2)) O ?_))))));exact ⟨BJ (by unfold Af;rw[if_neg qO,if_neg C,if_pos qO]),E⟩
   .refine AM (AN (AB (AI (Y (qF P 0 2 O underlying48 O A' O (qV (AE O A4 (a.cell O)) (qV (AL underlying46 O) (qM _ O (AA (AO (Ap (λnn_ σ W7=>∃(k:Nat),(∃jj_,σ=BK jj_ [(1,(P6 P 0)),(3,(I6 (d.next.length:Int))),(33,(.slice (some ⟨R,D,none⟩) d.next.length N)),(34,(I6 (d.next.length:Int))),(35,(I6 (k:Int)))])∧Chg Ab w0 W7∧Az W7 P #[(I6 d.start),(.slice aa d.accept.length ac),(.slice (some ⟨R,D,none⟩) d.next.length N)] 48∧(k<=d.next.length)∧((d.next.take k).any (D0 (ER d))=false)∧nn_=d.next.length - k) (n:=d.next.length - 0) ?_ ?_)))))))))))
    .exact ⟨0,Ac.out ⟨O,O,O,O,O,trivial⟩,E,a,Nat.zero_le _,O,O⟩
    .clear E a;rintro _ _ W7 ⟨k,⟨j7,rfl⟩,E,a,hk,F,rfl⟩;refine Y (qV (A0 O O) (AA (AI (qC O (λaz=>?_) (λaz=>?_)))))
     .obtain ⟨row,g⟩:=AK (l:=d.next) (i:=k) qO;obtain ⟨ra,rc,x,s⟩:=H k row g;have hrl:row.length<=9223372036854775807:=by simpa using BO.le s
      refine AM (AB (AI (AO (Y (qV (AC (b:=R) (o:=D) (len:=d.next.length) (cap:=N) (i:=k) (o':=D+k) O O O underlying46 Ay qO qO) (qV (AE O Ax (E.cell (λf=>f) x)) (qA _ O (AA (Y (qM _ O (qV (AL underlying22 O) ?_)))))))))));obtain ⟨B,ag⟩:∃e,(decide ((((row.length:Nat):Int):Int)=0))=e:=⟨_,O⟩;refine qV ((BF O O).trans (by rw[ag];try rfl)) (qM _ O (qG (.bool B) (nU B (.slice ra row.length rc)) (by cases B<;>first|exact gA|exact gB|exact .inl ⟨O,AZ O⟩) (qG (.bool B) (nU B (I6 (row.length:Int))) (by cases B<;>first|exact gA|exact gB|exact .inl ⟨O,AL underlying22 O⟩) (qG (.bool B) (nU B (P6 P 2)) (by cases B<;>first|exact gA|exact gB|exact .inl ⟨O,AT O underlying48 O A' O⟩) (qG (.bool B) (nU B (.slice (some ⟨R,D,none⟩) d.next.length N)) (by cases B<;>first|exact gA|exact gB|exact .inl ⟨O,AE O A4 (a.cell O)⟩) (qG (.bool B) (nU B (.pointer (some ⟨R,D+0,none⟩))) (by cases B<;>first|exact gA|exact gB|exact .inl ⟨O,AC (i:=0) O O O underlying46 Ay (by have:=of_decide_eq_false ag;omega) qO⟩) (qG (.bool B) (nU B (.slice ay K.length a0)) (by cases B<;>first|exact gA|exact gB|exact .inl ⟨O,AE O Ax (E.cell (λf=>f) U)⟩) (qG (.bool B) (nU B (I6 (K.length:Int))) (by cases B<;>first|exact gA|exact gB|exact .inl ⟨O,AL underlying22 O⟩) ?_))))))));obtain ⟨am,ad⟩:∃e,(decide ((((row.length:Nat):Int):Int)≠((K.length:Nat):Int)))=e:=⟨_,O⟩;refine qG (.bool B) (nU B (.bool am)) (by cases B<;>first|exact gA|exact gB|exact .inl ⟨O,(CE O O).trans (by rw[ad];try rfl)⟩) ?_;obtain ⟨ax,ae⟩:∃e,(B || am)=e:=⟨_,O⟩;refine qV (Ag (v:=.bool ax) O (by rw[<-ae];cases B<;>rfl)) (AA ?_);subst ae;subst ad;subst ag;refine As O (λhf=>?_) (λhf=>?_)
      .have aw:=hf;refine Y (qA _ O (AA (AS (A1 (AU (AU (A1 (AU (AY results24 (v:=(.int .i64 3)) O (⟨BJ ?_,E⟩))))))))));unfold Af;rw[if_neg qO,if_neg C,if_neg qO,if_pos];exact List.any_eq_true.2 ⟨row,List.mem_of_getElem? g,by unfold D0;rw[ao];simpa using hf⟩
      .have aw:=hf;refine AM (AN (AB (AJ (qV (Ar O O (A5 qO)) (qM _ O (AA (AB ?_)))))));exact ⟨d.next.length - (k+1),qO,k+1,Ac.out ⟨O,O,O,O,O,trivial⟩,E,a,qO,(by rw[List.take_add_one,g,List.any_append,F];simp only[Option.toList_some,List.any_cons,List.any_nil,Bool.or_false,Bool.false_or];unfold D0;rw[ao];simpa using hf),O⟩
     .have ar:k=d.next.length:=qO
      rw[ar,List.take_length] at F;have S:∀row∈d.next,row≠[]:=λrow hr he=>by have:=(List.any_eq_false.1 F) row hr;simp[D0,he] at this
      have an:d.accept≠[]:=λhe=>by rw[he] at C;simp at C;omega
      refine Ak (AP (AP (Ae (AB (Y (qF P 0 0 O underlying48 O Ad O (qV (AE O Ai (a.cell O)) (qV (A0 O O) (qM _ O ?_)))))))));rcases Bool.eq_false_or_eq_true (decide ((d.start:Int)<0)) with Q|Q
      .have X:=Q;replace X:=of_decide_eq_true X;refine AF O O qD (v:=.bool true) (BH Q) (Or.inl O) (AF O O qD (v:=.bool true) (BH Q) (Or.inl O) (AF O O qD (v:=.bool true) (BH Q) (Or.inl O) (AF O O qD (v:=.bool true) (BH Q) (Or.inl O) (qV (Ag (v:=(.bool true)) O (by rw[Q];rfl)) (qM _ O (AF O O qD (v:=.bool true) O (Or.inl O) (AF O O qD (v:=.bool true) O (Or.inl O) (AF O O qD (v:=.bool true) O (Or.inl O) (AF O O qD (v:=.bool true) O (Or.inl O) (qV (Ag O O) (qA _ O (AA (AI (Y (qF P 0 2 O underlying48 O A' O (qV (AE O A4 (a.cell O)) ?_))))))))))))))));refine qV (AL underlying46 O) (qM _ O (AA (AO (Ap (λnn_ σ af=>∃(q:Nat) (t:Bool),(∃jj_,σ=BK jj_ [(3,(I6 (d.next.length:Int))),(69,(.slice (some ⟨R,D,none⟩) d.next.length N)),(70,(I6 (d.next.length:Int))),(71,(I6 (q:Int))),(6,(.bool t))])∧Chg Ab w0 af∧Az af P #[(I6 d.start),(.slice aa d.accept.length ac),(.slice (some ⟨R,D,none⟩) d.next.length N)] 48∧(q<=d.next.length)∧(t=(IC d || (d.next.take q).any (Cx d.next.length)))∧nn_=d.next.length - q) (n:=d.next.length - 0) ?_ ?_))))
       .exact ⟨0,true,Ac.out ⟨O,O,O,O,O,trivial⟩,E,a,Nat.zero_le _,(by simp only[List.take_zero,List.any_nil,Bool.or_false];unfold IC;rw[Q];rfl),O⟩
       .clear E a;rintro _ _ af ⟨q,t,⟨j14,rfl⟩,E,a,hq,m,rfl⟩;refine Y (qV (A0 O O) (AA (AI (qC O (λJ=>?_) (λJ=>?_)))))
        .obtain ⟨row,g⟩:=AK (l:=d.next) (i:=q) qO;obtain ⟨ra,rc,x,s⟩:=H q row g;have A:row≠[]:=S row (List.mem_of_getElem? g);have h:(IC d || (d.next.take (q+1)).any (Cx d.next.length))=(t || Cx d.next.length row):=by rw[List.take_add_one,g,List.any_append,m];simp[Bool.or_assoc]
         refine AM (AB (AI (AO (Y (qV (AC (b:=R) (o:=D) (len:=d.next.length) (cap:=N) (i:=q) (o':=D+q) O O O underlying46 Ay qO qO) (qV (AE O Ax (E.cell (λf=>f) x)) (qA _ O (AA (AJ (qM _ O (qM _ O ?_)))))))))));rcases Bool.eq_false_or_eq_true (t) with p|p
         .have ab:=p;refine AF O O qD (v:=.bool true) (BH p) (Or.inl O) (AF O O qD (v:=.bool true) (BH p) (Or.inl O) (AF O O qD (v:=.bool true) (BH p) (Or.inl O) (qV (Ag (v:=(.bool true)) O (by rw[p];rfl)) (qM _ O (AF O O qD (v:=.bool true) O (Or.inl O) (AF O O qD (v:=.bool true) O (Or.inl O) (AF O O qD (v:=.bool true) O (Or.inl O) (AF O O qD (v:=.bool true) O (Or.inl O) (qV (Ag O O) (qA _ O (AA (AN (AB (AJ (qV (Ar O O (A5 qO)) (qM _ O (AA (AB ?_))))))))))))))))));exact ⟨d.next.length - (q+1),qO,q+1,true,Ac.out ⟨O,O,O,O,O,trivial⟩,E,a,qO,(by rw[h,p];rfl),O⟩
         .have ab:=p;refine AD O O qD (BH p) (qM _ O (AD O O qD (BH p) (qE O (AV func75 kQ kQ O) (Oj _ _ row (s.ext E) A) ?_)));rintro _ al ⟨rfl,M⟩;replace a:=M.keep a;replace E:=E.ext M;refine AD O O qD (BH p) (qV (A0 O O) (qV (Ag (v:=(.bool (decide ((HU row:Int)<(-1))))) O (by rw[p];rfl)) (qM _ O ?_)));rcases Bool.eq_false_or_eq_true (decide ((HU row:Int)<(-1))) with j|j
          .have u:=j;replace u:=of_decide_eq_true u;refine AF O O qD (v:=.bool true) (BH j) (Or.inl O) (AF O O qD (v:=.bool true) (BH j) (Or.inl O) (AF O O qD (v:=.bool true) (BH j) (Or.inl O) (AF O O qD (v:=.bool true) (BH j) (Or.inl O) (qV (Ag (v:=(.bool true)) O (by rw[j];rfl)) (qA _ O (AA (AN (AB (AJ (qV (Ar O O (A5 qO)) (qM _ O (AA (AB ?_)))))))))))));exact ⟨d.next.length - (q+1),qO,q+1,true,Ac.out ⟨O,O,O,O,O,trivial⟩,E,a,qO,(by rw[h,p];unfold Cx;rw[j];rfl),O⟩
          .have u:=j;replace u:=of_decide_eq_false u;refine AD O O qD (BH j) (qM _ O (AD O O qD (BH j) (qE O (AV func76 kQ kQ O) (Q9 _ _ row (s.ext E) A) ?_)));rintro _ ak ⟨rfl,G⟩;replace a:=G.keep a;replace E:=E.ext G;refine AD O O qD (BH j) (qM _ O (AD O O qD (BH j) (qV (CT O O) (qV (Ag (v:=(.bool (decide (((d.next.length:Int):Int)<=JE row)))) O (by rw[j];rfl)) (qA _ O (AA (AN (AB (AJ (qV (Ar O O (A5 qO)) (qM _ O (AA (AB ?_)))))))))))));exact ⟨d.next.length - (q+1),qO,q+1,(decide ((((d.next.length:Nat):Int):Int)<=JE row)),Ac.out ⟨O,O,O,O,O,trivial⟩,E,a,qO,(by rw[h,p];unfold Cx;rw[j];rfl),O⟩
        .have V:q=d.next.length:=qO
         rw[V,List.take_length] at m;refine Ak (AP (AP (Ae (AB (AI (Y (qM _ O (AA (As O (λL=>?_) (λL=>?_))))))))))
         .have Z:=L;refine Y (qA _ O (AA (AS (AU (AY results24 (v:=(.int .i64 1)) O ?_)))));exact ⟨BJ (by unfold Af;rw[if_neg qO,if_neg C,if_neg qO,if_neg (by rw[F];simp),if_pos (by rw[<-m];exact L)]),E⟩
         .have Z:=L;refine AM (AB (Y (qA _ O (AA (AS (AY results24 (v:=(.int .i64 0)) O ?_))))));exact ⟨BJ (by unfold Af;rw[if_neg qO,if_neg C,if_neg qO,if_neg (by rw[F];simp),if_neg (by rw[<-m,L];simp)]),E⟩
      .have X:=Q;replace X:=of_decide_eq_false X;refine AD O O qD (BH Q) (qF P 0 0 O underlying48 O Ad O (AD O O qD (BH Q) (qV (AE O Ai (a.cell O)) (AD O O qD (BH Q) (qM _ O (AD O O qD (BH Q) (qV (CT O O) (qV (Ag (v:=(.bool (decide (((d.next.length:Int):Int)<=d.start)))) O (by rw[Q];rfl)) (qM _ O ?_)))))))));rcases Bool.eq_false_or_eq_true (decide ((((d.next.length:Nat):Int):Int)<=d.start)) with T|T
       .have W:=T;replace W:=of_decide_eq_true W;refine AF O O qD (v:=.bool true) (BH T) (Or.inl O) (AF O O qD (v:=.bool true) (BH T) (Or.inl O) (AF O O qD (v:=.bool true) (BH T) (Or.inl O) (AF O O qD (v:=.bool true) (BH T) (Or.inl O) (qV (Ag (v:=(.bool true)) O (by rw[T];rfl)) (qA _ O (AA (AI (Y (qF P 0 2 O underlying48 O A' O (qV (AE O A4 (a.cell O)) (qV (AL underlying46 O) (qM _ O (AA (AO (Ap (λnn_ σ ah=>∃(q:Nat) (t:Bool),(∃jj_,σ=BK jj_ [(3,(I6 (d.next.length:Int))),(69,(.slice (some ⟨R,D,none⟩) d.next.length N)),(70,(I6 (d.next.length:Int))),(71,(I6 (q:Int))),(6,(.bool t))])∧Chg Ab w0 ah∧Az ah P #[(I6 d.start),(.slice aa d.accept.length ac),(.slice (some ⟨R,D,none⟩) d.next.length N)] 48∧(q<=d.next.length)∧(t=(IC d || (d.next.take q).any (Cx d.next.length)))∧nn_=d.next.length - q) (n:=d.next.length - 0) ?_ ?_)))))))))))))))
        .exact ⟨0,true,Ac.out ⟨O,O,O,O,O,trivial⟩,E,a,Nat.zero_le _,(by simp only[List.take_zero,List.any_nil,Bool.or_false];unfold IC;rw[Q,T];rfl),O⟩
        .clear E a;rintro _ _ ah ⟨q,t,⟨j20,rfl⟩,E,a,hq,m,rfl⟩;refine Y (qV (A0 O O) (AA (AI (qC O (λJ=>?_) (λJ=>?_)))))
         .obtain ⟨row,g⟩:=AK (l:=d.next) (i:=q) qO;obtain ⟨ra,rc,x,s⟩:=H q row g;have A:row≠[]:=S row (List.mem_of_getElem? g);have h:(IC d || (d.next.take (q+1)).any (Cx d.next.length))=(t || Cx d.next.length row):=by rw[List.take_add_one,g,List.any_append,m];simp[Bool.or_assoc]
          refine AM (AB (AI (AO (Y (qV (AC (b:=R) (o:=D) (len:=d.next.length) (cap:=N) (i:=q) (o':=D+q) O O O underlying46 Ay qO qO) (qV (AE O Ax (E.cell (λf=>f) x)) (qA _ O (AA (AJ (qM _ O (qM _ O ?_)))))))))));rcases Bool.eq_false_or_eq_true (t) with p|p
          .have ab:=p;refine AF O O qD (v:=.bool true) (BH p) (Or.inl O) (AF O O qD (v:=.bool true) (BH p) (Or.inl O) (AF O O qD (v:=.bool true) (BH p) (Or.inl O) (qV (Ag (v:=(.bool true)) O (by rw[p];rfl)) (qM _ O (AF O O qD (v:=.bool true) O (Or.inl O) (AF O O qD (v:=.bool true) O (Or.inl O) (AF O O qD (v:=.bool true) O (Or.inl O) (AF O O qD (v:=.bool true) O (Or.inl O) (qV (Ag O O) (qA _ O (AA (AN (AB (AJ (qV (Ar O O (A5 qO)) (qM _ O (AA (AB ?_))))))))))))))))));exact ⟨d.next.length - (q+1),qO,q+1,true,Ac.out ⟨O,O,O,O,O,trivial⟩,E,a,qO,(by rw[h,p];rfl),O⟩
          .have ab:=p;refine AD O O qD (BH p) (qM _ O (AD O O qD (BH p) (qE O (AV func75 kQ kQ O) (Oj _ _ row (s.ext E) A) ?_)));rintro _ al ⟨rfl,M⟩;replace a:=M.keep a;replace E:=E.ext M;refine AD O O qD (BH p) (qV (A0 O O) (qV (Ag (v:=(.bool (decide ((HU row:Int)<(-1))))) O (by rw[p];rfl)) (qM _ O ?_)));rcases Bool.eq_false_or_eq_true (decide ((HU row:Int)<(-1))) with j|j
           .have u:=j;replace u:=of_decide_eq_true u;refine AF O O qD (v:=.bool true) (BH j) (Or.inl O) (AF O O qD (v:=.bool true) (BH j) (Or.inl O) (AF O O qD (v:=.bool true) (BH j) (Or.inl O) (AF O O qD (v:=.bool true) (BH j) (Or.inl O) (qV (Ag (v:=(.bool true)) O (by rw[j];rfl)) (qA _ O (AA (AN (AB (AJ (qV (Ar O O (A5 qO)) (qM _ O (AA (AB ?_)))))))))))));exact ⟨d.next.length - (q+1),qO,q+1,true,Ac.out ⟨O,O,O,O,O,trivial⟩,E,a,qO,(by rw[h,p];unfold Cx;rw[j];rfl),O⟩
           .have u:=j;replace u:=of_decide_eq_false u;refine AD O O qD (BH j) (qM _ O (AD O O qD (BH j) (qE O (AV func76 kQ kQ O) (Q9 _ _ row (s.ext E) A) ?_)));rintro _ ak ⟨rfl,G⟩;replace a:=G.keep a;replace E:=E.ext G;refine AD O O qD (BH j) (qM _ O (AD O O qD (BH j) (qV (CT O O) (qV (Ag (v:=(.bool (decide (((d.next.length:Int):Int)<=JE row)))) O (by rw[j];rfl)) (qA _ O (AA (AN (AB (AJ (qV (Ar O O (A5 qO)) (qM _ O (AA (AB ?_)))))))))))));exact ⟨d.next.length - (q+1),qO,q+1,(decide ((((d.next.length:Nat):Int):Int)<=JE row)),Ac.out ⟨O,O,O,O,O,trivial⟩,E,a,qO,(by rw[h,p];unfold Cx;rw[j];rfl),O⟩
         .have V:q=d.next.length:=qO
          rw[V,List.take_length] at m;refine Ak (AP (AP (Ae (AB (AI (Y (qM _ O (AA (As O (λL=>?_) (λL=>?_))))))))))
          .have Z:=L;refine Y (qA _ O (AA (AS (AU (AY results24 (v:=(.int .i64 1)) O ?_)))));exact ⟨BJ (by unfold Af;rw[if_neg qO,if_neg C,if_neg qO,if_neg (by rw[F];simp),if_pos (by rw[<-m];exact L)]),E⟩
          .have Z:=L;refine AM (AB (Y (qA _ O (AA (AS (AY results24 (v:=(.int .i64 0)) O ?_))))));exact ⟨BJ (by unfold Af;rw[if_neg qO,if_neg C,if_neg qO,if_neg (by rw[F];simp),if_neg (by rw[<-m,L];simp)]),E⟩
       .have W:=T;replace W:=of_decide_eq_false W;refine AD O O qD (BH T) (qF P 0 1 O underlying48 O Ay O (AD O O qD (BH T) (qV (AE O Ax (a.cell O)) (AD O O qD (BH T) (qE O (AV func75 kQ kQ O) (Oj _ _ d.accept (ha.ext E) an) ?_)))));rintro _ w9 ⟨rfl,X9⟩;replace a:=X9.keep a;replace E:=E.ext X9;refine AD O O qD (BH T) (qV (A0 O O) (qV (Ag (v:=(.bool (decide ((HU d.accept:Int)<(-1))))) O (by rw[T];rfl)) (qA _ O (AA (AI (Y (qF P 0 2 O underlying48 O A' O (qV (AE O A4 (a.cell O)) (qV (AL underlying46 O) (qM _ O (AA (AO (Ap (λnn_ σ ai=>∃(q:Nat) (t:Bool),(∃jj_,σ=BK jj_ [(3,(I6 (d.next.length:Int))),(69,(.slice (some ⟨R,D,none⟩) d.next.length N)),(70,(I6 (d.next.length:Int))),(71,(I6 (q:Int))),(6,(.bool t))])∧Chg Ab w0 ai∧Az ai P #[(I6 d.start),(.slice aa d.accept.length ac),(.slice (some ⟨R,D,none⟩) d.next.length N)] 48∧(q<=d.next.length)∧(t=(IC d || (d.next.take q).any (Cx d.next.length)))∧nn_=d.next.length - q) (n:=d.next.length - 0) ?_ ?_)))))))))))))
        .exact ⟨0,(decide ((HU d.accept:Int)<(-1))),Ac.out ⟨O,O,O,O,O,trivial⟩,E,a,Nat.zero_le _,(by simp only[List.take_zero,List.any_nil,Bool.or_false];unfold IC;rw[Q,T];rfl),O⟩
        .clear E a;rintro _ _ ai ⟨q,t,⟨j25,rfl⟩,E,a,hq,m,rfl⟩;refine Y (qV (A0 O O) (AA (AI (qC O (λJ=>?_) (λJ=>?_)))))
         .obtain ⟨row,g⟩:=AK (l:=d.next) (i:=q) qO;obtain ⟨ra,rc,x,s⟩:=H q row g;have A:row≠[]:=S row (List.mem_of_getElem? g);have h:(IC d || (d.next.take (q+1)).any (Cx d.next.length))=(t || Cx d.next.length row):=by rw[List.take_add_one,g,List.any_append,m];simp[Bool.or_assoc]
          refine AM (AB (AI (AO (Y (qV (AC (b:=R) (o:=D) (len:=d.next.length) (cap:=N) (i:=q) (o':=D+q) O O O underlying46 Ay qO qO) (qV (AE O Ax (E.cell (λf=>f) x)) (qA _ O (AA (AJ (qM _ O (qM _ O ?_)))))))))));rcases Bool.eq_false_or_eq_true (t) with p|p
          .have ab:=p;refine AF O O qD (v:=.bool true) (BH p) (Or.inl O) (AF O O qD (v:=.bool true) (BH p) (Or.inl O) (AF O O qD (v:=.bool true) (BH p) (Or.inl O) (qV (Ag (v:=(.bool true)) O (by rw[p];rfl)) (qM _ O (AF O O qD (v:=.bool true) O (Or.inl O) (AF O O qD (v:=.bool true) O (Or.inl O) (AF O O qD (v:=.bool true) O (Or.inl O) (AF O O qD (v:=.bool true) O (Or.inl O) (qV (Ag O O) (qA _ O (AA (AN (AB (AJ (qV (Ar O O (A5 qO)) (qM _ O (AA (AB ?_))))))))))))))))));exact ⟨d.next.length - (q+1),qO,q+1,true,Ac.out ⟨O,O,O,O,O,trivial⟩,E,a,qO,(by rw[h,p];rfl),O⟩
          .have ab:=p;refine AD O O qD (BH p) (qM _ O (AD O O qD (BH p) (qE O (AV func75 kQ kQ O) (Oj _ _ row (s.ext E) A) ?_)));rintro _ al ⟨rfl,M⟩;replace a:=M.keep a;replace E:=E.ext M;refine AD O O qD (BH p) (qV (A0 O O) (qV (Ag (v:=(.bool (decide ((HU row:Int)<(-1))))) O (by rw[p];rfl)) (qM _ O ?_)));rcases Bool.eq_false_or_eq_true (decide ((HU row:Int)<(-1))) with j|j
           .have u:=j;replace u:=of_decide_eq_true u;refine AF O O qD (v:=.bool true) (BH j) (Or.inl O) (AF O O qD (v:=.bool true) (BH j) (Or.inl O) (AF O O qD (v:=.bool true) (BH j) (Or.inl O) (AF O O qD (v:=.bool true) (BH j) (Or.inl O) (qV (Ag (v:=(.bool true)) O (by rw[j];rfl)) (qA _ O (AA (AN (AB (AJ (qV (Ar O O (A5 qO)) (qM _ O (AA (AB ?_)))))))))))));exact ⟨d.next.length - (q+1),qO,q+1,true,Ac.out ⟨O,O,O,O,O,trivial⟩,E,a,qO,(by rw[h,p];unfold Cx;rw[j];rfl),O⟩
           .have u:=j;replace u:=of_decide_eq_false u;refine AD O O qD (BH j) (qM _ O (AD O O qD (BH j) (qE O (AV func76 kQ kQ O) (Q9 _ _ row (s.ext E) A) ?_)));rintro _ ak ⟨rfl,G⟩;replace a:=G.keep a;replace E:=E.ext G;refine AD O O qD (BH j) (qM _ O (AD O O qD (BH j) (qV (CT O O) (qV (Ag (v:=(.bool (decide (((d.next.length:Int):Int)<=JE row)))) O (by rw[j];rfl)) (qA _ O (AA (AN (AB (AJ (qV (Ar O O (A5 qO)) (qM _ O (AA (AB ?_)))))))))))));exact ⟨d.next.length - (q+1),qO,q+1,(decide ((((d.next.length:Nat):Int):Int)<=JE row)),Ac.out ⟨O,O,O,O,O,trivial⟩,E,a,qO,(by rw[h,p];unfold Cx;rw[j];rfl),O⟩
         .have V:q=d.next.length:=qO
          rw[V,List.take_length] at m;refine Ak (AP (AP (Ae (AB (AI (Y (qM _ O (AA (As O (λL=>?_) (λL=>?_))))))))))
          .have Z:=L;refine Y (qA _ O (AA (AS (AU (AY results24 (v:=(.int .i64 1)) O ?_)))));exact ⟨BJ (by unfold Af;rw[if_neg qO,if_neg C,if_neg qO,if_neg (by rw[F];simp),if_pos (by rw[<-m];exact L)]),E⟩
          .have Z:=L;refine AM (AB (Y (qA _ O (AA (AS (AY results24 (v:=(.int .i64 0)) O ?_))))));exact ⟨BJ (by unfold Af;rw[if_neg qO,if_neg C,if_neg qO,if_neg (by rw[F];simp),if_neg (by rw[<-m,L];simp)]),E⟩
end Go.Proofs
