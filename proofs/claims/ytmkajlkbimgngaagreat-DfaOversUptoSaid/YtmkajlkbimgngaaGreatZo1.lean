/- Contracts and plain lemmas, part 1. -/
import Derived.Tactics
import Derived.Deep.Quiet
import Derived.Laws.AppendOwn
import Derived.KernelRfl
import Derived.Laws.Entries
import Derived.Laws.Build
import Derived.Below
import Derived.RowKit3
import Derived.StillTail
import Derived.Sort.Grow
import Derived.Deep.Draws
import Derived.Test.YtmkajlkbimgngaaGreatChecked
import Derived.Laws.StructEq
import Derived.MapKept
import Derived.Laws.BytesArg
import Derived.Laws.CopyRow
import Derived.DeepKeys3
import Derived.Lib.SlicesS
import Derived.Laws.Concat
import Derived.Defers
import Derived.Recover
import Derived.Shelf.SlSortCmp.WholeK
import Derived.Shelf.Sort.Plain
import Derived.Shelf.Slices.CompactI
import Derived.Test.YtmkajlkbimgngaaGreatProg
import Derived.ChangeKeysEq
import Derived.OpenShut
import Derived.ChangeSlices
import Derived.Test.YtmkajlkbimgngaaGreatRows
import Derived.SizedLaws
open Go.Proofs.Tryz
set_option maxHeartbeats 16000000
set_option linter.unusedVariables false
namespace Go
theorem qO {p : Prop} (h : p := by omega) : p := h
theorem O.{u} {α : Sort u} {a : α} : a = a := rfl
theorem qD {p : Prop} (h : p := by decide) : p := h
theorem qP {p : Prop} (h : p := by simp) : p := h
theorem qK {p : Prop} (h : p := by kernel_rfl) : p := h
end Go
theorem Go.Proofs.kQ {p:Prop} (h:p:=by kernel_rfl):p:=h
theorem Go.Proofs.kH {p:Prop} (h:¬p:=by intro h;first|omega|(dsimp only at h;omega)):¬p:=h
namespace Go.Eng
open Go
abbrev CN:=Nat->Value
abbrev Dj:=Exit->CN->World->Prop
def E4 (σ:CN) (d:Nat) (v:Value):CN:=λt=>bif Nat.beq t d then v else σ t
def ev (σ:CN):Operand->Value
  | .tmp t=>σ t
  | .const v=>v
  | .global g=>.pointer (some ⟨g,0,none⟩)
  | .func f=>.func (.func f) #[] #[]
def DO (a:Act):CN:=λt=>a.tmps.getD t undef
def lk (t:Nat):List (Nat×Value)->Value->Value
  | [],d=>d
  | (k,v)::r,d=>bif Nat.beq t k then v else lk t r d
def BQ (σ:CN) (l:List (Nat×Value)):CN:=λt=>lk t l (σ t)
theorem Qa (σ:CN) (l:List (Nat×Value)) (h:∀p∈l,σ p.1=p.2):BQ σ l=σ:=by
 funext t;unfold BQ
 induction l with
 | nil=>rfl
 | cons p r ih=>
  obtain ⟨k,v⟩:=p;simp only[lk];cases hb:Nat.beq t k
  .simp only[cond_false];exact ih λp a=>h p (List.mem_cons_of_mem _ a)
  .have:t=k:=Nat.eq_of_beq_eq_true hb;subst this;simp only[cond_true];exact (h (t,v) List.mem_cons_self).symm
def Af (σ:CN):List (Nat×Value)->Prop
  | []=>True
  | (k,v)::r=>σ k=v∧Af σ r
theorem Af.all {σ:CN}:∀{l:List (Nat×Value)},Af σ l->∀p∈l,σ p.1=p.2
 | [],_,_,hp=>by cases hp
 | (k,v)::r,h,p,hp=>by
  cases hp with
  | head=>exact h.1
  | tail _ hp=>exact Af.all h.2 p hp
theorem Af.out {σ:CN} {l:List (Nat×Value)} (h:Af σ l):∃j,σ=BQ j l:=⟨σ,(Qa σ l h.all).symm⟩
theorem Cr (a:Act):a.eval=ev (DO a):=by
 funext x;cases x<;>rfl
structure Ok (dz:List Deferred) (N:Nat) (a:Act):Prop where
  size:a.tmps.size=N
  defers:a.defers=dz
theorem Dx {c:List Deferred} {N:Nat} {a:Act} (h:Ok c N a) {d:Nat} (hd:d<N) (v:Value):DO (a.put (some d) v)=E4 (DO a) d v:=by
 funext t;have hs:=h.size;simp only[DO,E4,Act.put];cases hb:Nat.beq t d
 .have b:d≠t:=λe=>by subst e;rw[Nat.beq_refl] at hb;cases hb
  simp[Array.getElem?_setIfInBounds_ne b]
 .have:t=d:=Nat.eq_of_beq_eq_true hb;subst this;simp[hs,hd]
theorem Ok.put {b:List Deferred} {N:Nat} {a:Act} (h:Ok b N a) (d:Option Nat) (v:Value):Ok b N (a.put d v):=by
 cases d with
 | none=>exact h
 | some d=>exact ⟨by simp[Act.put,h.size],h.defers⟩
def EN (dz:List Deferred) (N:Nat) (Q:Dj):Exit->Act->World->Prop:=λe a w=>Ok dz N a∧Q e (DO a) w
def Wp (P:Program) (N:Nat) (c:Code) (Q:Dj) (σ:CN) (w:World):Prop:=
  ∀dz a,Ok dz N a->DO a=σ->c.wp P (EN dz N Q) a w
def MT (K:CN->World->Prop) (Q:Dj):Dj
  | .normal=>K
  | e=>Q e
def VR (id:Nat) (Q:Dj):Dj
  | .exit j=>if j=id then Q .normal else Q (.exit j)
  | e=>Q e
section
variable {P : Program} {N : Nat} {Q : Dj} {σ : CN} {w : World} {K : CN → World → Prop}
theorem AB (h:K σ w):MT K Q .normal σ w:=h
theorem AR {j:Nat} (h:Q (.exit j) σ w):MT K Q (.exit j) σ w:=h
theorem AO (h:Q .ret σ w):MT K Q .ret σ w:=h
theorem AP {a:Nat} (h:Q .normal σ w):VR a Q .normal σ w:=h
theorem Ag {a:Nat} (h:Q .ret σ w):VR a Q .ret σ w:=h
theorem Ae {a:Nat} (h:Q .normal σ w):VR a Q (.exit a) σ w:=by unfold VR;simp only[if_true];exact h
theorem Q6 {b j:Nat} (a:j≠b) (h:Q (.exit j) σ w):VR b Q (.exit j) σ w:=by unfold VR;simp only[a,if_false];exact h
theorem U9 {c:Code} {Q':Dj} (h:Wp P N c Q σ w) (f:∀e σ w,Q e σ w->Q' e σ w):Wp P N c Q' σ w:=
 λb a d g=>Code.wp_mono (λ_ _ _ ⟨o,q⟩=>⟨o,f _ _ _ q⟩) (h b a d g)
theorem AE {x y:Code} (h:Wp P N x (MT (Wp P N y Q) Q) σ w):Wp P N (.seq x y) Q σ w:=by
 intro b a c d;refine wp_seq (Code.wp_mono ?_ (h b a c d));rintro e a w ⟨o,q⟩;cases e<;>first|exact q b a o rfl|exact ⟨o,q⟩
theorem AK (h:Q .normal σ w):Wp P N .skip Q σ w:=λ_ _ b a=>wp_skip ⟨b,a▸h⟩
theorem Ak {a:Nat} (h:Q (.exit a) σ w):Wp P N (.exit a) Q σ w:=λ_ _ b c=>wp_exit ⟨b,c▸h⟩
theorem AS (h:Q .ret σ w):Wp P N .ret Q σ w:=λ_ _ b a=>wp_ret ⟨b,a▸h⟩
theorem AM {b:Nat} {c:Code} (h:Wp P N c (VR b Q) σ w):Wp P N (.block b c) Q σ w:=by
 intro f a g i;refine wp_block (Code.wp_mono ?_ (h f a g i));rintro e a w ⟨o,q⟩;cases e with
 | exit j=>
  unfold Exit.inBlock;unfold VR at q;by_cases d:j=b
  .simp only[d,if_true] at q⊢;exact ⟨o,q⟩
  .simp only[d,if_false] at q⊢;exact ⟨o,q⟩
 | normal=>exact ⟨o,q⟩
 | goto l=>exact ⟨o,q⟩
 | ret=>exact ⟨o,q⟩
 | panic c=>exact ⟨o,q⟩
 | outgrown=>exact ⟨o,q⟩
theorem A3 {c:Operand} {x y:Code} {b:Bool} (g:ev σ c=.bool b) (j:b=true->Wp P N x Q σ w) (i:b=false->Wp P N y Q σ w) :
 Wp P N (.cond c x y) Q σ w:=by
 intro e a f d;refine wp_cond_split (t:=b) (by rw[Cr,d];exact g) (λh=>j h e a f d) (λh=>i h e a f d)
theorem A4 {c:Operand} {x y:Code} (a:ev σ c=.bool true) (h:Wp P N x Q σ w):Wp P N (.cond c x y) Q σ w:=
 A3 a (λ_=>h) (λh=>by cases h)
theorem AW {c:Operand} {x y:Code} (a:ev σ c=.bool false) (h:Wp P N y Q σ w):Wp P N (.cond c x y) Q σ w:=
 A3 a (λh=>by cases h) (λ_=>h)
theorem Am {c:Code} (I:Nat->CN->World->Prop) {n:Nat} (A:I n σ w)
 (h:∀n σ w,I n σ w->Wp P N c (MT (λσ' w'=>∃m,m<n∧I m σ' w') Q) σ w):Wp P N (.loop c) Q σ w:=by
 intro p a u C b k cs;have q:∀n a w,Ok p N a->I n (DO a) w->
  ∃e a' w',EN p N Q e a' w'∧Arrives P (lone (b.at a (.code c::.inLoop c::k)) cs w) b k cs e a' w':=by
  intro n
  induction n using Nat.strongRecOn with
  | _ n ih=>
   intro a w u z;obtain ⟨e,j,o,⟨i,f⟩,d⟩:=h n _ w z p a u O b (.inLoop c::k) cs;cases e with
   | normal=>
    obtain ⟨m,s,r⟩:=f;obtain ⟨B,v,y,t,g⟩:=ih m s j o i r;exact ⟨B,v,y,t,.of_steps (Steps.trans d (.one step_inLoop)) g⟩
   | exit id=>exact ⟨_,j,o,⟨i,f⟩,.pass (x:=.inLoop c) O (λ_ _=>.inl qP) d⟩
   | goto l=>exact ⟨_,j,o,⟨i,f⟩,.pass (x:=.inLoop c) O (λ_ _=>.inl qP) d⟩
   | ret=>exact ⟨_,j,o,⟨i,f⟩,.pass (x:=.inLoop c) O (λ_ _=>.inl qP) d⟩
   | panic ch=>exact ⟨_,j,o,⟨i,f⟩,.pass (x:=.inLoop c) O (λ_ _=>.inl qP) d⟩
   | outgrown=>exact ⟨_,j,o,⟨i,f⟩,.pass (x:=.inLoop c) O (λ_ _=>.inl qP) d⟩
 obtain ⟨e,a',w',f,d⟩:=q n a w u (C▸A);exact ⟨e,a',w',f,.of_steps (.one step_loop) d⟩
end
def DW (P:Program) (N:Nat) (ops:Array Oper) (K:CN->World->Prop) (Q:Dj) (l:List Oper) (σ:CN) (w:World):Prop:=
  ∀dz a,Ok dz N a->DO a=σ->wpList P ops (EN dz N (MT K Q)) l a w
section
variable {P : Program} {N : Nat} {Q : Dj} {σ : CN} {w : World} {K : CN → World → Prop} {ops : Array Oper} {rest : List Oper}
theorem AG {f:Nat} {l:List Oper} (h:DW P N l.toArray (Q .normal) Q l σ w):Wp P N (.region f l.toArray false) Q σ w:=by
 intro b a c d;refine wp_region_lit ?_;have:=h b a c d;have e:EN b N (MT (Q .normal) Q)=EN b N Q:=by funext e a w;cases e<;>rfl
 rwa [e] at this
theorem Y {e:Nat} {l:List Oper} {y:Code} (h:DW P N l.toArray (Wp P N y Q) Q l σ w):Wp P N (.seq (.region e l.toArray false) y) Q σ w:=by
 refine AE ?_;intro b a c d;exact wp_region_lit (h b a c d)
theorem AA (h:K σ w):DW P N ops K Q [] σ w:=λdz a b c=>⟨b,by subst c;exact h⟩
theorem B_ {o:Oper} (h:o.guard=none) {d:Nat} (hd:o.dst=some d) (f:d<N) {v:Value} {w':World}
 (g:(execOp (ev σ) o).run P w=.ok (.value v) w') (k:DW P N ops K Q rest (E4 σ d v) w'):DW P N ops K Q (o::rest) σ w:=by
 intro e a b c;refine wpList_plain h λK' i=>?_;unfold Oper.wp;rw[Cr,c,g];simp only[Oper.upon,hd];exact i _ _ (k e _ (b.put _ _) (by rw[Dx b f,c]))
theorem HT {o:Oper} (f:o.guard=none) (hd:o.dst=none) {w':World}
 (e:(execOp (ev σ) o).run P w=.ok .skip w') (k:DW P N ops K Q rest σ w'):DW P N ops K Q (o::rest) σ w:=by
 intro c a d b;refine wpList_plain f λK' g=>?_;unfold Oper.wp;rw[Cr,b,e];simp only[Oper.upon,hd];exact g _ _ (k c a d b)
def CJ (P:Program) (f:FuncId) (args:Array Value) (w:World) (R:Value->World->Prop):Prop:=
  Calls P f args w λe w'=>∃v,e=.returned v∧R v w'
theorem CJ.mono {f:FuncId} {args:Array Value} {R R':Value->World->Prop} (h:CJ P f args w R) (a:∀v w',R v w'->R' v w'):CJ P f args w R':=
 Calls.mono h λ_ _ ⟨v,e,r⟩=>⟨v,e,a _ _ r⟩
theorem MO {o:Oper} (j:o.guard=none) {d:Nat} (hd:o.dst=some d) (h:d<N) {f:FuncId} {args:Array Value} {R:Value->World->Prop}
 (i:(execOp (ev σ) o).run P w=.ok (.enter f args) w) (m:CJ P f args w R) (k:∀v w',R v w'->DW P N ops K Q rest (E4 σ d v) w'):DW P N ops K Q (o::rest) σ w:=by
 intro g a b c;refine wpList_plain j λK' l=>?_;unfold Oper.wp;rw[Cr,c,i];simp only[Oper.upon,hd];refine Calls.mono m ?_;rintro e w' ⟨v,rfl,r⟩;exact l _ _ (k v w' r g _ (b.put _ _) (by rw[Dx b h,c]))
def LS (P:Program) (ch:List PanicEntry) (f:FuncId) (args:Array Value) (w:World) (R:Value->World->Prop) (X:World->Prop):Prop:=
  Calls P f args w λe w'=>(∃v,e=.returned v∧R v w')∨(e=.panicked ch∧X w')
theorem LS.mono {ch:List PanicEntry} {f:FuncId} {args:Array Value} {R R':Value->World->Prop} {X a:World->Prop} (h:LS P ch f args w R X) (b:∀v w',R v w'->R' v w') (c:∀w',X w'->a w'):LS P ch f args w R' a:=
 Calls.mono h λ_ _ h=>h.imp (λ⟨v,e,r⟩=>⟨v,e,b _ _ r⟩) λ⟨e,x⟩=>⟨e,c _ x⟩
theorem Ch {o:Oper} (j:o.guard=none) {d:Nat} (hd:o.dst=some d) (h:d<N) {ch:List PanicEntry} {f:FuncId} {args:Array Value} {R:Value->World->Prop} {X:World->Prop}
 (i:(execOp (ev σ) o).run P w=.ok (.enter f args) w) (n:LS P ch f args w R X) (l:∀w',X w'->Q (.panic ch) σ w') (k:∀v w',R v w'->DW P N ops K Q rest (E4 σ d v) w'):DW P N ops K Q (o::rest) σ w:=by
 intro g a b c;refine wpList_plain j λK' m=>?_;unfold Oper.wp;rw[Cr,c,i];simp only[Oper.upon,hd];refine Calls.mono n ?_;rintro e w' (⟨v,rfl,r⟩|⟨rfl,x⟩)
 .exact m _ _ (k v w' r g _ (b.put _ _) (by rw[Dx b h,c]))
 .exact ⟨b,by rw[c];exact l _ x⟩
theorem AF {dst:Option Tmp} {op:Op} {ty:TypeId} {pos:String} {af:Array Edge} {j:Nat} {b:Bool} {oj:Oper} {c:Nat}
 (n:ops[j]?=some oj) (e:oj.dst=some c) (l:c<N) (p:σ c=.bool b)
 (k:DW P N ops K Q (⟨dst,op,ty,pos,af,none⟩::rest) σ w):DW P N ops K Q (⟨dst,op,ty,pos,af,some (j,b)⟩::rest) σ w:=by
 intro i a g h;have f:=k i a g h;have m:Region.wanted ⟨dst,op,ty,pos,af,some (j,b)⟩ (yielded ops a.tmps)=true:=by
  simp only[Region.wanted,yielded,n,e,Option.bind_some];have:a.tmps[c]?=some (Value.bool b):=by
   have o:a.tmps.getD c undef=.bool b:=by rw[<-p,<-h];rfl
   have d:c<a.tmps.size:=by rw[g.size];exact l
   rw[Array.getElem?_eq_getElem d];simpa[d] using o
  simp[this]
 unfold wpList at f⊢;rw[if_pos m];rw[if_pos (by rfl)] at f;exact f
theorem AJ {d:Nat} {op:Op} {ty:TypeId} {pos:String} {af:Array Edge} {j:Nat} {b:Bool} {oj:Oper} {c:Nat} {v:Value}
 (m:ops[j]?=some oj) (e:oj.dst=some c) (hd:d<N) (n:σ c=v) (o:v=.bool (!b)∨v=undef)
 (k:DW P N ops K Q rest (E4 σ d undef) w):DW P N ops K Q (⟨some d,op,ty,pos,af,some (j,b)⟩::rest) σ w:=by
 intro i a f g;have l:Region.wanted ⟨some d,op,ty,pos,af,some (j,b)⟩ (yielded ops a.tmps)=false:=by
  simp only[Region.wanted,yielded,m,e,Option.bind_some];have h:a.tmps.getD c undef=v:=by rw[<-n,<-g];rfl
  cases hx:a.tmps[c]? with
  | none=>simp
  | some u=>
   have:u=v:=by simpa[hx] using h
   subst this;rcases o with rfl|rfl
   .cases b<;>simp
   .simp[undef]
 unfold wpList;rw[l,if_neg qP];exact k i _ (f.put _ _) (by rw[Dx f hd,g])
theorem LR {d:Nat} {op:Op} {ty:TypeId} {pos:String} {af:Array Edge} {j:Nat} {b:Bool} {oj:Oper} {c:Nat} {gv u:Value}
 (f:ops[j]?=some oj) (a:oj.dst=some c) (l:c<N) (hd:d<N) (g:σ c=gv)
 (h:(gv=.bool b∧(execOp (ev σ) ⟨some d,op,ty,pos,af,none⟩).run P w=.ok (.value u) w)∨((gv=.bool (!b)∨gv=undef)∧u=undef))
 (k:DW P N ops K Q rest (E4 σ d u) w):DW P N ops K Q (⟨some d,op,ty,pos,af,some (j,b)⟩::rest) σ w:=by
 rcases h with ⟨e,i⟩|⟨e,rfl⟩
 .exact AF f a l (g.trans e) (B_ O O hd i k)
 .exact AJ f a hd g e k
end
def fin (P:Program) (fn:Func) (R:Value->World->Prop):Dj
  | .normal,σ,w | .ret,σ,w=>∃v,(∀a:Act,DO a=σ->(results fn a.tmps).run P w=.ok v w)∧R v w
  | _,_,_=>False
theorem F9 {P:Program} {f:FuncId} {b:Func} {c:Code} {N:Nat} {args:Array Value} {w:World} {R:Value->World->Prop}
 (i:P.funcs[f]?=some b) (hb:b.body=some c) (g:b.ntmps=N) (hsz:args.size<=N)
 (h:Wp P N c (fin P b R) (λt=>args.getD t undef) w):CJ P f args w R:=by
 refine calls_of_wp i hb (Code.wp_mono ?_ (h [] _ ⟨?_,O⟩ ?_))
 .rintro e a w ⟨o,q⟩;cases e<;>simp only[fin] at q
  .obtain ⟨v,d,r⟩:=q;exact ⟨o.defers,v,d a O,v,O,r⟩
  .obtain ⟨v,d,r⟩:=q;exact ⟨o.defers,v,d a O,v,O,r⟩
 .simp[g];omega
 .funext t;simp only[DO,Array.getD_eq_getD_getElem?,Array.getElem?_append];split
  .rfl
  .rename_i hlt
   rw[Array.getElem?_replicate,Array.getElem?_eq_none (xs:=args) qO];split<;>rfl
def WB (P:Program) (ch:List PanicEntry) (fn:Func) (R:Value->World->Prop) (X:World->Prop):Dj
  | .panic c,_,w=>c=ch∧X w
  | e,σ,w=>fin P fn R e σ w
theorem Er {P:Program} {ch:List PanicEntry} {f:FuncId} {fn:Func} {c:Code} {N:Nat} {args:Array Value} {w:World} {R:Value->World->Prop} {X:World->Prop}
    (hf:P.funcs[f]?=some fn) (hb:fn.body=some c) (hn:fn.ntmps=N) (hsz:args.size<=N)
    (h:Wp P N c (WB P ch fn R X) (λt=>args.getD t undef) w):LS P ch f args w R X:=by
  refine calls_of_wp hf hb (Code.wp_mono ?_ (h [] _ ⟨?_,O⟩ ?_))
  · rintro e a w ⟨o,q⟩;cases e<;>simp only[WB,fin] at q
    · obtain ⟨v,hv,r⟩:=q;exact ⟨o.defers,v,hv a O,.inl ⟨v,O,r⟩⟩
    · obtain ⟨v,hv,r⟩:=q;exact ⟨o.defers,v,hv a O,.inl ⟨v,O,r⟩⟩
    · obtain ⟨rfl,x⟩:=q;exact ⟨o.defers,.inr ⟨O,x⟩⟩
  · simp[hn];omega
  · funext t;simp only[DO,Array.getD_eq_getD_getElem?,Array.getElem?_append];split
    · rfl
    · rename_i hlt
      rw[Array.getElem?_replicate,Array.getElem?_eq_none (xs:=args) qO];split<;>rfl
theorem AV {P:Program} {b:Func} {R:Value->World->Prop} {t:Nat} (d:b.results=#[.tmp t]) {σ:CN} {w:World} {v:Value} (e:σ t=v) (h:R v w):fin P b R .ret σ w:=
 ⟨v,λa c=>by rw[results_tmp d];subst c;rw[<-e];rfl,h⟩
theorem Cl {P:Program} {c:Func} {R:Value->World->Prop} {t u:Nat} (e:c.results=#[.tmp t,.tmp u]) {σ:CN} {w:World} {v v':Value} (f:σ t=v) (b:σ u=v') (h:R (.tuple #[v,v']) w):fin P c R .ret σ w:=
 ⟨.tuple #[v,v'],λa d=>by rw[results_tmp2 e];subst d;rw[<-f,<-b];rfl,h⟩
theorem Fg {P:Program} {b:Func} {R:Value->World->Prop} (c:b.results=#[]) {σ:CN} {w:World} (h:R (.tuple #[]) w):fin P b R .normal σ w:=
 ⟨.tuple #[],λa ha=>by rw[results_none c],h⟩
theorem Q9 {P:Program} {b:Func} {R:Value->World->Prop} (c:b.results=#[]) {σ:CN} {w:World} (h:R (.tuple #[]) w):fin P b R .ret σ w:=
 ⟨.tuple #[],λa ha=>by rw[results_none c],h⟩
end Go.Eng
namespace Go.Eng
open Go
structure Chg (M:Nat->Prop) (w w':World):Prop where
  os:w'.os=w.os
  tape:w'.tape=w.tape
  output:w'.output=w.output
  drw:w.drawn<=w'.drawn
  size:w.heap.size<=w'.heap.size
  blk:∀b,b<w.heap.size->¬M b->w'.heap[b]?=w.heap[b]?
def AZ:Nat->Prop:=λ_=>False
def Ao (w w':World):Prop:=Chg AZ w w'
def Az (w:World) (b:Nat) (c:Array Value) (t:TypeId):Prop:=w.heap[b]?=some (.cells c t (0,0))
theorem Chg.refl (M:Nat->Prop) (w:World):Chg M w w:=⟨O,O,O,Nat.le_refl _,Nat.le_refl _,λ_ _ _=>rfl⟩
theorem Ao.refl (w:World):Ao w w:=Chg.refl _ w
theorem Chg.step {M M':Nat->Prop} {a b c:World} (h:Chg M a b) (k:Chg M' b c) (g:∀x,x<a.heap.size->M' x->M x):Chg M a c:=
 ⟨k.os.trans h.os,k.tape.trans h.tape,k.output.trans h.output,Nat.le_trans h.drw k.drw,Nat.le_trans h.size k.size,
  λx e f=>(k.blk x (Nat.lt_of_lt_of_le e h.size) (λd=>f (g x e d))).trans (h.blk x e f)⟩
theorem Chg.trans {M:Nat->Prop} {a b c:World} (h:Chg M a b) (k:Chg M b c):Chg M a c:=h.step k λ_ _ x=>x
theorem Chg.ext {M:Nat->Prop} {a b c:World} (h:Chg M a b) (k:Ao b c):Chg M a c:=h.step k λ_ _ x=>x.elim
theorem Ao.trans {a b c:World} (h:Ao a b) (k:Ao b c):Ao a c:=Chg.trans h k
theorem Ao.chg {M:Nat->Prop} {a b:World} (h:Ao a b):Chg M a b:=⟨h.os,h.tape,h.output,h.drw,h.size,λx c _=>h.blk x c (λf=>f)⟩
theorem Chg.mono {M M':Nat->Prop} {a b:World} (h:Chg M a b) (d:∀x,x<a.heap.size->M x->M' x):Chg M' a b:=
 ⟨h.os,h.tape,h.output,h.drw,h.size,λx c e=>h.blk x c λm=>e (d x c m)⟩
theorem Az.lt {w:World} {b:Nat} {c:Array Value} {t:TypeId} (h:Az w b c t):b<w.heap.size:=(Array.getElem?_eq_some_iff.1 h).1
theorem Chg.keep {M:Nat->Prop} {w w':World} (h:Chg M w w') {b:Nat} {c:Array Value} {t:TypeId} (a:¬M b) (hb:Az w b c t):Az w' b c t:=
 (h.blk b hb.lt a).trans hb
theorem Ao.keep {w w':World} (h:Ao w w') {b:Nat} {c:Array Value} {t:TypeId} (hb:Az w b c t):Az w' b c t:=Chg.keep h (λf=>f) hb
theorem Chg.cell {M:Nat->Prop} {w w':World} (h:Chg M w w') {a:Addr} {v:Value} (c:¬M a.block) (b:w.cell? a=some v):w'.cell? a=some v:=
 (World.cell?_of_block (w:=w) (h.blk a.block (World.block_lt_of_cell? w a b) c)).trans b
theorem Ao.cell {w w':World} (h:Ao w w') {a:Addr} {v:Value} (b:w.cell? a=some v):w'.cell? a=some v:=Chg.cell h (λf=>f) b
theorem Az.cell {w:World} {b:Nat} {c:Array Value} {t:TypeId} (h:Az w b c t) {o:Nat} {v:Value} (a:c[o]?=some v):w.cell? ⟨b,o,none⟩=some v:=by
 unfold Az at h;simp[World.cell?,h,a]
theorem Ao.below {w w':World} (h:Ao w w'):RowKit.Below w.heap.size w w':=⟨h.os,h.tape,h.output,h.size,λk a=>h.blk k a λf=>f⟩
theorem Ao.grown {w w':World} (h:Ao w w'):∃q j,w'=Sort.grow (w.drewN q) j:=by
 refine ⟨w'.drawn - w.drawn,w'.heap.extract w.heap.size w'.heap.size,?_⟩;have d:=h.os;have c:=h.tape;have b:=h.output;have k:=h.drw;have g:=h.size;have e:=h.blk;obtain ⟨l,tp,dr,o,ou⟩:=w';obtain ⟨a,tp',dr',o',ou'⟩:=w;simp only at d c b k g e;subst d;subst c;subst b;simp only[Sort.grow,World.drewN,World.mk.injEq,and_true,true_and];refine ⟨?_,qO⟩;apply Array.ext_getElem?;intro i;rw[Array.getElem?_append];by_cases hi:i<a.size
 .rw[if_pos hi];exact e i hi λf=>f
 .rw[if_neg hi,Array.getElem?_extract];by_cases h7:i<l.size
  .rw[if_pos qO];congr 1;omega
  .rw[if_neg qO,Array.getElem?_eq_none qO]
structure New (w w':World) (b:Nat) (c:Array Value) (t:TypeId):Prop where
  blk:Az w' b c t
  ext:Ao w w'
  eq:b=w.heap.size
  size:w'.heap.size=w.heap.size+1
theorem New.mk' (w:World) (c:Array Value) (t:TypeId):New w {w with heap:=w.heap.push (.cells c t (0,0))} w.heap.size c t:=
 ⟨by unfold Az;simp,⟨O,O,O,Nat.le_refl _,qP,λx a _=>by simp[Array.getElem?_push,Nat.ne_of_lt a]⟩,O,qP⟩
theorem New.keep {w w':World} {b:Nat} {c:Array Value} {t:TypeId} (h:New w w' b c t) {b':Nat} {c':Array Value} {t':TypeId} (hb:Az w b' c' t'):Az w' b' c' t':=h.ext.keep hb
theorem New.lt {w w':World} {b:Nat} {c:Array Value} {t:TypeId} (h:New w w' b c t) {b':Nat} {c':Array Value} {t':TypeId} (hb:Az w b' c' t'):b'<b:=by rw[h.eq];exact hb.lt
theorem New.ge {a w w':World} {b:Nat} {c:Array Value} {t:TypeId} (h:New w w' b c t) {M:Nat->Prop} (e:Chg M a w):a.heap.size<=b:=by rw[h.eq];exact e.size
structure Put (w w':World) (b:Nat) (c:Array Value) (t:TypeId):Prop where
  blk:Az w' b c t
  chg:Chg (λx=>x=b) w w'
  size:w'.heap.size=w.heap.size
theorem Put.of_setRow {w:World} {b:Nat} {c:Array Value} {t:TypeId} (h:Az w b c t) (c':Array Value):Put w (w.setRow b c') b c' t:=
 ⟨setRow_heap w b c c' t _ h,⟨O,O,O,Nat.le_refl _,by simp[World.setRow],λx _ a=>setRow_other w b x c' a⟩,by simp[World.setRow]⟩
theorem Put.keep {w w':World} {b:Nat} {c:Array Value} {t:TypeId} (h:Put w w' b c t) {b':Nat} {c':Array Value} {t':TypeId} (a:b'≠b) (hb:Az w b' c' t'):Az w' b' c' t':=h.chg.keep a hb
theorem Put.ext {a w w':World} {b:Nat} {c:Array Value} {t:TypeId} (h:Put w w' b c t) {M:Nat->Prop} (e:Chg M a w) (hb:a.heap.size<=b):Chg M a w':=
 e.step h.chg λx hx d=>by subst d;omega
theorem Put.step {a w w':World} {b:Nat} {c:Array Value} {t:TypeId} (h:Put w w' b c t) {M:Nat->Prop} (e:Chg M a w) (hb:a.heap.size<=b∨M b):Chg M a w':=
 e.step h.chg λx hx d=>by subst d;rcases hb with hb|hb;omega;exact hb
def A' (w:World) (b o:Nat) (vs:List Value):Prop:=∀i v,vs[i]?=some v->w.cell? ⟨b,o+i,none⟩=some v
theorem A'.chg {M:Nat->Prop} {w w':World} {b o:Nat} {vs:List Value} (h:A' w b o vs) (e:Chg M w w') (a:¬M b):A' w' b o vs:=
 λi v c=>e.cell a (h i v c)
theorem A'.ext {w w':World} {b o:Nat} {vs:List Value} (h:A' w b o vs) (e:Ao w w'):A' w' b o vs:=h.chg e λf=>f
theorem Az.cells {w:World} {b:Nat} {c:Array Value} {t:TypeId} (h:Az w b c t) {o:Nat} {vs:List Value} (d:(c.toList.drop o).take vs.length=vs):A' w b o vs:=by
 intro i v hi;refine h.cell ?_;have a:i<vs.length:=by
  rcases Nat.lt_or_ge i vs.length with h|h
  .exact h
  .simp[List.getElem?_eq_none h] at hi
 rw[<-d,List.getElem?_take_of_lt a,List.getElem?_drop] at hi;simpa using hi
def DK (P:Program) (t:TypeId) (n:Nat):Prop:=(P.info? t).map (λi=>i.size)=some n
def Hv (P:Program) (t:TypeId) (n:Nat):Prop:=(P.info? t).map (λi=>i.bytes)=some n
def EO (P:Program) (t:TypeId) (z:Value):Prop:=(P.info? t).bind (λi=>i.zero)=some z
def DI (P:Program) (t:TypeId):Bool:=match P.underlying t with
  | some (.struct _)|some (.array _ _)|none=>false
  | some _=>true
def HR (P:Program) (t:TypeId):Bool:=match P.underlying t with
  | some (.struct _)|some (.array _ _)=>true
  | _=>false
theorem DK.run {P:Program} {t:TypeId} {n:Nat} (h:DK P t n) (w:World):(sizeOf t).run P w=.ok n w:=by
 unfold DK at h;cases hi:P.info? t with
 | none=>simp[hi] at h
 | some i=>simp[hi] at h;simp[sizeOf,typeInfo,hi,h]
theorem EO.run {P:Program} {t:TypeId} {z:Value} (h:EO P t z) (w:World):(zeroValue t).run P w=.ok z w:=by
 unfold EO at h;cases hi:P.info? t with
 | none=>simp[hi] at h
 | some i=>simp[hi] at h;simp[zeroValue,typeInfo,hi,h]
theorem DI.run {P:Program} {t:TypeId} (h:DI P t=true) (w:World):(isAgg t).run P w=.ok false w:=by
 unfold DI at h;cases hi:P.underlying t with
 | none=>simp[hi] at h
 | some d=>cases d<;>simp[hi] at h<;>simp[isAgg,run_underlying hi]
theorem HR.run {P:Program} {t:TypeId} (h:HR P t=true) (w:World):(isAgg t).run P w=.ok true w:=by
 unfold HR at h;cases hi:P.underlying t with
 | none=>simp[hi] at h
 | some d=>cases d<;>simp[hi] at h<;>simp[isAgg,run_underlying hi]
section
variable {P : Program} {σ : CN} {w : World} {dst : Option Tmp} {ty : TypeId} {pos : String} {af : Array Edge} {g : Option (Nat × Bool)}
theorem Ah {x:Operand} {v:Value} (a:ev σ x=v):(execOp (ev σ) ⟨dst,.move x,ty,pos,af,g⟩).run P w=.ok (.value v) w:=by subst a;rfl
theorem FS {x:Operand} {v:Value} (a:ev σ x=v):(execOp (ev σ) ⟨dst,.assign x,ty,pos,af,g⟩).run P w=.ok (.value v) w:=by subst a;rfl
theorem Ac {c x y:Operand} {b:Bool} {v:Value} (d:ev σ c=.bool b) (a:(if b then ev σ x else ev σ y)=v):(execOp (ev σ) ⟨dst,.pick c x y,ty,pos,af,g⟩).run P w=.ok (.value v) w:=by
 subst a;simp only[execOp,d,asBool];cases b<;>rfl
theorem DR {x:Operand} {a:Addr} (b:ev σ x=.pointer (some a)):(execOp (ev σ) ⟨dst,.nilCheck x,ty,pos,af,g⟩).run P w=.ok (.value (.pointer (some a))) w:=by
 simp only[execOp,b];rfl
theorem Cj {t:TypeId} {x:Operand} {b:Bool} (a:ev σ x=.bool b):(execOp (ev σ) ⟨dst,.unOp .not t x,ty,pos,af,g⟩).run P w=.ok (.value (.bool (!b))) w:=by
 simp only[execOp,a];rfl
theorem EI {s t:TypeId} {x:Operand} {k k':IntKind} {n c:Int} (hs:∃d,P.underlying s=some d) (b:P.underlying t=some (.int k')) (a:ev σ x=.int k n) (e:k'.wrap n=c) :
 (execOp (ev σ) ⟨dst,.convert s t x,ty,pos,af,g⟩).run P w=.ok (.value (.int k' c)) w:=by
 obtain ⟨d,hd⟩:=hs;subst e;simp only[execOp,a,convert,Sem.run_bind,run_underlying hd,run_underlying b,Result.andThen_ok];rfl
variable {t t' : TypeId} {x y : Operand} {k : IntKind} {a b c : Int}
theorem Aq (d:ev σ x=.int k a) (f:ev σ y=.int k b) (e:k.wrap (a+b)=c):(execOp (ev σ) ⟨dst,.binOp .add t x y t',ty,pos,af,g⟩).run P w=.ok (.value (.int k c)) w:=by
 subst e;simp only[execOp,d,f,eqGuard,binOp];simp[Op.intArith]
theorem D3 (d:ev σ x=.int k a) (f:ev σ y=.int k b) (e:k.wrap (a - b)=c):(execOp (ev σ) ⟨dst,.binOp .sub t x y t',ty,pos,af,g⟩).run P w=.ok (.value (.int k c)) w:=by
 subst e;simp only[execOp,d,f,eqGuard,binOp];simp[Op.intArith]
theorem NU (d:ev σ x=.int k a) (f:ev σ y=.int k b) (e:k.wrap (a*b)=c):(execOp (ev σ) ⟨dst,.binOp .mul t x y t',ty,pos,af,g⟩).run P w=.ok (.value (.int k c)) w:=by
 subst e;simp only[execOp,d,f,eqGuard,binOp];simp[Op.intArith]
theorem VM (e:ev σ x=.int k a) (h:ev σ y=.int k b) (d:b≠0) (f:a.tmod b=c):(execOp (ev σ) ⟨dst,.binOp .rem t x y t',ty,pos,af,g⟩).run P w=.ok (.value (.int k c)) w:=by
 subst f;simp only[execOp,e,h,eqGuard,binOp];simp[Op.intDiv,d]
theorem SA (e:ev σ x=.int k a) (h:ev σ y=.int k b) (d:b≠0) (f:k.wrap (a.tdiv b)=c):(execOp (ev σ) ⟨dst,.binOp .quo t x y t',ty,pos,af,g⟩).run P w=.ok (.value (.int k c)) w:=by
 subst f;simp only[execOp,e,h,eqGuard,binOp];simp[Op.intDiv,d]
theorem Av (c:ev σ x=.int k a) (d:ev σ y=.int k b):(execOp (ev σ) ⟨dst,.binOp .lss t x y t',ty,pos,af,g⟩).run P w=.ok (.value (.bool (decide (a<b)))) w:=by
 simp only[execOp,c,d,eqGuard,binOp];simp[Op.intCmp]
theorem GY (c:ev σ x=.int k a) (d:ev σ y=.int k b):(execOp (ev σ) ⟨dst,.binOp .leq t x y t',ty,pos,af,g⟩).run P w=.ok (.value (.bool (decide (a<=b)))) w:=by
 simp only[execOp,c,d,eqGuard,binOp];simp[Op.intCmp]
theorem CH (c:ev σ x=.int k a) (d:ev σ y=.int k b):(execOp (ev σ) ⟨dst,.binOp .gtr t x y t',ty,pos,af,g⟩).run P w=.ok (.value (.bool (decide (b<a)))) w:=by
 simp only[execOp,c,d,eqGuard,binOp];simp[Op.intCmp]
theorem C3 (c:ev σ x=.int k a) (d:ev σ y=.int k b):(execOp (ev σ) ⟨dst,.binOp .geq t x y t',ty,pos,af,g⟩).run P w=.ok (.value (.bool (decide (b<=a)))) w:=by
 simp only[execOp,c,d,eqGuard,binOp];simp[Op.intCmp]
theorem As (c:ev σ x=.int k a) (d:ev σ y=.int k b):(execOp (ev σ) ⟨dst,.binOp .eql t x y t',ty,pos,af,g⟩).run P w=.ok (.value (.bool (decide (a=b)))) w:=by
 have:(a == b)=decide (a=b):=by rw[Bool.eq_iff_iff];simp
 rw[<-this];simp only[execOp,c,d,eqGuard,binOp];simp[Op.intCmp]
theorem CO (c:ev σ x=.int k a) (d:ev σ y=.int k b):(execOp (ev σ) ⟨dst,.binOp .neq t x y t',ty,pos,af,g⟩).run P w=.ok (.value (.bool (decide (a≠b)))) w:=by
 have:(a != b)=decide (a≠b):=by rw[Bool.eq_iff_iff];simp
 rw[<-this];simp only[execOp,c,d,eqGuard,binOp];simp[Op.intCmp]
theorem Mv {p q:Bool} (d:Nat) (a:P.underlying t=some .bool):(Op.equalIn (d+1) t (.bool p) (.bool q)).run P w=.ok (p == q) w:=by
 simp only[Op.equalIn,Sem.run_bind,run_underlying a,Result.andThen_ok];rfl
theorem SB {p q:Bool} (c:P.underlying t=some .bool) (a:ev σ x=.bool p) (b:ev σ y=.bool q):(execOp (ev σ) ⟨dst,.binOp .neq t x y t',ty,pos,af,g⟩).run P w=.ok (.value (.bool (p != q))) w:=by
 have h:=Mv (P:=P) (w:=w) (p:=p) (q:=q) 9999 c;simp only[execOp,a,b,eqGuard,binOp,Op.equal,Op.maxDepth];simp[h,bne]
theorem KJ {op:BinOp} {v:Value} (c:ev σ x=.int k a) (d:ev σ y=.int k b) (e:op=.and∨op=.or∨op=.xor∨op=.andNot) (f:(Op.intBits op k a b).run P w=.ok v w) :
 (execOp (ev σ) ⟨dst,.binOp op t x y t',ty,pos,af,g⟩).run P w=.ok (.value v) w:=by
 rcases e with rfl|rfl|rfl|rfl<;>(simp only[execOp,c,d,eqGuard,binOp];simp[f])
theorem Wt {k':IntKind} (d:ev σ x=.int k a) (e:ev σ y=.int k' b) (f:0<=b) (h:k.wrap (a*2 ^ (min b.toNat k.bits))=c) :
 (execOp (ev σ) ⟨dst,.binOp .shl t x y t',ty,pos,af,g⟩).run P w=.ok (.value (.int k c)) w:=by
 subst h;simp only[execOp,d,e,eqGuard,binOp];simp[Op.shift,Int.not_lt.2 f]
theorem IV {k':IntKind} (d:ev σ x=.int k a) (e:ev σ y=.int k' b) (f:0<=b) (h:a.fdiv (2 ^ (min b.toNat k.bits))=c) :
 (execOp (ev σ) ⟨dst,.binOp .shr t x y t',ty,pos,af,g⟩).run P w=.ok (.value (.int k c)) w:=by
 subst h;simp only[execOp,d,e,eqGuard,binOp];simp[Op.shift,Int.not_lt.2 f]
theorem AH {e:TypeId} {ad:Option Addr} {n cap:Nat} (b:P.underlying t=some (.slice e)) (a:ev σ x=.slice ad n cap) :
 (execOp (ev σ) ⟨dst,.call ⟨.builtin .len,#[x],#[t]⟩,ty,pos,af,g⟩).run P w=.ok (.value (.int .i64 n)) w:=by
 simp only[execOp,resolve,List.map_toArray,List.map_cons,List.map_nil,a];simp[invoke,builtin,Builtin.len_,run_underlying b,goInt]
theorem AN {fs:Array Field} {f:Field} {i n b o o':Nat} (c:ev σ x=.pointer (some ⟨b,o,none⟩)) (e:P.underlying t=some (.struct fs)) (d:fs[i]?=some f) (hs:DK P f.type (n+1)) (a:o+f.offset=o') :
 (execOp (ev σ) ⟨dst,.fieldAddr t x i,ty,pos,af,g⟩).run P w=.ok (.value (.pointer (some ⟨b,o',none⟩))) w:=by
 subst a;simp[execOp,c,Instr.fieldAt,run_underlying e,d,Instr.sureAddr,fieldPlace,hs.run,Addr.add_lit]
theorem AC {e:TypeId} {n b o o' len cap i:Nat} {k:IntKind} {a:Int} (f:ev σ x=.slice (some ⟨b,o,none⟩) len cap) (h:ev σ y=.int k a) (d:a=(i:Int)) (j:P.underlying t=some (.slice e)) (hs:DK P e n) (hi:i<len) (c:o+i*n=o') :
 (execOp (ev σ) ⟨dst,.indexAddr t x y,ty,pos,af,g⟩).run P w=.ok (.value (.pointer (some ⟨b,o',none⟩))) w:=by
 subst c;subst d;have h1:(0:Int)<=(i:Int)∧(i:Int)<(len:Int):=qO
 simp[execOp,f,h,Instr.indexAt,asIntOf,run_underlying j,hs.run,Addr.add_lit,hi]
theorem DC {e:TypeId} {n b o o' len i:Nat} {k:IntKind} {a:Int} (f:ev σ x=.pointer (some ⟨b,o,none⟩)) (h:ev σ y=.int k a) (d:a=(i:Int)) (j:P.underlying t=some (.array len e)) (hs:DK P e n) (hi:i<len) (c:o+i*n=o') :
 (execOp (ev σ) ⟨dst,.indexAddr t x y,ty,pos,af,g⟩).run P w=.ok (.value (.pointer (some ⟨b,o',none⟩))) w:=by
 subst c;subst d;simp[execOp,f,h,Instr.indexAt,Instr.sureAddr,asIntOf,run_underlying j,hs.run,Addr.add_lit,hi]
theorem Lj {e:TypeId} {a a':Option Addr} {n len cap lo n' c':Nat} {k:IntKind} {l:Int} (d:P.underlying t=some (.slice e)) (hs:DK P e n) (c:ev σ x=.slice a len cap) (h:ev σ y=.int k l) (j:l=(lo:Int)) (i:lo<=len) (f:(if cap=lo then a else a.map (·.add (lo*n)))=a') (b:len - lo=n') (m:cap - lo=c') :
 (execOp (ev σ) ⟨dst,.slice t x (some y) none none,ty,pos,af,g⟩).run P w=.ok (.value (.slice a' n' c')) w:=by
 subst f;subst b;subst m;subst j;have h2:(0:Int)<=(lo:Int)∧(lo:Int)<=(len:Int):=qO
 simp[execOp,c,h,Instr.sliceAt,Instr.slice,run_underlying d,Instr.sliceBounds,Instr.sliceBound,asIntOf,i,hs.run]
theorem GX {e:TypeId} {a a':Option Addr} {n len cap hi:Nat} {k:IntKind} {l:Int} (i:P.underlying t=some (.slice e)) (hs:DK P e n) (c:ev σ x=.slice a len cap) (d:ev σ y=.int k l) (h:l=(hi:Int)) (f:hi<=cap) (b:(if cap=0 then a else a.map (·.add (0*n)))=a') :
 (execOp (ev σ) ⟨dst,.slice t x none (some y) none,ty,pos,af,g⟩).run P w=.ok (.value (.slice a' hi cap)) w:=by
 subst b;subst h;simp[execOp,c,d,Instr.sliceAt,Instr.slice,run_underlying i,Instr.sliceBounds,Instr.sliceBound,asIntOf,f,hs.run]
theorem AD {ad:Addr} {v:Value} (a:ev σ x=.pointer (some ad)) (b:DI P t=true) (c:w.cell? ad=some v) :
 (execOp (ev σ) ⟨dst,.load t x,ty,pos,af,g⟩).run P w=.ok (.value v) w:=by
 simp[execOp,a,Instr.loadAt,Instr.sureAddr,loadVar,DI.run b,c]
theorem AU {b o n:Nat} {vs:List Value} (d:ev σ x=.pointer (some ⟨b,o,none⟩)) (f:HR P t=true) (hs:DK P t n) (a:vs.length=n) (h:A' w b o vs) :
 (execOp (ev σ) ⟨dst,.load t x,ty,pos,af,g⟩).run P w=.ok (.value (.agg vs.toArray)) w:=by
 subst a;have e:=run_loadCells_list (P:=P) w ⟨b,o,none⟩ vs (λj v c=>by rw[Addr.add_lit];exact h j v c);simp[execOp,d,Instr.loadAt,Instr.sureAddr,loadVar,HR.run f,hs.run,e]
theorem CA {b:Fn} {first a:List Operand} {vs us:List Value} (d:first.map (ev σ)=vs) (c:a.map (ev σ)=us) :
 (execOp (ev σ) ⟨dst,.makeFunc b first.toArray a.toArray,ty,pos,af,g⟩).run P w=.ok (.value (.func b vs.toArray us.toArray)) w:=by
 subst d;subst c;simp[execOp,Instr.makeFunc]
theorem Ai {i:Nat} {vs:Array Value} {v:Value} (a:ev σ x=.tuple vs) (b:vs[i]?=some v) :
 (execOp (ev σ) ⟨dst,.extract x i,ty,pos,af,g⟩).run P w=.ok (.value v) w:=by
 simp[execOp,a,Instr.extract,b]
theorem BU {parts:List (Nat×Operand)} {ps:List (Nat×Value)} {v:Value} (a:(parts.map λ(i,x)=>(i,ev σ x))=ps) (hb:(Instr.build t ps.toArray).run P w=.ok v w) :
 (execOp (ev σ) ⟨dst,.build t parts.toArray,ty,pos,af,g⟩).run P w=.ok (.value v) w:=by
 subst a;simp[execOp,hb]
theorem HY {f : FuncId} {a : Func} {vs : Array Value} (b : P.funcs[f]? = some a) (c : (a.name == "runtime.NumGoroutine") = false) (hb : a.body.isNone = false) :
 (callFunc f vs).run P w=.ok (.enter f vs) w:=by
 simp only[callFunc,Sem.run_bind,run_program,Result.andThen_ok,b,c,hb,Bool.false_eq_true,if_false];rfl
theorem AT {f : FuncId} {a : Func} {args : List Operand} {tys : Array TypeId} {vs : List Value} (d : P.funcs[f]? = some a) (c : (a.name == "runtime.NumGoroutine") = false) (hb : a.body.isNone = false) (b : args.map (ev σ) = vs) :
 (execOp (ev σ) ⟨dst,.call ⟨.value (.func f),args.toArray,tys⟩,ty,pos,af,g⟩).run P w=.ok (.enter f vs.toArray) w:=by
 subst b;simp[execOp,resolve,ev,Deferred.ofValue,invoke,HY d c hb]
theorem D_ {f : FuncId} {a : Func} {z : Operand} {args : List Operand} {tys : Array TypeId} {first cap ws : Array Value} {vs : List Value} (e : ev σ z = .func (.func f) first cap) (h : P.funcs[f]? = some a) (d : (a.name == "runtime.NumGoroutine") = false) (hb : a.body.isNone = false) (c : args.map (ev σ) = vs) (b : first ++ vs.toArray ++ cap = ws) :
 (execOp (ev σ) ⟨dst,.call ⟨.value z,args.toArray,tys⟩,ty,pos,af,g⟩).run P w=.ok (.enter f ws) w:=by
 subst c;subst b;simp[execOp,resolve,e,Deferred.ofValue,invoke,HY h d hb]
end
section
variable {P : Program} {N : Nat} {Q : Dj} {σ : CN} {w : World} {K : CN → World → Prop} {ops : Array Oper} {rest : List Oper} {d : Nat} {ty : TypeId} {pos : String} {af : Array Edge} {t : TypeId} {x y : Operand}
theorem BM {v:Value} {c:Array Value} (e:d<N) (a:ev σ x=v) (f:v.cells=c) (k:∀b w',New w w' b c t->DW P N ops K Q rest (E4 σ d (.pointer (some ⟨b,0,none⟩))) w') :
 DW P N ops K Q (⟨some d,.box t x,ty,pos,af,none⟩::rest) σ w:=by
 subst f;refine B_ (v:=.pointer (some ⟨w.heap.size,0,none⟩)) (w':={w with heap:=w.heap.push (.cells v.cells t (0,0))}) O O e ?_ (k _ _ (New.mk' w v.cells t));simp[execOp,a,Instr.box,newVar,newRow]
theorem BO {z:Value} {c:Array Value} (a:d<N) (e:EO P t z) (f:z.cells=c) (k:∀b w',New w w' b c t->DW P N ops K Q rest (E4 σ d (.pointer (some ⟨b,0,none⟩))) w') :
 DW P N ops K Q (⟨some d,.alloc t,ty,pos,af,none⟩::rest) σ w:=by
 subst f;refine B_ (v:=.pointer (some ⟨w.heap.size,0,none⟩)) (w':={w with heap:=w.heap.push (.cells z.cells t (0,0))}) O O a ?_ (k _ _ (New.mk' w z.cells t));simp[execOp,Instr.alloc,e.run,newVar,newRow]
theorem BB {b o:Nat} {v:Value} {c c':Array Value} {e:TypeId} (j:ev σ x=.pointer (some ⟨b,o,none⟩)) (l:ev σ y=v) (f:v.oneCell'=true) (hs:DK P t 1) (g:Az w b c e) (h:o<c.size) (i:c.setIfInBounds o v=c')
 (k:∀w',Put w w' b c' e->DW P N ops K Q rest σ w'):DW P N ops K Q (⟨none,.store t x y,ty,pos,af,none⟩::rest) σ w:=by
 subst i;refine HT (w':=w.setRow b (c.setIfInBounds o v)) O O ?_ (k _ (Put.of_setRow g _));have d:v.cells=#[v]:=by cases v<;>first|rfl|(simp[Value.oneCell'] at f;done)
 have a:=run_storeCells_at P b o e [v] 0 c w g (by simp;omega) (by simpa using f);have m:(c.toList.take (o+0)++[v]++c.toList.drop (o+0+[v].length)).toArray=c.setIfInBounds o v:=by
  apply Array.ext';simp only[Nat.add_zero,List.length_singleton,Array.toList_setIfInBounds];rw[List.set_eq_take_append_cons_drop,if_pos (by simpa using h)];simp
 rw[m] at a;simp[execOp,j,l,Instr.storeAt,Instr.sureAddr,storeVar,hs.run,d,a]
theorem Al {b o n:Nat} {vs c c':Array Value} {e:TypeId} (h:ev σ x=.pointer (some ⟨b,o,none⟩)) (i:ev σ y=.agg vs) (j:∀v∈vs.toList,v.oneCell'=true) (hs:DK P t n) (g:vs.size=n) (d:Az w b c e) (f:o+n<=c.size) (l:(c.toList.take o++vs.toList++c.toList.drop (o+n)).toArray=c')
 (k:∀w',Put w w' b c' e->DW P N ops K Q rest σ w'):DW P N ops K Q (⟨none,.store t x y,ty,pos,af,none⟩::rest) σ w:=by
 subst l;subst g;refine HT (w':=w.setRow b _) O O ?_ (k _ (Put.of_setRow d _));have a:=run_storeCells_at P b o e vs.toList 0 c w d (by simpa using f) j;simp only[Nat.add_zero,Array.length_toList] at a;simp[execOp,h,i,Instr.storeAt,Instr.sureAddr,storeVar,hs.run,Value.cells,a]
theorem Au {z v:Value} {n:Nat} {c:Array Value} {m:TypeId} {a:String} {j:Array Edge} (q:d<N) (x:EO P t z) (f:z.cells.size=n) (hs:DK P t n) (A:ev (E4 σ d (.pointer (some ⟨w.heap.size,0,none⟩))) y=v) (B:v.cells=c) (l:c.size=n) (o:∀u∈c.toList,u.oneCell'=true)
 (k:∀b w',New w w' b c t->DW P N ops K Q rest (E4 σ d (.pointer (some ⟨b,0,none⟩))) w') :
 DW P N ops K Q (⟨some d,.alloc t,ty,pos,af,none⟩::⟨none,.store t (.tmp d) y,m,a,j,none⟩::rest) σ w:=by
 subst B;refine B_ (v:=.pointer (some ⟨w.heap.size,0,none⟩)) (w':={w with heap:=w.heap.push (.cells z.cells t (0,0))}) O O q ?_ ?_
 .simp[execOp,Instr.alloc,x.run,newVar,newRow]
 .refine HT (w':={w with heap:=w.heap.push (.cells v.cells t (0,0))}) O O ?_ (k _ _ (New.mk' w v.cells t));have s:Az {w with heap:=w.heap.push (.cells z.cells t (0,0))} w.heap.size z.cells t:=(New.mk' w z.cells t).blk;have g:=run_storeCells_at P w.heap.size 0 t v.cells.toList 0 z.cells _ s (by simp[l,f]) o;have hd:ev (E4 σ d (.pointer (some ⟨w.heap.size,0,none⟩))) (.tmp d)=.pointer (some ⟨w.heap.size,0,none⟩):=by simp[ev,E4]
  have r:World.setRow {w with heap:=w.heap.push (.cells z.cells t (0,0))} w.heap.size (z.cells.toList.take (0+0)++v.cells.toList++z.cells.toList.drop (0+0+v.cells.toList.length)).toArray={w with heap:=w.heap.push (.cells v.cells t (0,0))}:=by
   have e:(z.cells.toList.take (0+0)++v.cells.toList++z.cells.toList.drop (0+0+v.cells.toList.length)).toArray=v.cells:=by
    apply Array.ext';simp[l,<-f]
   rw[e];simp only[World.setRow];congr 1;apply Array.ext
   .simp
   .intro i o p;simp only[Array.getElem_modify,Array.getElem_push];by_cases hi:i<w.heap.size
    .simp[hi,Nat.ne_of_gt hi]
    .have:i=w.heap.size:=by simp at p;omega
     simp[this]
  rw[r] at g;have h:(storeCells ⟨w.heap.size,0,none⟩ v.cells.toList).run P (w.alloc (.cells z.cells t))=.ok () (w.alloc (.cells v.cells t)):=g;simp[execOp,hd,A,Instr.storeAt,Instr.sureAddr,storeVar,hs.run,l,h]
theorem Ad {e:TypeId} {len n:Nat} {z:Value} {parts:List (Nat×Operand)} {ps:List (Nat×Value)} {c:Array Value} (a:d<N) (g:(parts.map λ(i,x)=>(i,ev σ x))=ps) (f:P.underlying t=some (.slice e)) (hs:DK P e n) (j:EO P e z) (l:¬(len*n > 2 ^ 24)) (h:len*n≠0)
 (m:Instr.fill (λi=>some (i*n,n)) ((Array.range (len*n)).map (z.cells[· % z.cells.size]!)) ps=some c)
 (k:∀b w',New w w' b c e->DW P N ops K Q rest (E4 σ d (.slice (some ⟨b,0,none⟩) len len)) w'):DW P N ops K Q (⟨some d,.buildSlice t len parts.toArray,ty,pos,af,none⟩::rest) σ w:=by
 subst g;refine B_ (v:=.slice (some ⟨w.heap.size,0,none⟩) len len) (w':={w with heap:=w.heap.push (.cells c e (0,0))}) O O a ?_ (k _ _ (New.mk' w c e));simp only[execOp,Instr.buildSlice,List.map_toArray,Sem.run_bind,run_underlying f,Result.andThen_ok,hs.run,l,h,if_false,Sem.run_pure,j.run,m];simp[newRow]
end
theorem FD {P:Program} {ops:Array Oper} {w:World} {R R':Act->Prop} (h:∀a,R a->R' a):∀(l:List Oper) (a:Act),wpStill P ops w R l a->wpStill P ops w R' l a
 | [],a,hr=>h a hr
 | o::rest,a,hr=>by
  unfold wpStill at hr⊢;split
  .rename_i b
   rw[if_pos b] at hr;exact Oper.still_mono (λa'=>FD h rest a') hr
  .rename_i b
   rw[if_neg b] at hr;exact FD h rest _ hr
def X' (P:Program) (N:Nat) (ops:Array Oper) (w:World) (K:CN->Prop) (l:List Oper) (σ:CN):Prop:=
  ∀dz a,Ok dz N a->DO a=σ->wpStill P ops w (λa'=>Ok dz N a'∧K (DO a')) l a
def RO (P:Program) (N:Nat) (ops:Array Oper) (w:World) (K:CN->World->Prop) (Q:Dj):Nat->List Oper->CN->Prop
  | n,l,σ=>X' P N ops w (λσ'=>DW P N ops K Q (l.drop n) σ' w) (l.take n) σ
section
variable {P : Program} {N : Nat} {Q : Dj} {σ : CN} {w : World} {K : CN → World → Prop} {ops : Array Oper} {rest : List Oper} {n : Nat}
theorem Dr {l:List Oper} (h:DW P N ops K Q l σ w):RO P N ops w K Q 0 l σ:=λdz a b c=>by
 simp only[List.take_zero,List.drop_zero];exact ⟨b,c▸h⟩
theorem U_ {o:Oper} (h:o.guard=none) {d:Nat} (hd:o.dst=some d) (f:d<N) {v:Value}
 (g:(execOp (ev σ) o).run P w=.ok (.value v) w) (k:RO P N ops w K Q n rest (E4 σ d v)):RO P N ops w K Q (n+1) (o::rest) σ:=by
 intro e a b c;simp only[List.take_succ_cons,List.drop_succ_cons];unfold wpStill;rw[if_pos (by simp[Region.wanted,h])];unfold Oper.still;rw[Cr,c,g];refine ⟨O,?_⟩;rw[hd];exact k e _ (b.put _ _) (by rw[Dx b f,c])
theorem CR {d:Nat} {op:Op} {ty:TypeId} {pos:String} {af:Array Edge} {j:Nat} {b:Bool} {oj:Oper} {e:Nat} {gv u:Value}
 (l:ops[j]?=some oj) (c:oj.dst=some e) (s:e<N) (hd:d<N) (x:σ e=gv)
 (h:(gv=.bool b∧(execOp (ev σ) ⟨some d,op,ty,pos,af,none⟩).run P w=.ok (.value u) w)∨((gv=.bool (!b)∨gv=undef)∧u=undef))
 (k:RO P N ops w K Q n rest (E4 σ d u)):RO P N ops w K Q (n+1) (⟨some d,op,ty,pos,af,some (j,b)⟩::rest) σ:=by
 intro r a i o;simp only[List.take_succ_cons,List.drop_succ_cons];have p:=k r _ (i.put (some d) u) (by rw[Dx i hd,o]);have q:a.tmps.getD e undef=gv:=by rw[<-x,<-o];rfl
 have f:e<a.tmps.size:=by rw[i.size];exact s
 have g:a.tmps[e]?=some gv:=by rw[Array.getElem?_eq_getElem f];simpa[f] using q
 unfold wpStill;rcases h with ⟨m,v⟩|⟨m,rfl⟩
 .subst m;rw[if_pos (by simp[Region.wanted,yielded,l,c,g])];unfold Oper.still;have t:(execOp a.eval ⟨some d,op,ty,pos,af,some (j,b)⟩).run P w=.ok (.value u) w:=by rw[Cr,o];exact v
  rw[t];exact ⟨O,p⟩
 .rw[if_neg]
  .exact p
  .rcases m with rfl|rfl
   .cases b<;>simp[Region.wanted,yielded,l,c,g]
   .simp[Region.wanted,yielded,l,c,g,undef]
theorem A0 {dst:Option Tmp} {op:Op} {ty:TypeId} {pos:String} {af:Array Edge} {j:Nat} {b:Bool} {oj:Oper} {c:Nat}
 (o:ops[j]?=some oj) (f:oj.dst=some c) (l:c<N) (q:σ c=.bool b)
 (k:RO P N ops w K Q (n+1) (⟨dst,op,ty,pos,af,none⟩::rest) σ):RO P N ops w K Q (n+1) (⟨dst,op,ty,pos,af,some (j,b)⟩::rest) σ:=by
 intro i a g h;have e:=k i a g h;simp only[List.take_succ_cons,List.drop_succ_cons] at e⊢;have p:a.tmps.getD c undef=.bool b:=by rw[<-q,<-h];rfl
 have d:c<a.tmps.size:=by rw[g.size];exact l
 have m:a.tmps[c]?=some (.bool b):=by rw[Array.getElem?_eq_getElem d];simpa[d] using p
 unfold wpStill at e⊢;rw[if_pos (by simp[Region.wanted,yielded,o,f,m])];rw[if_pos (by rfl)] at e;exact e
theorem Ar {d:Nat} {op:Op} {ty:TypeId} {pos:String} {af:Array Edge} {j:Nat} {b:Bool} {oj:Oper} {c:Nat} {v:Value}
 (e:ops[j]?=some oj) (a:oj.dst=some c) (hd:d<N∧c<N) (f:σ c=v) (g:v=.bool (!b)∨v=undef)
 (k:RO P N ops w K Q n rest (E4 σ d undef)):RO P N ops w K Q (n+1) (⟨some d,op,ty,pos,af,some (j,b)⟩::rest) σ:=
 CR e a hd.2 hd.1 f (.inr ⟨g,O⟩) k
theorem Ge (w:World):Ao w {w with drawn:=w.drawn+1}:=⟨O,O,O,Nat.le_succ _,Nat.le_refl _,λ_ _ _=>rfl⟩
theorem M8 {m:Nat} {l:List Oper} (n:Nat) (d:P.follows .mixedOrders=true) (k:Region.lexTailB .any l.toArray n=true)
 (h:∀w',Ao w w'->w'.heap=w.heap->RO P N l.toArray w' (Q .normal) Q n l σ):Wp P N (.region m l.toArray true) Q σ w:=by
 intro b a f j;have e:EN b N (MT (Q .normal) Q)=EN b N Q:=by funext e a w;cases e<;>rfl
 refine wp_region_still_tail n d k ?_;have i:=h _ (Ge w) O b a f j;have:(λa'=>Ok b N a'∧DW P N l.toArray (Q .normal) Q (l.drop n) (DO a') {w with drawn:=w.drawn+1})=(λa'=>Ok b N a'∧DW P N l.toArray (Q .normal) Q (l.drop n) (DO a') {w with drawn:=w.drawn+1}):=rfl;refine FD ?_ _ _ i;rintro a' ⟨c,g⟩;have:=g b a' c O
 rwa [e] at this
theorem Dq {k:Nat} {l:List Oper} {y:Code} (n:Nat) (p:P.follows .mixedOrders=true) (m:Region.lexTailB .any l.toArray n=true)
 (h:∀w',Ao w w'->w'.heap=w.heap->RO P N l.toArray w' (Wp P N y Q) Q n l σ):Wp P N (.seq (.region k l.toArray true) y) Q σ w:=by
 refine AE (M8 n p m λw' e u=>?_);have:MT (Wp P N y Q) Q .normal=Wp P N y Q:=rfl;intro g a r c;have t:=h w' e u g a r c;refine FD ?_ _ _ t;rintro a' ⟨d,j⟩;refine ⟨d,λb i f q=>?_⟩;have o:=j b i f q;have s:EN b N (MT (MT (Wp P N y Q) Q .normal) (MT (Wp P N y Q) Q))=EN b N (MT (Wp P N y Q) Q):=by funext e a w;cases e<;>rfl
 rw[s];exact o
end
theorem A2 {n:Int} (h : -9223372036854775808<=n∧n<=9223372036854775807):IntKind.i64.wrap n=n:=by
 simp only[IntKind.wrap,IntKind.bits,IntKind.signed,Bool.true_and,Bool.false_and,decide_eq_true_eq,ge_iff_le,Int.reducePow,Nat.reduceSub,Bool.false_eq_true,if_false];split<;>omega
theorem Rf {n:Int} (h:0<=n∧n<=18446744073709551615):IntKind.u64.wrap n=n:=by
 simp only[IntKind.wrap,IntKind.bits,IntKind.signed,Bool.true_and,Bool.false_and,decide_eq_true_eq,ge_iff_le,Int.reducePow,Nat.reduceSub,Bool.false_eq_true,if_false];omega
theorem GR {P:Program} {N:Nat} {Q:Dj} {σ:CN} {w:World} {x y:Code} (J:CN->World->Prop) (h:Wp P N x (MT J Q) σ w) (k:∀σ' w',J σ' w'->Wp P N y Q σ' w'):Wp P N (.seq x y) Q σ w:=
 AE (U9 h λe σ' w' q=>by cases e<;>first|exact k _ _ q|exact q)
theorem GE {P:Program} {w:World} {b o n:Nat} {t:TypeId} {vs:List Value} (e:HR P t=true) (hs:DK P t n) (a:vs.length=n) (f:A' w b o vs):(loadVar t ⟨b,o,none⟩).run P w=.ok (.agg vs.toArray) w:=by
 subst a;have d:=run_loadCells_list (P:=P) w ⟨b,o,none⟩ vs (λj v c=>by rw[Addr.add_lit];exact f j v c);simp[loadVar,HR.run e,hs.run,d]
theorem Cp {P:Program} {d:Func} {R:Value->World->Prop} {a0 t b n:Nat} (f:d.results=#[.cell a0 t]) {σ:CN} {w:World} {vs:List Value} (j:σ a0=.pointer (some ⟨b,0,none⟩)) (i:HR P t=true) (hs:DK P t n) (e:vs.length=n) (k:A' w b 0 vs) (h:R (.agg vs.toArray) w):fin P d R .ret σ w:=
 ⟨.agg vs.toArray,λa g=>by
  subst g;have c:a.tmps.getD a0 undef=.pointer (some ⟨b,0,none⟩):=j;simp only[Array.getD_eq_getD_getElem?] at c;simp[results,f,c,asAddr,GE i hs e k],h⟩
theorem BJ {P:Program} {d:Func} {R:Value->World->Prop} {a0 t b n u:Nat} (i:d.results=#[.cell a0 t,.tmp u]) {σ:CN} {w:World} {vs:List Value} {v':Value} (l:σ a0=.pointer (some ⟨b,0,none⟩)) (k:HR P t=true) (hs:DK P t n) (g:vs.length=n) (m:A' w b 0 vs) (c:σ u=v') (h:R (.tuple #[.agg vs.toArray,v']) w):fin P d R .ret σ w:=
 ⟨.tuple #[.agg vs.toArray,v'],λa j=>by
  subst j;have e:a.tmps.getD a0 undef=.pointer (some ⟨b,0,none⟩):=l;have f:a.tmps.getD u undef=v':=c;simp only[Array.getD_eq_getD_getElem?] at e f;simp[results,i,e,f,asAddr,GE k hs g m],h⟩
theorem ES {P:Program} {f:Func} {R:Value->World->Prop} {a0 t b n u s:Nat} (k:f.results=#[.cell a0 t,.tmp u,.tmp s]) {σ:CN} {w:World} {vs:List Value} {v' v'':Value} (o:σ a0=.pointer (some ⟨b,0,none⟩)) (m:HR P t=true) (hs:DK P t n) (j:vs.length=n) (p:A' w b 0 vs) (d:σ u=v') (c:σ s=v'') (h:R (.tuple #[.agg vs.toArray,v',v'']) w):fin P f R .ret σ w:=
 ⟨.tuple #[.agg vs.toArray,v',v''],λa l=>by
  subst l;have g:a.tmps.getD a0 undef=.pointer (some ⟨b,0,none⟩):=o;have i:a.tmps.getD u undef=v':=d;have e:a.tmps.getD s undef=v'':=c;simp only[Array.getD_eq_getD_getElem?] at g i e;simp[results,k,g,i,e,asAddr,GE m hs j p],h⟩
abbrev I6 (x:Int):Value:=.int .i64 x
abbrev P6 (b o:Nat):Value:=.pointer (some ⟨b,o,none⟩)
abbrev nU (b:Bool) (v:Value):Value:=bif b then undef else v
abbrev yU (b:Bool) (v:Value):Value:=bif b then v else undef
section
variable {P : Program} {N : Nat} {Q : Dj} {σ : CN} {w : World} {K : CN → World → Prop} {ops : Array Oper} {rest : List Oper} {n d : Nat} {op : Op} {ty : TypeId} {pos : String} {af : Array Edge} {v : Value} {x : Operand}
theorem qV {w':World} (hr:(execOp (ev σ) ⟨some d,op,ty,pos,af,none⟩).run P w=.ok (.value v) w') (k:DW P N ops K Q rest (E4 σ d v) w') (hN:d<N:=by decide):DW P N ops K Q (⟨some d,op,ty,pos,af,none⟩::rest) σ w:=B_ rfl rfl hN hr k
theorem qT (hr:(execOp (ev σ) ⟨some d,op,ty,pos,af,none⟩).run P w=.ok (.value v) w) (k:RO P N ops w K Q n rest (E4 σ d v)) (hN:d<N:=by decide):RO P N ops w K Q (n+1) (⟨some d,op,ty,pos,af,none⟩::rest) σ:=U_ rfl rfl hN hr k
theorem qM (v:Value) (hx:ev σ x=v) (k:DW P N ops K Q rest (E4 σ d v) w) (hN:d<N:=by decide):DW P N ops K Q (⟨some d,.move x,ty,pos,af,none⟩::rest) σ w:=qV (Ah hx) k hN
theorem qA (v:Value) (hx:ev σ x=v) (k:DW P N ops K Q rest (E4 σ d v) w) (hN:d<N:=by decide):DW P N ops K Q (⟨some d,.assign x,ty,pos,af,none⟩::rest) σ w:=qV (FS hx) k hN
theorem gA {A:Prop} {v:Value}:A∨((v=v∨v=undef)∧undef=undef):=.inr ⟨.inl O,O⟩
theorem gB {A:Prop} {u:Value}:A∨((undef=u∨undef=undef)∧undef=undef):=.inr ⟨.inr O,O⟩
theorem qG {j:Nat} {b:Bool} {oj:Oper} {dj:Nat} (gv u:Value)
    (h:(gv=.bool b∧(execOp (ev σ) ⟨some d,op,ty,pos,af,none⟩).run P w=.ok (.value u) w)∨((gv=.bool (!b)∨gv=undef)∧u=undef))
    (k:DW P N ops K Q rest (E4 σ d u) w) (hj:ops[j]?=some oj:=by rfl) (hdj:oj.dst=some dj:=by rfl) (hN:dj<N:=by decide) (hd:d<N:=by decide) (hy:σ dj=gv:=by rfl):DW P N ops K Q (⟨some d,op,ty,pos,af,some (j,b)⟩::rest) σ w:=LR hj hdj hN hd hy h k
theorem qF {t:TypeId} {fs:Array Field} {f:Field} {i m:Nat} (b o o':Nat) (hx:ev σ x=.pointer (some ⟨b,o,none⟩)) (hu:P.underlying t=some (.struct fs)) (hf:fs[i]?=some f) (hs:DK P f.type (m+1)) (ho:o+f.offset=o')
    (k:DW P N ops K Q rest (E4 σ d (.pointer (some ⟨b,o',none⟩))) w) (hN:d<N:=by decide):DW P N ops K Q (⟨some d,.fieldAddr t x i,ty,pos,af,none⟩::rest) σ w:=qV (AN hx hu hf hs ho) k hN
end
end Go.Eng
namespace Go.Eng
open Go
theorem qC {P : Program} {N : Nat} {Q : Dj} {σ : CN} {w : World} {c : Operand} {x y : Code} {p : Prop} [Decidable p] (hc : ev σ c = .bool (decide p)) (ht : p → Wp P N x Q σ w) (hf : ¬ p → Wp P N y Q σ w) : Wp P N (.cond c x y) Q σ w := A3 hc (fun h => ht (of_decide_eq_true h)) fun h => hf (of_decide_eq_false h)
theorem Jo {a b : Nat} (h : Nat.ble a b = true) : a ≤ b := Nat.le_of_ble_eq_true h
theorem qR {P : Program} {f : FuncId} {fn : Func} {c : Code} {N : Nat} {args : Array Value} {w : World} {R : Value → World → Prop} (hf : P.funcs[f]? = some fn) (hb : fn.body = some c) (hn : fn.ntmps = N) (hsz : Nat.ble args.size N = true) (h : Chg AZ w w → Wp P N c (fin P fn R) (fun t => args.getD t undef) w) : CJ P f args w R := F9 hf hb hn (Jo hsz) (h (Chg.refl _ _))
theorem qE {P : Program} {N : Nat} {Q : Dj} {σ : CN} {w : World} {K : CN → World → Prop} {ops : Array Oper} {rest : List Oper} {d : Nat} {op : Op} {ty : TypeId} {pos : String} {af : Array Edge} {f : FuncId} {args : Array Value} {R : Value → World → Prop} (hN : Nat.ble (d + 1) N = true) (hr : (execOp (ev σ) ⟨some d, op, ty, pos, af, none⟩).run P w = .ok (.enter f args) w) (hc : CJ P f args w R) (k : ∀ v w', R v w' → DW P N ops K Q rest (E4 σ d v) w') : DW P N ops K Q (⟨some d, op, ty, pos, af, none⟩ :: rest) σ w := MO rfl rfl (Jo hN) hr hc k
theorem Aw {a b : Bool} (h : a = b) : Value.bool a = Value.bool b := congrArg Value.bool h
theorem qQ {p : Prop} (h : p := by first | exact Or.inl (by omega) | exact Or.inr rfl | exact Or.inr (by assumption) | exact Or.inr (by simp) | exact Or.inr (by omega) | exact Or.inr (by dsimp only; omega)) : p := h
theorem qS {p : Prop} (h : p := by simp [Value.oneCell']) : p := h
theorem qL {p : Prop} (h : p := by first | (simp; done) | exact Nat.le_of_ble_eq_true rfl) : p := h
end Go.Eng
namespace Go.Eng
open Go
inductive Re where
  | mk (kind:Int) (set:List (Int×Int)) (args:List Re) (mn mx:Int) (neg:Bool)
namespace Re
def kind:Re->Int | .mk k _ _ _ _ _=>k
def set:Re->List (Int×Int) | .mk _ s _ _ _ _=>s
def args:Re->List Re | .mk _ _ a _ _ _=>a
def mn:Re->Int | .mk _ _ _ m _ _=>m
def mx:Re->Int | .mk _ _ _ _ m _=>m
def neg:Re->Bool | .mk _ _ _ _ _ n=>n
mutual
def size:Re->Nat
  | .mk _ _ a _ _ _=>sizes a+1
def sizes:List Re->Nat
  | []=>0
  | t::ts=>size t+sizes ts
end
theorem size_pos (t:Re):0<t.size:=by cases t;simp[size]
theorem size_eq (t:Re):t.size=sizes t.args+1:=by cases t;rfl
theorem Qh {ts:List Re} {i:Nat} {t:Re} (h:ts[i]?=some t):t.size<=sizes ts:=by
 induction ts generalizing i with
 | nil=>simp at h
 | cons a r ih=>
  cases i with
  | zero=>simp at h;subst h;simp[sizes]
  | succ i=>simp at h;have:=ih h;simp[sizes];omega
theorem size_arg {t:Re} {i:Nat} {x:Re} (h:t.args[i]?=some x):x.size<t.size:=by
 have:=Qh h;rw[size_eq t];omega
theorem sizes_append (a b:List Re):sizes (a++b)=sizes a+sizes b:=by
 induction a with
 | nil=>simp[sizes]
 | cons x r ih=>simp[sizes,ih];omega
end Re
abbrev R6 (t:Re) (sa:Option Addr) (sc:Nat) (aa:Option Addr) (ac:Nat):Array Value:=#[.int .i64 t.kind,.slice sa t.set.length sc,.slice aa t.args.length ac,.int .i64 t.mn,.int .i64 t.mx,.bool t.neg]
theorem AI {α:Type} {l:List α} {i:Nat} {y:α} (h:l[i]?=some y):i<l.length:=by
 rcases Nat.lt_or_ge i l.length with a|a
 .exact a
 .simp[List.getElem?_eq_none a] at h
def BL (w:World) (k:Nat) (v:Value) (rows:List (List Value)):Prop:=
 ∃a cap,v=.slice a rows.length cap∧rows.length<=9223372036854775807∧rows.length<=cap∧(rows=[]∨∃b o,a=some ⟨b,o,none⟩∧∀i r,rows[i]?=some r->A' w b (o+i*k) r)
theorem BL.ext {w w':World} {k:Nat} {v:Value} {rows:List (List Value)} (h:BL w k v rows) (e:Ao w w'):BL w' k v rows:=by
 obtain ⟨a,cap,j,g,c,h⟩:=h;refine ⟨a,cap,j,g,c,?_⟩;rcases h with h|⟨b,o,f,c⟩
 .exact .inl h
 .exact .inr ⟨b,o,f,λi r d=>(c i r d).ext e⟩
theorem BL.nil (w:World) (k:Nat) (a:Option Addr) (cap:Nat):BL w k (.slice a 0 cap) []:=⟨a,cap,O,qP,qP,.inl O⟩
theorem BL.at {w:World} {k:Nat} {a:Option Addr} {n cap:Nat} {rows:List (List Value)} (h:BL w k (.slice a n cap) rows) (d:0<n) :
 ∃b o,a=some ⟨b,o,none⟩∧∀i r,rows[i]?=some r->A' w b (o+i*k) r:=by
 obtain ⟨a',cap',c,_,_,h⟩:=h;simp only[Value.slice.injEq] at c;obtain ⟨rfl,rfl,rfl⟩:=c;rcases h with rfl|h
 .simp at d
 .exact h
theorem BL.le {w:World} {k:Nat} {v:Value} {rows:List (List Value)} (h:BL w k v rows):rows.length<=9223372036854775807:=let ⟨_,_,_,h,_⟩:=h;h
theorem BL.cap {w:World} {k:Nat} {a:Option Addr} {n c:Nat} {rows:List (List Value)} (h:BL w k (.slice a n c) rows):n<=c∧rows.length=n:=by
 obtain ⟨a',cap',b,_,d,_⟩:=h;simp only[Value.slice.injEq] at b;obtain ⟨rfl,rfl,rfl⟩:=b;exact ⟨d,O⟩
theorem BL.form {w:World} {k:Nat} {v:Value} {rows:List (List Value)} (h:BL w k v rows):∃a cap,v=.slice a rows.length cap:=let ⟨a,c,h,_⟩:=h;⟨a,c,h⟩
def Jp (x:Int):List Value:=[.int .i64 x]
def BP (s:Int×Int):List Value:=[.int .i64 s.1,.int .i64 s.2]
def CF (w:World) (v:Value) (l:List Int):Prop:=BL w 1 v (l.map Jp)
def A6 (w:World) (v:Value) (l:List (Int×Int)):Prop:=BL w 2 v (l.map BP)
theorem CF.ext {w w':World} {v:Value} {l:List Int} (h:CF w v l) (e:Ao w w'):CF w' v l:=BL.ext h e
theorem A6.ext {w w':World} {v:Value} {l:List (Int×Int)} (h:A6 w v l) (e:Ao w w'):A6 w' v l:=BL.ext h e
theorem A'.at1 {w:World} {b o:Nat} {x y:Value} (h:A' w b o [x,y]):w.cell? ⟨b,o+1,none⟩=some y:=h 1 y O
theorem A'.at0 {w:World} {b o:Nat} {x:Value} {r:List Value} (h:A' w b o (x::r)):w.cell? ⟨b,o,none⟩=some x:=h 0 x O
theorem BH {w:World} {a:Option Addr} {n c:Nat} {l:List (Int×Int)} (h:A6 w (.slice a n c) l) (e:0<n) :
 ∃b o,a=some ⟨b,o,none⟩∧∀i s,l[i]?=some s->A' w b (o+i*2) [.int .i64 s.1,.int .i64 s.2]:=by
 obtain ⟨b,o,d,h⟩:=BL.at h e;exact ⟨b,o,d,λi s hs=>h i (BP s) (by simp[hs])⟩
mutual
def BR (w:World):Re->List Value->Prop
  | .mk k set args mn mx ng,vs=>∃sa sc aa ac,vs=[.int .i64 k,.slice sa set.length sc,.slice aa args.length ac,.int .i64 mn,.int .i64 mx,.bool ng]∧A6 w (.slice sa set.length sc) set∧(args.length<=ac∧ac<=9223372036854775807)∧
      (args=[]∨∃b o,aa=some ⟨b,o,none⟩∧C4 w b o args)
def C4 (w:World) (b:Nat):Nat->List Re->Prop
  | _,[]=>True
  | o,t::ts=>(∃vs,A' w b o vs∧BR w t vs)∧C4 w b (o+6) ts
end
mutual
theorem BR.ext {w w':World} (e:Ao w w'):∀(t:Re) {vs:List Value},BR w t vs->BR w' t vs
 | .mk k set args mn mx ng,vs,h=>by
  simp only[BR] at h⊢;obtain ⟨d,m,g,a,l,hs,j,f⟩:=h;refine ⟨d,m,g,a,l,hs.ext e,j,?_⟩;rcases f with h|⟨b,o,i,c⟩
  .exact .inl h
  .exact .inr ⟨b,o,i,C4.ext e args c⟩
theorem C4.ext {w w':World} (e:Ao w w') {b:Nat}:∀(ts:List Re) {o:Nat},C4 w b o ts->C4 w' b o ts
 | [],_,_=>by simp only[C4]
 | t::ts,o,h=>by
  simp only[C4] at h⊢;obtain ⟨⟨vs,d,a⟩,c⟩:=h;exact ⟨⟨vs,d.ext e,BR.ext e t a⟩,C4.ext e ts c⟩
end
theorem C4.get {w:World} {b:Nat}:∀{ts:List Re} {o i:Nat} {t:Re},C4 w b o ts->ts[i]?=some t->∃vs,A' w b (o+i*6) vs∧BR w t vs
 | [],_,_,_,_,h=>by simp at h
 | x::ts,o,0,t,h,hi=>by
  simp only[C4] at h;simp at hi;subst hi;simpa using h.1
 | x::ts,o,i+1,t,h,hi=>by
  simp only[C4] at h;have:=C4.get h.2 (i:=i) (by simpa using hi)
  rwa [show o+(i+1)*6=o+6+i*6 from qO]
theorem C4.mk {w:World} {b:Nat}:∀{ts:List Re} {o:Nat},(∀i t,ts[i]?=some t->∃vs,A' w b (o+i*6) vs∧BR w t vs)->C4 w b o ts
 | [],_,_=>by simp only[C4]
 | x::ts,o,h=>by
  simp only[C4];refine ⟨by simpa using h 0 x O,C4.mk λi t hi=>?_⟩;have:=h (i+1) t (by simpa using hi)
  rwa [show o+(i+1)*6=o+6+i*6 from qO] at this
theorem BR.form {w:World} {t:Re} {vs:List Value} (h:BR w t vs):∃c d e a,vs=[.int .i64 t.kind,.slice c t.set.length d,.slice e t.args.length a,.int .i64 t.mn,.int .i64 t.mx,.bool t.neg]∧A6 w (.slice c t.set.length d) t.set∧(t.args.length<=a∧a<=9223372036854775807)∧
 (t.args=[]∨∃b o,e=some ⟨b,o,none⟩∧C4 w b o t.args):=by
 cases t;simp only[BR] at h;exact h
theorem BR.of {w:World} {k:Int} {set:List (Int×Int)} {args:List Re} {mn mx:Int} {f:Bool} {c e:Option Addr} {d a:Nat} (hs:A6 w (.slice c set.length d) set) (h:(args.length<=a∧a<=9223372036854775807)) (g:args=[]∨∃b o,e=some ⟨b,o,none⟩∧C4 w b o args) :
 BR w (.mk k set args mn mx f) [.int .i64 k,.slice c set.length d,.slice e args.length a,.int .i64 mn,.int .i64 mx,.bool f]:=by
 simp only[BR];exact ⟨c,d,e,a,O,hs,h,g⟩
theorem BR.len {w:World} {t:Re} {vs:List Value} (h:BR w t vs):vs.length=6:=by
 obtain ⟨_,_,_,_,rfl,_⟩:=h.form;rfl
def CV (P:Program) (fv:Value) (args:Array Value) (w:World) (R:Value->World->Prop):Prop:=
 ∃ f fn first cap, fv = .func (.func f) first cap ∧ P.funcs[f]? = some fn ∧ (fn.name == "runtime.NumGoroutine") = false ∧ fn.body.isNone = false ∧ CJ P f (first ++ args ++ cap) w R
theorem CV.mk {P : Program} {f : FuncId} {a : Func} {first cap args ws : Array Value} {w : World} {R : Value → World → Prop} (c : P.funcs[f]? = some a) (b : (a.name == "runtime.NumGoroutine") = false) (hb : a.body.isNone = false) (d : first ++ args ++ cap = ws) (h : CJ P f ws w R) :
 CV P (.func (.func f) first cap) args w R:=⟨f,a,first,cap,O,c,b,hb,d▸h⟩
theorem CV.mono {P:Program} {fv:Value} {args:Array Value} {w:World} {R R':Value->World->Prop} (h:CV P fv args w R) (a:∀v w',R v w'->R' v w'):CV P fv args w R':=
 let ⟨f,fn,first,cap,h1,h2,h3,h4,h5⟩:=h;⟨f,fn,first,cap,h1,h2,h3,h4,h5.mono a⟩
theorem De {P:Program} {N:Nat} {Q:Dj} {σ:CN} {w:World} {K:CN->World->Prop} {ops:Array Oper} {rest:List Oper} {d:Nat} {z:Operand} {args:List Operand} {tys:Array TypeId} {ty:TypeId} {pos:String} {af:Array Edge} {fv:Value} {vs:List Value} {R:Value->World->Prop}
 (a:d<N) (g:ev σ z=fv) (e:args.map (ev σ)=vs) (i:CV P fv vs.toArray w R) (k:∀v w',R v w'->DW P N ops K Q rest (E4 σ d v) w') :
 DW P N ops K Q (⟨some d,.call ⟨.value z,args.toArray,tys⟩,ty,pos,af,none⟩::rest) σ w:=by
 obtain ⟨f,fn,first,cap,rfl,h,b,hb,c⟩:=i;exact MO O O a (D_ g h b hb e O) c k
section
variable {S : Type} (F : S → Re → Bool × S)
mutual
def C':Re->S->Bool×S
  | .mk k set args mn mx ng,s=>match F s (.mk k set args mn mx ng) with
    | (false,s')=>(false,s')
    | (true,s')=>Cy args s'
def Cy:List Re->S->Bool×S
  | [],s=>(true,s)
  | t::ts,s=>match C' t s with
    | (false,s')=>(false,s')
    | (true,s')=>Cy ts s'
end
theorem FQ (t:Re) (s:S):C' F t s=if (F s t).1 then Cy F t.args (F s t).2 else (false,(F s t).2):=by
 cases t;simp only[C',Re.args];split<;>rename_i h<;>simp[h]
theorem Dk (t:Re) (ts:List Re) (s:S):Cy F (t::ts) s=if (C' F t s).1 then Cy F ts (C' F t s).2 else (false,(C' F t s).2):=by
 simp only[Cy];split<;>rename_i h<;>simp[h]
end
def PS {α:Type} (p:α->Bool) (l:List α):Int:=match l.findIdx? p with
  | some i=>i
  | none=>-1
theorem Jz {α:Type} (p:α->Bool) (l:List α):decide (0<=PS p l)=l.any p:=by
 unfold PS;cases h:l.findIdx? p with
 | none=>
  have a:l.any p=false:=by
   rw[List.findIdx?_eq_none_iff] at h;rw[List.any_eq_false];intro x b;simp[h x b]
  rw[a];decide
 | some i=>
  have a:l.any p=true:=by
   rw[List.findIdx?_eq_some_iff_getElem] at h;obtain ⟨hi,c,_⟩:=h;rw[List.any_eq_true];exact ⟨_,List.getElem_mem hi,c⟩
  rw[a];simp
theorem Jy {α:Type} {p:α->Bool} {l:List α} {k:Nat} {x:α} (b:l[k]?=some x) (c:p x=true) (hb:∀i y,i<k->l[i]?=some y->p y=false):PS p l=k:=by
 unfold PS;have a:k<l.length:=by
  rcases Nat.lt_or_ge k l.length with h|h
  .exact h
  .simp[List.getElem?_eq_none h] at b
 have:l.findIdx? p=some k:=by
  rw[List.findIdx?_eq_some_iff_getElem];refine ⟨a,?_,λj d=>?_⟩
  .rw[List.getElem?_eq_getElem a] at b;cases b;exact c
  .have:=hb j l[j] d (List.getElem?_eq_getElem qO);simp[this]
 rw[this]
theorem Ik {α:Type} {p:α->Bool} {l:List α} (hb:∀(i:Nat) (y:α),l[i]?=some y->p y=false):PS p l = -1:=by
 unfold PS;have:l.findIdx? p=none:=by
  rw[List.findIdx?_eq_none_iff];intro x a;obtain ⟨i,hi⟩:=List.mem_iff_getElem?.1 a;simp[hb i x hi]
 rw[this]
theorem A5 {a b:Int} (h:a=b):Value.int .i64 a=.int .i64 b:=by rw[h]
theorem CG {a b:Bool} (h:a=b):Value.bool a=.bool b:=by rw[h]
theorem BF {w:World} {a:Option Addr} {n c:Nat} {l:List Int} (h:CF w (.slice a n c) l) (e:0<n) :
 ∃b o,a=some ⟨b,o,none⟩∧∀i x,l[i]?=some x->w.cell? ⟨b,o+i,none⟩=some (.int .i64 x):=by
 obtain ⟨b,o,d,h⟩:=BL.at h e;refine ⟨b,o,d,λi x f=>?_⟩;have:=h i (Jp x) (by simp[f]) 0 _ O;simpa using this
theorem AL {α:Type} {l:List α} {i:Nat} (h:i<l.length):∃x,l[i]?=some x:=⟨_,List.getElem?_eq_getElem h⟩
theorem Dd {α:Type} {l:List α} {k:Nat} {x:α} (h:l[k]?=some x):l.drop k=x::l.drop (k+1):=by
 have a:=AI h;rw[List.drop_eq_getElem_cons a];rw[List.getElem?_eq_getElem a] at h;cases h;rfl
theorem Gz {α:Type} {p:α->Bool} {l:List α} {k:Nat} {x:α} (d:l[k]?=some x) (c:p x=false) (b:∀(i:Nat) (y:α),i<k->l[i]?=some y->p y=false):∀(i:Nat) (y:α),i<k+1->l[i]?=some y->p y=false:=by
 intro i y hi a;rcases Nat.lt_or_ge i k with h|h
 .exact b i y h a
 .obtain rfl:i=k:=qO
  rw[d] at a;cases a;exact c
theorem HA {w:World} {b t k cap:Nat} {rows:List (List Value)} (h:Az w b rows.flatten.toArray t) (f:∀r∈rows,r.length=k) (g:rows.length<=9223372036854775807) (a:rows.length<=cap):BL w k (.slice (some ⟨b,0,none⟩) rows.length cap) rows:=by
 refine ⟨_,cap,O,g,a,.inr ⟨b,0,O,λi r c j u d=>?_⟩⟩;have m:(rows.flatten)[i*k+j]?=some u:=by
  clear h g a
  induction rows generalizing i with
  | nil=>simp at c
  | cons x rs ih=>
   have e:x.length=k:=f x qP;cases i with
   | zero=>
    simp at c;subst c;have l:=AI d;simp only[List.flatten_cons,Nat.zero_mul,Nat.zero_add];rw[List.getElem?_append_left l];exact d
   | succ i=>
    simp at c;simp only[List.flatten_cons];rw[List.getElem?_append_right (by rw[e,Nat.succ_mul];omega)];rw[show (i+1)*k+j - x.length=i*k+j from by rw[e,Nat.succ_mul];omega];exact ih (λr c=>f r (by simp[c])) _ c
 rw[Nat.zero_add];exact h.cell (by simpa using m)
theorem HG {w:World} {b t cap:Nat} (l:List Int) (h:Az w b (l.map Jp).flatten.toArray t) (d:l.length<=9223372036854775807) (a:l.length<=cap):CF w (.slice (some ⟨b,0,none⟩) l.length cap) l:=by
 have:=HA (k:=1) (cap:=cap) h (by intro r c;simp only[List.mem_map] at c;obtain ⟨x,_,rfl⟩:=c;rfl) (by simpa using d) (by simpa using a);simpa[CF] using this
theorem MV {w:World} {b t cap:Nat} (l:List (Int×Int)) (h:Az w b (l.map BP).flatten.toArray t) (d:l.length<=9223372036854775807) (a:l.length<=cap):A6 w (.slice (some ⟨b,0,none⟩) l.length cap) l:=by
 have:=HA (k:=2) (cap:=cap) h (by intro r c;simp only[List.mem_map] at c;obtain ⟨x,_,rfl⟩:=c;rfl) (by simpa using d) (by simpa using a);simpa[A6] using this
theorem BR.one {w:World} {t:Re} {vs:List Value} (h:BR w t vs):∀u∈vs,u.oneCell'=true:=by
 obtain ⟨_,_,_,_,rfl,_⟩:=h.form;simp[Value.oneCell']
end Go.Eng
namespace Go.Proofs
open Go Go.Eng
structure Dfa where
 start:Int
 accept:List Int
 next:List (List Int)
end Go.Proofs
namespace Go.Proofs
open Go Go.Eng
--BEGIN
def BN (d:Dfa) (s:Int) (x:Nat):Int:=if s<0 then -1 else (d.next.getD s.toNat []).getD x (-1)
def EX (d:Dfa) (s:Int):Int:=if s<0 then -1 else d.accept.getD s.toNat (-1)
def beh (d:Dfa) (s:Int):List Nat->Int
  | []=>EX d s
  | x::w=>beh d (BN d s x) w
def E3 (c:Nat) (w:List Nat):Prop:=∀x∈w,x<c
theorem E3.tail {c x:Nat} {w:List Nat} (h:E3 c (x::w)):E3 c w:=λy a=>h y (List.mem_cons_of_mem _ a)
theorem E3.head {c x:Nat} {w:List Nat} (h:E3 c (x::w)):x<c:=h x List.mem_cons_self
theorem E3.cons {c x:Nat} {w:List Nat} (a:x<c) (h:E3 c w):E3 c (x::w):=λy b=>by
 rcases List.mem_cons.1 b with rfl|d
 .exact a
 .exact h y d
theorem E3.nil (c:Nat):E3 c []:=λx h=>by cases h
structure OkD (n c:Nat) (d:Dfa):Prop where
 nl:d.next.length=n
 al:d.accept.length=n
 st:0<=d.start∧d.start<n
 acc:∀x∈d.accept,-1<=x
 row:∀r∈d.next,r.length=c∧∀x∈r,-1<=x∧x<n
def BI (c:Nat) (d:Dfa) (s:Int):Prop:=∃w,E3 c w∧0<=beh d s w
def Hs (c:Nat) (d:Dfa) (s t:Int):Prop:=∀w,E3 c w->beh d s w=beh d t w
theorem En {d:Dfa} {s:Int} (h:s<0) (x:Nat):BN d s x = -1:=by unfold BN;rw[if_pos h]
theorem Dy {d:Dfa}:∀{w:List Nat} {s:Int},s<0->beh d s w = -1
 | [],s,h=>by unfold beh EX;rw[if_pos h]
 | x::w,s,h=>by unfold beh;rw[En h];exact Dy qD
theorem FG {d:Dfa} {s x:Nat} {r:List Int} {t:Int} (h:d.next[s]?=some r) (a:r[x]?=some t):BN d ((s:Nat):Int) x=t:=by
 unfold BN;rw[if_neg qO,Int.toNat_natCast,List.getD_eq_getElem?_getD,List.getD_eq_getElem?_getD,h,Option.getD_some,a,Option.getD_some]
theorem EW {d:Dfa} {s:Nat} {t:Int} (h:d.accept[s]?=some t):EX d ((s:Nat):Int)=t:=by
 unfold EX;rw[if_neg qO,Int.toNat_natCast,List.getD_eq_getElem?_getD,h,Option.getD_some]
theorem OkD.to {n c:Nat} {d:Dfa} (h:OkD n c d) {s:Int} {x:Nat} : -1<=BN d s x∧BN d s x<n:=by
 have hn:=h.st;unfold BN;split
 .omega
 .rw[List.getD_eq_getElem?_getD,List.getD_eq_getElem?_getD];cases h1:d.next[s.toNat]? with
  | none=>simp;omega
  | some r=>
   simp only[Option.getD_some];cases h2:r[x]? with
   | none=>simp;omega
   | some t=>exact (h.row r (List.mem_of_getElem? h1)).2 t (List.mem_of_getElem? h2)
theorem OkD.at' {n c:Nat} {d:Dfa} (h:OkD n c d) {s:Int} : -1<=EX d s:=by
 unfold EX;split
 .omega
 .rw[List.getD_eq_getElem?_getD];cases h1:d.accept[s.toNat]? with
  | none=>simp
  | some t=>exact h.acc t (List.mem_of_getElem? h1)
theorem OkD.beh {n c:Nat} {d:Dfa} (h:OkD n c d):∀{w:List Nat} {s:Int},-1<=beh d s w
 | [],_=>h.at'
 | _::w,_=>OkD.beh h (w:=w)
theorem OkD.dead {n c:Nat} {d:Dfa} (h:OkD n c d) {s:Int} (b:¬BI c d s) {w:List Nat} (e:E3 c w):Go.Proofs.beh d s w = -1:=by
 have h1:=h.beh (w:=w) (s:=s);rcases Int.lt_or_le (Go.Proofs.beh d s w) 0 with a|a
 .omega
 .exact absurd ⟨w,e,a⟩ b
theorem Uf {c x:Nat} {d:Dfa} {s:Int} (h:BI c d (BN d s x)) (a:x<c):BI c d s:=by
 obtain ⟨w,e,b⟩:=h;exact ⟨x::w,E3.cons a e,b⟩
theorem Ci {c:Nat} {d:Dfa} {s:Int} (h:s<0):¬BI c d s:=λ⟨w,_,a⟩=>by rw[Dy h] at a;omega
theorem Hs.to {c x:Nat} {d:Dfa} {s t:Int} (h:Hs c d s t) (a:x<c):Hs c d (BN d s x) (BN d t x):=λw b=>h (x::w) (E3.cons a b)
theorem Hs.live {c:Nat} {d:Dfa} {s t:Int} (h:Hs c d s t) (e:BI c d s):BI c d t:=by
 obtain ⟨w,a,b⟩:=e;exact ⟨w,a,by rw[<-h w a];exact b⟩
theorem Oa {c:Nat}:∀{L:List (List Int)} {i x:Nat} {r:List Int},(∀r∈L,r.length=c)->L[i]?=some r->x<c->L.flatten[i*c+x]?=r[x]?
 | [],_,_,_,_,h,_=>by simp at h
 | q::L,0,x,r,h,hi,hx=>by
  simp at hi;subst hi;rw[List.flatten_cons,Nat.zero_mul,Nat.zero_add,List.getElem?_append_left (by rw[h q List.mem_cons_self];exact hx)]
 | q::L,i+1,x,r,h,hi,hx=>by
  have a:=h q List.mem_cons_self;rw[List.flatten_cons,List.getElem?_append_right (by rw[a,Nat.add_mul];omega),a,show (i+1)*c+x - c=i*c+x by rw[Nat.add_mul];omega];exact Oa (λr b=>h r (List.mem_cons_of_mem _ b)) (by simpa using hi) hx
theorem JM {c:Nat}:∀{L:List (List Int)},(∀r∈L,r.length=c)->L.flatten.length=L.length*c
 | [],_=>qP
 | q::L,h=>by
  rw[List.flatten_cons,List.length_append,h q List.mem_cons_self,JM λr a=>h r (List.mem_cons_of_mem _ a),List.length_cons,Nat.add_mul];omega
def G8 (l:List Int):Int:=l.foldl max 0
theorem Id (l:List Int) (x:Int):G8 (l++[x])=max (G8 l) x:=by unfold G8;rw[List.foldl_append];rfl
theorem Se:∀(m:List Int) (z:Int),z<=m.foldl max z
 | [],_=>Int.le_refl _
 | x::m,z=>by
  have:=Se m (max z x);simp only[List.foldl_cons];omega
theorem OL {l:List Int} (m:List Int):G8 l<=G8 (l++m):=by
 unfold G8;rw[List.foldl_append];exact Se m _
theorem Sd (l:List Int):0<=G8 l:=by
 have:=OL (l:=[]) l;simpa[G8] using this
theorem KS {l:List Int} {i j:Nat} (h:i<=j):G8 (l.take i)<=G8 (l.take j):=by
 have e:l.take j=l.take i++(l.take j).drop i:=by
  have:=List.take_append_drop i (l.take j);rw[List.take_take,Nat.min_eq_left h] at this;exact this.symm
 rw[e];exact OL _
structure Bfs (n c:Nat) (C:Dfa):Prop where
 ok:OkD n c C
 st:C.start=0
 ord:∀(k:Nat) (x:Int),C.next.flatten[k]?=some x->x<=G8 (C.next.flatten.take k)+1
 rch:∀i:Nat,i<n->((i:Nat):Int)<=G8 (C.next.flatten.take (i*c))
 fin:G8 C.next.flatten=n - 1
def Db (c:Nat) (f:List Nat->Int) (C:Dfa):Prop:=∃m,Bfs m c C∧(∀w,E3 c w->beh C 0 w=f w)∧(∀s t:Int,0<=s->s<m->0<=t->t<m->Hs c C s t->s=t)∧∀(s:Int) (x:Nat),x<c->0<=BN C s x->BI c C (BN C s x)
theorem S0 {n c i x:Nat} {C:Dfa} (h:OkD n c C) (hi:i<n) (d:x<c):C.next.flatten[i*c+x]?=some (BN C ((i:Nat):Int) x):=by
 have b:C.next[i]?=some (C.next[i]'(by rw[h.nl];exact hi)):=List.getElem?_eq_getElem _;have a:=h.row _ (List.mem_of_getElem? b);rw[Oa (λr b=>(h.row r b).1) b d];have e:(C.next[i]'(by rw[h.nl];exact hi))[x]?=some ((C.next[i]'(by rw[h.nl];exact hi))[x]'(by rw[a.1];exact d)):=List.getElem?_eq_getElem _;rw[e,FG b e]
theorem GM {l:List Int} {k:Nat} {x:Int} (h:l[k]?=some x):l.take (k+1)=l.take k++[x]:=by rw[List.take_add_one,h];rfl
theorem Db.steps {c n m:Nat} {A B:Dfa} (g:Bfs n c A) (u:Bfs m c B) (L:∀w,E3 c w->beh A 0 w=beh B 0 w)
 (K:∀s t:Int,0<=s->s<n->0<=t->t<n->Hs c A s t->s=t) (P:∀s t:Int,0<=s->s<m->0<=t->t<m->Hs c B s t->s=t)
 (R:∀(s:Int) (x:Nat),x<c->0<=BN A s x->BI c A (BN A s x)) (Q:∀(s:Int) (x:Nat),x<c->0<=BN B s x->BI c B (BN B s x)) :
 ∀k,k<=n*c->k<=m*c->A.next.flatten.take k=B.next.flatten.take k∧∀j:Int,0<=j->j<=G8 (A.next.flatten.take k)->∀w,E3 c w->beh A j w=beh B j w:=by
 intro k
 induction k with
 | zero=>
  intro _ _;refine ⟨qP,λj f d w b=>?_⟩;have:j=0:=by simp[G8] at d;omega
  rw[this];exact L w b
 | succ k ih=>
  intro hn hm;obtain ⟨D,v⟩:=ih qO qO;have N:0<c:=by
   rcases Nat.eq_zero_or_pos c with h|h
   .subst h;omega
   .exact h
  obtain ⟨i,x,rfl,o⟩:∃i x,k=i*c+x∧x<c:=⟨k / c,k % c,by rw[Nat.mul_comm];exact (Nat.div_add_mod k c).symm,Nat.mod_lt _ N⟩;have q:i<n:=by
   apply Classical.byContradiction;intro h;have:n*c<=i*c:=Nat.mul_le_mul_right c qO;omega
  have F:i<m:=by
   apply Classical.byContradiction;intro h;have:m*c<=i*c:=Nat.mul_le_mul_right c qO;omega
  have hi:=g.rch i q;have hmono:G8 (A.next.flatten.take (i*c))<=G8 (A.next.flatten.take (i*c+x)):=KS qO;have C:=v ((i:Nat):Int) qO qO;have r:=S0 g.ok q o;have y:=S0 u.ok F o;obtain ⟨s,hs⟩:∃s,BN A ((i:Nat):Int) x=s:=⟨_,O⟩;obtain ⟨t,p⟩:∃t,BN B ((i:Nat):Int) x=t:=⟨_,O⟩;rw[hs] at r;rw[p] at y;have a:∀w,E3 c w->beh A s w=beh B t w:=λw b=>by
   have:=C (x::w) (E3.cons o b);simp only[beh,hs,p] at this;exact this
  have oA:=g.ord _ _ r;have J:=u.ord _ _ y;rw[<-D] at J;have I:=g.ok.to (s:=((i:Nat):Int)) (x:=x);have G:=u.ok.to (s:=((i:Nat):Int)) (x:=x);rw[hs] at I;rw[p] at G;have E:s=t:=by
   rcases Int.lt_or_le s 0 with f|f
   .rcases Int.lt_or_le t 0 with d|d
    .omega
    .exfalso;have:=Q ((i:Nat):Int) x o (by rw[p];exact d);rw[p] at this;obtain ⟨w,b,e⟩:=this;rw[<-a w b,Dy f] at e;omega
   .rcases Int.lt_or_le t 0 with d|d
    .exfalso;have:=R ((i:Nat):Int) x o (by rw[hs];exact f);rw[hs] at this;obtain ⟨w,b,e⟩:=this;rw[a w b,Dy d] at e;omega
    .rcases Int.lt_or_le (G8 (A.next.flatten.take (i*c+x))) s with e|e
     .rcases Int.lt_or_le (G8 (A.next.flatten.take (i*c+x))) t with H|H
      .omega
      .-- B's is old: then A's is the same old one
       have z:∀w,E3 c w->beh A s w=beh A t w:=λw b=>(a w b).trans (v t d H w b).symm;have M:G8 (A.next.flatten.take (i*c+x))<=n - 1:=by
        rw[<-g.fin];have:=KS (l:=A.next.flatten) (i:=i*c+x) (j:=max (i*c+x) A.next.flatten.length) qO
        rwa [List.take_of_length_le (show A.next.flatten.length<=max (i*c+x) A.next.flatten.length by omega)] at this
       exact K s t f I.2 d qO z
     .have z:∀w,E3 c w->beh B t w=beh B s w:=λw b=>(a w b).symm.trans (v s f e w b);have M:G8 (A.next.flatten.take (i*c+x))<=m - 1:=by
       rw[<-u.fin,D];have:=KS (l:=B.next.flatten) (i:=i*c+x) (j:=max (i*c+x) B.next.flatten.length) qO
       rwa [List.take_of_length_le (show B.next.flatten.length<=max (i*c+x) B.next.flatten.length by omega)] at this
      exact (P t s d G.2 f qO z).symm
  subst E;refine ⟨by rw[GM r,GM y,D],λj f d w b=>?_⟩;rw[GM r,Id] at d;rcases Int.lt_or_le (G8 (A.next.flatten.take (i*c+x))) j with e|e
  .have:j=s:=qO
   rw[this];exact a w b
  .exact v j f e w b
theorem P0 {c:Nat}:∀{L M:List (List Int)},(∀r∈L,r.length=c)->(∀r∈M,r.length=c)->L.length=M.length->L.flatten=M.flatten->L=M
 | [],[],_,_,_,_=>rfl
 | [],_::_,_,_,h,_=>by cases h
 | _::_,[],_,_,h,_=>by cases h
 | q::L,r::M,h1,h2,h3,h4=>by
  rw[List.flatten_cons,List.flatten_cons] at h4;obtain ⟨b,d⟩:=List.append_inj h4 (by rw[h1 q List.mem_cons_self,h2 r List.mem_cons_self]);rw[b,P0 (λx a=>h1 x (List.mem_cons_of_mem _ a)) (λx a=>h2 x (List.mem_cons_of_mem _ a)) (by simpa using h3) d]
theorem Db.uniq {c:Nat} {f g:List Nat->Int} {A B:Dfa} (D:Db c f A) (G:Db c g B) (q:∀w,E3 c w->f w=g w):A=B:=by
 obtain ⟨n,a,C,F,K⟩:=D;obtain ⟨m,b,E,I,J⟩:=G;have H:∀w,E3 c w->beh A 0 w=beh B 0 w:=λw p=>by rw[C w p,E w p,q w p]
 have e:=Db.steps a b H F I K J;have j:=JM (L:=A.next) (c:=c) λr d=>(a.ok.row r d).1;have k:=JM (L:=B.next) (c:=c) λr d=>(b.ok.row r d).1;rw[a.ok.nl] at j;rw[b.ok.nl] at k;have nA:=a.ok.st;have nB:=b.ok.st;have s:n=m:=by
  rcases Nat.lt_trichotomy n m with h|h|h
  .exfalso;have l:=(e (n*c) (Nat.le_refl _) (Nat.mul_le_mul_right c qO)).1;have o:=b.rch n h;rw[<-l,List.take_of_length_le qO,a.fin] at o;omega
  .exact h
  .exfalso;have l:=(e (m*c) (Nat.mul_le_mul_right c qO) (Nat.le_refl _)).1;have o:=a.rch m h;rw[l,List.take_of_length_le qO,b.fin] at o;omega
 subst s;obtain ⟨y,x⟩:=e (n*c) (Nat.le_refl _) (Nat.le_refl _);rw[List.take_of_length_le qO,List.take_of_length_le qO] at y;rw[List.take_of_length_le qO,a.fin] at x;have z:=P0 (c:=c) (λr d=>(a.ok.row r d).1) (λr d=>(b.ok.row r d).1) (by rw[a.ok.nl,b.ok.nl]) y;have v:A.accept=B.accept:=by
  apply List.ext_getElem (by rw[a.ok.al,b.ok.al]);intro i l o;have u:=x ((i:Nat):Int) qO (by have:=a.ok.al;omega) [] (E3.nil c);simp only[beh] at u
  rwa [EW (List.getElem?_eq_getElem l),EW (List.getElem?_eq_getElem o)] at u
 have t:A.start=B.start:=by rw[a.st,b.st]
 cases A;cases B;simp only at z v t;rw[z,v,t]
theorem M4 {n m c:Nat} {d C:Dfa} {st:List Int} (ok:OkD n c d) (b:Bfs m c C) (hl:st.length=m) (h0:st[0]?=some d.start)
    (hinj:∀(i j:Nat) s t,st[i]?=some s->st[j]?=some t->Hs c d s t->i=j)
    (hacc:∀(i:Nat) s,st[i]?=some s->EX C ((i:Nat):Int)=EX d s)
    (hnext:∀(i x:Nat) s,st[i]?=some s->x<c->(BN C ((i:Nat):Int) x = -1∧¬BI c d (BN d s x))∨∃(j:Nat) (t:Int),BN C ((i:Nat):Int) x=((j:Nat):Int)∧st[j]?=some t∧Hs c d t (BN d s x)∧BI c d t):Db c (beh d d.start) C:=by
  have hb:∀(w:List Nat) (i:Nat) s,E3 c w->st[i]?=some s->beh C ((i:Nat):Int) w=beh d s w:=by
    intro w
    induction w with
    | nil=>exact λi s _ hs=>hacc i s hs
    | cons x w ih=>
      intro i s hw hs;simp only[beh];rcases hnext i x s hs hw.head with ⟨h1,h2⟩|⟨j,t,h1,h2,h3,_⟩
      · rw[h1,Dy qD,ok.dead h2 hw.tail]
      · rw[h1,ih j t hw.tail h2,h3 w hw.tail]
  have aa:∀s:Int,0<=s->s<m->∃(i:Nat) (t:Int),s=((i:Nat):Int)∧st[i]?=some t:=λs h1 h2=>by
    obtain ⟨i,rfl⟩:=Int.eq_ofNat_of_zero_le h1;exact ⟨i,st[i]'(by omega),O,List.getElem?_eq_getElem _⟩
  refine ⟨m,b,λw hw=>hb w 0 d.start hw h0,?_,?_⟩
  · intro s t s0 s1 t0 t1 he;obtain ⟨i,p,rfl,hp⟩:=aa s s0 s1;obtain ⟨j,q,rfl,hq⟩:=aa t t0 t1;have:=hinj i j p q hp hq λw hw=>by rw[<-hb w i p hw hp,<-hb w j q hw hq];exact he w hw
    omega
  · intro s x hx h1;rcases Int.lt_or_le s 0 with h2|h2
    · rw[En h2] at h1;omega
    · rcases Int.lt_or_le s m with h3|h3
      · obtain ⟨i,p,rfl,hp⟩:=aa s h2 h3;rcases hnext i x p hp hx with ⟨h4,_⟩|⟨j,t,h4,h5,_,w,hw,h7⟩
        · omega
        · exact ⟨w,hw,by rw[h4,hb w j t hw h5];exact h7⟩
      · exfalso;unfold BN at h1;have e:C.next[s.toNat]?=none:=List.getElem?_eq_none (by rw[b.ok.nl];omega);rw[if_neg qO] at h1;simp[List.getD_eq_getElem?_getD,e] at h1
--END
end Go.Proofs
namespace Go.Proofs
open Go Go.Eng Go.Sort
--BEGIN
theorem Gc:∀{l m:List Nat},l.Nodup->(∀x∈l,x∈m)->l.length<=m.length
 | [],_,_,_=>Nat.zero_le _
 | x::l,m,hd,h=>by
  have a:=List.nodup_cons.1 hd;have b:=h x List.mem_cons_self;have d:=Gc (l:=l) (m:=m.erase x) a.2 λy c=>(List.mem_erase_of_ne (show y≠x from λe=>a.1 (by rw[<-e];exact c))).2 (h y (List.mem_cons_of_mem _ c));rw[List.length_erase_of_mem b] at d;have:=List.length_pos_of_mem b;simp only[List.length_cons];omega
structure Num (keys:List (Option (List Int))) (ks:List (List Int)) (out:List Int):Prop where
 len:out.length=keys.length
 nd:ks.Nodup
 non:∀(s:Nat),keys[s]?=some none->out[s]?=some (-1)
 som:∀(s:Nat) k,keys[s]?=some (some k)->∃j:Nat,out[s]?=some ((j:Nat):Int)∧ks[j]?=some k
 all:∀k∈ks,some k∈keys
theorem Num.start:Num [] [] []:=⟨O,List.nodup_nil,λs h=>by simp at h,λs k h=>by simp at h,λk h=>by cases h⟩
theorem Ce {α:Type} {l:List α} {a x:α} {i:Nat} (h:(l++[a])[i]?=some x):l[i]?=some x∨(i=l.length∧x=a):=by
 rcases Nat.lt_or_ge i l.length with b|b
 .left;rwa [List.getElem?_append_left b] at h
 .right;rw[List.getElem?_append_right b] at h;have c:=AI h;simp at c;rw[show i - l.length=0 by omega] at h;simp at h;exact ⟨qO,h.symm⟩
theorem Num.none {keys:List (Option (List Int))} {c:List (List Int)} {out:List Int} (h:Num keys c out):Num (keys++[Option.none]) c (out++[-1]):=by
 refine ⟨by simp[h.len],h.nd,λs hs=>?_,λs k hs=>?_,λk e=>List.mem_append_left _ (h.all k e)⟩
 .rcases Ce hs with a|⟨a,_⟩
  .have:=h.non s a
   rwa [List.getElem?_append_left (AI this)]
  .rw[a,List.getElem?_append_right (by rw[h.len];exact Nat.le_refl _),h.len,Nat.sub_self];rfl
 .rcases Ce hs with a|⟨_,d⟩
  .obtain ⟨j,b,f⟩:=h.som s k a;exact ⟨j,by rw[List.getElem?_append_left (AI b)];exact b,f⟩
  .cases d
theorem Num.hit {keys:List (Option (List Int))} {c:List (List Int)} {out:List Int} {k:List Int} {j:Nat} (h:Num keys c out) (g:c[j]?=some k):Num (keys++[some k]) c (out++[((j:Nat):Int)]):=by
 refine ⟨by simp[h.len],h.nd,λs hs=>?_,λs q hs=>?_,λq e=>List.mem_append_left _ (h.all q e)⟩
 .rcases Ce hs with a|⟨_,b⟩
  .have:=h.non s a
   rwa [List.getElem?_append_left (AI this)]
  .cases b
 .rcases Ce hs with a|⟨a,b⟩
  .obtain ⟨i,d,f⟩:=h.som s q a;exact ⟨i,by rw[List.getElem?_append_left (AI d)];exact d,f⟩
  .cases b;exact ⟨j,by rw[a,List.getElem?_append_right (by rw[h.len];exact Nat.le_refl _),h.len,Nat.sub_self];rfl,g⟩
theorem Num.new {keys:List (Option (List Int))} {d:List (List Int)} {out:List Int} {k:List Int} (h:Num keys d out) (m:k∉d):Num (keys++[some k]) (d++[k]) (out++[((d.length:Nat):Int)]):=by
 refine ⟨by simp[h.len],?_,λs hs=>?_,λs q hs=>?_,λq l=>?_⟩
 .rw[List.nodup_append];exact ⟨h.nd,qP,λa n b hb=>by rw[List.mem_singleton] at hb;subst hb;exact λe=>m (e▸n)⟩
 .rcases Ce hs with c|⟨_,f⟩
  .have:=h.non s c
   rwa [List.getElem?_append_left (AI this)]
  .cases f
 .rcases Ce hs with c|⟨c,f⟩
  .obtain ⟨i,j,g⟩:=h.som s q c;exact ⟨i,by rw[List.getElem?_append_left (AI j)];exact j,by rw[List.getElem?_append_left (AI g)];exact g⟩
  .cases f;exact ⟨d.length,by rw[c,List.getElem?_append_right (by rw[h.len];exact Nat.le_refl _),h.len,Nat.sub_self];rfl,qP⟩
 .rcases List.mem_append.1 l with c|c
  .exact List.mem_append_left _ (h.all q c)
  .rw[List.mem_singleton] at c;subst c;simp
theorem Num.eq_iff {keys:List (Option (List Int))} {l:List (List Int)} {out:List Int} (h:Num keys l out) {s t:Nat} {k q:List Int} (hs:keys[s]?=some (some k)) (n:keys[t]?=some (some q)):out[s]?=out[t]?↔k=q:=by
 obtain ⟨i,m,c⟩:=h.som s k hs;obtain ⟨j,g,b⟩:=h.som t q n;rw[m,g];constructor
 .intro e;have:i=j:=by simp at e;omega
  subst this;rw[c] at b;exact Option.some.inj b
 .intro e;subst e;have hi:=AI c;have d:=AI b;rw[List.getElem?_eq_getElem hi] at c;rw[List.getElem?_eq_getElem d] at b;have f:=(Option.some.inj c).trans (Option.some.inj b).symm;have:i=j:=by
   rcases Nat.lt_trichotomy i j with a|a|a
   .exact absurd f (List.pairwise_iff_getElem.1 h.nd i j hi d a)
   .exact a
   .exact absurd f.symm (List.pairwise_iff_getElem.1 h.nd j i d hi a)
  rw[this]
def Ck (p:List Int) (s:Int):Int:=if s<0 then -1 else p.getD s.toNat (-1)
theorem Ct {p:List Int} {s:Nat} {x:Int} (h:p[s]?=some x):Ck p ((s:Nat):Int)=x:=by
 unfold Ck;rw[if_neg qO,Int.toNat_natCast,List.getD_eq_getElem?_getD,h,Option.getD_some]
theorem Mb {p:List Int} {s:Int} (h:s<0):Ck p s = -1:=by unfold Ck;rw[if_pos h]
structure Refd (n c:Nat) (d:Dfa) (p:List Int) (cnt:Nat):Prop where
 len:p.length=n
 dead:∀s:Nat,s<n->¬BI c d s->p[s]?=some (-1)
 liv:∀s:Nat,s<n->BI c d s->∃j:Nat,p[s]?=some ((j:Nat):Int)∧j<cnt
 onto:∀j:Nat,j<cnt->∃s:Nat,s<n∧BI c d s∧p[s]?=some ((j:Nat):Int)
 acc:∀s t:Nat,s<n->t<n->BI c d s->BI c d t->p[s]?=p[t]?->EX d s=EX d t
 eqv:∀s t:Nat,s<n->t<n->BI c d s->BI c d t->Hs c d s t->p[s]?=p[t]?
theorem Refd.cnt_le {n c b:Nat} {d:Dfa} {p:List Int} (h:Refd n c d p b):b<=n:=by
 -- each number has a state
 have i:∀k,k<=b->∃l:List Nat,l.length=k∧l.Nodup∧(∀s∈l,s<n∧∃j:Nat,j<k∧p[s]?=some ((j:Nat):Int)):=by
  intro k
  induction k with
  | zero=>exact λ_=>⟨[],O,List.nodup_nil,λs h=>by cases h⟩
  | succ k ih=>
   intro hk;obtain ⟨l,o,g,f⟩:=ih qO;obtain ⟨s,hs,_,q⟩:=h.onto k qO;refine ⟨s::l,by simp[o],List.nodup_cons.2 ⟨λw=>?_,g⟩,λt x=>?_⟩
   .obtain ⟨_,j,hj,e⟩:=f s w;rw[q] at e;simp at e;omega
   .rcases List.mem_cons.1 x with rfl|v
    .exact ⟨hs,k,qO,q⟩
    .obtain ⟨r,j,h6,u⟩:=f t v;exact ⟨r,j,qO,u⟩
 obtain ⟨l,o,g,f⟩:=i b (Nat.le_refl _);have:=Gc (m:=List.range n) g λs hs=>List.mem_range.2 (f s hs).1;simpa[o] using this
theorem Refd.ptLive {n c cnt:Nat} {d:Dfa} {p:List Int} (h:Refd n c d p cnt) {s:Int} (hs : -1<=s∧s<n):(0<=Ck p s↔BI c d s)∧-1<=Ck p s:=by
 rcases Int.lt_or_le s 0 with h1|h1
 ·rw[Mb h1];exact ⟨⟨λh=>absurd h qD,λh=>absurd h (Ci h1)⟩,Int.le_refl _⟩
 ·obtain ⟨k,rfl⟩:=Int.eq_ofNat_of_zero_le h1;by_cases hl:BI c d ((k:Nat):Int)
  ·obtain ⟨j,h2,_⟩:=h.liv k qO hl;rw[Ct h2];exact ⟨⟨λ_=>hl,λ_=>qO⟩,qO⟩
  ·rw[Ct (h.dead k qO hl)];exact ⟨⟨λh=>absurd h qD,λh=>absurd h hl⟩,Int.le_refl _⟩
theorem Refd.ptEqv {n c k:Nat} {d:Dfa} {p:List Int} (h:Refd n c d p k) {s t:Int} (hs : -1<=s∧s<n) (x : -1<=t∧t<n) (l:Hs c d s t):Ck p s=Ck p t:=by
 obtain ⟨q,a2⟩:=h.ptLive hs;obtain ⟨u,b2⟩:=h.ptLive x;by_cases f:BI c d s
 .have b:=l.live f;have r:0<=s:=by rcases Int.lt_or_le s 0 with e|e;exact absurd f (Ci e);exact e
  have y:0<=t:=by rcases Int.lt_or_le t 0 with e|e;exact absurd b (Ci e);exact e
  obtain ⟨i,rfl⟩:=Int.eq_ofNat_of_zero_le r;obtain ⟨j,rfl⟩:=Int.eq_ofNat_of_zero_le y;have m:=h.eqv i j qO qO f b l;obtain ⟨a,g,_⟩:=h.liv i qO f;rw[Ct g,Ct (m▸g)]
 .have b:¬BI c d t:=λo=>f (Hs.live (λw v=>(l w v).symm) o);have m:¬0<=Ck p s:=λh=>f (q.1 h);have g:¬0<=Ck p t:=λh=>b (u.1 h);omega
def Dw (c:Nat) (d:Dfa) (p:List Int) (s:Nat):List Int:=Ck p s::(List.range c).map λx=>Ck p (BN d s x)
theorem FV {c:Nat} {d:Dfa} {p:List Int} {s t:Nat}:Dw c d p s=Dw c d p t↔Ck p s=Ck p t∧∀x,x<c->Ck p (BN d s x)=Ck p (BN d t x):=by
 unfold Dw;rw[List.cons.injEq];constructor
 .rintro ⟨e,a⟩;refine ⟨e,λx b=>?_⟩;have:=congrArg (λl=>l[x]?) a;simpa[b] using this
 .rintro ⟨e,a⟩;exact ⟨e,List.map_congr_left λx b=>a x (List.mem_range.1 b)⟩
theorem Refd.of_num {n c:Nat} {d:Dfa} {keys:List (Option (List Int))} {x:List (List Int)} {q:List Int} (b:Num keys x q) (z:keys.length=n) (hd:∀s:Nat,s<n->¬BI c d s->keys[s]?=some none) {a:Nat->List Int} (l:∀s:Nat,s<n->BI c d s->keys[s]?=some (some (a s)))
 (A:∀s t:Nat,s<n->t<n->BI c d s->BI c d t->a s=a t->EX d s=EX d t) (B:∀s t:Nat,s<n->t<n->BI c d s->BI c d t->Hs c d s t->a s=a t):Refd n c d q x.length:=by
 refine ⟨by rw[b.len,z],λs hs h=>b.non s (hd s hs h),λs hs h=>?_,λj u=>?_,λs t hs r p m h=>?_,λs t hs r p m h=>?_⟩
 .obtain ⟨j,w,f⟩:=b.som s _ (l s hs h);exact ⟨j,w,AI f⟩
 .obtain ⟨k,e⟩:=AL u;obtain ⟨s,hs⟩:=List.getElem?_of_mem (b.all k (List.mem_of_getElem? e));have g:s<n:=by rw[<-z];exact AI hs
  have v:BI c d s:=Classical.byContradiction λh=>by rw[hd s g h] at hs;cases hs
  obtain ⟨i,w,f⟩:=b.som s k hs;refine ⟨s,g,v,?_⟩;have hi:=AI f;rw[List.getElem?_eq_getElem hi] at f;rw[List.getElem?_eq_getElem u] at e;have y:=(Option.some.inj f).trans (Option.some.inj e).symm;have:i=j:=by
   rcases Nat.lt_trichotomy i j with o|o|o
   .exact absurd y (List.pairwise_iff_getElem.1 b.nd i j hi u o)
   .exact o
   .exact absurd y.symm (List.pairwise_iff_getElem.1 b.nd j i u hi o)
  rw[<-this];exact w
 .exact A s t hs r p m ((b.eq_iff (l s hs p) (l t r m)).1 h)
 .exact (b.eq_iff (l s hs p) (l t r m)).2 (B s t hs r p m h)
structure PartsOf (n c:Nat) (d:Dfa) (q:List Int):Prop where
 len:q.length=n
 live:∀s:Int,-1<=s∧s<n->(0<=Ck q s↔BI c d s)∧-1<=Ck q s∧Ck q s<n
 iff:∀s t:Int,-1<=s∧s<n->-1<=t∧t<n->(Ck q s=Ck q t↔Hs c d s t)
theorem Refd.same {n c g:Nat} {d:Dfa} {p q:List Int} (Q:Refd n c d p g) (B:Refd n c d q g) (W:∀s t:Nat,s<n->t<n->BI c d s->BI c d t->q[s]?=q[t]?->p[s]?=p[t]?) :
 ∀s t:Nat,s<n->t<n->BI c d s->BI c d t->p[s]?=p[t]?->q[s]?=q[t]?:=by
 intro s t hs T R P J;apply Classical.byContradiction;intro F;obtain ⟨a,M,A⟩:=B.liv s hs R;obtain ⟨b,hb,K⟩:=B.liv t T P;have G:a≠b:=λe=>F (by rw[M,hb,e])
 -- each number of q other than b goes to a number of p; all are met
 have y:∀j:Nat,∃i:Nat,j<g->(i<g∧∀u:Nat,u<n->BI c d u->q[u]?=some ((j:Nat):Int)->p[u]?=some ((i:Nat):Int)):=by
  intro j;by_cases C:j<g
  .obtain ⟨u,r,z,D⟩:=B.onto j C;obtain ⟨i,hi,E⟩:=Q.liv u r z;refine ⟨i,λ_=>⟨E,λv X V I=>?_⟩⟩;rw[<-W u v r X z V (by rw[D,I])];exact hi
  .exact ⟨0,λh=>absurd h C⟩
 obtain ⟨f,o⟩:=Classical.axiomOfChoice y;have H:=Gc (l:=List.range g) (m:=((List.range g).erase b).map f) List.nodup_range λi hi=>by
  rw[List.mem_range] at hi;obtain ⟨u,r,z,L⟩:=Q.onto i hi;obtain ⟨j,C,k⟩:=B.liv u r z;have S:=(o j k).2 u r z C;rw[L] at S;have x:f j=i:=by simp at S;omega
  by_cases w:j=b
  .-- then a serves
   subst w;have N:=(o a A).2 s hs R M;have U:=(o j k).2 t T P hb;have Z:f a=f j:=by rw[J,U] at N;simp at N;omega
   refine List.mem_map.2 ⟨a,(List.mem_erase_of_ne G).2 (List.mem_range.2 A),by rw[Z,x]⟩
  .exact List.mem_map.2 ⟨j,(List.mem_erase_of_ne w).2 (List.mem_range.2 k),x⟩
 rw[List.length_map,List.length_erase_of_mem (List.mem_range.2 K),List.length_range] at H;omega
theorem Refd.final {n c G:Nat} {d:Dfa} {p q:List Int} (ok:OkD n c d) (M:Refd n c d p G) (g:Refd n c d q G)
 (S:∀s t:Nat,s<n->t<n->BI c d s->BI c d t->(q[s]?=q[t]?↔Dw c d p s=Dw c d p t)):PartsOf n c d q:=by
 have F:∀s:Nat,s<n->BI c d s->∃a:Nat,p[s]?=some ((a:Nat):Int)∧Ck p s=((a:Nat):Int):=λs hs l=>by
  obtain ⟨a,e,_⟩:=M.liv s hs l;exact ⟨a,e,Ct e⟩
 have H:∀s t:Nat,s<n->t<n->BI c d s->BI c d t->(p[s]?=p[t]?↔Ck p s=Ck p t):=λs t hs y N L=>by
  obtain ⟨a,e,r⟩:=F s hs N;obtain ⟨b,B,R⟩:=F t y L;rw[e,r,B,R];simp
 have A:=M.same g λs t hs y N L h=>(H s t hs y N L).2 (FV.1 ((S s t hs y N L).1 h)).1;have Q:∀w,E3 c w->∀s t:Int,-1<=s∧s<n->-1<=t∧t<n->Ck q s=Ck q t->beh d s w=beh d t w:=by
  intro w
  induction w with
  | nil=>
   intro z s t hs y h;obtain ⟨C,Z⟩:=g.ptLive hs;obtain ⟨D,b2⟩:=g.ptLive y;by_cases o:BI c d s
   .have f:BI c d t:=D.1 (by rw[<-h];exact C.2 o);have E:0<=s:=by rcases Int.lt_or_le s 0 with e|e;exact absurd o (Ci e);exact e
    have P:0<=t:=by rcases Int.lt_or_le t 0 with e|e;exact absurd f (Ci e);exact e
    obtain ⟨i,rfl⟩:=Int.eq_ofNat_of_zero_le E;obtain ⟨j,rfl⟩:=Int.eq_ofNat_of_zero_le P;obtain ⟨a,e,_⟩:=g.liv i qO o;obtain ⟨b,r,_⟩:=g.liv j qO f;rw[Ct e,Ct r] at h;exact g.acc i j qO qO o f (by rw[e,r,h])
   .have f:¬BI c d t:=λr=>o (C.1 (by rw[h];exact D.2 r));rw[ok.dead o z,ok.dead f z]
  | cons x w ih=>
   intro z s t hs y h;obtain ⟨C,Z⟩:=g.ptLive hs;obtain ⟨D,b2⟩:=g.ptLive y;by_cases o:BI c d s
   .have f:BI c d t:=D.1 (by rw[<-h];exact C.2 o);have E:0<=s:=by rcases Int.lt_or_le s 0 with e|e;exact absurd o (Ci e);exact e
    have P:0<=t:=by rcases Int.lt_or_le t 0 with e|e;exact absurd f (Ci e);exact e
    obtain ⟨i,rfl⟩:=Int.eq_ofNat_of_zero_le E;obtain ⟨j,rfl⟩:=Int.eq_ofNat_of_zero_le P;obtain ⟨a,e,_⟩:=g.liv i qO o;obtain ⟨b,r,_⟩:=g.liv j qO f;rw[Ct e,Ct r] at h;have B:=(FV.1 ((S i j qO qO o f).1 (by rw[e,r,h]))).2 x z.head;have J:=ok.to (s:=((i:Nat):Int)) (x:=x);have K:=ok.to (s:=((j:Nat):Int)) (x:=x);simp only[beh];refine ih z.tail _ _ J K ?_;obtain ⟨c1,c2⟩:=M.ptLive J;obtain ⟨T,d2⟩:=M.ptLive K;obtain ⟨W,e2⟩:=g.ptLive J;obtain ⟨U,f2⟩:=g.ptLive K;by_cases m:BI c d (BN d ((i:Nat):Int) x)
    .have k:BI c d (BN d ((j:Nat):Int) x):=T.1 (by rw[<-B];exact c1.2 m);obtain ⟨u,V⟩:=Int.eq_ofNat_of_zero_le (show 0<=BN d ((i:Nat):Int) x by rcases Int.lt_or_le (BN d ((i:Nat):Int) x) 0 with e|e;exact absurd m (Ci e);exact e);obtain ⟨v,X⟩:=Int.eq_ofNat_of_zero_le (show 0<=BN d ((j:Nat):Int) x by rcases Int.lt_or_le (BN d ((j:Nat):Int) x) 0 with e|e;exact absurd k (Ci e);exact e);rw[V] at m B J⊢;rw[X] at k B K⊢;have R:=A u v qO qO m k ((H u v qO qO m k).2 B);obtain ⟨a',I,_⟩:=g.liv u qO m;rw[Ct I,Ct (R▸I)]
    .have k:¬BI c d (BN d ((j:Nat):Int) x):=λr=>m (c1.1 (by rw[B];exact T.2 r));have I:¬0<=Ck q (BN d ((i:Nat):Int) x):=λh=>m (W.1 h);have h6:¬0<=Ck q (BN d ((j:Nat):Int) x):=λh=>k (U.1 h);omega
   .have f:¬BI c d t:=λr=>o (C.1 (by rw[h];exact D.2 r));rw[ok.dead o z,ok.dead f z]
 refine ⟨g.len,λs hs=>⟨(g.ptLive hs).1,(g.ptLive hs).2,?_⟩,λs t hs y=>⟨λh w z=>Q w z s t hs y h,λh=>g.ptEqv hs y h⟩⟩;have hcn:=g.cnt_le;by_cases o:BI c d s
 .have E:0<=s:=by rcases Int.lt_or_le s 0 with e|e;exact absurd o (Ci e);exact e
  obtain ⟨i,rfl⟩:=Int.eq_ofNat_of_zero_le E;obtain ⟨a,e,r⟩:=g.liv i qO o;rw[Ct e];omega
 .have:=(g.ptLive hs).1;have I:¬0<=Ck q s:=λh=>o (this.1 h);have:=hs.1;have hst:=ok.st;omega
--END
end Go.Proofs
namespace Go.Proofs
open Go Go.Eng Go.Sort
--BEGIN
structure IntoP (n c:Nat) (d:Dfa) (into:List (List Int)) (s k:Nat):Prop where
 len:into.length=n
 snd:∀(t:Nat) l,into[t]?=some l->∀x∈l,0<=x∧x<n∧∃y,y<c∧BN d x y=((t:Nat):Int)
 cmp:∀s' y:Nat,y<c->(s'<s∨(s'=s∧y<k))->0<=BN d ((s':Nat):Int) y->∃l,into[(BN d ((s':Nat):Int) y).toNat]?=some l∧((s':Nat):Int)∈l
 sht:∀l∈into,l.length<=s*c+k
theorem IntoP.start (n c:Nat) (d:Dfa):IntoP n c d (List.replicate n []) 0 0:=by
 have b:∀(t:Nat) l,(List.replicate n ([]:List Int))[t]?=some l->l=[]:=λt l h=>(List.mem_replicate.1 (List.mem_of_getElem? h)).2;exact ⟨qP,λt l h x a=>(by rw[b t l h] at a;cases a),λs' y _ h=>qO,λl e=>by rw[(List.mem_replicate.1 e).2];exact Nat.zero_le _⟩
theorem IntoP.row {n c s k:Nat} {d:Dfa} {a:List (List Int)} (h:IntoP n c d a s k) (f:k=c):IntoP n c d a (s+1) 0:=by
 subst f;exact ⟨h.len,h.snd,λi y e h1 b=>h.cmp i y e qO b,λl g=>by have:=h.sht l g;rw[Nat.add_mul];omega⟩
theorem IntoP.skip {n c s k:Nat} {d:Dfa} {into:List (List Int)} (h:IntoP n c d into s k) (ht:BN d ((s:Nat):Int) k<0):IntoP n c d into s (k+1):=by
 refine ⟨h.len,h.snd,λs' y hy h1 h2=>?_,λl hl=>by have:=h.sht l hl;omega⟩;by_cases he:s'=s∧y=k
 ·obtain ⟨rfl,rfl⟩:=he;omega
 ·exact h.cmp s' y hy qO h2
theorem IntoP.add {n c s k t:Nat} {d:Dfa} {into:List (List Int)} {l:List Int} (h:IntoP n c d into s k) (hs:s<n) (hk:k<c) (ht:BN d ((s:Nat):Int) k=((t:Nat):Int)) (hl:into[t]?=some l):IntoP n c d (into.set t (l++[((s:Nat):Int)])) s (k+1):=by
 have ac:=AI hl;have aa:∀(i:Nat) q,(into.set t (l++[((s:Nat):Int)]))[i]?=some q->(i=t∧q=l++[((s:Nat):Int)])∨(i≠t∧into[i]?=some q):=by
  intro i q hq;rw[List.getElem?_set] at hq;split at hq
  ·rename_i he
   exact .inl ⟨he.symm,(Option.some.inj hq).symm⟩
  ·rename_i he
   exact .inr ⟨λe=>he e.symm,hq⟩
 refine ⟨by simp[h.len],λi q hq x hx=>?_,λs' y hy h1 h2=>?_,λq hq=>?_⟩
 ·rcases aa i q hq with ⟨rfl,rfl⟩|⟨_,h3⟩
  ·rcases List.mem_append.1 hx with h4|h4
   ·exact h.snd i l hl x h4
   ·rw[List.mem_singleton] at h4;subst h4;exact ⟨qO,qO,k,hk,ht⟩
  ·exact h.snd i q h3 x hx
 ·have ab:(∃q,into[(BN d ((s':Nat):Int) y).toNat]?=some q∧((s':Nat):Int)∈q)->∃q,(into.set t (l++[((s:Nat):Int)]))[(BN d ((s':Nat):Int) y).toNat]?=some q∧((s':Nat):Int)∈q:=by
   rintro ⟨q,h3,h4⟩;by_cases he:(BN d ((s':Nat):Int) y).toNat=t
   ·rw[he] at h3⊢;rw[hl] at h3;cases h3;exact ⟨_,by rw[List.getElem?_set,if_pos O,if_pos ac],List.mem_append_left _ h4⟩
   ·exact ⟨q,by rw[List.getElem?_set,if_neg (λe=>he e.symm)];exact h3,h4⟩
  by_cases he:s'=s∧y=k
  ·obtain ⟨rfl,rfl⟩:=he;rw[ht,Int.toNat_natCast];exact ⟨_,by rw[List.getElem?_set,if_pos O,if_pos ac],qP⟩
  ·exact ab (h.cmp s' y hy qO h2)
 ·obtain ⟨i,hi⟩:=List.getElem?_of_mem hq;rcases aa i q hi with ⟨_,rfl⟩|⟨_,h3⟩
  ·have:=h.sht l (List.mem_of_getElem? hl);simp;omega
  ·have:=h.sht q (List.mem_of_getElem? h3);omega
structure LiveP (n c:Nat) (d:Dfa) (M:List Bool) (work:List Int) (k:Nat):Prop where
 len:M.length=n
 wrk:∀x∈work,∃i:Nat,x=((i:Nat):Int)∧M[i]?=some true
 snd:∀i:Nat,M[i]?=some true->BI c d ((i:Nat):Int)
 acc:∀i:Nat,i<k->0<=EX d ((i:Nat):Int)->M[i]?=some true
 cnt:work.length+M.countP (λb=>!b)<=n
theorem LiveP.start (n c:Nat) (d:Dfa):LiveP n c d (List.replicate n false) [] 0:=by
 refine ⟨qP,λx h=>(by cases h),λi h=>?_,λi h=>qO,?_⟩
 .have:=(List.mem_replicate.1 (List.mem_of_getElem? h)).2;cases this
 .simp[List.countP_replicate]
theorem count_set {M:List Bool} {i:Nat} (h:M[i]?=some false):(M.set i true).countP (λb=>!b)+1=M.countP λb=>!b:=by
 have hi:=AI h;have e:M=M.take i++false::M.drop (i+1):=by
  have c:M.drop i=false::M.drop (i+1):=by
   rw[List.drop_eq_getElem_cons hi];rw[List.getElem?_eq_getElem hi] at h;rw[Option.some.inj h]
  rw[<-c,List.take_append_drop]
 have a:M.set i true=M.take i++true::M.drop (i+1):=by rw[List.set_eq_take_append_cons_drop,if_pos hi]
 rw[a]
 conv=>rhs;rw[e]
 rw[List.countP_append,List.countP_append,List.countP_cons,List.countP_cons];simp;omega
theorem GV {M:List Bool} {i j:Nat} (h:M[j]?=some true):(M.set i true)[j]?=some true:=by
 rw[List.getElem?_set];split
 .rename_i a
  subst a;rw[if_pos (AI h)]
 .exact h
theorem MX {M:List Bool} {i j:Nat} (h:(M.set i true)[j]?=some true):j=i∨M[j]?=some true:=by
 rw[List.getElem?_set] at h;split at h
 .rename_i a;exact .inl a.symm
 .exact .inr h
theorem LiveP.mark {n c k i:Nat} {d:Dfa} {M:List Bool} {work:List Int} (h:LiveP n c d M work k) (e:M[i]?=some false) (o:BI c d ((i:Nat):Int)):LiveP n c d (M.set i true) (work++[((i:Nat):Int)]) k:=by
 have hi:=AI e;refine ⟨by simp[h.len],λx g=>?_,λj b=>?_,λj b m=>GV (h.acc j b m),?_⟩
 .rcases List.mem_append.1 g with a|a
  .obtain ⟨j,f,l⟩:=h.wrk x a;exact ⟨j,f,GV l⟩
  .rw[List.mem_singleton] at a;exact ⟨i,a,by rw[List.getElem?_set,if_pos O,if_pos hi]⟩
 .rcases MX b with a|a
  .rw[a];exact o
  .exact h.snd j a
 .have:=count_set e;have:=h.cnt;simp;omega
theorem LiveP.next {n c k:Nat} {d:Dfa} {M:List Bool} {work:List Int} (h:LiveP n c d M work k) (e:0<=EX d ((k:Nat):Int)->M[k]?=some true):LiveP n c d M work (k+1):=
 ⟨h.len,h.wrk,h.snd,λi hi b=>by rcases Nat.lt_or_ge i k with a|a;exact h.acc i a b;obtain rfl:i=k:=qO;exact e b,h.cnt⟩
def HW (into:List (List Int)) (M:List Bool) (work:List Int):Prop:=∀t:Nat,M[t]?=some true->((t:Nat):Int)∈work∨∀l,into[t]?=some l->∀x∈l,M[x.toNat]?=some true
theorem HW.mark {a:List (List Int)} {M:List Bool} {work:List Int} {i:Nat} (h:HW a M work):HW a (M.set i true) (work++[((i:Nat):Int)]):=by
 intro t f;rcases MX f with c|c
 .left;rw[c];simp
 .rcases h t c with b|b
  .exact .inl (List.mem_append_left _ b)
  .exact .inr λl e x d=>GV (b l e x d)
def H0 (into:List (List Int)) (M:List Bool) (work:List Int) (u:Nat) (lu:List Int) (k:Nat):Prop:=
 (∀t:Nat,M[t]?=some true->t≠u->((t:Nat):Int)∈work∨∀l,into[t]?=some l->∀x∈l,M[x.toNat]?=some true)∧∀x∈lu.take k,M[x.toNat]?=some true
theorem HW.open {a:List (List Int)} {M:List Bool} {work:List Int} {u:Nat} (h:HW a M (work++[((u:Nat):Int)])) (d:List Int):H0 a M work u d 0:=by
 refine ⟨λt f hne=>?_,λx e=>by simp at e⟩;rcases h t f with c|c
 .rcases List.mem_append.1 c with b|b
  .exact .inl b
  .rw[List.mem_singleton] at b;omega
 .exact .inr c
theorem H0.seen {a:List (List Int)} {M:List Bool} {work:List Int} {u k:Nat} {c:List Int} {x:Int} (h:H0 a M work u c k) (e:c[k]?=some x) (f:M[x.toNat]?=some true):H0 a M work u c (k+1):=by
 refine ⟨h.1,λy d=>?_⟩;rw[List.take_add_one,e] at d;rcases List.mem_append.1 d with b|b
 .exact h.2 y b
 .simp at b;subst b;exact f
theorem H0.mark {a:List (List Int)} {M:List Bool} {work:List Int} {u k i:Nat} {e:List Int} (h:H0 a M work u e k) (f:e[k]?=some ((i:Nat):Int)) (j:M[i]?=some false):H0 a (M.set i true) (work++[((i:Nat):Int)]) u e (k+1):=by
 have hi:=AI j;refine ⟨λt n d=>?_,λy g=>?_⟩
 .rcases MX n with b|b
  .left;rw[b];simp
  .rcases h.1 t b d with c|c
   .exact .inl (List.mem_append_left _ c)
   .exact .inr λl m x f=>GV (c l m x f)
 .rw[List.take_add_one,f] at g;rcases List.mem_append.1 g with b|b
  .exact GV (h.2 y b)
  .simp at b;subst b;rw[Int.toNat_natCast,List.getElem?_set,if_pos O,if_pos hi]
theorem H0.done {a:List (List Int)} {M:List Bool} {work:List Int} {u k:Nat} {c:List Int} (h:H0 a M work u c k) (g:a[u]?=some c) (e:k=c.length):HW a M work:=by
 intro t i;by_cases d:t=u
 .subst d;right;intro l b x f;rw[g] at b;cases b;exact h.2 x (by rw[e,List.take_length];exact f)
 .exact h.1 t i d
structure LiveOf (n c:Nat) (d:Dfa) (M:List Bool):Prop where
 len:M.length=n
 iff:∀s:Nat,s<n->(M[s]?=some true↔BI c d ((s:Nat):Int))
theorem PK {n c:Nat} {d:Dfa} {M:List Bool} {a:List (List Int)} (ok:OkD n c d) (q:IntoP n c d a n 0) (f:LiveP n c d M [] n) (m:HW a M []):LiveOf n c d M:=by
 refine ⟨f.len,λs hs=>⟨f.snd s,?_⟩⟩;rintro ⟨w,b,h⟩;have g:∀(w:List Nat) (s:Nat),s<n->E3 c w->0<=beh d ((s:Nat):Int) w->M[s]?=some true:=by
  intro w
  induction w with
  | nil=>exact λs hs _ h=>f.acc s hs h
  | cons x w ih=>
   intro s hs b h;simp only[beh] at h;have r:=ok.to (s:=((s:Nat):Int)) (x:=x);rcases Int.lt_or_le (BN d ((s:Nat):Int) x) 0 with e|e
   .rw[Dy e] at h;omega
   .obtain ⟨t,k⟩:=Int.eq_ofNat_of_zero_le e;rw[k] at h r;have p:=ih t qO b.tail h;obtain ⟨l,j,o⟩:=q.cmp s x b.head (.inl hs) e;rw[k,Int.toNat_natCast] at j;rcases m t p with i|i
    .cases i
    .have:=i l j _ o
     rwa [Int.toNat_natCast] at this
 exact g w s hs b h
--END
end Go.Proofs
namespace Go.Proofs
open Go Go.Eng
set_option maxRecDepth 100000
theorem Ab:DK prog 3 1:=by unfold DK;kernel_rfl
theorem GO:Hv prog 3 8:=by unfold Hv;kernel_rfl
theorem CW:EO prog 3 (.int .i64 0):=by unfold EO;kernel_rfl
theorem Aa:DI prog 3=true:=by kernel_rfl
theorem H8:DK prog 4 1:=by unfold DK;kernel_rfl
theorem XU:Hv prog 4 1:=by unfold Hv;kernel_rfl
theorem VY:EO prog 4 (.bool false):=by unfold EO;kernel_rfl
theorem GF:DI prog 4=true:=by kernel_rfl
theorem MW:DK prog 5 1:=by unfold DK;kernel_rfl
theorem WN:Hv prog 5 1:=by unfold Hv;kernel_rfl
theorem T3:EO prog 5 (.int .u8 0):=by unfold EO;kernel_rfl
theorem XD:DI prog 5=true:=by kernel_rfl
theorem Qi:DK prog 9 1:=by unfold DK;kernel_rfl
theorem Xo:Hv prog 9 16:=by unfold Hv;kernel_rfl
theorem T2:EO prog 9 (.string ByteArray.empty):=by unfold EO;kernel_rfl
theorem Oc:DI prog 9=true:=by kernel_rfl
theorem BG:DK prog 22 1:=by unfold DK;kernel_rfl
theorem K6:Hv prog 22 24:=by unfold Hv;kernel_rfl
theorem EG:EO prog 22 (.slice none 0 0):=by unfold EO;kernel_rfl
theorem BX:DI prog 22=true:=by kernel_rfl
theorem NN:DK prog 27 1:=by unfold DK;kernel_rfl
theorem VG:EO prog 27 (.int .i64 0):=by unfold EO;kernel_rfl
theorem Kt:DI prog 27=true:=by kernel_rfl
theorem DL:DK prog 36 2:=by unfold DK;kernel_rfl
theorem XV:Hv prog 36 16:=by unfold Hv;kernel_rfl
theorem LT:EO prog 36 (.agg #[(.int .i64 0),(.int .i64 0)]):=by unfold EO;kernel_rfl
theorem F7:HR prog 36=true:=by kernel_rfl
theorem BW:DK prog 37 1:=by unfold DK;kernel_rfl
theorem MI:Hv prog 37 24:=by unfold Hv;kernel_rfl
theorem G4:EO prog 37 (.slice none 0 0):=by unfold EO;kernel_rfl
theorem CC:DI prog 37=true:=by kernel_rfl
theorem G5:DK prog 46 1:=by unfold DK;kernel_rfl
theorem FB:DI prog 46=true:=by kernel_rfl
theorem BE:DK prog 48 6:=by unfold DK;kernel_rfl
theorem VT:Hv prog 48 80:=by unfold Hv;kernel_rfl
theorem FP:EO prog 48 (.agg #[(.int .i64 0),(.slice none 0 0),(.slice none 0 0),(.int .i64 0),(.int .i64 0),(.bool false)]):=by unfold EO;kernel_rfl
theorem CI:HR prog 48=true:=by kernel_rfl
theorem Hy:DK prog 49 1:=by unfold DK;kernel_rfl
theorem We:EO prog 49 (.slice none 0 0):=by unfold EO;kernel_rfl
theorem DE:DI prog 49=true:=by kernel_rfl
theorem CB:DK prog 50 1:=by unfold DK;kernel_rfl
theorem B0:DI prog 50=true:=by kernel_rfl
theorem Ap:DK prog 52 3:=by unfold DK;kernel_rfl
theorem XT:Hv prog 52 56:=by unfold Hv;kernel_rfl
theorem CU:EO prog 52 (.agg #[(.int .i64 0),(.slice none 0 0),(.slice none 0 0)]):=by unfold EO;kernel_rfl
theorem BC:HR prog 52=true:=by kernel_rfl
theorem Ld:DK prog 66 1:=by unfold DK;kernel_rfl
theorem XS:Hv prog 66 24:=by unfold Hv;kernel_rfl
theorem Pr:EO prog 66 (.slice none 0 0):=by unfold EO;kernel_rfl
theorem Mp:DI prog 66=true:=by kernel_rfl
theorem BA:DK prog 74 2:=by unfold DK;kernel_rfl
theorem HN:Hv prog 74 16:=by unfold Hv;kernel_rfl
theorem C8:EO prog 74 (.agg #[(.int .i64 0),(.int .i64 0)]):=by unfold EO;kernel_rfl
theorem EM:HR prog 74=true:=by kernel_rfl
theorem Vl:DK prog 162 1:=by unfold DK;kernel_rfl
theorem Vc:EO prog 162 (.slice none 0 0):=by unfold EO;kernel_rfl
theorem Mq:DI prog 162=true:=by kernel_rfl
theorem Rw:DK prog 202 1:=by unfold DK;kernel_rfl
theorem QJ:DI prog 202=true:=by kernel_rfl
theorem DQ:DK prog 204 2:=by unfold DK;kernel_rfl
theorem WO:Hv prog 204 24:=by unfold Hv;kernel_rfl
theorem I2:EO prog 204 (.agg #[(.int .i64 0),(.string ByteArray.empty)]):=by unfold EO;kernel_rfl
theorem GP:HR prog 204=true:=by kernel_rfl
theorem Vk:DK prog 206 1:=by unfold DK;kernel_rfl
theorem Vb:EO prog 206 .nilFunc:=by unfold EO;kernel_rfl
theorem QI:DI prog 206=true:=by kernel_rfl
theorem Vj:DK prog 217 1:=by unfold DK;kernel_rfl
theorem Va:EO prog 217 .nilFunc:=by unfold EO;kernel_rfl
theorem QH:DI prog 217=true:=by kernel_rfl
theorem Vi:DK prog 226 1:=by unfold DK;kernel_rfl
theorem VZ:EO prog 226 .nilFunc:=by unfold EO;kernel_rfl
theorem J1:DI prog 226=true:=by kernel_rfl
theorem mixed:prog.follows .mixedOrders=true:=by kernel_rfl
end Go.Proofs
namespace Go.Eng
open Go
def BY (l:List (Int×Int)) (r:Int):Bool:=l.any λs=>decide (s.1<=r) && decide (r<=s.2)
theorem A9 {w:World} {base e size n:Nat} {v:Value} {xs:List Value} (h:w.ownsRow base e size v n xs):∃a c,v=.slice a n c:=by
 rcases h.2 with ⟨rfl,rfl⟩|⟨g,cap,cur,rfl,_⟩
 .exact ⟨_,_,O⟩
 .exact ⟨_,_,O⟩
theorem Ax {M:Nat->Prop} {w w':World} {base e size n:Nat} {v:Value} {xs:List Value} (h:w.ownsRow base e size v n xs) (c:Chg M w w') (f:∀k,v.ownBlock=some k->¬M k):w'.ownsRow base e size v n xs:=by
 refine ⟨h.1,?_⟩;rcases h.2 with d|⟨g,cap,b,rfl,hb,a,rest⟩
 .exact .inl d
 .refine .inr ⟨g,cap,b,O,hb,?_,rest⟩;rw[c.blk g (Array.getElem?_eq_some_iff.1 a).1 (f g O)];exact a
theorem P4 {w:World} {base e size n m cap:Nat} {a:Option Addr} {xs:List Value} (h:w.ownsRow base e size (.slice a n cap) n xs) (l:m<=n) (h0:0<n):w.ownsRow base e size (.slice a m cap) m (xs.take (m*size)):=by
 rcases h.2 with ⟨h1,rfl⟩|⟨g,cap',f,k,hb,d,hnc,c,i,b⟩
 .omega
 .simp only[Value.slice.injEq] at k;obtain ⟨rfl,_,rfl⟩:=k;have j:m*size<=n*size:=Nat.mul_le_mul_right _ l;refine ⟨by rw[List.length_take,h.1];omega,.inr ⟨g,cap,f,O,hb,d,qO,c,i,?_⟩⟩;rw[<-b,List.take_take,Nat.min_eq_left j]
theorem Aj {w w':World} {base e size n:Nat} {v:Value} {xs:List Value} (h:w.ownsRow base e size v n xs) (c:Ao w w'):w'.ownsRow base e size v n xs:=Ax h c λ_ _ f=>f
theorem Bj {w:World} {base e size n:Nat} {a:Option Addr} {c:Nat} {xs:List Value} (h:w.ownsRow base e size (.slice a n c) n xs) (hn:0<n) :
 ∃g,a=some ⟨g,0,none⟩∧base<=g∧A' w g 0 xs:=by
 rcases h.2 with ⟨h1,rfl⟩|⟨g,cap,cur,b,hb,hgg,_,_,_,htake⟩
 .omega
 .simp only[Value.slice.injEq] at b;obtain ⟨rfl,_,rfl⟩:=b;refine ⟨g,O,hb,λi v b=>?_⟩;have:=h.cells (g:=g) O i v b
  rwa [Addr.add_lit] at this
theorem DY {w:World} {base e k n:Nat} {v:Value} {rows:List (List Value)} (h:w.ownsRow base e k v n rows.flatten) (o:∀r∈rows,r.length=k) (l:rows.length=n) (hpos:0<k):BL w k v rows:=by
 obtain ⟨y,s⟩:=h;rcases s with ⟨rfl,rfl⟩|⟨g,cap,cur,rfl,hb,c,hnc,f,hcs,a⟩
 .have:rows=[]:=List.eq_nil_of_length_eq_zero l;subst this;exact BL.nil w k _ _
 .refine ⟨_,cap,by rw[l],by simp only[maxLen] at f;omega,qO,.inr ⟨g,0,O,λi r b j u q=>?_⟩⟩;have d:(rows.flatten)[i*k+j]?=some u:=by
   clear a c y l
   induction rows generalizing i with
   | nil=>simp at b
   | cons x rs ih=>
    have p:x.length=k:=o x qP;cases i with
    | zero=>
     simp at b;subst b;have t:=AI q;simp only[List.flatten_cons,Nat.zero_mul,Nat.zero_add];rw[List.getElem?_append_left t];exact q
    | succ i=>
     simp at b;simp only[List.flatten_cons];rw[List.getElem?_append_right (by rw[p,Nat.succ_mul];omega)];rw[show (i+1)*k+j - x.length=i*k+j from by rw[p,Nat.succ_mul];omega];exact ih (λr b=>o r (by simp[b])) _ b
  rw[<-a] at d;have m:i*k+j<n*k:=by
   have:=AI d;simp at this;omega
  rw[List.getElem?_take_of_lt m] at d;show w.cell? ⟨g,0+i*k+j,none⟩=some u;rw[Nat.zero_add];simp only[World.cell?,c];simpa using d
theorem It {P:Program} {w w':World} {base t ty e size bytes n m c:Nat} {i:TypeInfo} {z v v':Value} {xs news:List Value} {a:Addr} (G:P.underlying t=some (.slice e)) (hi:P.info? e=some i) (H:i.zero=some z) (o:i.size=size) (y:i.bytes=bytes) (E:z.cells.size=size) (D:0<size)
 (f:w.ownsRow base e size v n xs) (B:news.length=m*size) (b:∀j u,news[j]?=some u->w.cell? (a.add j)=some u) (I:∀u∈news,u.oneCell'=true) (x:n+m<=maxLen) (d:(n+m)*bytes<=140737488355328)
 (q:(Builtin.append_ #[t,t] ty #[v,.slice (some a) m c]).run P w=.ok v' w'):∀k,v'.ownBlock=some k->v.ownBlock=some k∨w.heap.size<=k:=by
 rcases f.2 with ⟨rfl,rfl⟩|⟨g,cap,A,rfl,hbg,J,hnc,hcm,C,htake⟩
 .have K:xs=[]:=List.eq_nil_of_length_eq_zero (by simpa using f.1);subst K;obtain ⟨v2,w2,l,F,_⟩:=run_append_own (P:=P) w w.heap.size t ty e i z size bytes G hi H o y E D (.slice none 0 0) 0 [] (World.ownsRow_nil w w.heap.size e size) a m c news B b I x d (Nat.le_refl _);rw[l] at q;cases q;intro k s;exact .inr (F.lt k s).1
 .have hsmall:n+m<=9223372036854775807:=by simp only[maxLen] at x;omega
  subst o;subst y
  by_cases h:n+m<=cap
  .have r:n*i.size+news.length<=A.size:=by rw[B,C,<-Nat.add_mul];exact Nat.mul_le_mul_right _ h
   have l:=run_append_room (P:=P) w t ty e i G hi g n cap A J a m c news B b I h r;rw[l] at q;cases q;intro k s;exact .inl s
  .have p:∀j u,xs[j]?=some u->w.cell? ((⟨g,0,none⟩:Addr).add j)=some u:=f.cells (g:=g) O;have l:=run_append_grow (P:=P) w t ty e i z G hi H ⟨g,0,none⟩ n cap xs f.1 p a m c news B b qO qO (growslice_fits qO d);rw[l] at q;cases q;intro k s;simp only[Value.ownBlock,Option.some.injEq] at s;exact .inr qO
theorem Iu {P:Program} {w w':World} {base t ty e size bytes n m c:Nat} {i:TypeInfo} {z v v':Value} {xs news:List Value} {a:Addr} (x:P.underlying t=some (.slice e)) (hi:P.info? e=some i) (C:i.zero=some z) (p:i.size=size) (B:i.bytes=bytes)
 (k:w.ownsRow base e size v n xs) (s:news.length=m*size) (b:∀j u,news[j]?=some u->w.cell? (a.add j)=some u) (G:∀u∈news,u.oneCell'=true) (A:n+m<=maxLen) (d:(n+m)*bytes<=140737488355328)
 (l:(Builtin.append_ #[t,t] ty #[v,.slice (some a) m c]).run P w=.ok v' w'):w.drawn<=w'.drawn:=by
 have hsmall:n+m<=9223372036854775807:=by simp only[maxLen] at A;omega
 subst p;subst B
 rcases k.2 with ⟨rfl,rfl⟩|⟨g,cap,r,rfl,hbg,E,hnc,hcm,y,htake⟩
 .by_cases F:m=0
  .subst F;have D:(Builtin.append_ #[t,t] ty #[.slice none 0 0,.slice (some a) 0 c]).run P w=.ok (.slice none 0 0) w:=by
    simp[Builtin.append_,run_underlying x,sizeOf,typeInfo,hi,Builtin.lenOf,Builtin.firstCells,loadCells,loadCellsFrom]
   rw[D] at l;cases l;exact Nat.le_refl _
  .have h:=run_append_nil (P:=P) w t ty e i z x hi C a m c news s b qO qO (by have hb:=d;simp only[Nat.zero_add] at hb;omega);rw[h] at l;cases l;exact Nat.le_succ _
 .by_cases f:n+m<=cap
  .have q:n*i.size+news.length<=r.size:=by rw[s,y,<-Nat.add_mul];exact Nat.mul_le_mul_right _ f
   have h:=run_append_room (P:=P) w t ty e i x hi g n cap r E a m c news s b G f q;rw[h] at l;cases l;exact Nat.le_refl _
  .have o:∀j u,xs[j]?=some u->w.cell? ((⟨g,0,none⟩:Addr).add j)=some u:=k.cells (g:=g) O;have h:=run_append_grow (P:=P) w t ty e i z x hi C ⟨g,0,none⟩ n cap xs k.1 o a m c news s b qO qO (growslice_fits qO d);rw[h] at l;cases l;exact Nat.le_succ _
theorem BT {P:Program} {N:Nat} {Q:Dj} {σ:CN} {w:World} {K:CN->World->Prop} {ops:Array Oper} {rest:List Oper} {d:Nat} {ty:TypeId} {pos:String} {af:Array Edge} {t:TypeId} {s x:Operand}
 {base e size bytes n m c F E:Nat} {z v:Value} {xs news:List Value} (J:d<N) (D:P.underlying t=some (.slice e)) (f:DK P e size) (l:Hv P e bytes) (r:EO P e z) (B:z.cells.size=size) (I:0<size)
 (hs:ev σ s=v) (o:w.ownsRow base e size v n xs) (R:ev σ x=.slice (some ⟨F,E,none⟩) m c) (H:news.length=m*size) (g:A' w F E news) (G:∀u∈news,u.oneCell'=true)
 (q:n+m<=maxLen) (a:(n+m)*bytes<=140737488355328) (p:base<=w.heap.size)
 (k:∀v' w',w'.ownsRow base e size v' (n+m) (xs++news)->Chg (λx=>v.ownBlock=some x) w w'->(∀k,v'.ownBlock=some k->v.ownBlock=some k∨w.heap.size<=k)->DW P N ops K Q rest (E4 σ d v') w') :
 DW P N ops K Q (⟨some d,.call ⟨.builtin .append,#[s,x],#[t,t]⟩,ty,pos,af,none⟩::rest) σ w:=by
 unfold DK at f;unfold Hv at l;unfold EO at r;cases hi:P.info? e with
 | none=>rw[hi] at f;simp at f
 | some i=>
 rw[hi] at f l r;simp at f l r;obtain ⟨v',w',C,L,y,_⟩:=run_append_own (P:=P) w base t ty e i z size bytes D hi r f l B I v n xs o ⟨F,E,none⟩ m c news H (λj u A=>by rw[Addr.add_lit];exact g j u A) G q a p;refine B_ (v:=v') (w':=w') O O J ?_ (k v' w' L ⟨y.os,y.tape,y.output,Iu (P:=P) D hi r f l o H (λj u A=>by rw[Addr.add_lit];exact g j u A) G q a C,y.size,λb hb M=>y.block b hb (λh=>M h.symm)⟩ (It (P:=P) D hi r f l B I o H (λj u A=>by rw[Addr.add_lit];exact g j u A) G q a C));simp[execOp,resolve,invoke,builtin,hs,R,C]
end Go.Eng
namespace Go.Eng
open Go
abbrev El:=Value->World->Prop
def LF (F:El):Prop:=∀v w w',Ao w w'->F v w->F v w'
inductive Fact where
  | eq (v:Value)
  | re (t:Re)
  | res (ts:List Re)
  | gen (F:El) (h:LF F)
def Fact.In:Fact->El
  | .eq u,v,_=>v=u
  | .re t,v,w=>∃vs,v=.agg vs.toArray∧BR w t vs
  | .res ts,v,w=>∃b,v=.slice (some ⟨b,0,none⟩) ts.length ts.length∧C4 w b 0 ts
  | .gen F _,v,w=>F v w
theorem Fact.ext {F:Fact} {v:Value} {w w':World} (h:F.In v w) (e:Ao w w'):F.In v w':=by
 cases F with
 | eq u=>exact h
 | re t=>obtain ⟨vs,c,a⟩:=h;exact ⟨vs,c,BR.ext e t a⟩
 | res ts=>obtain ⟨b,c,a⟩:=h;exact ⟨b,c,C4.ext e ts a⟩
 | gen F hF=>exact hF _ _ _ e h
def VD (P:Program) (N:Nat) (o:Oper) (R:El) (σ:CN) (w:World):Prop:=
 ∀dz a,Ok dz N a->DO a=σ->∀(Q:Exit->Act->World->Prop) (K:Act->World->Prop),(∀v w',Ao w w'->R v w'->K (a.put o.dst v) w')->o.wp P a w K Q
def Holds (ds:List Nat) (Fs:List Fact) (j:Nat) (σ:CN) (w:World):Prop:=∀d F,ds[j]?=some d->Fs[j]?=some F->F.In (σ d) w
def I1 (ds:List Nat) (o:Oper) (σ:CN):Prop:=∀j b,o.guard=some (j,b)->∃d,ds[j]?=some d∧σ d=.bool b
def QZ (ds:List Nat) (o:Oper) (σ:CN):Prop:=∃j b d,o.guard=some (j,b)∧ds[j]?=some d∧(σ d=.bool (!b)∨σ d=undef)
theorem Gk {ds:List Nat} {o:Oper} {σ:CN} {j:Nat} {b:Bool} {d:Nat} (h:o.guard=some (j,b)) (hd:ds[j]?=some d) (a:σ d=.bool (!b)∨σ d=undef):QZ ds o σ:=⟨j,b,d,h,hd,a⟩
section
variable {P : Program} {N : Nat} {o : Oper} {R : El} {σ : CN} {w : World}
theorem A1 {v:Value} {w':World} (b:(execOp (ev σ) o).run P w=.ok (.value v) w') (c:Ao w w') (h:R v w'):VD P N o R σ w:=by
 intro dz a ha e Q K d;unfold Oper.wp;rw[Cr,e,b];simp only[Oper.upon];exact d _ _ c h
theorem Dt {f:FuncId} {args:Array Value} (b:(execOp (ev σ) o).run P w=.ok (.enter f args) w) (g:CJ P f args w λv w'=>R v w'∧Ao w w'):VD P N o R σ w:=by
 intro dz a ha d Q K c;unfold Oper.wp;rw[Cr,d,b];simp only[Oper.upon];refine Calls.mono g ?_;rintro e w' ⟨v,rfl,r,x⟩;exact c _ _ x r
theorem AQ {ds:List Nat} (h:o.guard=none):I1 ds o σ:=λj b a=>by rw[h] at a;cases a
theorem Dz {ds:List Nat} {j:Nat} {b:Bool} {d:Nat} (h:o.guard=some (j,b)) (hd:ds[j]?=some d) (c:σ d=.bool b):I1 ds o σ:=λj' b' a=>by
 rw[h] at a;cases a;exact ⟨d,hd,c⟩
end
def F0 (N i:Nat) (o:Oper) (d:Nat) (ws:List Nat):Bool:=
 (match o.dst with|some d'=>Nat.beq d' d|none=>false) && Nat.blt d N && (o.after.all λe=>!Region.binds .any e || Nat.blt e.on i) && ws.all λj=>o.after.any λe=>Region.binds .any e && Nat.beq e.on j
def Jq (N:Nat):Nat->List Oper->List Nat->List (List Nat)->Bool
  | _,[],[],[]=>true
  | i,o::l,d::ds,ws::wss=>F0 N i o d ws && Jq N (i+1) l ds wss
  | _,_,_,_=>false
def Gr:List Nat->Bool
  | []=>true
  | d::ds=>!ds.contains d && Gr ds
theorem Cz:∀{ds:List Nat},Gr ds=true->∀{i j d:Nat},ds[i]?=some d->ds[j]?=some d->i=j
 | [],_,i,_,_,h,_=>by simp at h
 | x::ds,hn,i,j,d,hi,hj=>by
  simp only[Gr,Bool.and_eq_true,Bool.not_eq_true',List.contains_eq_mem,decide_eq_false_iff_not] at hn;cases i with
  | zero=>
   cases j with
   | zero=>rfl
   | succ j=>simp at hi hj;subst hi;exact absurd (List.mem_of_getElem? hj) hn.1
  | succ i=>
   cases j with
   | zero=>simp at hi hj;subst hj;exact absurd (List.mem_of_getElem? hi) hn.1
   | succ j=>simp at hi hj;rw[Cz hn.2 hi hj]
theorem HK {N:Nat}:∀{i:Nat} {l:List Oper} {ds:List Nat} {wss:List (List Nat)},Jq N i l ds wss=true->∀{j:Nat} {o:Oper},l[j]?=some o->∃d ws,ds[j]?=some d∧wss[j]?=some ws∧F0 N (i+j) o d ws=true
 | _,[],_,_,_,j,o,h=>by simp at h
 | i,x::l,[],_,hB,_,_,_=>by simp[Jq] at hB
 | i,x::l,d::ds,[],hB,_,_,_=>by simp[Jq] at hB
 | i,x::l,d::ds,ws::wss,hB,j,o,h=>by
  simp only[Jq,Bool.and_eq_true] at hB;cases j with
  | zero=>simp at h;subst h;exact ⟨d,ws,O,O,hB.1⟩
  | succ j=>
   simp at h;obtain ⟨f,a,e,c,b⟩:=HK hB.2 h;exact ⟨f,a,by simpa using e,by simpa using c,by rw[show i+(j+1)=i+1+j from qO];exact b⟩
theorem Og {N:Nat}:∀{i:Nat} {l:List Oper} {ds:List Nat} {wss:List (List Nat)},Jq N i l ds wss=true->ds.length=l.length
 | _,[],[],[],_=>rfl
 | _,[],[],_::_,hB=>by simp[Jq] at hB
 | _,[],_::_,_,hB=>by simp[Jq] at hB
 | i,x::l,[],_,hB=>by simp[Jq] at hB
 | i,x::l,d::ds,[],hB=>by simp[Jq] at hB
 | i,x::l,d::ds,ws::wss,hB=>by
  simp only[Jq,Bool.and_eq_true] at hB;simp[Og hB.2]
def J2 (P:Program) (N:Nat) (ds:List Nat) (Fs:List Fact) (σ:CN) (w:World) (o:Oper) (ws:List Nat) (F:Fact):Prop:=
 ∀σ' w',Ao w w'->(∀t,ds.contains t=false->σ' t=σ t)->(∀j,ws.contains j=true->Holds ds Fs j σ' w')->(I1 ds o σ'∧VD P N o F.In σ' w')∨(QZ ds o σ'∧F.In undef w')
inductive DagSteps (P:Program) (N:Nat) (ds:List Nat) (Fs:List Fact) (σ:CN) (w:World):List Oper->List (List Nat)->List Fact->Prop where
  | nil:DagSteps P N ds Fs σ w [] [] []
  | cons {o:Oper} {ws:List Nat} {F:Fact} {l:List Oper} {wss:List (List Nat)} {Gs:List Fact}:J2 P N ds Fs σ w o ws F->DagSteps P N ds Fs σ w l wss Gs->DagSteps P N ds Fs σ w (o::l) (ws::wss) (F::Gs)
theorem DagSteps.get {P:Program} {N:Nat} {ds:List Nat} {d:List Fact} {σ:CN} {w:World}:∀{l:List Oper} {wss:List (List Nat)} {e:List Fact},DagSteps P N ds d σ w l wss e->∀{j:Nat} {o:Oper},l[j]?=some o->∃ws F,wss[j]?=some ws∧e[j]?=some F∧J2 P N ds d σ w o ws F
 | _,_,_,.nil,j,o,h=>by simp at h
 | _,_,_,.cons h1 h2,0,o,h=>by simp at h;subst h;exact ⟨_,_,O,O,h1⟩
 | _,_,_,.cons h1 h2,j+1,o,h=>by
  obtain ⟨ws,F,a,b,c⟩:=h2.get (j:=j) (by simpa using h);exact ⟨ws,F,by simpa using a,by simpa using b,c⟩
theorem LC {P:Program} {N:Nat} {Q:Dj} {σ:CN} {w:World} {id:Nat} {l:List Oper} (ds:List Nat) (wss:List (List Nat)) (Fs:List Fact) {Gs:List Fact} (hG:Fs=Gs) (hm:P.follows .mixedOrders=true) (hB:Jq N 0 l ds wss=true) (hn:Gr ds=true)
 (X:∀B,Ao w B->DagSteps P N ds Fs σ B l wss Gs)
 (k:∀σ' w',Ao w w'->(∀t,ds.contains t=false->σ' t=σ t)->(∀j,Holds ds Fs j σ' w')->Q .normal σ' w'):Wp P N (.region id l.toArray true) Q σ w:=by
 intro dz a y C;refine wp_region_any hm ?_;obtain ⟨B,ag⟩:∃B:World,B={w with drawn:=w.drawn+1}:=⟨_,O⟩;have ac:Ao w B:=by rw[ag];exact Ge w
 rw[<-ag];have af:=X B ac;rw[<-hG] at af;have hlen:=Og hB;have ao:∀(m:Nat) (listed:Array Bool) (a:Act) (w':World),listed.size=l.length->listed.toList.count false<=m->Ok dz N a->Ao B w'->(∀t,ds.contains t=false->DO a t=σ t)->(∀j,listed.getD j false=true->Holds ds Fs j (DO a) w')->
  wpAny P .any l.toArray (EN dz N Q) m listed a w':=by
  intro m;have M:∀(listed:Array Bool) (a:Act) (w':World),listed.size=l.length->Ok dz N a->Ao B w'->(∀t,ds.contains t=false->DO a t=σ t)->(∀j,listed.getD j false=true->Holds ds Fs j (DO a) w')->listed.toList.count false=0->EN dz N Q .normal a w':=by
   intro listed a w' hs y L T Z hc;refine ⟨y,k _ _ (ac.trans L) T λj=>?_⟩;intro d F hd hF;have g:j<listed.size:=by have:=AI hd;omega
   refine Z j ?_ d F hd hF;rw[List.count_eq_zero] at hc;have:listed[j]≠false:=λh=>hc (by rw[<-h];exact Array.getElem_mem_toList g);simp only[Array.getD_eq_getD_getElem?,Array.getElem?_eq_getElem g,Option.getD_some];simpa using this
  induction m with
  | zero=>
   intro listed a w' hs hc y L T Z;have J:listed.toList.count false=0:=qO
   refine ⟨?_,M listed a w' hs y L T Z J⟩;rw[List.eq_nil_iff_forall_not_mem];intro i hi;obtain ⟨h1,o,V,_⟩:=mem_ready.1 hi;have g:i<listed.size:=by have:=(Array.getElem?_eq_some_iff.1 V).1;simp at this;omega
   simp only[Array.getD_eq_getD_getElem?,Array.getElem?_eq_getElem g,Option.getD_some] at h1;rw[List.count_eq_zero] at J;exact J (by rw[<-h1];exact Array.getElem_mem_toList g)
  | succ m ih=>
   intro listed a w' hs hc y L T Z;refine ⟨λhr=>M listed a w' hs y L T Z ?_,λi hi=>?_⟩
   .-- none is ready: M are listed
    have aa:∀i,i<listed.size->listed.getD i true=true:=by
     intro i
     induction i using Nat.strongRecOn with
     | _ i ihi=>
      intro hi;cases hv:listed.getD i true with
      | true=>rfl
      | false=>
       exfalso;obtain ⟨o,ho⟩:=AL (l:=l) (i:=i) qO;obtain ⟨d,ws,_,_,h3⟩:=HK hB ho;have:i∈Region.ready .any l.toArray listed:=by
        refine mem_ready.2 ⟨hv,o,by simpa using ho,λe C hb=>?_⟩;simp only[F0,Bool.and_eq_true,Array.all_eq_true_iff_forall_mem,Bool.or_eq_true,Bool.not_eq_true',Nat.zero_add] at h3;have:=(h3.1.2 e C).resolve_left (by simp[hb]);have r:e.on<i:=by simpa[Nat.blt_eq] using this
        have h4:=ihi e.on r qO;have g:e.on<listed.size:=qO
        simpa only[Array.getD_eq_getD_getElem?,Array.getElem?_eq_getElem g,Option.getD_some] using h4
       rw[hr] at this;cases this
    rw[List.count_eq_zero];intro ae;obtain ⟨i,hi,C⟩:=List.getElem_of_mem ae;have g:i<listed.size:=by simpa using hi
    have:=aa i g;simp only[Array.getD_eq_getD_getElem?,Array.getElem?_eq_getElem g,Option.getD_some] at this;simp at C;rw[this] at C;cases C
   .obtain ⟨h1,o,V,h3⟩:=mem_ready.1 hi;have ho:l[i]?=some o:=by simpa using V
    have hil:i<l.length:=AI ho;obtain ⟨d,ws,hd,al,h4⟩:=HK hB ho;obtain ⟨ws',F,H,hF,R⟩:=af.get ho;rw[al] at H;cases H;simp only[F0,Bool.and_eq_true,List.all_eq_true,Array.any_eq_true',Array.all_eq_true_iff_forall_mem,Bool.or_eq_true,Bool.not_eq_true',Nat.zero_add] at h4;obtain ⟨⟨⟨q,U⟩,_⟩,W⟩:=h4;have q:o.dst=some d:=by
     split at q
     .rename_i I h;rw[h,Nat.eq_of_beq_eq_true q]
     .cases q
    have U:d<N:=by simpa[Nat.blt_eq] using U
    have hH:∀j,ws.contains j=true->Holds ds Fs j (DO a) w':=by
     intro j g;have ah:j∈ws:=by simpa using g
     obtain ⟨e,C,hb⟩:=W j ah;obtain ⟨ai,am⟩:=hb;have:e.on=j:=Nat.eq_of_beq_eq_true am;exact Z j (this▸h3 e C ai)
    have G:∀v w2,Ao w' w2->F.In v w2->wpAny P .any l.toArray (EN dz N Q) m (listed.setIfInBounds i true) (a.put o.dst v) w2:=by
     intro v w2 ad hv;have E:DO (a.put o.dst v)=E4 (DO a) d v:=by rw[q];exact Dx y U v
     refine ih _ _ _ (by simpa using hs) ?_ (y.put _ _) (L.trans ad) ?_ ?_
     .have ap:i<listed.toList.length:=by simp;omega
      have hl:listed.toList[i]=false:=by
       have g:i<listed.size:=qO
       simp only[Array.getD_eq_getD_getElem?,Array.getElem?_eq_getElem g,Option.getD_some] at h1;simpa using h1
      rw[Array.toList_setIfInBounds,List.count_set ap,hl,if_pos (by rfl),if_neg qD];omega
     .intro t ht;rw[E,<-T t ht];simp only[E4];cases hb:Nat.beq t d
      .rfl
      .exfalso;have:t=d:=Nat.eq_of_beq_eq_true hb;subst this;have:=List.mem_of_getElem? hd;simp[this] at ht
     .intro j g I F' D K;rw[E];by_cases S:j=i
      .subst S;rw[hd] at D;cases D;rw[hF] at K;cases K;simp only[E4,Nat.beq_refl,cond_true];exact hv
      .have an:Nat.beq I d=false:=by
        cases hb:Nat.beq I d
        .rfl
        .exfalso;have:I=d:=Nat.eq_of_beq_eq_true hb;subst this;exact S (Cz hn D hd)
       simp only[E4,an,cond_false];rw[getD_set_ne _ (Ne.symm S)] at g;exact Fact.ext (Z j g I F' D K) ad
    rcases R (DO a) w' L T hH with ⟨hg,aj⟩|⟨⟨j,b,z,u,A,s⟩,ab⟩
    .have hw:Region.wanted o (yielded l.toArray a.tmps)=true:=by
      cases u:o.guard with
      | none=>simp[Region.wanted,u]
      | some p=>
       obtain ⟨j,b⟩:=p;obtain ⟨z,A,s⟩:=hg j b u;obtain ⟨oj,x⟩:=AL (l:=l) (i:=j) (by have:=AI A;omega);obtain ⟨ak,_,n,_,h5⟩:=HK hB x;rw[A] at n;cases n;simp only[F0,Bool.and_eq_true] at h5;obtain ⟨⟨⟨c,f⟩,_⟩,_⟩:=h5;have c:oj.dst=some z:=by
        split at c
        .rename_i I h;rw[h,Nat.eq_of_beq_eq_true c]
        .cases c
       have f:z<N:=by simpa[Nat.blt_eq] using f
       have h6:a.tmps[z]?=some (Value.bool b):=by
        have V:a.tmps.getD z undef=.bool b:=s;have r:z<a.tmps.size:=by rw[y.size];exact f
        rw[Array.getElem?_eq_getElem r];simpa[r] using V
       simp[Region.wanted,u,yielded,x,c,h6]
     unfold wpOp;simp only[V,hw,if_true];exact Or.inl (aj _ a y O _ _ G)
    .have hw:Region.wanted o (yielded l.toArray a.tmps)=false:=by
      obtain ⟨oj,x⟩:=AL (l:=l) (i:=j) (by have:=AI A;omega);obtain ⟨ak,_,n,_,h5⟩:=HK hB x;rw[A] at n;cases n;simp only[F0,Bool.and_eq_true] at h5;obtain ⟨⟨⟨c,f⟩,_⟩,_⟩:=h5;have c:oj.dst=some z:=by
       split at c
       .rename_i I h;rw[h,Nat.eq_of_beq_eq_true c]
       .cases c
      have f:z<N:=by simpa[Nat.blt_eq] using f
      have r:z<a.tmps.size:=by rw[y.size];exact f
      have h6:a.tmps[z]?=some (DO a z):=by
       rw[Array.getElem?_eq_getElem r];simp[DO,r]
      rcases s with s|s
      .rw[s] at h6;cases b<;>simp[Region.wanted,u,yielded,x,c,h6]
      .rw[s] at h6;simp[Region.wanted,u,yielded,x,c,h6,undef]
     unfold wpOp;simp only[V,hw,Bool.false_eq_true,if_false];exact G undef w' (Ao.refl _) ab
 refine ao _ _ _ _ qP qP y (Ao.refl _) (λt _=>by rw[C]) ?_;intro j g;exfalso;simp only[Array.getD_eq_getD_getElem?,Array.getElem?_replicate] at g;split at g<;>simp at g
theorem LL {x a:Value} (h:x=a):[x]=[a]:=by rw[h]
theorem JD {x y a b:Value} (h:x=a) (c:y=b):[x,y]=[a,b]:=by rw[h,c]
theorem Qz {x y z a b c:Value} (h:x=a) (e:y=b) (d:z=c):[x,y,z]=[a,b,c]:=by rw[h,e,d]
theorem Xh {x y z u a b c d:Value} (h:x=a) (f:y=b) (e:z=c) (g:u=d):[x,y,z,u]=[a,b,c,d]:=by rw[h,f,e,g]
section
variable {P : Program} {N : Nat} {σ : CN} {w : World} {dst : Option Tmp} {ty : TypeId} {pos : String} {af : Array Edge} {g : Option (Nat × Bool)} {t : TypeId} {x y : Operand}
theorem FR {e:TypeId} {len n:Nat} {z:Value} {parts:List (Nat×Operand)} {ps:List (Nat×Value)} {c:Array Value} (a:(parts.map λ(i,x)=>(i,ev σ x))=ps) (h:P.underlying t=some (.slice e)) (hs:DK P e n) (d:EO P e z) (f:¬(len*n > 2 ^ 24)) (b:len*n≠0)
 (j:Instr.fill (λi=>some (i*n,n)) ((Array.range (len*n)).map (z.cells[· % z.cells.size]!)) ps=some c) :
 (execOp (ev σ) ⟨dst,.buildSlice t len parts.toArray,ty,pos,af,g⟩).run P w=.ok (.value (.slice (some ⟨w.heap.size,0,none⟩) len len)) {w with heap:=w.heap.push (.cells c e (0,0))}:=by
 subst a;simp only[execOp,Instr.buildSlice,List.map_toArray,Sem.run_bind,run_underlying h,Result.andThen_ok,hs.run,f,b,if_false,Sem.run_pure,d.run,j];simp[newRow]
end
end Go.Eng
namespace Go.Eng
open Go
inductive FactT (M:Nat->Prop) where
  | eq (v:Value)
  | gen (F:El) (h:∀v w w',Chg M w w'->F v w->F v w')
  | own (F:El) (h:∀v w w',Ao w w'->F v w->F v w')
  | till (F:El) (h:∀v w w',Ao w w'->F v w->F v w')
def FactT.In {M:Nat->Prop}:FactT M->El
  | .eq u,v,_=>v=u
  | .gen F _,v,w=>F v w
  | .own F _,v,w=>F v w
  | .till F _,v,w=>F v w
def FactT.At {M:Nat->Prop} (done:Bool):FactT M->El
  | .till F _,v,w=>done=false->F v w
  | F,v,w=>F.In v w
theorem FactT.at_in {M:Nat->Prop} {F:FactT M} {v:Value} {w:World} (h:F.In v w) (a:Bool):F.At a v w:=by
 cases F<;>first|exact h|exact λ_=>h
theorem FactT.at_false {M:Nat->Prop} {F:FactT M} {v:Value} {w:World} (h:F.At false v w):F.In v w:=by
 cases F<;>first|exact h|exact h O
def FactT.isOwn {M:Nat->Prop}:FactT M->Bool
  | .own _ _=>true
  | _=>false
theorem FactT.chg {M:Nat->Prop} {F:FactT M} {v:Value} {w w':World} {a:Bool} (h:F.At a v w) (e:Chg M w w') (b:F.isOwn=false):F.At true v w':=by
 cases F with
 | eq u=>exact h
 | gen F hF=>exact hF _ _ _ e h
 | own F hF=>cases b
 | till F hF=>intro hd;cases hd
theorem FactT.ext {M:Nat->Prop} {F:FactT M} {v:Value} {w w':World} {a:Bool} (h:F.At a v w) (e:Ao w w'):F.At a v w':=by
 cases F with
 | eq u=>exact h
 | gen F hF=>exact hF _ _ _ (Ao.chg e) h
 | own F hF=>exact hF _ _ _ e h
 | till F hF=>exact λhd=>hF _ _ _ e (h hd)
def SM {M:Nat->Prop} (c:Nat):Nat->List (FactT M)->Bool
  | _,[]=>true
  | i,F::l=>(!F.isOwn || Nat.beq i c) && SM c (i+1) l
theorem OB {M:Nat->Prop} {c:Nat}:∀{i:Nat} {l:List (FactT M)},SM c i l=true->∀{j:Nat} {F:FactT M},l[j]?=some F->i+j≠c->F.isOwn=false
 | _,[],_,_,_,h,_=>by simp at h
 | i,G::l,hB,0,F,h,hne=>by
  simp at h;subst h;simp only[SM,Bool.and_eq_true,Bool.or_eq_true,Bool.not_eq_true'] at hB;rcases hB.1 with h|h
  .exact h
  .exact absurd (Nat.eq_of_beq_eq_true h) hne
 | i,G::l,hB,j+1,F,h,hne=>by
  simp only[SM,Bool.and_eq_true] at hB;simp at h;exact OB hB.2 h qO
def Cs (M:Nat->Prop) (P:Program) (N:Nat) (o:Oper) (R:El) (σ:CN) (w:World):Prop:=
 ∀dz a,Ok dz N a->DO a=σ->∀(Q:Exit->Act->World->Prop) (K:Act->World->Prop),(∀v w',Chg M w w'->R v w'->K (a.put o.dst v) w')->o.wp P a w K Q
def NB {M:Nat->Prop} (ds:List Nat) (Fs:List (FactT M)) (done:Bool) (j:Nat) (σ:CN) (w:World):Prop:=∀d F,ds[j]?=some d->Fs[j]?=some F->F.At done (σ d) w
section
variable {M : Nat → Prop} {P : Program} {N : Nat} {o : Oper} {R : El} {σ : CN} {w : World}
theorem AY {v:Value} {w':World} (b:(execOp (ev σ) o).run P w=.ok (.value v) w') (c:Chg M w w') (h:R v w'):Cs M P N o R σ w:=by
 intro dz a ha e Q K d;unfold Oper.wp;rw[Cr,e,b];simp only[Oper.upon];exact d _ _ c h
theorem Po {w':World} (b:(execOp (ev σ) o).run P w=.ok .skip w') (c:Chg M w w') (h:R undef w'):Cs M P N o R σ w:=by
 intro dz a ha e Q K d;unfold Oper.wp;rw[Cr,e,b];simp only[Oper.upon];exact d _ _ c h
theorem Dv {f:FuncId} {args:Array Value} (b:(execOp (ev σ) o).run P w=.ok (.enter f args) w) (g:CJ P f args w λv w'=>R v w'∧Chg M w w'):Cs M P N o R σ w:=by
 intro dz a ha d Q K c;unfold Oper.wp;rw[Cr,d,b];simp only[Oper.upon];refine Calls.mono g ?_;rintro e w' ⟨v,rfl,r,x⟩;exact c _ _ x r
end
def GH (N i:Nat) (o:Oper) (d:Nat) (ws:List Nat):Bool:=
 (match o.dst with|some d'=>Nat.beq d' d && Nat.blt d N|none=>Nat.ble N d) && (o.after.all λe=>!Region.binds .any e || Nat.blt e.on i) && (ws.all λj=>o.after.any λe=>Region.binds .any e && Nat.beq e.on j) && o.guard.isNone
def Gg (N:Nat):Nat->List Oper->List Nat->List (List Nat)->Bool
  | _,[],[],[]=>true
  | i,o::l,d::ds,ws::wss=>GH N i o d ws && Gg N (i+1) l ds wss
  | _,_,_,_=>false
theorem EL {N:Nat}:∀{i:Nat} {l:List Oper} {ds:List Nat} {wss:List (List Nat)},Gg N i l ds wss=true->∀{j:Nat} {o:Oper},l[j]?=some o->∃d ws,ds[j]?=some d∧wss[j]?=some ws∧GH N (i+j) o d ws=true
 | _,[],_,_,_,j,o,h=>by simp at h
 | i,x::l,[],_,hB,_,_,_=>by simp[Gg] at hB
 | i,x::l,d::ds,[],hB,_,_,_=>by simp[Gg] at hB
 | i,x::l,d::ds,ws::wss,hB,j,o,h=>by
  simp only[Gg,Bool.and_eq_true] at hB;cases j with
  | zero=>simp at h;subst h;exact ⟨d,ws,O,O,hB.1⟩
  | succ j=>
   simp at h;obtain ⟨f,a,e,c,b⟩:=EL hB.2 h;exact ⟨f,a,by simpa using e,by simpa using c,by rw[show i+(j+1)=i+1+j from qO];exact b⟩
theorem JR {N:Nat}:∀{i:Nat} {l:List Oper} {ds:List Nat} {wss:List (List Nat)},Gg N i l ds wss=true->ds.length=l.length
 | _,[],[],[],_=>rfl
 | _,[],[],_::_,hB=>by simp[Gg] at hB
 | _,[],_::_,_,hB=>by simp[Gg] at hB
 | i,x::l,[],_,hB=>by simp[Gg] at hB
 | i,x::l,d::ds,[],hB=>by simp[Gg] at hB
 | i,x::l,d::ds,ws::wss,hB=>by
  simp only[Gg,Bool.and_eq_true] at hB;simp[JR hB.2]
def Ji (c:Nat) (wss:List (List Nat)) (i:Nat):Bool:=Nat.beq i c || (wss.getD c []).contains i
def valOf (o:Oper) (v:Value):Value:=match o.dst with
  | some _=>v
  | none=>undef
def Ox {M:Nat->Prop} (P:Program) (N:Nat) (ds:List Nat) (Fs:List (FactT M)) (σ:CN) (w:World) (own calm:Bool) (o:Oper) (ws:List Nat) (F:FactT M):Prop:=
 ∀σ' w',Chg (bif calm then AZ else M) w w'->(∀t,ds.contains t=false->σ' t=σ t)->(∀j,ws.contains j=true->NB ds Fs (!calm) j σ' w')->Cs (bif own then M else AZ) P N o (λv w=>F.In (Go.Eng.valOf o v) w) σ' w'
inductive DagStepsT {M:Nat->Prop} (P:Program) (N:Nat) (ds:List Nat) (Fs:List (FactT M)) (σ:CN) (w:World) (c:Nat) (all:List (List Nat)):Nat->List Oper->List (List Nat)->List (FactT M)->Prop where
  | nil {i:Nat}:DagStepsT P N ds Fs σ w c all i [] [] []
  | cons {i:Nat} {o:Oper} {ws:List Nat} {F:FactT M} {l:List Oper} {wss:List (List Nat)} {Gs:List (FactT M)}:Ox P N ds Fs σ w (Nat.beq i c) (Ji c all i) o ws F->DagStepsT P N ds Fs σ w c all (i+1) l wss Gs->DagStepsT P N ds Fs σ w c all i (o::l) (ws::wss) (F::Gs)
theorem DagStepsT.get {M:Nat->Prop} {P:Program} {N:Nat} {ds:List Nat} {e:List (FactT M)} {σ:CN} {w:World} {c:Nat} {d:List (List Nat)}:∀{i:Nat} {l:List Oper} {wss:List (List Nat)} {f:List (FactT M)},DagStepsT P N ds e σ w c d i l wss f->∀{j:Nat} {o:Oper},l[j]?=some o->∃ws F,wss[j]?=some ws∧f[j]?=some F∧Ox P N ds e σ w (Nat.beq (i+j) c) (Ji c d (i+j)) o ws F
 | _,_,_,_,.nil,j,o,h=>by simp at h
 | _,_,_,_,.cons h1 h2,0,o,h=>by simp at h;subst h;exact ⟨_,_,O,O,h1⟩
 | i,_,_,_,.cons h1 h2,j+1,o,h=>by
  obtain ⟨ws,F,a,b,c⟩:=h2.get (j:=j) (by simpa using h);exact ⟨ws,F,by simpa using a,by simpa using b,by rw[show i+(j+1)=i+1+j from qO];exact c⟩
def Ew (n m:Nat):Array Bool:=(List.replicate n true++List.replicate (m - n) false).toArray
theorem HL {l:List Bool} {n i:Nat} (hi:i<n) (hl:n<=l.length) (c:l[i]?=some false):((l.set i true).take n).count false+1=(l.take n).count false:=by
 have a:i<(l.take n).length:=by simp;omega
 rw[List.take_set,List.count_set a];have:(l.take n)[i]=false:=by
  have b:(l.take n)[i]?=some false:=by rw[List.getElem?_take_of_lt hi];exact c
  rw[List.getElem?_eq_getElem a] at b;simpa using b
 rw[this,if_pos (by rfl),if_neg qD];have:0<(l.take n).count false:=by
  rw[List.count_pos_iff];rw[<-this];exact List.getElem_mem a
 omega
theorem OX {l:List Bool} {n:Nat} (hl:n<=l.length) (b:(l.take n).count false=0) (c:∀t,n<=t->t<l.length->l[t]?=some false):l=List.replicate n true++List.replicate (l.length - n) false:=by
 apply List.ext_getElem?;intro i;rcases Nat.lt_or_ge i n with h|h
 .rw[List.getElem?_append_left (by simpa using h),List.getElem?_replicate,if_pos h];have hi:i<l.length:=qO
  rw[List.getElem?_eq_getElem hi];cases hv:l[i] with
  | true=>rfl
  | false=>
   exfalso;rw[List.count_eq_zero] at b;apply b;have:(l.take n)[i]?=some false:=by rw[List.getElem?_take_of_lt h,List.getElem?_eq_getElem hi,hv]
   exact List.mem_of_getElem? this
 .rw[List.getElem?_append_right (by simpa using h),List.getElem?_replicate,List.length_replicate];rcases Nat.lt_or_ge i l.length with a|a
  .rw[if_pos qO,c i h a]
  .rw[if_neg qO,List.getElem?_eq_none a]
theorem Iz {P:Program} {N:Nat} {Q:Dj} {σ:CN} {w:World} {id:Nat} {l:List Oper} (M:Nat->Prop) (n c:Nat) (ds:List Nat) (wss:List (List Nat)) (Fs:List (FactT M)) {Gs:List (FactT M)} (hG:Fs=Gs) (hO:SM c 0 Gs=true) (hm:P.follows .mixedOrders=true) (hB:Gg N 0 (l.take n) ds wss=true) (hn:Gr ds=true)
 (hT:(decide (n<l.length) && Region.sinkB .any l.toArray n && Region.chainB .any l.toArray n && Region.seqB .any l.toArray (l.length - n) n (Ew n l.length))=true)
 (ah:∀s,Ao w s->DagStepsT P N ds Fs σ s c wss 0 (l.take n) wss Gs)
 (k:∀σ' s w',Ao w s->Chg M s w'->(∀t,ds.contains t=false->σ' t=σ t)->(∀j,NB ds Fs true j σ' w')->DW P N l.toArray (Q .normal) Q (l.drop n) σ' w'):Wp P N (.region id l.toArray true) Q σ w:=by
 intro dz a T S;have eQ:EN dz N (MT (Q .normal) Q)=EN dz N Q:=by funext e a w;cases e<;>rfl
 refine wp_region_any hm ?_;obtain ⟨s,ar⟩:∃s:World,s={w with drawn:=w.drawn+1}:=⟨_,O⟩;have am:Ao w s:=by rw[ar];exact Ge w
 rw[<-ar];have aq:=ah s am;rw[<-hG] at aq;simp only[Bool.and_eq_true,decide_eq_true_eq] at hT;obtain ⟨⟨⟨a3,hs⟩,hc⟩,ap⟩:=hT;have L:∀{q:Bool} {u u':World},Chg (bif q then M else AZ) u u'->Chg M u u':=fun {q u u'} h=>by cases q with|true=>exact h|false=>exact Ao.chg h
 have hlen:ds.length=n:=by rw[JR hB];simp;omega
 have a8:∀(m:Nat) (listed:Array Bool) (a:Act) (w':World),(listed.toList.take n).count false=m->HeadInv .any l.toArray n listed->Ok dz N a->Chg (bif listed.getD c false then M else AZ) s w'->(∀t,ds.contains t=false->DO a t=σ t)->(∀j,listed.getD j false=true->NB ds Fs (listed.getD c false) j (DO a) w')->
  wpAny P .any l.toArray (EN dz N Q) (m+(l.length - n)) listed a w':=by
  intro m
  induction m with
  | zero=>
   intro listed a w' aw p T hx hu hh;have ag:listed.size=l.length:=by simpa using p.size
   have hl:listed=Ew n l.length:=by
    apply Array.ext';rw[Ew];have:=OX (l:=listed.toList) (n:=n) (by simp;omega) aw (by
     intro t A V;have ad:t<listed.size:=by simpa using V
     have:=p.tail t A (by simpa[ag] using ad);simp only[Array.getD_eq_getD_getElem?,Array.getElem?_eq_getElem ad,Option.getD_some] at this;simp[ad,this])
    rw[this];simp[ag]
   rw[Nat.zero_add];have A:=k (DO a) s w' am (L hx) hu (λj d F hd H=>by
    have B:j<n:=by have:=AI hd;omega
    have V:=hh j (by
     rw[hl,Ew];simp[Array.getD_eq_getD_getElem?,List.getElem?_append_left,B]) d F hd H
    cases F with
    | till F H=>intro hd;cases hd
    | eq u=>exact V
    | gen F H=>exact V
    | own F H=>exact V) dz a T O
   rw[eQ] at A;have:=wpAny_of_seq (P:=P) (md:=.any) (ops:=l.toArray) (Q':=EN dz N Q) (l.drop n) n listed a w' (λj=>by simp[List.getElem?_drop]) (by rw[List.length_drop,hl];exact ap) A
   rwa [List.length_drop] at this
  | succ m ih=>
   intro listed a w' hcm p T hx hu hh;have ag:listed.size=l.length:=by simpa using p.size
   obtain ⟨i0,W,ae⟩:∃i,i<n∧listed.getD i true=false:=by
    have:0<(listed.toList.take n).count false:=qO
    rw[List.count_pos_iff] at this;obtain ⟨i,hi,S⟩:=List.getElem_of_mem this;have E:i<n:=by simp at hi;omega
    refine ⟨i,E,?_⟩;have y:i<listed.size:=by simp at hi;omega
    simp only[Array.getD_eq_getD_getElem?,Array.getElem?_eq_getElem y,Option.getD_some];simpa using S
   rw[show m+1+(l.length - n)=(m+(l.length - n))+1 by omega];refine ⟨λhr=>?_,λi hi=>?_⟩
   .exfalso;have aj:∀i,i<n->listed.getD i true=true:=by
     intro i
     induction i using Nat.strongRecOn with
     | _ i ihi=>
      intro hi;cases hv:listed.getD i true with
      | true=>rfl
      | false=>
       exfalso;obtain ⟨o,ho⟩:=AL (l:=l) (i:=i) qO;have K:(l.take n)[i]?=some o:=by rw[List.getElem?_take_of_lt hi];exact ho
       obtain ⟨d,ws,_,_,h3⟩:=EL hB K;have:i∈Region.ready .any l.toArray listed:=by
        refine mem_ready.2 ⟨hv,o,by simpa using ho,λe S hb=>?_⟩;simp only[GH,Bool.and_eq_true,Array.all_eq_true_iff_forall_mem,Bool.or_eq_true,Bool.not_eq_true',Nat.zero_add] at h3;have:=(h3.1.1.2 e S).resolve_left (by simp[hb]);have a4:e.on<i:=by simpa[Nat.blt_eq] using this
        have h4:=ihi e.on a4 qO;have B:e.on<listed.size:=qO
        simpa only[Array.getD_eq_getD_getElem?,Array.getElem?_eq_getElem B,Option.getD_some] using h4
       rw[hr] at this;cases this
    rw[aj i0 W] at ae;cases ae
   .have E:i<n:=by
     rcases Nat.lt_or_ge i n with h|h
     .exact h
     .exact absurd hi (tail_waits hs hc (by simpa using a3) p _ i0 O W ae i h)
    obtain ⟨A,o,V,h3⟩:=mem_ready.1 hi;have y:i<listed.size:=qO
    have ho:l[i]?=some o:=by simpa using V
    have K:(l.take n)[i]?=some o:=by rw[List.getElem?_take_of_lt E];exact ho
    obtain ⟨d,ws,hd,a0,h4⟩:=EL hB K;obtain ⟨ws',F,X,H,D⟩:=aq.get K;rw[a0] at X;cases X;simp only[Nat.zero_add] at D;simp only[GH,Bool.and_eq_true,List.all_eq_true,Array.any_eq_true',Array.all_eq_true_iff_forall_mem,Bool.or_eq_true,Bool.not_eq_true',Nat.zero_add] at h4;obtain ⟨⟨⟨f,_⟩,af⟩,ac⟩:=h4;have ac:o.guard=none:=by simpa using ac
    -- what is sure to come ahead of the change
    have G:Ji c wss i=true->listed.getD c false=false:=by
     intro b;simp only[Ji,Bool.or_eq_true] at b;rcases b with b|b
     .have:i=c:=Nat.eq_of_beq_eq_true b;subst this;exact getD_both A
     .cases hlc:listed.getD c false with
      | false=>rfl
      | true=>
       exfalso;have a9:c<n:=by
        rcases Nat.lt_or_ge c n with h|h
        .exact h
        .rcases Nat.lt_or_ge c l.length with h'|h'
         .have:=getD_both (p.tail c h (by simpa using h'));rw[this] at hlc;cases hlc
         .simp[Array.getElem?_eq_none (show listed.size<=c by omega)] at hlc
       obtain ⟨oc,an⟩:=AL (l:=l) (i:=c) qO;have al:(l.take n)[c]?=some oc:=by rw[List.getElem?_take_of_lt a9];exact an
       obtain ⟨dc,av,_,ak,U⟩:=EL hB al;have a7:wss.getD c []=av:=by simp[ak]
       rw[a7] at b;simp only[GH,Bool.and_eq_true,List.all_eq_true,Array.any_eq_true',Nat.zero_add] at U;obtain ⟨e,S,Z,ab⟩:=U.1.2 i (by simpa using b);have a6:e.on=i:=Nat.eq_of_beq_eq_true ab;have:=p.closed c oc (by simpa using an) hlc e S Z;rw[a6,getD_both A] at this;cases this
    have hH:∀j,ws.contains j=true->NB ds Fs (!Ji c wss i) j (DO a) w':=by
     intro j B I F' z x;have au:j∈ws:=by simpa using B
     obtain ⟨e,S,hb⟩:=af j au;obtain ⟨Z,ab⟩:=hb;have:e.on=j:=Nat.eq_of_beq_eq_true ab;have U:=hh j (this▸h3 e S Z) I F' z x;cases b:Ji c wss i with
     | true=>rw[G b] at U;exact U
     | false=>
      cases F' with
      | till F H=>intro hd;cases hd
      | eq u=>exact U
      | gen F H=>exact U
      | own F H=>exact U
    have J:(∀R,Chg (bif Nat.beq i c then M else AZ) w' R->Chg (bif (listed.setIfInBounds i true).getD c false then M else AZ) s R):=by
     intro R g;by_cases r:i=c
     .subst r;rw[Nat.beq_refl] at g;have hg:(listed.setIfInBounds i true).getD i false=true:=by simp[Array.getD_eq_getD_getElem?,y]
      rw[hg];exact (L hx).trans g
     .have hb:Nat.beq i c=false:=by cases hb:Nat.beq i c;rfl;exact absurd (Nat.eq_of_beq_eq_true hb) r
      rw[hb] at g;rw[getD_set_ne _ r];exact hx.ext g
    have ao:∀v R,Chg (bif Nat.beq i c then M else AZ) w' R->F.In (Go.Eng.valOf o v) R->wpAny P .any l.toArray (EN dz N Q) (m+(l.length - n)) (listed.setIfInBounds i true) (a.put o.dst v) R:=by
     intro v R g hv;have C:(∀t,t≠d->DO (a.put o.dst v) t=DO a t)∧DO (a.put o.dst v) d=Go.Eng.valOf o v:=by
      cases hod:o.dst with
      | none=>
       rw[hod] at f;have ax:N<=d:=Nat.le_of_ble_eq_true f;refine ⟨λt _=>rfl,?_⟩;simp only[Go.Eng.valOf,hod];show a.tmps.getD d undef=undef;have:a.tmps.size<=d:=by rw[T.size];exact ax
       simp[Array.getElem?_eq_none this]
      | some I=>
       rw[hod] at f;simp only[Bool.and_eq_true] at f;have a5:I=d:=Nat.eq_of_beq_eq_true f.1;have az:d<N:=by simpa[Nat.blt_eq] using f.2
       subst a5;rw[Dx T az v];refine ⟨λt ht=>?_,?_⟩
       .have:Nat.beq t I=false:=by cases hb:Nat.beq t I;rfl;exact absurd (Nat.eq_of_beq_eq_true hb) ht
        simp[E4,this]
       .simp[E4,Go.Eng.valOf,hod]
     refine ih _ _ _ ?_ (p.set hi E) (T.put _ _) (J R g) ?_ ?_
     .have hl:listed.toList[i]?=some false:=by
       simp only[Array.getD_eq_getD_getElem?,Array.getElem?_eq_getElem y,Option.getD_some] at A;simp[y,A]
      have:=HL (l:=listed.toList) E (by simp;omega) hl;rw[Array.toList_setIfInBounds];omega
     .intro t ht;rw[C.1 t (λh=>by
       subst h;have:=List.mem_of_getElem? hd;simp[this] at ht),hu t ht]
     .intro j B I F' z x;by_cases aa:j=i
      .subst aa;rw[hd] at z;cases z;rw[H] at x;cases x;rw[C.2];exact FactT.at_in hv _
      .have a2:I≠d:=by
        intro h;subst h;exact aa (Cz hn z hd)
       rw[C.1 I a2];rw[getD_set_ne _ (Ne.symm aa)] at B;have h6:=hh j B I F' z x;by_cases r:i=c
       .have hg:(listed.setIfInBounds i true).getD c false=true:=by rw[<-r];simp[Array.getD_eq_getD_getElem?,y]
        rw[hg];exact FactT.chg h6 (L g) (OB hO (by rw[<-hG];exact x) qO)
       .have hb:Nat.beq i c=false:=by
         cases hb:Nat.beq i c
         .rfl
         .exact absurd (Nat.eq_of_beq_eq_true hb) r
        rw[hb] at g;rw[getD_set_ne _ r];exact FactT.ext h6 g
    have a1:Chg (bif Ji c wss i then AZ else M) s w':=by
     cases b:Ji c wss i with
     | true=>rw[G b] at hx;exact hx
     | false=>exact L hx
    have ay:=D (DO a) w' a1 hu hH;have hw:Region.wanted o (yielded l.toArray a.tmps)=true:=by simp[Region.wanted,ac]
    unfold wpOp;simp only[V,hw,if_true];exact Or.inl (ay _ a T O _ _ ao)
 have ai:HeadInv .any l.toArray n (Array.replicate l.toArray.size false):=
  ⟨qP,λj oj _ hl=>(by rw[getD_replicate_false] at hl;cases hl),λt _ ht=>getD_in (by simpa using ht) (getD_replicate_false _ _)⟩
 have A:=a8 n (Array.replicate l.toArray.size false) a s (by simp;omega) ai T (by rw[getD_replicate_false];exact Chg.refl _ _) (λt _=>by rw[S]) (λj B=>by rw[getD_replicate_false] at B;cases B);have e3:n+(l.length - n)=l.toArray.size:=by simp;omega
 rw[e3] at A;exact A
section
variable {M : Nat → Prop} {P : Program} {N : Nat} {σ : CN} {w : World} {ty : TypeId} {pos : String} {af : Array Edge} {g : Option (Nat × Bool)} {t : TypeId} {x y : Operand} {R : El}
theorem Du {b o n:Nat} {vs c:Array Value} {e:TypeId} (k:ev σ x=.pointer (some ⟨b,o,none⟩)) (p:ev σ y=.agg vs) (q:∀v∈vs.toList,v.oneCell'=true) (hs:DK P t n) (j:vs.size=n) (d:Az w b c e) (i:o+n<=c.size) (l:M b) (m:∀w',Put w w' b (c.toList.take o++vs.toList++c.toList.drop (o+n)).toArray e->R undef w') :
 Cs M P N ⟨none,.store t x y,ty,pos,af,g⟩ R σ w:=by
 subst j;have f:=Put.of_setRow d (c.toList.take o++vs.toList++c.toList.drop (o+vs.size)).toArray;refine Po (w':=w.setRow b _) ?_ (f.chg.mono λz _ h=>by subst h;exact l) (m _ f);have a:=run_storeCells_at P b o e vs.toList 0 c w d (by simpa using i) q;simp only[Nat.add_zero,Array.length_toList] at a;simp[execOp,k,p,Instr.storeAt,Instr.sureAddr,storeVar,hs.run,Value.cells,a]
end
end Go.Eng
namespace Go.Proofs
open Go Go.Eng
set_option maxRecDepth 100000
section
variable {P : Program} {σ : CN} {w : World} {dst : Option Tmp} {ty : TypeId} {pos : String} {af : Array Edge} {g : Option (Nat × Bool)} {t t' e : TypeId} {x y : Operand}
theorem NX {a:Option Addr} {n c n' c':Nat} (b:P.underlying t=some (.slice e)) (hx:ev σ x=.slice a n c) (hy:ev σ y=.slice none n' c') :
 (execOp (ev σ) ⟨dst,.binOp .eql t x y t',ty,pos,af,g⟩).run P w=.ok (.value (.bool a.isNone)) w:=by
 have h:(Op.equalIn 10000 t (.slice a n c) (.slice none n' c')).run P w=.ok a.isNone w:=by
  rw[Op.equalIn];cases a<;>simp[run_underlying b]
 cases a<;>simp_all[execOp,eqGuard,binOp,Op.equal,Op.maxDepth]
theorem I8 {s:Operand} {a a':Option Addr} {n c c' size:Nat} (h:P.underlying t=some (.slice e)) (hs:DK P e size) (d:ev σ s=.slice a n c) (b:n<=c) (f:ev σ x=.slice a' 0 c') :
 (execOp (ev σ) ⟨dst,.call ⟨.builtin .append,#[s,x],#[t,t]⟩,ty,pos,af,g⟩).run P w=.ok (.value (.slice a n c)) w:=by
 have hz:size*0=0:=Nat.mul_zero _;cases a<;>cases a'<;>simp[execOp,resolve,invoke,builtin,Builtin.append_,d,f,run_underlying h,hs.run,Builtin.lenOf,Builtin.firstCells,loadCells,loadCellsFrom,storeCells,b]
theorem IT {N:Nat} {Q:Dj} {K:CN->World->Prop} {ops:Array Oper} {rest:List Oper} {d size:Nat} (a:d<N) (f:P.underlying t=some (.slice e)) (hs:DK P e size)
 (k:∀b w',New w w' b #[] e->DW P N ops K Q rest (E4 σ d (.slice (some ⟨b,0,none⟩) 0 0)) w'):DW P N ops K Q (⟨some d,.buildSlice t 0 #[],ty,pos,af,none⟩::rest) σ w:=by
 refine B_ (v:=.slice (some ⟨w.heap.size,0,none⟩) 0 0) (w':={w with heap:=w.heap.push (.cells #[] e (0,0))}) O O a ?_ (k _ _ (New.mk' w #[] e));have c:Array.range 0=#[]:=rfl;simp[execOp,Instr.buildSlice,run_underlying f,hs.run,Instr.fill,newRow,c]
end
theorem Hc {w:World} {b e base size:Nat} (h:Az w b #[] e) (hb:base<=b):w.ownsRow base e size (.slice (some ⟨b,0,none⟩) 0 0) 0 []:=
 ⟨qP,.inr ⟨b,0,#[],O,hb,h,Nat.le_refl _,by simp[maxLen],qP,qP⟩⟩
theorem Sn {l:List Int} {rest:List Value} {i:Nat} (hi:i<l.length) (y:Int):(l.map (Value.int .i64)++rest).toArray.setIfInBounds i (.int .i64 y)=((l.set i y).map (Value.int .i64)++rest).toArray:=by
 apply Array.ext';rw[Array.toList_setIfInBounds,List.map_set];simp only;rw[List.set_append,if_pos (by simpa using hi)]
theorem OT {w:World} {b T:Nat} {l:List Int} {rest:List Value} (h:Az w b (l.map (Value.int .i64)++rest).toArray T) {i:Nat} {x:Int} (a:l[i]?=some x):w.cell? ⟨b,i,none⟩=some (.int .i64 x):=by
 refine h.cell ?_;have:=AI a;simp only[List.getElem?_toArray];rw[List.getElem?_append_left (by simpa using this)];simp[a]
theorem V6 (j:World) (v:Value) (x:Int) (l:List Int) (hs:CF j v l) :
 CJ prog 129 #[v,.int .i64 x] j λr w=>r=.int .i64 (PS (λy=>decide (x=y)) l)∧Ao j w:=by
 obtain ⟨a,c,rfl⟩:=BL.form hs;have hlen:l.length<=9223372036854775807:=by simpa using BL.le hs
 simp only[List.length_map] at hs⊢;refine qR func129 O ntmps129 O (λE=>(Y (qA _ O (AA (AE (Y (qM _ O (qV (AH underlying22 O) (qM _ O (AA (AM (Am (λnn_ σ q=>∃(k:Nat),(∃jj_,σ=BQ jj_ [(0,(.slice a l.length c)),(1,(I6 x)),(7,(I6 (l.length:Int))),(8,(I6 (k:Int)))])∧Chg AZ j q∧(k<=l.length)∧(∀(i:Nat) (y:Int),i<k->l[i]?=some y->decide (x=y)=false)∧nn_=l.length - k) (n:=l.length - 0) ?_ ?_))))))))))))
 .exact ⟨0,Af.out ⟨O,O,O,O,trivial⟩,E,Nat.zero_le _,(λi y h=>absurd h (Nat.not_lt_zero _)),O⟩
 .clear E;rintro _ _ q ⟨k,⟨j1,rfl⟩,E,hk,e,rfl⟩;refine Y (qV (Av O O) (AA (AE (qC O (λm=>?_) (λm=>?_)))))
  .obtain ⟨y,g⟩:=AL (l:=l) (i:=k) qO;obtain ⟨b,o,rfl,d⟩:=BF hs qO;refine AK (AB (AE (AM (Y (qM _ O (qA _ O (AA (Y (qM _ O (qM _ O (qM _ O (qV (AC (b:=b) (o:=o) (len:=l.length) (cap:=c) (i:=k) (o':=o+k) O O O underlying22 Ab qO qO) (qV (AD O Aa (E.cell (λf=>f) (d k y g))) (qV (As O O) (AA (qC O (λp=>?_) (λp=>?_)))))))))))))))))
   .refine Y (qM _ O (qA _ O (AA (AS (Ag (AO (AO (Ag (AO (AV results129 (v:=(.int .i64 ((k:Nat):Int))) O ?_))))))))));exact ⟨A5 (Jy g (by simpa using p) e).symm,E⟩
   .refine AK (AP (AB (AG (qV (Aq O O (A2 qO)) (qM _ O (AA (AB ?_)))))));exact ⟨l.length - (k+1),qO,k+1,Af.out ⟨O,O,O,O,trivial⟩,E,qO,Gz g (by simpa using p) e,O⟩
  .have hkk:k=l.length:=qO
   refine Ak (AR (AR (Ae (AB (Y (qA _ O (AA (AS (AV results129 (v:=(.int .i64 (-1))) O ?_)))))))));exact ⟨A5 (Ik λi y g=>e i y (by have:=AI g;omega) g).symm,E⟩
theorem V7 (a:World) (v:Value) (x:Int) (l:List Int) (hs:CF a v l) :
 CJ prog 95 #[v,.int .i64 x] a λr w=>r=.bool (l.contains x)∧Ao a w:=by
 refine qR func95 O ntmps95 O (λE=>(Y (qA _ O (AA (Y (qM v O (qM _ O (qE O (AT func129 kQ kQ O) (V6 _ v x l hs) ?_))))))));rintro _ w9 ⟨rfl,b⟩;replace E:=E.ext b;refine qV (C3 O O) (qA _ O (AA (AS (AV results95 (v:=(.bool (decide ((0:Int)<=PS (λy=>decide (x=y)) l)))) O ?_))));exact ⟨CG ((Jz _ l).trans (by rw[List.contains_eq_any_beq];congr 1)),E⟩
theorem Kj {w:World} {b T c:Nat} {l:List Int} {rest:List Value} (h:Az w b (l.map (Value.int .i64)++rest).toArray T) (f:l.length<=c) (hm:l.length<=2000000):CF w (.slice (some ⟨b,0,none⟩) l.length c) l:=by
 refine ⟨_,c,qP,by simp;omega,by simpa using f,.inr ⟨b,0,O,λi r d=>?_⟩⟩;rw[List.getElem?_map,Option.map_eq_some_iff] at d;obtain ⟨x,e,rfl⟩:=d;intro j u a
 match j,a with
 | 0,a=>
  simp[Jp] at a;subst a;have:=OT h e;simpa using this
end Go.Proofs
namespace Go.Proofs
open Go Go.Eng
set_option maxRecDepth 100000
theorem N7 {P:Program} {w:World} {e:TypeId} {cs:Array Value} {o:Nat} {v:Value} (a:DI P e=true) (b:cs[o]?=some v):(part e cs o).run P w=.ok v w:=by
 simp[part,DI.run a,b]
theorem QF {α:Type} {l m:List α} (hl:l.length=m.length) (h:∀i,i<l.length->l[i]?=m[i]?):l=m:=by
 apply List.ext_getElem?;intro i;rcases Nat.lt_or_ge i l.length with a|a
 .exact h i a
 .rw[List.getElem?_eq_none a,List.getElem?_eq_none qO]
section
variable {P : Program} {σ : CN} {w : World} {dst : Option Tmp} {ty : TypeId} {pos : String} {af : Array Edge} {g : Option (Nat × Bool)} {t t' e : TypeId} {x y : Operand}
theorem Mu {n m : Field} (d : Nat) (a b c f : Int) (z : P.stoodInHeld t = false) (B : P.underlying t = some (.struct #[n, m])) (j : n.name ≠ "_") (g : m.name ≠ "_") (i : n.offset = 0) (h : m.offset = 1) (r : n.type = e) (u : m.type = e) (A : P.underlying e = some (.int .i64)) (v : DI P e = true) :
 (Op.equalIn (d+2) t (.agg #[.int .i64 a,.int .i64 b]) (.agg #[.int .i64 c,.int .i64 f])).run P w=.ok (decide (a=c) && decide (b=f)) w:=by
 have o:∀x y:Int,(Op.equalIn (d+1) e (.int .i64 x) (.int .i64 y)).run P w=.ok (x == y) w:=λx y=>run_equalIn_int w d e .i64 .i64 x y A;have s:∀x y:Int,(part e #[.int .i64 x,.int .i64 y] 0).run P w=.ok (.int .i64 x) w:=λx y=>N7 v O;have p:∀x y:Int,(part e #[.int .i64 x,.int .i64 y] 1).run P w=.ok (.int .i64 y) w:=λx y=>N7 v O;have q:(program).run P w=.ok P w:=rfl;rw[Op.equalIn];simp only[Sem.run_bind,run_underlying B,Result.andThen_ok,q,z];by_cases k:a=c
 .by_cases l:b=f
  .simp[j,g,i,h,r,u,s,p,o,k,l]
  .simp[j,g,i,h,r,u,s,p,o,k,l]
 .simp[j,g,i,h,r,u,s,p,o,k]
theorem Ll {i d : Field} {a b c f : Int} (p : P.stoodInHeld t = false) (z : P.underlying t = some (.struct #[i, d])) (m : i.name ≠ "_") (j : d.name ≠ "_") (l : i.offset = 0) (k : d.offset = 1) (q : i.type = e) (s : d.type = e) (u : P.underlying e = some (.int .i64)) (v : DI P e = true) (o : P.eqGuardType P.depth t = false)
 (n:ev σ x=.agg #[.int .i64 a,.int .i64 b]) (r:ev σ y=.agg #[.int .i64 c,.int .i64 f]) :
 (execOp (ev σ) ⟨dst,.binOp .neq t x y t',ty,pos,af,g⟩).run P w=.ok (.value (.bool (!(decide (a=c) && decide (b=f))))) w:=by
 have h:=Mu (P:=P) (w:=w) 9998 a b c f p z m j l k q s u v;simp only[execOp,n,r,Sem.run_bind,run_eqGuard_agg w .neq t x y _ _ o,Result.andThen_ok,run_neq_struct,h];rfl
end
theorem QL:prog.eqGuardType prog.depth 74=false:=by kernel_rfl
theorem LY:prog.stoodInHeld 74=false:=by kernel_rfl
theorem Rt (g:World) (F D:Value) (c d:List (Int×Int)) (r:A6 g F c) (x:A6 g D d) :
 CJ prog 99 #[F,D] g λv w=>v=.bool (decide (c=d))∧Ao g w:=by
 obtain ⟨G,c1,rfl⟩:=BL.form r;obtain ⟨I,c2,rfl⟩:=BL.form x;have hb1:c.length<=9223372036854775807:=by simpa using BL.le r
 simp only[List.length_map] at r x⊢;refine qR func99 O ntmps99 O (λE=>(Y (qA _ O (AA (AE (Y (qM _ O (qV (AH underlying37 O) (qM _ O (qV (AH underlying37 O) (qV (CO O O) (AA (qC O (λz=>?_) (λz=>?_))))))))))))))
 .refine Y (qA _ O (AA (AS (AO (AV results99 (v:=(.bool false)) O ?_)))));exact ⟨CG (by symm;rw[decide_eq_false_iff_not];intro h;rw[h] at z;exact z O),E⟩
 .refine AK (AB (AE (Y (qM _ O (qV (AH underlying37 O) (qM _ O (AA (AM (Am (λnn_ σ A=>∃(k:Nat),(∃jj_,σ=BQ jj_ [(0,(.slice G c.length c1)),(1,(.slice I d.length c2)),(12,(I6 (c.length:Int))),(13,(I6 (k:Int)))])∧Chg AZ g A∧(k<=c.length)∧(∀(i:Nat),i<k->c[i]?=d[i]?)∧nn_=c.length - k) (n:=c.length - 0) ?_ ?_)))))))))
  .exact ⟨0,Af.out ⟨O,O,O,O,trivial⟩,E,Nat.zero_le _,(λi h=>absurd h (Nat.not_lt_zero _)),O⟩
  .clear E;rintro _ _ A ⟨k,⟨j2,rfl⟩,E,hk,j,rfl⟩;refine Y (qV (Av O O) (AA (AE (qC O (λs=>?_) (λs=>?_)))))
   .obtain ⟨p,y⟩:=AL (l:=c) (i:=k) qO;obtain ⟨q,m⟩:=AL (l:=d) (i:=k) qO;obtain ⟨H,C,rfl,t⟩:=BH r qO;obtain ⟨K,B,rfl,u⟩:=BH x qO;refine AK (AB (AE (AM (Y (qM _ O (qA _ O (AA (Dq 8 mixed qK ?_))))))));intro w4 J _;replace E:=E.ext J;refine qT (Ah O) (qT (Ah O) (qT (AC (b:=H) (o:=C) (len:=c.length) (cap:=c1) (i:=k) (o':=C+k*2) O O O underlying37 BA qO qO) (qT (AU O EM BA O ((t k p y).ext E)) (qT (Ah O) (qT (Ah O) (qT (AC (b:=K) (o:=B) (len:=d.length) (cap:=c2) (i:=k) (o':=B+k*2) O O O underlying37 BA qO qO) (qT (AU O EM BA O ((u k q m).ext E)) (Dr (B_ (v:=(.bool (!(decide (p.1=q.1) && decide (p.2=q.2))))) O O qD (Ll LY underlying74 qD qD O O O O underlying3 Aa QL O O) (AA (A3 O (λa=>?_) (λa=>?_))))))))))))
    .have f:=a;replace a:=by simpa using a
     refine Y (qA _ O (AA (AS (Ag (AO (AO (Ag (AO (AV results99 (v:=(.bool false)) O ?_)))))))));exact ⟨CG (by symm;rw[decide_eq_false_iff_not];intro h;subst h;rw[y] at m;cases m;simp at a),E⟩
    .have f:=a;replace a:=by simpa using a
     have e:p=q:=by obtain ⟨p1,p2⟩:=p;obtain ⟨q1,q2⟩:=q;simp at a;simp;exact a
     refine AK (AP (AB (AG (qV (Aq O O (A2 qO)) (qM _ O (AA (AB ?_)))))));exact ⟨c.length - (k+1),qO,k+1,Af.out ⟨O,O,O,O,trivial⟩,E,qO,(λi hi=>by rcases Nat.lt_or_ge i k with h|h;exact j i h;obtain rfl:i=k:=qO;rw[y,m,e]),O⟩
   .have hkk:k=c.length:=qO
    refine Ak (AR (AR (Ae (AB (Y (qA _ O (AA (AS (AV results99 (v:=(.bool true)) O ?_)))))))));exact ⟨CG (by symm;rw[decide_eq_true_eq];exact QF qO (λi hi=>j i qO)),E⟩
theorem H6 {w:World} {b o:Nat} {l:List (Int×Int)} (h:∀i s,l[i]?=some s->A' w b (o+i*2) [.int .i64 s.1,.int .i64 s.2]):A' w b o (l.map BP).flatten:=by
 induction l generalizing o with
 | nil=>intro i v a;simp at a
 | cons s l ih=>
  have c:=h 0 s O;have d:=ih (o:=o+2) (λi u f=>by have:=h (i+1) u (by simpa using f);rwa [show o+(i+1)*2=o+2+i*2 from qO] at this);intro i v a;simp only[List.map_cons,List.flatten_cons] at a;have e:(BP s).length=2:=rfl;rcases Nat.lt_or_ge i 2 with hi|hi
  .rw[List.getElem?_append_left qO] at a;have:=c i v a;simpa using this
  .rw[List.getElem?_append_right qO] at a;have:=d (i - 2) v (by rw[e] at a;exact a)
   rwa [show o+2+(i - 2)=o+i from qO] at this
theorem Ef (l:List (Int×Int)):(l.map BP).flatten.length=l.length*2:=by
 induction l with
 | nil=>rfl
 | cons s l ih=>simp only[List.map_cons,List.flatten_cons,List.length_append,ih,List.length_cons];have:(BP s).length=2:=rfl;omega
theorem I3 (l:List (Int×Int)):∀u∈(l.map BP).flatten,u.oneCell'=true:=by
 intro u a;simp only[List.mem_flatten,List.mem_map] at a;obtain ⟨r,⟨s,_,rfl⟩,a⟩:=a;simp[BP] at a;rcases a with rfl|rfl<;>rfl
def FK (x y:Int):Int:=if x<y then -1 else if y<x then 1 else 0
theorem VQ (a:World) (x:Int):CJ prog 120 #[.int .i64 x] a λv w=>v=.bool false∧Ao a w:=by
 refine qR func120 O ntmps120 O (λE=>(Y (qA _ O (AA (Y (qM _ O (qM _ O (qV (CO O O) (qA _ O (AA (AS (AV results120 (v:=(.bool (decide ((x:Int)≠x)))) O ?_))))))))))));exact ⟨CG qP,E⟩
theorem JS (d:World) (x y:Int):CJ prog 76 #[.int .i64 x,.int .i64 y] d λv w=>v=.int .i64 (FK x y)∧Ao d w:=by
 refine qR func76 O ntmps76 O (λE=>(Y (qA _ O (AA (Y (qM _ O (qE O (AT func120 kQ kQ O) (VQ _ x) ?_)))))));rintro _ w9 ⟨rfl,e⟩;refine qA _ O (AA (Y (qM _ O (qE O (AT func120 kQ kQ O) (VQ _ y) ?_))));rintro _ w19 ⟨rfl,c⟩;replace E:=(E.ext e).ext c;refine qA _ O (AA (AE (Y (qM _ O (AA (AW O (AK (AB (AE (Y (qM _ O (AA (AW O (AK (AB (AE (Y (qM _ O (qM _ O (qV (Av O O) (AA (qC O (λa=>?_) (λa=>?_)))))))))))))))))))))))
 .refine Y (qA _ O (AA (AS (AO (AV results76 (v:=(.int .i64 (-1))) O ?_)))));exact ⟨A5 (by unfold FK;rw[if_pos a]),E⟩
 .refine AK (AB (AE (Y (qM _ O (qM _ O (qV (CH O O) (AA (qC O (λb=>?_) (λb=>?_)))))))))
  .refine Y (qA _ O (AA (AS (AO (AV results76 (v:=(.int .i64 1)) O ?_)))));exact ⟨A5 (by unfold FK;rw[if_neg a,if_pos b]),E⟩
  .refine AK (AB (Y (qA _ O (AA (AS (AV results76 (v:=(.int .i64 0)) O ?_))))));exact ⟨A5 (by unfold FK;rw[if_neg a,if_neg b]),E⟩
section
variable {P : Program} {σ : CN} {w : World} {dst : Option Tmp} {ty : TypeId} {pos : String} {af : Array Edge} {g : Option (Nat × Bool)} {tys : Array TypeId} {x y : Operand} {k : IntKind} {a b c : Int}
theorem Vo (d:ev σ x=.int k a) (e:ev σ y=.int k b) (f:min a b=c) :
 (execOp (ev σ) ⟨dst,.call ⟨.builtin .min,#[x,y],tys⟩,ty,pos,af,g⟩).run P w=.ok (.value (.int k c)) w:=by
 subst f;have:(if b<a then b else a)=min a b:=by split<;>omega
 simp[execOp,resolve,invoke,builtin,Builtin.min_,Builtin.min2,d,e,this]
theorem SC (d:ev σ x=.int k a) (e:ev σ y=.int k b) (f:max a b=c) :
 (execOp (ev σ) ⟨dst,.call ⟨.builtin .max,#[x,y],tys⟩,ty,pos,af,g⟩).run P w=.ok (.value (.int k c)) w:=by
 subst f;have:(if a<b then b else a)=max a b:=by split<;>omega
 simp[execOp,resolve,invoke,builtin,Builtin.max_,Builtin.max2,d,e,this]
end
end Go.Proofs
namespace Go.Proofs
open Go Go.Eng
set_option maxRecDepth 100000
def EA (s:Int×Int):Bool:=(decide (0<=s.1) && decide (s.1<=s.2)) && decide (s.2<=1114111)
theorem T4 (s:Int×Int) (n:World) :
 CJ prog 86 #[.agg #[.int .i64 s.1,.int .i64 s.2]] n λv w=>v=.bool (EA s)∧Ao n w:=by
 refine qR func86 O ntmps86 O (λE=>(Y (BM (v:=(.agg #[(I6 s.1),(I6 s.2)])) (c:=#[(I6 s.1),(I6 s.2)]) qD O O ?_)));intro j w1 m;replace E:=E.ext m.ext;have k:=m.blk;refine qA _ O (AA (Y (qF j 0 0 O underlying74 O Ab O (qV (AD O Aa (k.cell O)) ?_))));obtain ⟨a,f⟩:∃e,(decide ((0:Int)<=s.1))=e:=⟨_,O⟩;refine qV ((C3 O O).trans (by rw[f];try rfl)) (qM _ O (qG (.bool a) (yU a (P6 j 0)) (by cases a<;>first|exact gA|exact gB|exact .inl ⟨O,AN O underlying74 O Ab O⟩) (qG (.bool a) (yU a (I6 s.1)) (by cases a<;>first|exact gA|exact gB|exact .inl ⟨O,AD O Aa (k.cell O)⟩) (qG (.bool a) (yU a (P6 j 1)) (by cases a<;>first|exact gA|exact gB|exact .inl ⟨O,AN O underlying74 O Ab O⟩) (qG (.bool a) (yU a (I6 s.2)) (by cases a<;>first|exact gA|exact gB|exact .inl ⟨O,AD O Aa (k.cell O)⟩) ?_)))));obtain ⟨o,h⟩:∃e,(decide ((s.1:Int)<=s.2))=e:=⟨_,O⟩;refine qG (.bool a) (yU a (.bool o)) (by cases a<;>first|exact gA|exact gB|exact .inl ⟨O,(GY O O).trans (by rw[h];try rfl)⟩) ?_;obtain ⟨b,g⟩:∃e,(a && o)=e:=⟨_,O⟩;refine qV (Ac (v:=.bool b) O (by rw[<-g];cases a<;>rfl)) (qM _ O (qG (.bool b) (yU b (P6 j 1)) (by cases b<;>first|exact gA|exact gB|exact .inl ⟨O,AN O underlying74 O Ab O⟩) (qG (.bool b) (yU b (I6 s.2)) (by cases b<;>first|exact gA|exact gB|exact .inl ⟨O,AD O Aa (k.cell O)⟩) ?_)));obtain ⟨l,d⟩:∃e,(decide ((s.2:Int)<=1114111))=e:=⟨_,O⟩;refine qG (.bool b) (yU b (.bool l)) (by cases b<;>first|exact gA|exact gB|exact .inl ⟨O,(GY O O).trans (by rw[d];try rfl)⟩) ?_;obtain ⟨p,i⟩:∃e,(b && l)=e:=⟨_,O⟩;refine qV (Ac (v:=.bool p) O (by rw[<-i];cases b<;>rfl)) (qA _ O (AA ?_));subst i;subst d;subst g;subst h;subst f;refine AS (AV results86 (v:=(.bool (((decide ((0:Int)<=s.1)) && (decide ((s.1:Int)<=s.2))) && (decide ((s.2:Int)<=1114111))))) O ?_);exact ⟨O,E⟩
def Md (k n:Int):Bool:=if k=3∨k=4∨k=7 then decide (2<=n) else if k=5∨k=6∨k=8∨k=9∨k=10 then decide (n=1) else decide (n=0)
def Ea (t:Re):Bool:=
 (((Md t.kind t.args.length && (decide (t.kind=2) || decide ((t.set.length:Int)=0))) && ((decide (t.kind=6) || decide (t.kind=9)) || decide (t.mn=0))) && (decide (t.kind=6) || decide (t.mx=0))) && (decide (t.kind=10) || !t.neg)
theorem V_ (wb w0:World) (t:Re) (vs:List Value) (ht:BR wb t vs) :
 CJ prog 150 #[.agg vs.toArray] w0 λv w=>v=.bool (Ea t)∧Ao w0 w:=by
 obtain ⟨sa,sc,aa,ac,rfl,hset,hlen,hargs⟩:=ht.form;refine qR func150 O ntmps150 O (λE=>(Y (BM (v:=(.agg (R6 t sa sc aa ac))) (c:=(R6 t sa sc aa ac)) qD O O ?_)));intro l w1 N1;replace E:=E.ext N1.ext;have k:=N1.blk;refine qA _ O (AA (Y (qF l 0 2 O underlying48 O G5 O (qV (AD O FB (k.cell O)) (qV (AH underlying46 O) (qA _ O (AA (Y (qM _ O (qV (As O O) (qA _ O (AA (GR (λσ W2=>∃(ok:Bool),(∃jj_,σ=BQ jj_ [(1,(P6 l 0)),(4,(.bool ok))])∧Chg AZ w0 W2∧Az W2 l (R6 t sa sc aa ac) 48∧(ok=Md t.kind t.args.length)) ?_ ?_)))))))))))))
 .skip
  refine Y (qF l 0 0 O underlying48 O Ab O (qV (AD O Aa (k.cell O)) (AA (AM (AE (Y (qV (As O O) (qA _ O (AA (qC O (λV=>?_) (λV=>?_)))))))))))
  .have u:=decide_eq_true V;refine AK (AB (A4 (Aw u) (AG (qM _ O (qV (C3 O O) (qA _ O (AA (AP (AB ?_)))))))));exact ⟨(decide ((2:Int)<=((t.args.length:Nat):Int))),Af.out ⟨O,O,trivial⟩,E,k,(by unfold Md;(repeat' split)<;>first|rfl|omega)⟩
  .have u:=decide_eq_false V;refine Y (qV (As O O) (qA _ O (AA (qC O (λQ=>?_) (λQ=>?_)))))
   .have G:=decide_eq_true Q;refine AK (AB (A4 (Aw G) (AG (qM _ O (qV (C3 O O) (qA _ O (AA (AP (AB ?_)))))))));exact ⟨(decide ((2:Int)<=((t.args.length:Nat):Int))),Af.out ⟨O,O,trivial⟩,E,k,(by unfold Md;(repeat' split)<;>first|rfl|omega)⟩
   .have G:=decide_eq_false Q;refine AG (qV (As O O) (qA _ O (AA (AB (qC O (λaj=>?_) (λaj=>?_))))))
    .refine AG (qM _ O (qV (C3 O O) (qA _ O (AA (AP (AB ?_))))));exact ⟨(decide ((2:Int)<=((t.args.length:Nat):Int))),Af.out ⟨O,O,trivial⟩,E,k,(by unfold Md;(repeat' split)<;>first|rfl|omega)⟩
    .refine AE (Y (qV (As O O) (qA _ O (AA (qC O (λU=>?_) (λU=>?_))))))
     .have I:=decide_eq_true U;refine AK (AB (A4 (Aw I) (AG (qM _ O (qV (As O O) (qA _ O (AA (AP (AB ?_)))))))));exact ⟨(decide ((((t.args.length:Nat):Int):Int)=1)),Af.out ⟨O,O,trivial⟩,E,k,(by unfold Md;(repeat' split)<;>first|rfl|omega)⟩
     .have I:=decide_eq_false U;refine Y (qV (As O O) (qA _ O (AA (qC O (λS=>?_) (λS=>?_)))))
      .have y:=decide_eq_true S;refine AK (AB (A4 (Aw y) (AG (qM _ O (qV (As O O) (qA _ O (AA (AP (AB ?_)))))))));exact ⟨(decide ((((t.args.length:Nat):Int):Int)=1)),Af.out ⟨O,O,trivial⟩,E,k,(by unfold Md;(repeat' split)<;>first|rfl|omega)⟩
      .have y:=decide_eq_false S;refine Y (qV (As O O) (qA _ O (AA (qC O (λW=>?_) (λW=>?_)))))
       .have C:=decide_eq_true W;refine AK (AB (A4 (Aw C) (AG (qM _ O (qV (As O O) (qA _ O (AA (AP (AB ?_)))))))));exact ⟨(decide ((((t.args.length:Nat):Int):Int)=1)),Af.out ⟨O,O,trivial⟩,E,k,(by unfold Md;(repeat' split)<;>first|rfl|omega)⟩
       .have C:=decide_eq_false W;refine Y (qV (As O O) (qA _ O (AA (qC O (λT=>?_) (λT=>?_)))))
        .have D:=decide_eq_true T;refine AK (AB (A4 (Aw D) (AG (qM _ O (qV (As O O) (qA _ O (AA (AP (AB ?_)))))))));exact ⟨(decide ((((t.args.length:Nat):Int):Int)=1)),Af.out ⟨O,O,trivial⟩,E,k,(by unfold Md;(repeat' split)<;>first|rfl|omega)⟩
        .have D:=decide_eq_false T;refine AG (qV (As O O) (qA _ O (AA (AB (qC O (λah=>?_) (λah=>?_))))))
         .refine AG (qM _ O (qV (As O O) (qA _ O (AA (AP (AB ?_))))));exact ⟨(decide ((((t.args.length:Nat):Int):Int)=1)),Af.out ⟨O,O,trivial⟩,E,k,(by unfold Md;(repeat' split)<;>first|rfl|omega)⟩
         .refine AK (AP (AB ?_));exact ⟨(decide ((((t.args.length:Nat):Int):Int)=0)),Af.out ⟨O,O,trivial⟩,E,k,(by unfold Md;(repeat' split)<;>first|rfl|omega)⟩
 .clear E k;rintro _ W2 ⟨ok,⟨j2,rfl⟩,E,k,ai⟩;refine Y (qM _ O (qM _ O (qG (.bool ok) (yU ok (P6 l 0)) (by cases ok<;>first|exact gA|exact gB|exact .inl ⟨O,AN O underlying48 O Ab O⟩) (qG (.bool ok) (yU ok (I6 t.kind)) (by cases ok<;>first|exact gA|exact gB|exact .inl ⟨O,AD O Aa (k.cell O)⟩) ?_))));obtain ⟨f,q⟩:∃e,(decide ((t.kind:Int)=2))=e:=⟨_,O⟩;refine qG (.bool ok) (yU ok (.bool f)) (by cases ok<;>first|exact gA|exact gB|exact .inl ⟨O,(As O O).trans (by rw[q];try rfl)⟩) (qG (.bool ok) (yU ok (.bool f)) (by cases ok<;>first|exact gA|exact gB|exact .inl ⟨O,Ah O⟩) (qG (yU ok (.bool f)) (yU ok (nU f (P6 l 1))) (by cases ok<;>cases f<;>first|exact gA|exact gB|exact .inl ⟨O,AN O underlying48 O BW O⟩) (qG (yU ok (.bool f)) (yU ok (nU f (.slice sa t.set.length sc))) (by cases ok<;>cases f<;>first|exact gA|exact gB|exact .inl ⟨O,AD O CC (k.cell O)⟩) (qG (yU ok (.bool f)) (yU ok (nU f (I6 (t.set.length:Int)))) (by cases ok<;>cases f<;>first|exact gA|exact gB|exact .inl ⟨O,AH underlying37 O⟩) ?_))));obtain ⟨ae,p⟩:∃e,(decide ((((t.set.length:Nat):Int):Int)=0))=e:=⟨_,O⟩;refine qG (yU ok (.bool f)) (yU ok (nU f (.bool ae))) (by cases ok<;>cases f<;>first|exact gA|exact gB|exact .inl ⟨O,(As O O).trans (by rw[p];try rfl)⟩) ?_;obtain ⟨P,J⟩:∃e,(f || ae)=e:=⟨_,O⟩;refine qG (.bool ok) (yU ok (.bool P)) (by cases ok<;>first|exact gA|exact gB|exact .inl ⟨O,Ac (v:=.bool P) O (by rw[<-J];cases f<;>rfl)⟩) ?_;obtain ⟨a,n⟩:∃e,(ok && P)=e:=⟨_,O⟩;refine qV (Ac (v:=.bool a) O (by rw[<-n];cases ok<;>rfl)) (qM _ O (qG (.bool a) (yU a (P6 l 0)) (by cases a<;>first|exact gA|exact gB|exact .inl ⟨O,AN O underlying48 O Ab O⟩) (qG (.bool a) (yU a (I6 t.kind)) (by cases a<;>first|exact gA|exact gB|exact .inl ⟨O,AD O Aa (k.cell O)⟩) ?_)));obtain ⟨h,r⟩:∃e,(decide ((t.kind:Int)=6))=e:=⟨_,O⟩;refine qG (.bool a) (yU a (.bool h)) (by cases a<;>first|exact gA|exact gB|exact .inl ⟨O,(As O O).trans (by rw[r];try rfl)⟩) (qG (.bool a) (yU a (.bool h)) (by cases a<;>first|exact gA|exact gB|exact .inl ⟨O,Ah O⟩) (qG (yU a (.bool h)) (yU a (nU h (P6 l 0))) (by cases a<;>cases h<;>first|exact gA|exact gB|exact .inl ⟨O,AN O underlying48 O Ab O⟩) (qG (yU a (.bool h)) (yU a (nU h (I6 t.kind))) (by cases a<;>cases h<;>first|exact gA|exact gB|exact .inl ⟨O,AD O Aa (k.cell O)⟩) ?_)));obtain ⟨af,N⟩:∃e,(decide ((t.kind:Int)=9))=e:=⟨_,O⟩;refine qG (yU a (.bool h)) (yU a (nU h (.bool af))) (by cases a<;>cases h<;>first|exact gA|exact gB|exact .inl ⟨O,(As O O).trans (by rw[N];try rfl)⟩) ?_;obtain ⟨g,A⟩:∃e,(h || af)=e:=⟨_,O⟩;refine qG (.bool a) (yU a (.bool g)) (by cases a<;>first|exact gA|exact gB|exact .inl ⟨O,Ac (v:=.bool g) O (by rw[<-A];cases h<;>rfl)⟩) (qG (.bool a) (yU a (.bool g)) (by cases a<;>first|exact gA|exact gB|exact .inl ⟨O,Ah O⟩) (qG (yU a (.bool g)) (yU a (nU g (P6 l 3))) (by cases a<;>cases g<;>first|exact gA|exact gB|exact .inl ⟨O,AN O underlying48 O Ab O⟩) (qG (yU a (.bool g)) (yU a (nU g (I6 t.mn))) (by cases a<;>cases g<;>first|exact gA|exact gB|exact .inl ⟨O,AD O Aa (k.cell O)⟩) ?_)));obtain ⟨ab,s⟩:∃e,(decide ((t.mn:Int)=0))=e:=⟨_,O⟩;refine qG (yU a (.bool g)) (yU a (nU g (.bool ab))) (by cases a<;>cases g<;>first|exact gA|exact gB|exact .inl ⟨O,(As O O).trans (by rw[s];try rfl)⟩) ?_;obtain ⟨R,L⟩:∃e,(g || ab)=e:=⟨_,O⟩;refine qG (.bool a) (yU a (.bool R)) (by cases a<;>first|exact gA|exact gB|exact .inl ⟨O,Ac (v:=.bool R) O (by rw[<-L];cases g<;>rfl)⟩) ?_;obtain ⟨b,m⟩:∃e,(a && R)=e:=⟨_,O⟩;refine qV (Ac (v:=.bool b) O (by rw[<-m];cases a<;>rfl)) (qM _ O (qG (.bool b) (yU b (P6 l 0)) (by cases b<;>first|exact gA|exact gB|exact .inl ⟨O,AN O underlying48 O Ab O⟩) (qG (.bool b) (yU b (I6 t.kind)) (by cases b<;>first|exact gA|exact gB|exact .inl ⟨O,AD O Aa (k.cell O)⟩) ?_)));obtain ⟨j,M⟩:∃e,(decide ((t.kind:Int)=6))=e:=⟨_,O⟩;refine qG (.bool b) (yU b (.bool j)) (by cases b<;>first|exact gA|exact gB|exact .inl ⟨O,(As O O).trans (by rw[M];try rfl)⟩) (qG (.bool b) (yU b (.bool j)) (by cases b<;>first|exact gA|exact gB|exact .inl ⟨O,Ah O⟩) (qG (yU b (.bool j)) (yU b (nU j (P6 l 4))) (by cases b<;>cases j<;>first|exact gA|exact gB|exact .inl ⟨O,AN O underlying48 O Ab O⟩) (qG (yU b (.bool j)) (yU b (nU j (I6 t.mx))) (by cases b<;>cases j<;>first|exact gA|exact gB|exact .inl ⟨O,AD O Aa (k.cell O)⟩) ?_)));obtain ⟨ag,B⟩:∃e,(decide ((t.mx:Int)=0))=e:=⟨_,O⟩;refine qG (yU b (.bool j)) (yU b (nU j (.bool ag))) (by cases b<;>cases j<;>first|exact gA|exact gB|exact .inl ⟨O,(As O O).trans (by rw[B];try rfl)⟩) ?_;obtain ⟨X,z⟩:∃e,(j || ag)=e:=⟨_,O⟩;refine qG (.bool b) (yU b (.bool X)) (by cases b<;>first|exact gA|exact gB|exact .inl ⟨O,Ac (v:=.bool X) O (by rw[<-z];cases j<;>rfl)⟩) ?_;obtain ⟨d,o⟩:∃e,(b && X)=e:=⟨_,O⟩;refine qV (Ac (v:=.bool d) O (by rw[<-o];cases b<;>rfl)) (qM _ O (qG (.bool d) (yU d (P6 l 0)) (by cases d<;>first|exact gA|exact gB|exact .inl ⟨O,AN O underlying48 O Ab O⟩) (qG (.bool d) (yU d (I6 t.kind)) (by cases d<;>first|exact gA|exact gB|exact .inl ⟨O,AD O Aa (k.cell O)⟩) ?_)));obtain ⟨i,H⟩:∃e,(decide ((t.kind:Int)=10))=e:=⟨_,O⟩;refine qG (.bool d) (yU d (.bool i)) (by cases d<;>first|exact gA|exact gB|exact .inl ⟨O,(As O O).trans (by rw[H];try rfl)⟩) (qG (.bool d) (yU d (.bool i)) (by cases d<;>first|exact gA|exact gB|exact .inl ⟨O,Ah O⟩) (qG (yU d (.bool i)) (yU d (nU i (P6 l 5))) (by cases d<;>cases i<;>first|exact gA|exact gB|exact .inl ⟨O,AN O underlying48 O H8 O⟩) (qG (yU d (.bool i)) (yU d (nU i (.bool t.neg))) (by cases d<;>cases i<;>first|exact gA|exact gB|exact .inl ⟨O,AD O GF (k.cell O)⟩) ?_)));obtain ⟨ad,x⟩:∃e,(!t.neg)=e:=⟨_,O⟩;refine qG (yU d (.bool i)) (yU d (nU i (.bool ad))) (by cases d<;>cases i<;>first|exact gA|exact gB|exact .inl ⟨O,(Cj O).trans (by rw[x];try rfl)⟩) ?_;obtain ⟨Z,F⟩:∃e,(i || ad)=e:=⟨_,O⟩;refine qG (.bool d) (yU d (.bool Z)) (by cases d<;>first|exact gA|exact gB|exact .inl ⟨O,Ac (v:=.bool Z) O (by rw[<-F];cases i<;>rfl)⟩) ?_;obtain ⟨ak,K⟩:∃e,(d && Z)=e:=⟨_,O⟩;refine qV (Ac (v:=.bool ak) O (by rw[<-K];cases d<;>rfl)) (qA _ O (AA ?_));subst K;subst F;subst x;subst H;subst o;subst z;subst B;subst M;subst m;subst L;subst s;subst A;subst N;subst r;subst n;subst J;subst p;subst q;refine AS (AV results150 (v:=(.bool ((((ok && ((decide ((t.kind:Int)=2)) || (decide ((((t.set.length:Nat):Int):Int)=0)))) && (((decide ((t.kind:Int)=6)) || (decide ((t.kind:Int)=9))) || (decide ((t.mn:Int)=0)))) && ((decide ((t.kind:Int)=6)) || (decide ((t.mx:Int)=0)))) && ((decide ((t.kind:Int)=10)) || (!t.neg))))) O ?_);subst ai;exact ⟨O,E⟩
def Df:Option Int->List (Int×Int)->Int
  | _,[]=>0
  | p,s::r=>if EA s=false then 1 else if (match p with|some h=>decide (s.1<h+2)|none=>false)=true then 3 else Df (some s.2) r
theorem Cm (p:Option Int) (s:Int×Int) (r:List (Int×Int)):Df p (s::r)=if EA s=false then 1 else if (match p with|some h=>decide (s.1<h+2)|none=>false)=true then 3 else Df (some s.2) r:=rfl
def A7 (l:List (Int×Int)):Int:=if 16<l.length then 2 else Df none l
def EC (l:List (Int×Int)) (k:Nat):Option Int:=if k=0 then none else (l[k - 1]?).map (·.2)
theorem Sb {l:List (Int×Int)} {k:Nat} {s:Int×Int} (h:l[k]?=some s):EC l (k+1)=some s.2:=by
 unfold EC;simp[h]
theorem Wx {l:List (Int×Int)} {k:Nat} {s:Int×Int} {p:Int} (a:0<k->∃q,l[k - 1]?=some q∧q.2=p∧EC l k=some p)
 (c:(decide ((0:Int)<((k:Nat):Int)) && decide (s.1<p+2))=false):¬(match EC l k with|some h=>decide (s.1<h+2)|none=>false)=true:=by
 by_cases b:0<k
 .obtain ⟨q,_,_,d⟩:=a b;rw[d];simp at c⊢;exact c b
 .have:EC l k=none:=by unfold EC;rw[if_pos qO]
  rw[this];simp
theorem KD (w0:World) (v:Value) (l:List (Int×Int)) (hs:A6 w0 v l) :
  CJ prog 44 #[v] w0 fun v w=>v=.int .i64 (A7 l)∧Ao w0 w:=by
 obtain ⟨a,c,rfl⟩:=BL.form hs;have ax:l.length≤9223372036854775807:=by simpa using BL.le hs
 simp only[List.length_map] at hs⊢;refine qR func44 rfl ntmps44 rfl (fun E=>(Y (qA _ rfl (AA (AE (Y (qM _ rfl (qV (AH underlying37 rfl) (qV (CH rfl rfl) (AA (qC rfl (fun aw=>?_) (fun aw=>?_))))))))))))
 ·refine Y (qA _ rfl (AA (AS (AO (AV results44 (v:=(.int .i64 2)) rfl ?_)))));exact ⟨by unfold A7;rw[if_pos qO],E⟩
 ·have au:A7 l=Df none l:=by unfold A7;rw[if_neg qO]
  rw[au];refine AK (AB (AE (Y (qM _ rfl (qV (AH underlying37 rfl) (qM _ rfl (AA (AM (Am (fun nn_ σ W2=>∃(k:Nat),(∃jj_,σ=BQ jj_ [(0,(.slice a l.length c)),(8,(.slice a l.length c)),(9,(I6 (l.length:Int))),(10,(I6 (k:Int)))])∧Chg AZ w0 W2∧(k≤l.length)∧(Df none l=Df (EC l k) (l.drop k))∧(∀h,EC l k=some h→0≤h∧h≤1114111)∧nn_=l.length - k) (n:=l.length - 0) ?_ ?_)))))))))
  ·exact ⟨0,Af.out ⟨rfl,rfl,rfl,rfl,trivial⟩,E,Nat.zero_le _,rfl,(by intro h hh;simp[EC] at hh),rfl⟩
  ·clear E;rintro _ _ W2 ⟨k,⟨j2,rfl⟩,E,hk,aa,av,rfl⟩;refine Y (qV (Av rfl rfl) (AA (AE (qC rfl (fun an=>?_) (fun an=>?_)))))
   ·have ac:k<l.length:=qO
    obtain ⟨s,ag⟩:∃s,l[k]?=some s:=⟨_,List.getElem?_eq_getElem ac⟩;obtain ⟨b,o,rfl,ab⟩:=BH hs qO;have ao:l.drop k=s::l.drop (k+1):=by rw[List.drop_eq_getElem_cons ac];rw[List.getElem?_eq_getElem ac] at ag;cases ag;rfl
    rw[ao] at aa;refine AK (AB (AE (AM (Y (qM _ rfl (qV (AC (b:=b) (o:=o) (len:=l.length) (cap:=c) (i:=k) (o':=o+k*2) rfl rfl rfl underlying37 BA qO qO) (qV (AU rfl EM BA rfl ((ab k s ag).ext E)) (BO (c:=#[(I6 0),(I6 0)]) qD C8 rfl ?_))))))));intro b4 w4 N4;have F4:=N4.ge E;replace E:=E.ext N4.ext;have B4:=N4.blk;refine qA _ rfl (Al (b:=b4) (o:=0) (c':=#[(I6 s.1),(I6 s.2)]) rfl rfl qS BA rfl B4 qL rfl ?_);intro w5 S5;replace E:=S5.step E qQ;replace B4:=S5.blk;refine AA (AE (Y (qV (AU (vs:=[(I6 s.1),(I6 s.2)]) rfl EM BA rfl (B4.cells rfl)) (qE rfl (AT func86 kQ kQ rfl) (T4 s _) ?_))));rintro _ w9 ⟨rfl,X9⟩;replace B4:=X9.keep B4;replace E:=E.ext X9;refine qV (Cj rfl) (AA (A3 rfl (fun hv=>?_) (fun hv=>?_)))
    ·have ar:=hv;replace hv:=by simpa using hv
     refine Y (qA _ rfl (AA (AS (AO (Ag (AO (AO (Ag (AO (AV results44 (v:=(.int .i64 1)) rfl ?_))))))))));exact ⟨by rw[aa];rw[Cm,if_pos hv],E⟩
    ·have ar:=hv;replace hv:=by simpa using hv
     have ah:EA s=true:=by simpa using hv
     have ap:0≤s.2∧s.2≤1114111:=by unfold EA at ah;simp at ah;omega
     obtain ⟨p,ae⟩:∃p,(EC l k).getD 0=p:=⟨_,rfl⟩;have ai:0<k→∃q,l[k - 1]?=some q∧q.2=p∧EC l k=some p:=by
      intro h0;have h1:k - 1<l.length:=qO
      have h2:EC l k=some (l[k - 1]).2:=by unfold EC;rw[if_neg qO,List.getElem?_eq_getElem h1];rfl
      rw[h2] at ae;simp at ae;exact ⟨_,List.getElem?_eq_getElem h1,ae,by rw[h2,ae]⟩
     have hpb:0≤p∧p≤1114111:=by
      by_cases h0:0<k
      ·obtain ⟨q,_,_,h3⟩:=ai h0;exact av p h3
      ·have:EC l k=none:=by unfold EC;rw[if_pos qO]
       rw[this] at ae;simp at ae;omega
     refine AK (AB (Dq 13 mixed qK ?_));intro w7 X7 _;replace B4:=X7.keep B4;replace E:=E.ext X7;refine qT (Ah rfl) ?_;obtain ⟨e8,ad⟩:∃e,(decide ((0:Int)<((k:Nat):Int)))=e:=⟨_,rfl⟩;refine qT ((CH rfl rfl).trans (by rw[ad];try rfl)) (qT (Ah rfl) (CR (oj:=_) (gv:=(.bool e8)) (u:=(yU e8 (P6 b4 0))) rfl rfl qD qD rfl (by cases e8<;>first|exact gA|exact gB|exact .inl ⟨rfl,AN rfl underlying74 rfl Ab rfl⟩) (CR (oj:=_) (gv:=(.bool e8)) (u:=(yU e8 (I6 s.1))) rfl rfl qD qD rfl (by cases e8<;>first|exact gA|exact gB|exact .inl ⟨rfl,AD rfl Aa (B4.cell rfl)⟩) (CR (oj:=_) (gv:=(.bool e8)) (u:=(yU e8 (.slice (some ⟨b,o,none⟩) l.length c))) rfl rfl qD qD rfl (by cases e8<;>first|exact gA|exact gB|exact .inl ⟨rfl,Ah rfl⟩) (CR (oj:=_) (gv:=(.bool e8)) (u:=(yU e8 (I6 (k:Int)))) rfl rfl qD qD rfl (by cases e8<;>first|exact gA|exact gB|exact .inl ⟨rfl,Ah rfl⟩) (CR (oj:=_) (gv:=(.bool e8)) (u:=(yU e8 (I6 ((k:Int) - 1)))) rfl rfl qD qD rfl (by cases e8<;>first|exact gA|exact gB|exact .inl ⟨rfl,D3 (c:=(k:Int) - 1) rfl rfl (A2 (by have:=of_decide_eq_true ad;omega))⟩) (CR (oj:=_) (gv:=(.bool e8)) (u:=(yU e8 (.pointer (some ⟨b,o+(k - 1)*2,none⟩)))) rfl rfl qD qD rfl (by cases e8<;>first|exact gA|exact gB|exact .inl ⟨rfl,AC (i:=k - 1) rfl rfl (by have:=of_decide_eq_true ad;omega) underlying37 BA (by have:=of_decide_eq_true ad;omega) qO⟩) (CR (oj:=_) (gv:=(.bool e8)) (u:=(yU e8 (.pointer (some ⟨b,o+(k - 1)*2+1,none⟩)))) rfl rfl qD qD rfl (by cases e8<;>first|exact gA|exact gB|exact .inl ⟨rfl,AN rfl underlying74 rfl Ab rfl⟩) (CR (oj:=_) (gv:=(.bool e8)) (u:=(yU e8 (I6 p))) rfl rfl qD qD rfl (by cases e8<;>first|exact gA|exact gB|exact .inl ⟨rfl,AD rfl Aa ((by have:=of_decide_eq_true ad;obtain ⟨q,hq,rfl,_⟩:=ai qO;exact ((ab (k - 1) q hq).ext E).at1))⟩) (CR (oj:=_) (gv:=(.bool e8)) (u:=(yU e8 (I6 (p+2)))) rfl rfl qD qD rfl (by cases e8<;>first|exact gA|exact gB|exact .inl ⟨rfl,Aq (c:=p+2) rfl rfl (A2 (by have:=of_decide_eq_true ad;omega))⟩) ?_))))))))));obtain ⟨e9,ak⟩:∃e,(decide ((s.1:Int)<p+2))=e:=⟨_,rfl⟩;refine CR (oj:=_) (gv:=(.bool e8)) (u:=(yU e8 (.bool e9))) rfl rfl qD qD rfl (by cases e8<;>first|exact gA|exact gB|exact .inl ⟨rfl,(Av rfl rfl).trans (by rw[ak];try rfl)⟩) (Dr ?_);obtain ⟨al,af⟩:∃e,(e8 && e9)=e:=⟨_,rfl⟩;refine qV (Ac (v:=.bool al) rfl (by rw[←af];cases e8<;>rfl)) (AA ?_);subst af;subst ak;subst ad;refine A3 rfl (fun hf=>?_) (fun hf=>?_)
     ·have am:=hf;have aj:0<k∧s.1<p+2:=by simpa using hf
      obtain ⟨q,_,_,h3⟩:=ai aj.1;refine Y (qA _ rfl (AA (AS (Ag (AO (AO (Ag (AO (AV results44 (v:=(.int .i64 3)) rfl ?_)))))))));exact ⟨by rw[aa];rw[Cm,if_neg (by simp[ah]),h3,if_pos (by simp[aj.2])],E⟩
     ·have am:=hf;refine AK (AP (AB (AG (qV (Aq rfl rfl (A2 qO)) (qM _ rfl (AA (AB ?_)))))));exact ⟨l.length - (k+1),qO,k+1,Af.out ⟨rfl,rfl,rfl,rfl,trivial⟩,E,qO,(by rw[aa];rw[Cm,if_neg (by simp[ah]),if_neg ?_,Sb ag];exact Wx ai hf),(by intro h hh;rw[Sb ag] at hh;cases hh;exact ap),rfl⟩
   ·have aq:k=l.length:=qO
    rw[aq,List.drop_length] at aa;refine Ak (AR (AR (Ae (AB (Y (qA _ rfl (AA (AS (AV results44 (v:=(.int .i64 0)) rfl ?_)))))))));exact ⟨by rw[aa];rfl,E⟩
end Go.Proofs
namespace Go.Proofs
open Go Go.Eng
set_option maxRecDepth 100000
theorem PQ (j:World) (v fv:Value) (l:List (Int)) (p:Int->Bool) (hs:CF j v l) (A:∀(w:World) (x:Int),Ao j w->x∈l->CV prog fv #[.int .i64 x] w λr w'=>r=.bool (p x)∧Ao w w') :
 CJ prog 68 #[v,fv] j λr w=>r=.int .i64 (PS p l)∧Ao j w:=by
 obtain ⟨a,c,rfl⟩:=BL.form hs;have hlen:l.length<=9223372036854775807:=by simpa using BL.le hs
 simp only[List.length_map] at hs⊢;refine qR func68 O ntmps68 O (λE=>(Y (qA _ O (AA (AE (Y (qM _ O (qV (AH underlying22 O) (qM _ O (AA (AM (Am (λnn_ σ t=>∃(k:Nat),(∃jj_,σ=BQ jj_ [(0,(.slice a l.length c)),(1,fv),(7,(I6 (l.length:Int))),(8,(I6 (k:Int)))])∧Chg AZ j t∧(k<=l.length)∧(∀(i:Nat) (y:Int),i<k->l[i]?=some y->p y=false)∧nn_=l.length - k) (n:=l.length - 0) ?_ ?_))))))))))))
 .exact ⟨0,Af.out ⟨O,O,O,O,trivial⟩,E,Nat.zero_le _,(λi y h=>absurd h (Nat.not_lt_zero _)),O⟩
 .clear E;rintro _ _ t ⟨k,⟨j1,rfl⟩,E,hk,e,rfl⟩;refine Y (qV (Av O O) (AA (AE (qC O (λs=>?_) (λs=>?_)))))
  .obtain ⟨x,m⟩:=AL (l:=l) (i:=k) qO;obtain ⟨b,o,rfl,d⟩:=BF hs qO;refine AK (AB (AE (AM (Y (qM _ O (qA _ O (AA (Y (qM _ O (qM _ O (qM _ O (qV (AC (b:=b) (o:=o) (len:=l.length) (cap:=c) (i:=k) (o':=o+k) O O O underlying22 Ab qO qO) (qV (AD O Aa (E.cell (λf=>f) (d k x m))) (De qD O O (A _ x E (List.mem_of_getElem? m)) ?_))))))))))))));rintro _ w9 ⟨rfl,z⟩;replace E:=E.ext z;refine AA (A3 O (λg=>?_) (λg=>?_))
   .have q:=g;refine Y (qM _ O (qA _ O (AA (AS (Ag (AO (AO (Ag (AO (AV results68 (v:=(.int .i64 ((k:Nat):Int))) O ?_))))))))));exact ⟨A5 (Jy m g e).symm,E⟩
   .have q:=g;refine AK (AP (AB (AG (qV (Aq O O (A2 qO)) (qM _ O (AA (AB ?_)))))));exact ⟨l.length - (k+1),qO,k+1,Af.out ⟨O,O,O,O,trivial⟩,E,qO,Gz m g e,O⟩
  .have hkk:k=l.length:=qO
   refine Ak (AR (AR (Ae (AB (Y (qA _ O (AA (AS (AV results68 (v:=(.int .i64 (-1))) O ?_)))))))));exact ⟨A5 (Ik λi y u=>e i y (by have:=AI u;omega) u).symm,E⟩
theorem PR (a:World) (v fv:Value) (l:List (Int)) (p:Int->Bool) (hs:CF a v l) (c:∀(w:World) (x:Int),Ao a w->x∈l->CV prog fv #[.int .i64 x] w λr w'=>r=.bool (p x)∧Ao w w') :
 CJ prog 25 #[v,fv] a λr w=>r=.bool (l.any p)∧Ao a w:=by
 refine qR func25 O ntmps25 O (λE=>(Y (qA _ O (AA (Y (qM v O (qM _ O (qE O (AT func68 kQ kQ O) (PQ _ v fv l p hs c) ?_))))))));rintro _ w9 ⟨rfl,b⟩;replace E:=E.ext b;refine qV (C3 O O) (qA _ O (AA (AS (AV results25 (v:=(.bool (decide ((0:Int)<=PS p l)))) O ?_))));exact ⟨CG (Jz p l),E⟩
theorem NK (g:World) (v fv:Value) (l:List (Int×Int)) (p:Int×Int->Bool) (hs:A6 g v l) (u:∀(w:World) (x:Int×Int),Ao g w->x∈l->CV prog fv #[.agg #[.int .i64 x.1,.int .i64 x.2]] w λr w'=>r=.bool (p x)∧Ao w w') :
 CJ prog 109 #[v,fv] g λr w=>r=.int .i64 (PS p l)∧Ao g w:=by
 obtain ⟨a,c,rfl⟩:=BL.form hs;have hlen:l.length<=9223372036854775807:=by simpa using BL.le hs
 simp only[List.length_map] at hs⊢;refine qR func109 O ntmps109 O (λE=>(Y (qA _ O (AA (AE (Y (qM _ O (qV (AH underlying37 O) (qM _ O (AA (AM (Am (λnn_ σ s=>∃(k:Nat),(∃jj_,σ=BQ jj_ [(0,(.slice a l.length c)),(1,fv),(7,(I6 (l.length:Int))),(8,(I6 (k:Int)))])∧Chg AZ g s∧(k<=l.length)∧(∀(i:Nat) (y:Int×Int),i<k->l[i]?=some y->p y=false)∧nn_=l.length - k) (n:=l.length - 0) ?_ ?_))))))))))))
 .exact ⟨0,Af.out ⟨O,O,O,O,trivial⟩,E,Nat.zero_le _,(λi y h=>absurd h (Nat.not_lt_zero _)),O⟩
 .clear E;rintro _ _ s ⟨k,⟨j1,rfl⟩,E,hk,e,rfl⟩;refine Y (qV (Av O O) (AA (AE (qC O (λq=>?_) (λq=>?_)))))
  .obtain ⟨x,j⟩:=AL (l:=l) (i:=k) qO;obtain ⟨b,o,rfl,d⟩:=BH hs qO;refine AK (AB (AE (AM (Y (qM _ O (qA _ O (AA (Y (qM _ O (qM _ O (qM _ O (qV (AC (b:=b) (o:=o) (len:=l.length) (cap:=c) (i:=k) (o':=o+k*2) O O O underlying37 BA qO qO) (qV (AU O EM BA O ((d k x j).ext E)) (De qD O O (u _ x E (List.mem_of_getElem? j)) ?_))))))))))))));rintro _ w9 ⟨rfl,z⟩;replace E:=E.ext z;refine AA (A3 O (λf=>?_) (λf=>?_))
   .have m:=f;refine Y (qM _ O (qA _ O (AA (AS (Ag (AO (AO (Ag (AO (AV results109 (v:=(.int .i64 ((k:Nat):Int))) O ?_))))))))));exact ⟨A5 (Jy j f e).symm,E⟩
   .have m:=f;refine AK (AP (AB (AG (qV (Aq O O (A2 qO)) (qM _ O (AA (AB ?_)))))));exact ⟨l.length - (k+1),qO,k+1,Af.out ⟨O,O,O,O,trivial⟩,E,qO,Gz j f e,O⟩
  .have hkk:k=l.length:=qO
   refine Ak (AR (AR (Ae (AB (Y (qA _ O (AA (AS (AV results109 (v:=(.int .i64 (-1))) O ?_)))))))));exact ⟨A5 (Ik λi y t=>e i y (by have:=AI t;omega) t).symm,E⟩
theorem NL (a:World) (v fv:Value) (l:List (Int×Int)) (p:Int×Int->Bool) (hs:A6 a v l) (c:∀(w:World) (x:Int×Int),Ao a w->x∈l->CV prog fv #[.agg #[.int .i64 x.1,.int .i64 x.2]] w λr w'=>r=.bool (p x)∧Ao w w') :
 CJ prog 71 #[v,fv] a λr w=>r=.bool (l.any p)∧Ao a w:=by
 refine qR func71 O ntmps71 O (λE=>(Y (qA _ O (AA (Y (qM v O (qM _ O (qE O (AT func109 kQ kQ O) (NK _ v fv l p hs c) ?_))))))));rintro _ w9 ⟨rfl,b⟩;replace E:=E.ext b;refine qV (C3 O O) (qA _ O (AA (AS (AV results71 (v:=(.bool (decide ((0:Int)<=PS p l)))) O ?_))));exact ⟨CG (Jz p l),E⟩
theorem XC (j:World) (s:Int×Int) (r:Int) (b:Nat) (h:Az j b #[.int .i64 r] 3) :
 CJ prog 72 #[.agg #[.int .i64 s.1,.int .i64 s.2],.pointer (some ⟨b,0,none⟩)] j λv w=>v=.bool (decide (s.1<=r) && decide (r<=s.2))∧Ao j w:=by
 refine qR func72 O ntmps72 O (λE=>(Y (BM (v:=(.agg #[(I6 s.1),(I6 s.2)])) (c:=#[(I6 s.1),(I6 s.2)]) qD O O ?_)));intro k w1 i;replace h:=i.keep h;replace E:=E.ext i.ext;have m:=i.blk;refine qA _ O (AA (Y (qF k 0 0 O underlying74 O Ab O (qV (AD O Aa (m.cell O)) (qV (AD O Aa (h.cell O)) ?_)))));obtain ⟨a,f⟩:∃e,(decide ((s.1:Int)<=r))=e:=⟨_,O⟩;refine qV ((GY O O).trans (by rw[f];try rfl)) (qM _ O (qG (.bool a) (yU a (I6 r)) (by cases a<;>first|exact gA|exact gB|exact .inl ⟨O,AD O Aa (h.cell O)⟩) (qG (.bool a) (yU a (P6 k 1)) (by cases a<;>first|exact gA|exact gB|exact .inl ⟨O,AN O underlying74 O Ab O⟩) (qG (.bool a) (yU a (I6 s.2)) (by cases a<;>first|exact gA|exact gB|exact .inl ⟨O,AD O Aa (m.cell O)⟩) ?_))));obtain ⟨l,d⟩:∃e,(decide ((r:Int)<=s.2))=e:=⟨_,O⟩;refine qG (.bool a) (yU a (.bool l)) (by cases a<;>first|exact gA|exact gB|exact .inl ⟨O,(GY O O).trans (by rw[d];try rfl)⟩) ?_;obtain ⟨n,g⟩:∃e,(a && l)=e:=⟨_,O⟩;refine qV (Ac (v:=.bool n) O (by rw[<-g];cases a<;>rfl)) (qA _ O (AA ?_));subst g;subst d;subst f;refine AS (AV results72 (v:=(.bool ((decide ((s.1:Int)<=r)) && (decide ((r:Int)<=s.2))))) O ?_);exact ⟨O,E⟩
theorem XB (a:World) (v:Value) (l:List (Int×Int)) (r:Int) (hs:A6 a v l) :
 CJ prog 30 #[v,.int .i64 r] a λu w=>u=.bool (BY l r)∧Ao a w:=by
 refine qR func30 O ntmps30 O (λE=>(Y (BM (v:=(I6 r)) (c:=#[(I6 r)]) qD O O ?_)));intro d w1 f;replace E:=E.ext f.ext;have b:=f.blk;refine qA _ O (AA (Y (qM v O (qV (CA O O) (qE O (AT func71 kQ kQ O) (NL _ v _ l (λs=>decide (s.1<=r) && decide (r<=s.2)) (hs.ext E) (λw x g _=>CV.mk (first:=#[]) (cap:=#[.pointer (some ⟨d,0,none⟩)]) func72 kQ kQ O (XC w x r d (g.keep b)))) ?_)))));rintro _ w9 ⟨rfl,e⟩;replace b:=e.keep b;replace E:=E.ext e;refine qA _ O (AA (AS (AV results30 (v:=(.bool (BY l r))) O ?_)));exact ⟨O,E⟩
def R5 (r:Int):Bool:=decide (0<=r) && decide (r<=1114111)
end Go.Proofs
namespace Go.Proofs
open Go Go.Eng
set_option maxRecDepth 100000
abbrev Sp:=Int×Int
def C_ (s:Sp):Prop:=0<=s.1∧s.1<=s.2∧s.2<=1114111
structure Canon (l:List Sp):Prop where
 ok:∀s∈l,C_ s
 gap:l.Pairwise λs t=>s.2+2<=t.1
theorem Xi (a b:Int):a<=b∨b<a:=qO
theorem IA (a b:Int):a<b∨b<=a:=qO
theorem FJ {l:List Sp} {r:Int}:BY l r=true↔∃s∈l,s.1<=r∧r<=s.2:=by
 unfold BY;simp[List.any_eq_true]
theorem CQ (s:Sp) (l:List Sp) (r:Int):BY (s::l) r=((decide (s.1<=r) && decide (r<=s.2)) || BY l r):=rfl
theorem DD (a b:List Sp) (r:Int):BY (a++b) r=(BY a r || BY b r):=by
 unfold BY;rw[List.any_append]
theorem ER (r:Int):BY [] r=false:=rfl
theorem Sr {a b:List Sp} (h:a.Perm b) (r:Int):BY a r=BY b r:=by
 rw[Bool.eq_iff_iff,FJ,FJ];exact ⟨λ⟨s,hs,q⟩=>⟨s,h.mem_iff.1 hs,q⟩,λ⟨s,hs,q⟩=>⟨s,h.mem_iff.2 hs,q⟩⟩
theorem Canon.nil:Canon []:=⟨λ_ h=>(by cases h),List.Pairwise.nil⟩
theorem Canon.one {s:Sp} (h:C_ s):Canon [s]:=⟨λt a=>by rw[List.mem_singleton] at a;subst a;exact h,List.pairwise_singleton _ _⟩
theorem Canon.tail {s:Sp} {l:List Sp} (h:Canon (s::l)):Canon l:=⟨λt a=>h.ok t (List.mem_cons_of_mem _ a),(List.pairwise_cons.1 h.gap).2⟩
theorem Canon.head {s:Sp} {l:List Sp} (h:Canon (s::l)):C_ s:=h.ok s List.mem_cons_self
theorem Canon.far {s:Sp} {l:List Sp} (h:Canon (s::l)):∀t∈l,s.2+2<=t.1:=(List.pairwise_cons.1 h.gap).1
theorem Canon.cons {s:Sp} {l:List Sp} (d:C_ s) (c:∀t∈l,s.2+2<=t.1) (b:Canon l):Canon (s::l):=
 ⟨λt a=>by rcases List.mem_cons.1 a with rfl|a;exact d;exact b.ok t a,List.pairwise_cons.2 ⟨c,b.gap⟩⟩
theorem FO {s:Sp} {l:List Sp} (h:Canon (s::l)) {r:Int} (hr:r<=s.2+1):BY l r=false:=by
 cases e:BY l r with
 | false=>rfl
 | true=>
  obtain ⟨t,a,h1,_⟩:=FJ.1 e;have:=h.far t a;omega
theorem GI {s:Sp} {l:List Sp} (h:Canon (s::l)) {r:Int} (hr:r<s.1):BY (s::l) r=false:=by
 have a:=h.head;rw[CQ,FO h (by unfold C_ at a;omega),Bool.or_false,decide_eq_false qO];rfl
theorem Ip:∀{a b:List Sp},Canon a->Canon b->(∀r,BY a r=BY b r)->a=b
 | [],[],_,_,_=>rfl
 | [],t::b,_,hb,h=>by
  have f:=hb.head;unfold C_ at f;have:=h t.1;rw[ER,CQ,decide_eq_true (Int.le_refl _),decide_eq_true qO] at this;simp at this
 | s::a,[],ha,_,h=>by
  have f:=ha.head;unfold C_ at f;have:=h s.1;rw[ER,CQ,decide_eq_true (Int.le_refl _),decide_eq_true qO] at this;simp at this
 | s::a,t::b,ha,hb,h=>by
  have f:=ha.head;have i:=hb.head;unfold C_ at f i;have e:∀{s:Sp} {l:List Sp} {r:Int},s.1<=r->r<=s.2->BY (s::l) r=true:=λd c=>by
   rw[CQ,decide_eq_true d,decide_eq_true c];rfl
  have k:s.1=t.1:=by
   rcases Int.lt_trichotomy s.1 t.1 with d|d|d
   .have c:=h s.1;rw[e (Int.le_refl _) qO,GI hb d] at c;cases c
   .exact d
   .have c:=h t.1;rw[e (s:=t) (Int.le_refl _) qO,GI ha d] at c;cases c
  have j:s.2=t.2:=by
   rcases Int.lt_trichotomy s.2 t.2 with d|d|d
   .have c:=h (s.2+1);rw[e (s:=t) qO qO,CQ,FO ha (Int.le_refl _),decide_eq_false (p:=s.2+1<=s.2) qO] at c;simp at c
   .exact d
   .have c:=h (t.2+1);rw[e (s:=s) qO qO,CQ,FO hb (Int.le_refl _),decide_eq_false (p:=t.2+1<=t.2) qO] at c;simp at c
  have m:s=t:=Prod.ext k j;subst m;have g:a=b:=Ip ha.tail hb.tail λr=>by
   rcases Xi r (s.2+1) with d|d
   .rw[FO ha d,FO hb d]
   .have c:=h r;rw[CQ,CQ,decide_eq_false (p:=r<=s.2) qO] at c;simpa using c
  rw[g]
def Ki (out:List Sp) (s:Sp):List Sp:=match out.getLast? with
  | some c=>if s.1<=c.2+1 then out.dropLast++[(c.1,max c.2 s.2)] else out++[s]
  | none=>[s]
def L5 (l:List Sp):List Sp:=l.foldl Ki []
theorem ID (o:List Sp) (c s:Sp):Ki (o++[c]) s=if s.1<=c.2+1 then o++[(c.1,max c.2 s.2)] else o++[c]++[s]:=by
 unfold Ki;simp
theorem L4 (s:Sp):Ki [] s=[s]:=rfl
structure JInv (out l:List Sp) (m:Int):Prop where
 can:Canon out
 low:∀s∈out,s.1<=m
 mem:∀r,BY out r=BY l r
 len:out.length<=l.length
theorem Gm {α:Type} (l:List α):l=[]∨∃o c,l=o++[c]:=by
 rcases List.eq_nil_or_concat l with h|⟨o,c,h⟩
 .exact .inl h
 .exact .inr ⟨o,c,by simpa using h⟩
theorem Ei {o:List Sp} {c:Sp}:Canon (o++[c])↔Canon o∧C_ c∧∀t∈o,t.2+2<=c.1:=by
 constructor
 .intro h;have b:=List.pairwise_append.1 h.gap;exact ⟨⟨λt a=>h.ok t (by simp[a]),b.1⟩,h.ok c qP,λt a=>b.2.2 t a c qP⟩
 .rintro ⟨b,f,e⟩;refine ⟨λt a=>?_,List.pairwise_append.2 ⟨b.gap,List.pairwise_singleton _ _,λt a u d=>?_⟩⟩
  .rcases List.mem_append.1 a with a|a
   .exact b.ok t a
   .rw[List.mem_singleton] at a;subst a;exact f
  .rw[List.mem_singleton] at d;subst d;exact e t a
theorem Q3 {out l:List Sp} {m:Int} {s:Sp} (h:JInv out l m) (hs:C_ s) (hm:m<=s.1):JInv (Ki out s) (l++[s]) s.1:=by
 rcases Gm out with rfl|⟨o,c,rfl⟩
 .rw[L4];refine ⟨Canon.one hs,λt a=>by rw[List.mem_singleton] at a;subst a;exact Int.le_refl _,λr=>?_,qP⟩;rw[DD,<-h.mem r];rfl
 .obtain ⟨k,b,i⟩:=Ei.1 h.can;have hc:=h.low c qP;unfold C_ at b hs;rw[ID];split
  .rename_i j
   have hmx:max c.2 s.2=c.2∨max c.2 s.2=s.2:=qO
   have hge:c.2<=max c.2 s.2∧s.2<=max c.2 s.2:=qO
   refine ⟨Ei.2 ⟨k,⟨b.1,by simp only;omega,by simp only;omega⟩,i⟩,λt a=>?_,λr=>?_,?_⟩
   .rcases List.mem_append.1 a with a|a
    .have:=h.low t (by simp[a]);omega
    .rw[List.mem_singleton] at a;subst a;simp only;omega
   .have g:=h.mem r;rw[DD] at g;rw[DD,DD,<-g];have e:BY [(c.1,max c.2 s.2)] r=(BY [c] r || BY [s] r):=by
     rw[Bool.eq_iff_iff];simp only[CQ,ER,Bool.or_false,Bool.or_eq_true,Bool.and_eq_true,decide_eq_true_eq];constructor
     .intro ⟨d,f⟩;omega
     .rintro (⟨d,f⟩|⟨d,f⟩)<;>omega
    rw[e,Bool.or_assoc]
   .have:=h.len;simp at this⊢;omega
  .rename_i j
   refine ⟨Ei.2 ⟨h.can,hs,λt a=>?_⟩,λt a=>?_,λr=>?_,?_⟩
   .rcases List.mem_append.1 a with a|a
    .have:=i t a;omega
    .rw[List.mem_singleton] at a;subst a;omega
   .rcases List.mem_append.1 a with a|a
    .have:=h.low t a;omega
    .rw[List.mem_singleton] at a;subst a;exact Int.le_refl _
   .rw[DD _ [s],DD l,h.mem r]
   .have:=h.len;simp at this⊢;omega
theorem L8:∀(r:List Sp) {out l:List Sp} {m:Int},JInv out l m->(∀s∈r,C_ s∧m<=s.1)->r.Pairwise (λs t=>s.1<=t.1)->∃m',JInv (r.foldl Ki out) (l++r) m'
 | [],out,l,m,h,_,_=>⟨m,by simpa using h⟩
 | s::r,out,l,m,h,hv,hp=>by
  have b:=hv s List.mem_cons_self;have a:=List.pairwise_cons.1 hp;obtain ⟨m',d⟩:=L8 r (Q3 h b.1 b.2) (λt c=>⟨(hv t (List.mem_cons_of_mem _ c)).1,a.1 t c⟩) a.2;exact ⟨m',by simpa using d⟩
theorem Q4 {l:List Sp} (a:∀s∈l,C_ s) (b:l.Pairwise (λs t=>s.1<=t.1)):Canon (L5 l)∧(∀r,BY (L5 l) r=BY l r)∧(L5 l).length<=l.length:=by
 obtain ⟨m,h⟩:=L8 l (out:=[]) (l:=[]) (m:=0) ⟨Canon.nil,λ_ h=>by (cases h),λ_=>rfl,Nat.le_refl _⟩ (λs hs=>⟨a s hs,(a s hs).1⟩) b;exact ⟨h.can,h.mem,h.len⟩
def GS (l out:List Sp):Prop:=∃l',l'.Perm l∧l'.Pairwise (λs t=>s.1<=t.1)∧out=L5 l'
theorem GS.all {l out:List Sp} (h:GS l out) (d:∀s∈l,C_ s):Canon out∧(∀r,BY out r=BY l r)∧out.length<=l.length:=by
 obtain ⟨l',b,c,rfl⟩:=h;have a:=Q4 (λs hs=>d s (b.mem_iff.1 hs)) c;exact ⟨a.1,λr=>(a.2.1 r).trans (Sr b r),by rw[<-b.length_eq];exact a.2.2⟩
def EH (p:Int):List Sp->List Sp
  | []=>if p<=1114111 then [(p,1114111)] else []
  | s::r=>if p<s.1 then (p,s.1 - 1)::EH (s.2+1) r else EH (s.2+1) r
theorem O8 (p:Int) (s:Sp) (r:List Sp):EH p (s::r)=if p<s.1 then (p,s.1 - 1)::EH (s.2+1) r else EH (s.2+1) r:=rfl
theorem Qr (p:Int):EH p []=if p<=1114111 then [(p,1114111)] else []:=rfl
theorem Lf:∀(l:List Sp) (p:Int),(EH p l).length<=l.length+1
 | [],p=>by unfold EH;split<;>simp
 | s::r,p=>by
  have:=Lf r (s.2+1);unfold EH;split<;>simp<;>omega
theorem I5:∀(l:List Sp) (p:Int),Canon l->0<=p->(∀s∈l,p<=s.1)->
 Canon (EH p l)∧(∀t∈EH p l,p<=t.1)∧(∀r,p<=r->r<=1114111->BY (EH p l) r = !BY l r)
 | [],p,_,h0,_=>by
  unfold EH;split
  .rename_i h
   refine ⟨Canon.one ⟨h0,h,qO⟩,λt a=>by rw[List.mem_singleton] at a;subst a;exact Int.le_refl _,λr j f=>?_⟩;rw[CQ,ER,decide_eq_true j,decide_eq_true f];rfl
  .exact ⟨Canon.nil,λt a=>(by cases a),λr j f=>qO⟩
 | s::r,p,hc,h0,hp=>by
  have u:=hc.head;have hps:=hp s List.mem_cons_self;unfold C_ at u;obtain ⟨j,f,o⟩:=I5 r (s.2+1) hc.tail qO (λt a=>by have:=hc.far t a;omega);have i:∀q,s.2+1<=q->q<=1114111->BY (EH (s.2+1) r) q = !BY (s::r) q:=λq c g=>by
   rw[o q c g,CQ,decide_eq_false (p:=q<=s.2) qO,Bool.and_false,Bool.false_or]
  have k:∀q,q<=s.2->BY (EH (s.2+1) r) q=false:=λq hq=>by
   cases e:BY (EH (s.2+1) r) q with
   | false=>rfl
   | true=>obtain ⟨t,a,c,_⟩:=FJ.1 e;have:=f t a;omega
  have b:∀q,s.1<=q->q<=s.2->BY (s::r) q=true:=λq c g=>by rw[CQ,decide_eq_true c,decide_eq_true g];rfl
  unfold EH;split
  .rename_i m
   refine ⟨Canon.cons ⟨h0,by simp only;omega,by simp only;omega⟩ (λt a=>by have:=f t a;simp only;omega) j,λt a=>?_,λq c g=>?_⟩
   .rcases List.mem_cons.1 a with rfl|a
    .exact Int.le_refl _
    .have:=f t a;omega
   .rw[CQ];rcases IA q s.1 with n|n
    .rw[decide_eq_true (p:=p<=q) c,decide_eq_true (p:=q<=s.1 - 1) qO,GI hc n];rfl
    .rw[decide_eq_false (p:=q<=s.1 - 1) qO,Bool.and_false,Bool.false_or];rcases IA s.2 q with d|d
     .exact i q qO g
     .rw[k q d,b q n d];rfl
  .rename_i m
   refine ⟨j,λt a=>by have:=f t a;omega,λq c g=>?_⟩;rcases IA s.2 q with d|d
   .exact i q qO g
   .rw[k q d,b q qO d];rfl
theorem Hm {l:List Sp} (h:Canon l) {r:Int} (hr:r<0∨1114111<r):BY l r=false:=by
 cases e:BY l r with
 | false=>rfl
 | true=>obtain ⟨t,a,q1,q2⟩:=FJ.1 e;have:=h.ok t a;unfold C_ at this;omega
def DZ (l:List Sp):List Sp:=EH 0 l
theorem Gq {l:List Sp} (h:Canon l):Canon (DZ l):=(I5 l 0 h (Int.le_refl _) λs hs=>(h.ok s hs).1).1
theorem Ib {l:List Sp} (h:Canon l) {r:Int} (b:0<=r) (a:r<=1114111):BY (DZ l) r = !BY l r:=(I5 l 0 h (Int.le_refl _) λs hs=>(h.ok s hs).1).2.2 r b a
theorem KQ (l:List Sp):(DZ l).length<=l.length+1:=Lf l 0
theorem Hn {a b:List Sp} (e:Canon a) (hb:Canon b) (h:∀r,0<=r->r<=1114111->BY a r=BY b r):a=b:=
 Ip e hb λr=>by
  rcases IA r 0 with d|d
  .rw[Hm e (.inl d),Hm hb (.inl d)]
  .rcases IA 1114111 r with c|c
   .rw[Hm e (.inr c),Hm hb (.inr c)]
   .exact h r d c
end Go.Proofs
namespace Go.Proofs
open Go Go.Eng
set_option maxRecDepth 100000
abbrev JV:Nat:=74
theorem Eo {w:World} {base c e size n:Nat} {v:Value} {xs:List Value} (h:w.ownsRow base e size v n xs) (hb:c<=base):w.ownsRow c e size v n xs:=by
 obtain ⟨i,f⟩:=h;refine ⟨i,f.imp id ?_⟩;rintro ⟨g,cap,d,a,b,r⟩;exact ⟨g,cap,d,a,Nat.le_trans hb b,r⟩
theorem PB {w:World} {base e size n c:Nat} {a:Option Addr} {xs:List Value} (h:w.ownsRow base e size (.slice a n c) n xs):n<=c:=by
 rcases h.2 with ⟨h1,h2⟩|⟨g,cap,cur,d,_,_,b,_⟩
 .omega
 .simp only[Value.slice.injEq] at d;obtain ⟨_,_,rfl⟩:=d;exact b
def GD (w:World) (base:Nat) (r:Value) (l:List Sp):Prop:=(∃a c,r=.slice a l.length c)∧w.ownsRow base JV 2 r l.length (l.map BP).flatten
theorem GD.at {w:World} {base:Nat} {r:Value} {l:List Sp} (h:GD w base r l):A6 w r l:=
 DY h.2 (by intro x a;simp only[List.mem_map] at a;obtain ⟨p,_,rfl⟩:=a;rfl) qP qD
theorem EB (l:List Sp) (s:Sp):((l++[s]).map BP).flatten=(l.map BP).flatten++[.int .i64 s.1,.int .i64 s.2]:=by simp[BP]
theorem O7 (B:World) (v:Value) (l:List Sp) (h:A6 B v l) (hl:l.length<=2000000) (P:∀s∈l,C_ s) :
 CJ prog 130 #[v] B λr w=>GD w B.heap.size r (DZ l)∧Ao B w:=by
 obtain ⟨a,c,rfl⟩:=BL.form h;simp only[List.length_map] at h⊢;obtain ⟨base,y⟩:∃base,base=B.heap.size:=⟨_,O⟩;rw[<-y];refine qR func130 O ntmps130 O (λE=>(Y (qA _ O (AA (Y (qA _ O (AA (Y (qA _ O (AA (AE (Y (qM _ O (qV (AH underlying37 O) (qM _ O (AA (AM (Am (λnn_ σ L=>∃(k:Nat) (p:Int) (u:Option Addr) (t:Nat) (m:Nat) (j:List Sp),(∃jj_,σ=BQ jj_ [(7,(.slice a l.length c)),(8,(I6 (l.length:Int))),(9,(I6 (k:Int))),(4,(I6 p)),(3,(.slice u m t))])∧Chg AZ B L∧(k<=l.length)∧(0<=p∧p<=1114112)∧(m=j.length)∧(m<=k)∧(j++EH p (l.drop k)=EH 0 l)∧(L.ownsRow base JV 2 (.slice u m t) m (j.map BP).flatten)∧(base<=L.heap.size)∧nn_=l.length - k) (n:=l.length - 0) ?_ ?_))))))))))))))))))
 .exact ⟨0,0,none,0,0,[],Af.out ⟨O,O,O,O,O,trivial⟩,E,Nat.zero_le _,qO,O,Nat.le_refl _,O,World.ownsRow_nil _ _ _ _,qO,O⟩
 .clear E;rintro _ _ L ⟨k,p,u,t,m,j,⟨j1,rfl⟩,E,hk,hp,G,hlo,g,d,f,rfl⟩;refine Y (qV (Av O O) (AA (AE (qC O (λS=>?_) (λS=>?_)))))
  .obtain ⟨s,hs⟩:=AL (l:=l) (i:=k) qO;have hv:=P s (List.mem_of_getElem? hs);unfold C_ at hv;obtain ⟨b,o,N,Q⟩:=BH h qO;subst N;rw[Dd hs,O8] at g;have A:=d;refine AK (AB (AE (AM (Y (qV (AC (b:=b) (o:=o) (len:=l.length) (cap:=c) (i:=k) (o':=o+k*2) O O O underlying37 BA qO qO) (qV (AU O EM BA O ((Q k s hs).ext E)) (Au (v:=(.agg #[(I6 s.1),(I6 s.2)])) (c:=#[(I6 s.1),(I6 s.2)]) (n:=2) qD C8 O BA O O O qS ?_)))))));intro K wq C;replace d:=Aj d C.ext;replace f:=Nat.le_trans f C.ext.size;replace E:=E.ext C.ext;have q:=C.blk;refine AA (AE (Y (qM _ O (qF K 0 0 O underlying74 O Ab O (qV (AD O Aa (q.cell O)) (qV (Av O O) (AA (qC O (λW=>?_) (λW=>?_)))))))))
   .refine AG (qM _ O (qM _ O (qF K 0 0 O underlying74 O Ab O (qV (AD O Aa (q.cell O)) (qV (D3 O O (A2 qO)) (qV (BU (ps:=[(0,(I6 p)),(1,(I6 (s.1 - 1)))]) (v:=(.agg #[(I6 p),(I6 (s.1 - 1))])) O qK) (Ad (ps:=[(0,(.agg #[(I6 p),(I6 (s.1 - 1))]))]) (c:=#[(I6 p),(I6 (s.1 - 1))]) qD O underlying37 BA C8 qD qD qK ?_)))))));intro br wr I;replace q:=I.keep q;replace d:=Aj d I.ext;replace f:=Nat.le_trans f I.ext.size;replace E:=E.ext I.ext;have Z:=I.blk;refine BT (base:=base) (n:=m) (m:=1) (xs:=(j.map BP).flatten) (news:=[(I6 p),(I6 (s.1 - 1))]) (size:=2) (bytes:=16) (v:=(.slice u m t)) qD underlying37 BA HN C8 O qD O d O (O) (Z.cells O) qS (by unfold maxLen;omega) qO (f) ?_;intro v9 w29 H z Dv9;replace q:=z.keep (λh=>by have:=(A.lt _ h).2;have:=C.eq;omega) q;replace E:=E.step z (λx hx h=>absurd (d.lt x h).1 qO);obtain ⟨T,R,rfl⟩:=A9 H;refine qA _ O (AA (AB (AG (qF K 0 1 O underlying74 O Ab O (qV (AD O Aa (q.cell O)) (qV (Aq O O (A2 qO)) (qA _ O (AA (AP (AB (AG (qV (Aq O O (A2 qO)) (qM _ O (AA (AB ?_)))))))))))))));exact ⟨l.length - (k+1),qO,k+1,s.2+1,T,R,m+1,j++[(p,s.1 - 1)],Af.out ⟨O,O,O,O,O,trivial⟩,E,qO,qO,(by simp[G]),qO,(by rw[if_pos W] at g;rw[<-g];simp),(by rw[EB];exact H),Nat.le_trans f z.size,O⟩
   .refine AK (AB (AG (qF K 0 1 O underlying74 O Ab O (qV (AD O Aa (q.cell O)) (qV (Aq O O (A2 qO)) (qA _ O (AA (AP (AB (AG (qV (Aq O O (A2 qO)) (qM _ O (AA (AB ?_))))))))))))));exact ⟨l.length - (k+1),qO,k+1,s.2+1,u,t,m,j,Af.out ⟨O,O,O,O,O,trivial⟩,E,qO,qO,G,qO,(by rw[if_neg W] at g;exact g),d,f,O⟩
  .have U:k=l.length:=qO
   rw[U,List.drop_length,Qr] at g;refine Ak (AR (AR (Ae (AB (AE (Y (qM _ O (qV (GY O O) (AA (qC O (λX=>?_) (λX=>?_)))))))))))
   .refine AG (qM _ O (qM _ O (qV (BU (ps:=[(0,(I6 p)),(1,(I6 1114111))]) (v:=(.agg #[(I6 p),(I6 1114111)])) O qK) (Ad (ps:=[(0,(.agg #[(I6 p),(I6 1114111)]))]) (c:=#[(I6 p),(I6 1114111)]) qD O underlying37 BA C8 qD qD qK ?_))));intro bt wt M;replace d:=Aj d M.ext;replace f:=Nat.le_trans f M.ext.size;replace E:=E.ext M.ext;have Bt:=M.blk;refine BT (base:=base) (n:=m) (m:=1) (xs:=(j.map BP).flatten) (news:=[(I6 p),(I6 1114111)]) (size:=2) (bytes:=16) (v:=(.slice u m t)) qD underlying37 BA HN C8 O qD O d O (O) (Bt.cells O) qS (by unfold maxLen;omega) qO (f) ?_;intro v8 w28 D V Dv8;replace E:=E.step V (λx hx h=>absurd (d.lt x h).1 qO);obtain ⟨F,J,rfl⟩:=A9 D;refine qA _ O (AA (AB (Y (qM _ O (qA _ O (AA (AS (AV results130 (v:=(.slice F (m+1) J)) O ?_))))))));rw[if_pos X] at g;have e:DZ l=j++[(p,1114111)]:=by unfold DZ;rw[<-g]
    rw[e];refine ⟨⟨⟨F,J,by simp[G]⟩,?_⟩,E⟩;rw[EB];simpa[G] using D
   .refine AK (AB (Y (qM _ O (qA _ O (AA (AS (AV results130 (v:=(.slice u m t)) O ?_)))))));rw[if_neg X,List.append_nil] at g;have e:DZ l=j:=by unfold DZ;rw[<-g]
    rw[e];subst G;exact ⟨⟨⟨u,t,O⟩,d⟩,E⟩
theorem Oh (k:World) (v:Value) (l:List Sp) (h:A6 k v l) (hl:l.length<=8796093022208) :
 CJ prog 33 #[v] k λr w=>GD w k.heap.size r l∧Ao k w:=by
 obtain ⟨a,c,rfl⟩:=BL.form h;simp only[List.length_map] at h⊢;obtain ⟨base,g⟩:∃base,base=k.heap.size:=⟨_,O⟩;rw[<-g];refine qR func33 O ntmps33 O (λE=>(Y (qA _ O (AA (AE (Y (qM _ O (B_ (v:=(.bool a.isNone)) O O qD (NX underlying37 O O) (AA (A3 O (λp=>?_) (λp=>?_)))))))))))
 .have z:=p;have C:l.length=0:=by rcases Nat.eq_zero_or_pos l.length with t|t;exact t;obtain ⟨b,o,rfl,_⟩:=BH h t;simp at p
  have j:l=[]:=List.eq_nil_of_length_eq_zero C;refine Y (qA _ O (AA (AS (AO (AV results33 (v:=(.slice none 0 0)) O ?_)))));subst j;exact ⟨⟨⟨none,0,O⟩,World.ownsRow_nil _ _ _ _⟩,E⟩
 .have z:=p;rcases Bool.eq_false_or_eq_true (decide (l.length=0)) with B|B
  .have d:=B;replace d:=of_decide_eq_true d;refine AK (AB (Y (IT qD underlying37 BA ?_)));intro s D e;have H:=e.ge E;replace E:=E.ext e.ext;have A:=e.blk;refine qM _ O (qV (I8 underlying37 BA (a':=a) (c':=c) O (Nat.le_refl _) (by show Value.slice a l.length c=_;rw[d])) (qA _ O (AA (AS (AV results33 (v:=(.slice (some ⟨s,0,none⟩) 0 0)) O ?_)))));have j:l=[]:=List.eq_nil_of_length_eq_zero d;subst j;exact ⟨⟨⟨_,0,O⟩,Hc (base:=base) (size:=2) A qO⟩,E⟩
  .have d:=B;replace d:=of_decide_eq_false d;obtain ⟨b,o,rfl,q⟩:=BH h qO;refine AK (AB (Y (IT qD underlying37 BA ?_)));intro s D e;have H:=e.ge E;replace E:=E.ext e.ext;have A:=e.blk;refine qM _ O ?_;have f:=Hc (base:=base) (size:=2) A qO;have u:base<=D.heap.size:=by have:=e.ext.size;omega
   refine BT (base:=base) (n:=0) (m:=l.length) (xs:=[]) (news:=(l.map BP).flatten) (size:=2) (bytes:=16) (v:=(.slice (some ⟨s,0,none⟩) 0 0)) qD underlying37 BA HN C8 O qD O f O (Ef l) ((H6 q).ext e.ext) (I3 l) (by unfold maxLen;omega) qO (u) ?_;intro v9 w29 i y Dv9;replace E:=E.step y (λx hx h=>absurd (f.lt x h).1 qO);obtain ⟨G,F,rfl⟩:=A9 i;refine qA _ O (AA (AS (AV results33 (v:=(.slice G (0+l.length) F)) O ?_)));simp only[Nat.zero_add,List.nil_append] at i⊢;exact ⟨⟨⟨G,F,O⟩,i⟩,E⟩
theorem JZ {P:Program} {N:Nat} {Q:Dj} {σ:CN} {w:World} {K:CN->World->Prop} {ops:Array Oper} {rest:List Oper} {d:Nat} {ty:TypeId} {pos:String} {af:Array Edge} {t:TypeId} {s x:Operand}
  {base e size bytes n m c:Nat} {ax:Option Addr} {z v:Value} {xs news:List Value} (hN:d<N) (hu:P.underlying t=some (.slice e)) (hsz:DK P e size) (hby:Hv P e bytes) (hz:EO P e z) (hzs:z.cells.size=size) (h0:0<size)
  (hs:ev σ s=v) (hown:w.ownsRow base e size v n xs) (hx:ev σ x=.slice ax m c) (hl:news.length=m*size) (hany:(m=0∧news=[])∨∃bx ox,ax=some ⟨bx,ox,none⟩∧A' w bx ox news) (h1:∀u∈news,u.oneCell'=true)
  (h63:n+m<=maxLen) (hbytes:(n+m)*bytes<=140737488355328) (hbase:base<=w.heap.size)
  (k:∀v' w',w'.ownsRow base e size v' (n+m) (xs++news)->Chg (λx=>v.ownBlock=some x) w w'->(∀k,v'.ownBlock=some k->v.ownBlock=some k∨w.heap.size<=k)->DW P N ops K Q rest (E4 σ d v') w') :
  DW P N ops K Q (⟨some d,.call ⟨.builtin .append,#[s,x],#[t,t]⟩,ty,pos,af,none⟩::rest) σ w:=by
 rcases hany with ⟨rfl,rfl⟩|⟨bx,ox,rfl,hc⟩
 ·obtain ⟨a,c',rfl⟩:=A9 hown;refine B_ O O hN (I8 hu hsz hs (PB hown) hx) (k _ w (by simpa using hown) (Chg.refl _ _) λ_ h=>.inl h)
 ·exact BT hN hu hsz hby hz hzs h0 hs hown hx hl hc h1 h63 hbytes hbase k
theorem Qe {w:World} {a:Option Addr} {n c:Nat} {l:List Sp} (h:A6 w (.slice a n c) l):(n=0∧(l.map BP).flatten=[])∨∃b o,a=some ⟨b,o,none⟩∧A' w b o (l.map BP).flatten:=by
 have hn:n=l.length:=by have:=(BL.cap h).2;simpa using this.symm
 rcases Nat.eq_zero_or_pos n with d|d
 .left;exact ⟨d,by rw[List.eq_nil_of_length_eq_zero (show l.length=0 by omega)];rfl⟩
 .right;obtain ⟨b,o,e,f⟩:=BH h d;exact ⟨b,o,e,H6 f⟩
theorem Qo {P:Program} {N:Nat} {Q:Dj} {σ:CN} {w:World} {K:CN->World->Prop} {ops:Array Oper} {rest:List Oper} {d:Nat} {ty:TypeId} {pos:String} {af:Array Edge} {t r:TypeId} {s x:Operand} {D:IntKind}
 {base e size bytes n:Nat} {z:Value} (u:d<N) (A:P.underlying t=some (.slice e)) (m:P.underlying r=some (.int D)) (a:DK P e size) (c:Hv P e bytes) (g:EO P e z) (o:z.cells.size=size) (h0:0<size)
 (hs:ev σ s=.slice none 0 0) (G:ev σ x=.int .i64 ((n:Nat):Int)) (F:0<n) (hbytes:n*bytes<=140737488355328∧n<=8796093022208) (f:base<=w.heap.size)
 (k:∀j w',Ao w w'->w'.ownsRow base e size (.slice (some ⟨w.heap.size,0,none⟩) 0 j) 0 []->n<=j->DW P N ops K Q rest (E4 σ d (.slice (some ⟨w.heap.size,0,none⟩) n j)) w') :
 DW P N ops K Q (⟨some d,.call ⟨.builtin .append,#[s,x],#[t,r]⟩,ty,pos,af,none⟩::rest) σ w:=by
 unfold DK at a;unfold Hv at c;unfold EO at g;cases hi:P.info? e with
 | none=>rw[hi] at a;simp at a
 | some i=>
 rw[hi] at a c g;simp at a c g;subst a;subst c
 have p:=grownCap_ge w n 0 e;have l:=grownCap_le_maxLen w n 0 e (by simp only[maxLen];omega);refine B_ (v:=.slice (some ⟨w.heap.size,0,none⟩) n (grownCap w n 0 e)) (w':=w.drew.alloc (.cells (Builtin.zeroCells z.cells n++Builtin.zeroCells z.cells (grownCap w n 0 e - n)) e)) O O u ?_ (k _ _ ?_ ?_ p)
 .have q:n≠0:=qO
  have J:IntKind.i64.wrap ((n:Nat):Int)=n:=A2 qO;have E:¬((n:Int)<0):=qO
  have C:¬((281474976710656:Int)<(n:Int)*(i.bytes:Int)):=by
   have:((n*i.bytes:Nat):Int)=(n:Int)*(i.bytes:Int):=qP
   omega
  have H:¬(9223372036854775807<(n:Int)):=qO
  have y:¬(281474976710656<Builtin.nextslicecap n 0*i.bytes):=by rw[nextslicecap_zero F];omega
  have I:¬(n*i.size=0):=λh=>by rcases Nat.mul_eq_zero.1 h with h|h<;>omega
  have B:i.size≠0:=qO
  simp[execOp,resolve,invoke,builtin,hs,G,Builtin.append_,run_underlying A,run_underlying m,sizeOf,typeInfo,zeroValue,hi,g,q,J,E,C,H,y,B,asInt,asIntOf,Question.forced,run_firstCells_none,newRow,grownCap];exact λh=>absurd h I
 .exact ⟨O,O,O,Nat.le_succ _,qP,λb hb _=>by first|exact heap_alloc_old w.drew _ b hb|exact heap_alloc_old w.drew _ hb⟩
 .refine ⟨qP,.inr ⟨w.heap.size,_,_,O,f,heap_alloc_new w.drew _,Nat.zero_le _,l,?_,qP⟩⟩;simp only[Array.size_append,size_zeroCells,o,<-Nat.add_mul];congr 1;omega
theorem KH {P:Program} {σ:CN} {w:World} {dst:Option Tmp} {ty:TypeId} {pos:String} {af:Array Edge} {g:Option (Nat×Bool)} {t e:TypeId} {x:Operand} {ad:Option Addr} {n cap:Nat} (b:P.underlying t=some (.slice e)) (a:ev σ x=.slice ad n cap) :
 (execOp (ev σ) ⟨dst,.call ⟨.builtin .cap,#[x],#[t]⟩,ty,pos,af,g⟩).run P w=.ok (.value (.int .i64 cap)) w:=by
 simp only[execOp,resolve,List.map_toArray,List.map_cons,List.map_nil,a];simp[invoke,builtin,Builtin.cap_,run_underlying b,goInt]
theorem V9 (w0:World) (n:Nat) (hn:n<=8796093022208) :
 CJ prog 159 #[.slice none 0 0,.int .i64 ((n:Nat):Int)] w0 λr w=>(∃a c,r=.slice a 0 c)∧w.ownsRow w0.heap.size JV 2 r 0 []∧Ao w0 w:=by
 refine qR func159 O ntmps159 O (λE=>(Y (qA _ O (AA (AE (Y (qM _ O (qV (Av O O) (AA ?_)))))))));have ad:(decide ((((n:Nat):Int):Int)<0))=false:=decide_eq_false qO;refine AW (Aw ad) (AK (AB (AE (Y (qM _ O (qM _ O (qV (KH (n:=0) (cap:=0) underlying37 O) (qM _ O (qV (AH underlying37 O) (qV (D3 (c:=0) O O qD) (qV (D3 (c:=(n:Int)) O O ((A2 qO).trans qO)) (qA _ O (AA (Y (qM _ O (qV (CH O O) (AA (qC O (λhp=>?_) (λhp=>?_)))))))))))))))))))
 .refine AG (qM _ O (qM _ O (qV (KH (n:=0) (cap:=0) underlying37 O) ?_)));obtain ⟨a1,aa⟩:∃a':Option Addr,(if 0=0 then none else Option.map (λq:Addr=>q.add (0*2)) none)=a':=⟨_,O⟩;refine qV (GX (hi:=0) underlying37 BA O O qO qO aa) (qM _ O ?_);simp at aa;subst aa;refine Qo (base:=w0.heap.size) (n:=n) (size:=2) (bytes:=16) qD underlying37 underlying3 BA HN C8 O qD O O qO qO qO ?_;intro cc w9 X9 O9 H9;replace E:=E.ext X9;refine qM _ O (qV (AH underlying37 O) ?_);obtain ⟨a2,ab⟩:∃a':Option Addr,(if cc=0 then (some ⟨w0.heap.size,0,none⟩) else Option.map (λq:Addr=>q.add (0*2)) (some ⟨w0.heap.size,0,none⟩))=a':=⟨_,O⟩;refine qV (GX (hi:=0) underlying37 BA O O qO qO ab) ?_;have ac:a2=some ⟨w0.heap.size,0,none⟩:=by rw[<-ab,if_neg qO];simp[Addr.add_lit]
  subst ac;refine qA _ O (AA (AB (Y (qM _ O (qA _ O (AA (AS (AV results159 (v:=(.slice (some ⟨w0.heap.size,0,none⟩) 0 cc)) O ?_))))))));exact ⟨⟨_,_,O⟩,O9,E⟩
 .refine AK (AB (Y (qM _ O (qA _ O (AA (AS (AV results159 (v:=(.slice none 0 0)) O ?_)))))));exact ⟨⟨none,0,O⟩,World.ownsRow_nil _ _ _ _,E⟩
def Bg (w:World) (v:Value) (ll:List (List Sp)):Prop:=∃vs:List Value,BL w 1 v (vs.map λx=>[x])∧vs.length=ll.length∧∀(i:Nat) (u:Value) (l:List Sp),vs[i]?=some u->ll[i]?=some l->A6 w u l
theorem Bg.ext {w w':World} {v:Value} {ll:List (List Sp)} (h:Bg w v ll) (e:Ao w w'):Bg w' v ll:=by
 obtain ⟨vs,c,a,b⟩:=h;exact ⟨vs,c.ext e,a,λi u l f d=>(b i u l f d).ext e⟩
theorem Bg.form {w:World} {v:Value} {ll:List (List Sp)} (h:Bg w v ll):∃a c,v=.slice a ll.length c∧ll.length<=c∧ll.length<=9223372036854775807:=by
 obtain ⟨vs,b,d,_⟩:=h;obtain ⟨a,c,rfl⟩:=b.form;have:=b.cap;have:=b.le;simp only[List.length_map] at *;rw[d] at *;exact ⟨a,c,O,qO,qO⟩
theorem CD {w:World} {a:Option Addr} {n c:Nat} {ll:List (List Sp)} (h:Bg w (.slice a n c) ll) (p:0<n) :
 ∃b o,a=some ⟨b,o,none⟩∧∀i l,ll[i]?=some l->∃e d,w.cell? ⟨b,o+i,none⟩=some (.slice e l.length d)∧A6 w (.slice e l.length d) l:=by
 obtain ⟨vs,s,h2,q⟩:=h;obtain ⟨b,o,r,t⟩:=BL.at s p;refine ⟨b,o,r,λi l m=>?_⟩;have hi:i<vs.length:=by have:=AI m;omega
 have k:vs[i]?=some vs[i]:=List.getElem?_eq_getElem hi;have f:=q i vs[i] l k m;obtain ⟨e,d,g⟩:=BL.form f;simp only[List.length_map] at g;have j:=t i [vs[i]] (by simp[k]) 0 _ O;rw[Nat.mul_one,Nat.add_zero,g] at j;rw[g] at f;exact ⟨e,d,j,f⟩
theorem Cx {ll:List (List Sp)} {k:Nat} {l:List Sp} (h:ll[k]?=some l):(ll.take (k+1)).flatten=(ll.take k).flatten++l:=by
 rw[List.take_add_one,h];simp
theorem Jx (ll:List (List Sp)) (k:Nat):(ll.take k).flatten.length<=ll.flatten.length:=by
 have h:ll.flatten=(ll.take k).flatten++(ll.drop k).flatten:=by rw[<-List.flatten_append,List.take_append_drop]
 rw[h,List.length_append];omega
theorem IS (a b:List Sp):((a++b).map BP).flatten=(a.map BP).flatten++(b.map BP).flatten:=qP
theorem TO (z:World) (v:Value) (ll:List (List Sp)) (h:Bg z v ll) (hl:ll.flatten.length<=8796093022208) :
 CJ prog 132 #[v] z λr w=>GD w z.heap.size r ll.flatten∧Ao z w:=by
 obtain ⟨a,c,rfl,_,hle⟩:=h.form;obtain ⟨base,q⟩:∃base,base=z.heap.size:=⟨_,O⟩;rw[<-q];refine qR func132 O ntmps132 O (λE=>(Y (qA _ O (AA (Y (qA _ O (AA (AE (Y (qM _ O (qV (AH underlying49 O) (qM _ O (AA (AM (Am (λnn_ σ W=>∃(k:Nat) (n:Nat),(∃jj_,σ=BQ jj_ [(0,(.slice a ll.length c)),(9,(.slice a ll.length c)),(10,(I6 (ll.length:Int))),(11,(I6 (k:Int))),(3,(I6 (n:Int)))])∧Chg AZ z W∧(k<=ll.length)∧(n=(ll.take k).flatten.length)∧nn_=ll.length - k) (n:=ll.length - 0) ?_ ?_)))))))))))))))
 .exact ⟨0,0,Af.out ⟨O,O,O,O,O,trivial⟩,E,Nat.zero_le _,O,O⟩
 .clear E;rintro _ _ W ⟨k,n,⟨j1,rfl⟩,E,hk,hn,rfl⟩;refine Y (qV (Av O O) (AA (AE (qC O (λK=>?_) (λK=>?_)))))
  .obtain ⟨l,j⟩:=AL (l:=ll) (i:=k) qO;obtain ⟨b,o,rfl,t⟩:=CD h qO;obtain ⟨J,R,e,C⟩:=t k l j;have u:=Jx ll (k+1);rw[Cx j,List.length_append] at u;refine AK (AB (AE (AM (Y (qV (AC (b:=b) (o:=o) (len:=ll.length) (cap:=c) (i:=k) (o':=o+k) O O O underlying49 BW qO qO) (qV (AD O CC (E.cell (λf=>f) e)) (qA _ O (AA (Y (qM _ O (qM _ O (qV (AH underlying37 O) (qV (Aq (c:=((n+l.length:Nat):Int)) O O ((A2 qO).trans qO)) (qA _ O (AA (Y (qM _ O (qV (Av O O) (AA ?_)))))))))))))))))));have S:(decide ((((n+l.length:Nat):Int):Int)<0))=false:=decide_eq_false qO;refine AW (Aw S) (AK (AP (AB (AG (qV (Aq O O (A2 qO)) (qM _ O (AA (AB ?_))))))));exact ⟨ll.length - (k+1),qO,k+1,n+l.length,Af.out ⟨O,O,O,O,O,trivial⟩,E,qO,(by rw[Cx j,List.length_append,hn]),O⟩
  .have hkk:k=ll.length:=qO
   have hn2:=Jx ll k;have hs0:=E.size;refine Ak (AR (AR (Ae (AB (Y (qM _ O (qE O (AT func159 kQ kQ O) (V9 _ n qO) ?_)))))));rintro _ Z ⟨⟨U,V,rfl⟩,O9,X⟩;replace E:=E.ext X;have T:Z.ownsRow base JV 2 (.slice U 0 V) 0 []:=Eo O9 qO;refine qA _ O (AA (AE (Y (qM _ O (qV (AH underlying49 O) (qM _ O (AA (AM (Am (λnn_ σ H=>∃(i:Nat) (y:Option Addr) (p:Nat) (m:Nat),(∃jj_,σ=BQ jj_ [(25,(.slice a ll.length c)),(26,(I6 (ll.length:Int))),(27,(I6 (i:Int))),(6,(.slice y m p))])∧Chg AZ z H∧(i<=ll.length)∧(m=(ll.take i).flatten.length)∧(H.ownsRow base JV 2 (.slice y m p) m (((ll.take i).flatten).map BP).flatten)∧(base<=H.heap.size)∧nn_=ll.length - i) (n:=ll.length - 0) ?_ ?_)))))))))
   .exact ⟨0,U,V,0,Af.out ⟨O,O,O,O,trivial⟩,E,Nat.zero_le _,O,T,(by have:=E.size;omega),O⟩
   .clear E;rintro _ _ H ⟨i,y,p,m,⟨j4,rfl⟩,E,hi,G,d,s,rfl⟩;refine Y (qV (Av O O) (AA (AE (qC O (λB=>?_) (λB=>?_)))))
    .obtain ⟨l,j⟩:=AL (l:=ll) (i:=i) qO;obtain ⟨b,o,rfl,t⟩:=CD h qO;obtain ⟨J,R,e,C⟩:=t i l j;have u:=Jx ll (i+1);rw[Cx j,List.length_append] at u;have Q:m<=p:=PB d;rcases Bool.eq_false_or_eq_true (decide (l.length=0)) with P|P
     .have g:=P;replace g:=of_decide_eq_true g;refine AK (AB (AE (AM (Y (qV (AC (b:=b) (o:=o) (len:=ll.length) (cap:=c) (i:=i) (o':=o+i) O O O underlying49 BW qO qO) (qV (AD O CC (E.cell (λf=>f) e)) (qA _ O (AA (AG (qM _ O (qM _ O (qV (I8 underlying37 BA (a':=J) (c':=R) O Q (by show Value.slice J l.length R=_;rw[g])) (qA _ O (AA (AP (AB (AG (qV (Aq O O (A2 qO)) (qM _ O (AA (AB ?_)))))))))))))))))))));have D:l=[]:=List.eq_nil_of_length_eq_zero g;exact ⟨ll.length - (i+1),qO,i+1,y,p,m,Af.out ⟨O,O,O,O,trivial⟩,E,qO,(by rw[Cx j,D,List.append_nil,G]),(by rw[Cx j,D,List.append_nil];exact d),s,O⟩
     .have g:=P;replace g:=of_decide_eq_false g;obtain ⟨rb,ro,rfl,N⟩:=BH C qO;refine AK (AB (AE (AM (Y (qV (AC (b:=b) (o:=o) (len:=ll.length) (cap:=c) (i:=i) (o':=o+i) O O O underlying49 BW qO qO) (qV (AD O CC (E.cell (λf=>f) e)) (qA _ O (AA (AG (qM _ O (qM _ O (BT (base:=base) (n:=m) (m:=l.length) (xs:=(((ll.take i).flatten).map BP).flatten) (news:=(l.map BP).flatten) (size:=2) (bytes:=16) (v:=(.slice y m p)) qD underlying37 BA HN C8 O qD O d O (Ef l) ((H6 N).ext E) (I3 l) (by unfold maxLen;omega) qO (s) ?_))))))))))));intro v9 w29 F A Dv9;replace E:=E.step A (λx j h=>absurd (d.lt x h).1 qO);obtain ⟨M,L,rfl⟩:=A9 F;refine qA _ O (AA (AP (AB (AG (qV (Aq O O (A2 qO)) (qM _ O (AA (AB ?_))))))));exact ⟨ll.length - (i+1),qO,i+1,M,L,m+l.length,Af.out ⟨O,O,O,O,trivial⟩,E,qO,(by rw[Cx j,List.length_append,G]),(by rw[Cx j,IS];exact F),Nat.le_trans s A.size,O⟩
    .have I:i=ll.length:=qO
     refine Ak (AR (AR (Ae (AB (Y (qM _ O (qA _ O (AA (AS (AV results132 (v:=(.slice y m p)) O ?_))))))))));rw[I,List.take_length] at d G;subst G;exact ⟨⟨⟨y,p,O⟩,d⟩,E⟩
end Go.Proofs
namespace Go.Eng
open Go
section
variable {κ ν : Type} [DecidableEq κ]
def A_:List (κ×ν)->κ->Option ν
  | [],_=>none
  | p::r,k=>if p.1=k then some p.2 else A_ r k
def DA:List (κ×ν)->κ->ν->List (κ×ν)
  | [],k,v=>[(k,v)]
  | p::r,k,v=>if p.1=k then (k,v)::r else p::DA r k v
def G6 (eV:ν->Value):List (κ×ν)->κ->Nat->Option (Nat×Value)
  | [],_,_=>none
  | p::r,k,i=>if p.1=k then some (i,eV p.2) else G6 eV r k (i+1)
theorem II {eV:ν->Value}:∀{es:List (κ×ν)} {k:κ} {i:Nat},A_ es k=none->G6 eV es k i=none
 | [],_,_,_=>rfl
 | p::r,k,i,h=>by
  unfold A_ at h;unfold G6;split at h
  .cases h
  .rename_i a;rw[if_neg a];exact II h
theorem FZ {eV:ν->Value}:∀{es:List (κ×ν)} {k:κ} {i:Nat} {v:ν},A_ es k=some v->∃j,G6 eV es k i=some (i+j,eV v)∧es[j]?=some (k,v)∧∀u,DA es k u=es.set j (k,u)
 | [],_,_,_,h=>by cases h
 | p::r,k,i,v,h=>by
  unfold A_ at h;unfold G6;split at h
  .rename_i d
   cases h;rw[if_pos d];exact ⟨0,O,by obtain ⟨a,b⟩:=p;simp at d;subst d;rfl,λu=>by unfold DA;rw[if_pos d];rfl⟩
  .rename_i c
   rw[if_neg c];obtain ⟨j,g,f,e⟩:=FZ (eV:=eV) (i:=i+1) h;exact ⟨j+1,by rw[g];congr 2;omega,by simpa using f,λu=>by unfold DA;rw[if_neg c,e u];rfl⟩
theorem EJ:∀{es:List (κ×ν)} {k:κ} (v:ν),A_ es k=none->DA es k v=es++[(k,v)]
 | [],_,_,_=>rfl
 | p::r,k,v,h=>by
  unfold A_ at h;unfold DA;split at h
  .cases h
  .rename_i a;rw[if_neg a,EJ v h];rfl
theorem St (es:List (κ×ν)) (k:κ) (v:ν) (q:κ):A_ (DA es k v) q=if k=q then some v else A_ es q:=by
 induction es with
 | nil=>unfold DA A_ A_;rfl
 | cons p r ih=>
  unfold DA;split
  .rename_i b
   unfold A_;by_cases h:k=q
   .rw[if_pos h,if_pos h]
   .rw[if_neg h,if_neg h,if_neg (by rw[b];exact h)]
  .rename_i a
   unfold A_;rw[ih];by_cases h:k=q
   .rw[if_pos h,if_neg (by rw[<-h];exact a),if_pos h]
   .rw[if_neg h,if_neg h]
theorem Ep {es:List (κ×ν)} {k:κ} {v:ν} (h:A_ es k=some v):(k,v)∈es:=by
 obtain ⟨j,_,a,_⟩:=FZ (eV:=λ_=>undef) (i:=0) h;exact List.mem_of_getElem? a
theorem DN {es:List (κ×ν)} {k:κ}:(A_ es k).isSome=true↔k∈es.map (·.1):=by
 induction es with
 | nil=>simp[A_]
 | cons p r ih=>
  unfold A_;by_cases h:p.1=k
  .simp[h]
  .rw[if_neg h,ih];simp[Ne.symm h]
def G3 (es:List (κ×ν)):Prop:=(es.map (·.1)).Nodup
omit [DecidableEq κ] in
theorem G3.nil:G3 ([]:List (κ×ν)):=List.nodup_nil
theorem G3.put {es:List (κ×ν)} (h:G3 es) (k:κ) (v:ν):G3 (DA es k v):=by
 cases hg:A_ es k with
 | none=>
  rw[EJ v hg];unfold G3;rw[List.map_append,List.nodup_append];refine ⟨h,qP,λa f b hb=>?_⟩;simp at hb;subst hb;intro g;subst g;have:=DN.2 f;rw[hg] at this;cases this
 | some u=>
  obtain ⟨j,_,d,e⟩:=FZ (eV:=λ_=>undef) (i:=0) hg;rw[e v];unfold G3;have:(es.set j (k,v)).map (·.1)=es.map (·.1):=by
   apply List.ext_getElem?;intro i;rw[List.getElem?_map,List.getElem?_map,List.getElem?_set];by_cases hi:j=i
   .subst hi;have c:=AI d;rw[if_pos O,if_pos c,d];rfl
   .simp[hi]
  rw[this];exact h
end
def D8 {κ ν:Type} (ek:κ->Value) (eV:ν->Value) (es:List (κ×ν)):List MapEntry:=es.zipIdx.map λp=>{key:=ek p.1.1,val:=eV p.1.2,born:=p.2}
def BZ {κ ν:Type} (w:World) (b:Nat) (ek:κ->Value) (eV:ν->Value) (es:List (κ×ν)):Prop:=w.heap[b]?=some (.map (D8 ek eV es).toArray es.length)
theorem Im {κ ν:Type} (ek:κ->Value) (eV:ν->Value) (es:List (κ×ν)):(D8 ek eV es).length=es.length:=by simp[D8]
theorem Ex {κ ν:Type} {ek:κ->Value} {eV:ν->Value} {es:List (κ×ν)} {i:Nat}:(D8 ek eV es)[i]?=(es[i]?).map λp=>{key:=ek p.1,val:=eV p.2,born:=i}:=by
 unfold D8;rw[List.getElem?_map,List.getElem?_zipIdx];cases es[i]?<;>simp
theorem QM {κ ν:Type} (ek:κ->Value) (eV:ν->Value) (es:List (κ×ν)):(D8 ek eV es).map (λe=>(e.key,e.val))=es.map λp=>(ek p.1,eV p.2):=by
 apply List.ext_getElem?;intro i;rw[List.getElem?_map,Ex,List.getElem?_map];cases es[i]?<;>rfl
section
variable {κ ν : Type} {ek : κ → Value} {eV : ν → Value} {es : List (κ × ν)} {w w' : World} {b : Nat}
theorem BZ.lt (h:BZ w b ek eV es):b<w.heap.size:=(Array.getElem?_eq_some_iff.1 h).1
theorem Chg.keepM {M:Nat->Prop} (h:Chg M w w') (a:¬M b) (hb:BZ w b ek eV es):BZ w' b ek eV es:=(h.blk b hb.lt a).trans hb
theorem Ao.keepM (h:Ao w w') (hb:BZ w b ek eV es):BZ w' b ek eV es:=Chg.keepM h (λf=>f) hb
theorem New.keepM {n:Nat} {c:Array Value} {t:TypeId} (h:New w w' n c t) (hb:BZ w b ek eV es):BZ w' b ek eV es:=h.ext.keepM hb
theorem New.ltM {n:Nat} {c:Array Value} {t:TypeId} (h:New w w' n c t) (hb:BZ w b ek eV es):b<n:=by rw[h.eq];exact hb.lt
theorem Put.keepM {n:Nat} {c:Array Value} {t:TypeId} (h:Put w w' n c t) (a:b≠n) (hb:BZ w b ek eV es):BZ w' b ek eV es:=h.chg.keepM a hb
end
structure NewO (w w':World) (b:Nat) (o:Obj):Prop where
 at':w'.heap[b]?=some o
 ext:Ao w w'
 eq:b=w.heap.size
 size:w'.heap.size=w.heap.size+1
theorem NewO.mk' (w:World) (o:Obj):NewO w {w with heap:=w.heap.push o} w.heap.size o:=
 ⟨qP,⟨O,O,O,Nat.le_refl _,qP,λx a _=>by simp[Array.getElem?_push,Nat.ne_of_lt a]⟩,O,qP⟩
section
variable {w w' : World} {b : Nat} {o : Obj}
theorem NewO.keep (h:NewO w w' b o) {b':Nat} {c':Array Value} {t':TypeId} (hb:Az w b' c' t'):Az w' b' c' t':=h.ext.keep hb
theorem NewO.lt (h:NewO w w' b o) {b':Nat} {c':Array Value} {t':TypeId} (hb:Az w b' c' t'):b'<b:=by rw[h.eq];exact hb.lt
theorem NewO.ge (h:NewO w w' b o) {a:World} {M:Nat->Prop} (e:Chg M a w):a.heap.size<=b:=by rw[h.eq];exact e.size
variable {κ ν : Type} {ek : κ → Value} {eV : ν → Value} {es : List (κ × ν)} {b' : Nat}
theorem NewO.keepM (h:NewO w w' b o) (hb:BZ w b' ek eV es):BZ w' b' ek eV es:=h.ext.keepM hb
theorem NewO.ltM (h:NewO w w' b o) (hb:BZ w b' ek eV es):b'<b:=by rw[h.eq];exact hb.lt
end
structure PutO (w w':World) (b:Nat) (o:Obj):Prop where
 at':w'.heap[b]?=some o
 chg:Chg (λx=>x=b) w w'
 size:w'.heap.size=w.heap.size
theorem PutO.mk' {w:World} {b:Nat} (o:Obj) (hb:b<w.heap.size):PutO w {w with heap:=w.heap.setIfInBounds b o} b o:=
 ⟨by simp[hb],⟨O,O,O,Nat.le_refl _,qP,λx hx a=>by simp[Array.getElem?_setIfInBounds,Ne.symm a]⟩,qP⟩
section
variable {w w' : World} {b : Nat} {o : Obj}
theorem PutO.keep (h:PutO w w' b o) {b':Nat} {c':Array Value} {t':TypeId} (a:b'≠b) (hb:Az w b' c' t'):Az w' b' c' t':=h.chg.keep a hb
theorem PutO.step (h:PutO w w' b o) {a:World} {M:Nat->Prop} (e:Chg M a w) (hb:a.heap.size<=b∨M b):Chg M a w':=
 e.step h.chg λx hx c=>by subst c;rcases hb with hb|hb;omega;exact hb
variable {κ ν : Type} {ek : κ → Value} {eV : ν → Value} {es : List (κ × ν)} {b' : Nat}
theorem PutO.keepM (h:PutO w w' b o) (a:b'≠b) (hb:BZ w b' ek eV es):BZ w' b' ek eV es:=h.chg.keepM a hb
end
structure KeyOk (P:Program) (kt:TypeId) {κ:Type} [DecidableEq κ] (ek:κ->Value):Prop where
 check:∀(b:Bool) (w:World) (k:κ),(Instr.checkKey b 10000 kt (ek k)).run P w=.ok () w
 find:∀(ν:Type) (w:World) (k:κ) (es:List (κ×ν)) (eV:ν->Value) (L:List MapEntry),L.map (λe=>(e.key,e.val))=es.map (λp=>(ek p.1,eV p.2))->(Instr.findKey kt (ek k) L).run P w=.ok (G6 eV es k 0) w
 same:∀k,Instr.sameBits 10000 (ek k) (ek k)=true
def DJ (x:Int):Value:=.int .i64 x
def G9 (s:ByteArray):Value:=.string s
def QC (x:Bool):Value:=.bool x
theorem JK {P:Program} {kt:TypeId} (d:P.underlying kt=some (.int .i64)):KeyOk P kt DJ where
 check:=λb w k=>by rw[show (10000:Nat)=9999+1 from O,Instr.checkKey];simp only[Sem.run_bind,run_underlying d,Result.andThen_ok,DJ];rfl
 find:=λν w k es eV L f=>by
  have c:∀(L:List MapEntry) (es:List (Int×ν)) (i:Nat),L.map (λe=>(e.key,e.val))=es.map (λp=>(DJ p.1,eV p.2))->Instr.findNow (.int .i64) (DJ k) L i=some (G6 eV es k i):=by
   intro L
   induction L with
   | nil=>
    intro es i h;cases es with
    | nil=>rfl
    | cons _ _=>simp at h
   | cons e L ih=>
    intro es i h;cases es with
    | nil=>simp at h
    | cons p es=>
     simp only[List.map_cons,List.cons.injEq,Prod.mk.injEq] at h;obtain ⟨⟨l,j⟩,g⟩:=h;unfold Instr.findNow G6;rw[l];simp only[DJ,Instr.sameNow,if_true];by_cases a:p.1=k
     .rw[if_pos a,a];simp[j]
     .have:(k == p.1)=false:=by simp;exact λh=>a h.symm
      rw[if_neg a,this];exact ih es (i+1) g
  simp[Instr.findKey,run_underlying d,c L es 0 f]
 same:=λk=>by unfold DJ;rw[Instr.sameBits];simp
theorem HE {P:Program} {kt:TypeId} (d:P.underlying kt=some .string):KeyOk P kt G9 where
 check:=λb w k=>by rw[show (10000:Nat)=9999+1 from O,Instr.checkKey];simp only[Sem.run_bind,run_underlying d,Result.andThen_ok,G9];rfl
 find:=λν w k es eV L f=>by
  have c:∀(L:List MapEntry) (es:List (ByteArray×ν)) (i:Nat),L.map (λe=>(e.key,e.val))=es.map (λp=>(G9 p.1,eV p.2))->Instr.findNow .string (G9 k) L i=some (G6 eV es k i):=by
   intro L
   induction L with
   | nil=>
    intro es i h;cases es with
    | nil=>rfl
    | cons _ _=>simp at h
   | cons e L ih=>
    intro es i h;cases es with
    | nil=>simp at h
    | cons p es=>
     simp only[List.map_cons,List.cons.injEq,Prod.mk.injEq] at h;obtain ⟨⟨l,j⟩,g⟩:=h;unfold Instr.findNow G6;rw[l];simp only[G9,Instr.sameNow];by_cases a:p.1=k
     .rw[if_pos a,a,(MapKept.bytes_beq k k).2 rfl];simp[j]
     .have:(k == p.1)=false:=by rw[Bool.eq_false_iff];exact λh=>a ((MapKept.bytes_beq _ _).1 h).symm
      rw[if_neg a,this];exact ih es (i+1) g
  simp[Instr.findKey,run_underlying d,c L es 0 f]
 same:=λk=>by unfold G9;rw[Instr.sameBits];exact (MapKept.bytes_beq k k).2 O
section
variable {P : Program} {N : Nat} {Q : Dj} {σ : CN} {w : World} {K : CN → World → Prop} {ops : Array Oper} {rest : List Oper} {d : Nat} {ty : TypeId} {pos : String} {af : Array Edge} {g : Option (Nat × Bool)} {dst : Option Tmp} {t kt et : TypeId} {m x y : Operand} {b : Nat}
variable {κ ν : Type} [DecidableEq κ] {ek : κ → Value} {eV : ν → Value} {es : List (κ × ν)} {k : κ} {v : ν}
omit [DecidableEq κ] in
theorem Eg (ek:κ->Value) (eV:ν->Value) (c:d<N) (a:∀b w',NewO w w' b (.map #[] 0)->BZ w' b ek eV []->DW P N ops K Q rest (E4 σ d (.map (some b))) w') :
 DW P N ops K Q (⟨some d,.makeMap t none,ty,pos,af,none⟩::rest) σ w:=by
 refine B_ (v:=.map (some w.heap.size)) (w':={w with heap:=w.heap.push (.map #[] 0)}) O O c ?_ (a _ _ (NewO.mk' w _) (NewO.mk' w _).at');simp[execOp,Instr.makeMap]
theorem Hz (m:P.underlying t=some (.map kt et)) (d:KeyOk P kt ek) (a:BZ w b ek eV es) :
 (Instr.mapUpdate t (.map (some b)) (ek k) (eV v)).run P w=.ok () {w with heap:=w.heap.setIfInBounds b (.map (D8 ek eV (DA es k v)).toArray (DA es k v).length)}:=by
 have hlt:=a.lt;unfold BZ at a;have h:(getObj b).run P w=.ok (.map (D8 ek eV es).toArray es.length) w:=by simp[getObj,Sem.run,a]
 have hs:∀o,(setObj b o).run P w=.ok () {w with heap:=w.heap.setIfInBounds b o}:=λo=>by simp[setObj,Sem.run,a]
 have l:=d.find ν w k es eV (D8 ek eV es) (QM ek eV es);simp only[Instr.mapUpdate,Sem.run_bind,run_underlying m,Result.andThen_ok,h,d.check,l];cases hgm:A_ es k with
 | none=>
  rw[II hgm];simp only[hs];congr 4
  .apply Array.ext';rw[EJ v hgm];simp[D8,List.zipIdx_append]
  .rw[EJ v hgm];simp
 | some u=>
  obtain ⟨j,f,c,e⟩:=FZ (eV:=eV) (i:=0) hgm;rw[Nat.zero_add] at f;rw[f];have g:=AI c;have n:(D8 ek eV es).toArray[j]?=some {key:=ek k,val:=eV u,born:=j}:=by rw[List.getElem?_toArray,Ex,c];rfl
  simp only[n,Option.map_some,Option.getD_some,Instr.keyThatStays,d.same,if_true,Sem.run_bind,Sem.run_pure,Result.andThen_ok,hs];congr 4
  .apply Array.ext';rw[e v];apply List.ext_getElem?;intro i;rw[List.getElem?_toArray.symm.trans (by rfl)]<;>simp only[Array.getElem?_toList,Array.getElem?_modify,List.getElem?_toArray,Ex,List.getElem?_set];by_cases hi:j=i
   .subst hi;simp[c,g]
   .simp[hi]
  .rw[e v];simp
theorem DM (g:P.underlying t=some (.map kt et)) (f:KeyOk P kt ek) (a:BZ w b ek eV es) (i:ev σ m=.map (some b)) (c:ev σ x=ek k) (h:ev σ y=eV v)
 (d:∀w',PutO w w' b (.map (D8 ek eV (DA es k v)).toArray (DA es k v).length)->BZ w' b ek eV (DA es k v)->DW P N ops K Q rest σ w') :
 DW P N ops K Q (⟨none,.mapUpdate t m x y,ty,pos,af,none⟩::rest) σ w:=by
 have e:=Hz (k:=k) (v:=v) g f a;refine HT O O (w':={w with heap:=w.heap.setIfInBounds b (.map (D8 ek eV (DA es k v)).toArray (DA es k v).length)}) ?_ (d _ (PutO.mk' _ a.lt) (PutO.mk' _ a.lt).at');simp[execOp,i,c,h,e]
theorem HB (g:P.underlying t=some (.map kt et)) (f:KeyOk P kt ek) (a:BZ w b ek eV es) (i:ev σ m=.map (some b)) (c:ev σ x=ek k) (h:ev σ y=eV v)
 (d:∀w',PutO w w' b (.map (D8 ek eV (DA es k v)).toArray (DA es k v).length)->BZ w' b ek eV (DA es k v)->DW P N ops K Q rest σ w') :
 DW P N ops K Q (⟨none,.insert t m x y,ty,pos,af,none⟩::rest) σ w:=by
 have e:=Hz (k:=k) (v:=v) g f a;refine HT O O (w':={w with heap:=w.heap.setIfInBounds b (.map (D8 ek eV (DA es k v)).toArray (DA es k v).length)}) ?_ (d _ (PutO.mk' _ a.lt) (PutO.mk' _ a.lt).at');simp[execOp,i,c,h,e]
theorem KA (c:Bool) {z:ν} (l:P.underlying t=some (.map kt et)) (d:KeyOk P kt ek) (e:EO P et (eV z)) (a:BZ w b ek eV es) :
 (Instr.lookup t (.map (some b)) (ek k) c).run P w=.ok (if c then .tuple #[eV ((A_ es k).getD z),.bool (A_ es k).isSome] else eV ((A_ es k).getD z)) w:=by
 unfold BZ at a;have f:(getObj b).run P w=.ok (.map (D8 ek eV es).toArray es.length) w:=by simp[getObj,Sem.run,a]
 have h:=d.find ν w k es eV (D8 ek eV es) (QM ek eV es);simp only[Instr.lookup,Sem.run_bind,run_underlying l,Result.andThen_ok,f,Sem.run_pure,d.check,h];cases hgm:A_ es k with
 | none=>rw[II hgm];simp[e.run]
 | some u=>
  obtain ⟨j,g,_,_⟩:=FZ (eV:=eV) (i:=0) hgm;rw[g];simp
theorem SD {z:ν} (f:P.underlying t=some (.map kt et)) (d:KeyOk P kt ek) (h:EO P et (eV z)) (a:BZ w b ek eV es) (e:ev σ m=.map (some b)) (c:ev σ x=ek k) :
 (execOp (ev σ) ⟨dst,.lookup t m x false,ty,pos,af,g⟩).run P w=.ok (.value (eV ((A_ es k).getD z))) w:=by
 simp[execOp,e,c,KA false f d h a]
theorem FL {z:ν} (f:P.underlying t=some (.map kt et)) (d:KeyOk P kt ek) (h:EO P et (eV z)) (a:BZ w b ek eV es) (e:ev σ m=.map (some b)) (c:ev σ x=ek k) :
 (execOp (ev σ) ⟨dst,.lookup t m x true,ty,pos,af,g⟩).run P w=.ok (.value (.tuple #[eV ((A_ es k).getD z),.bool (A_ es k).isSome])) w:=by
 simp[execOp,e,c,KA true f d h a]
omit [DecidableEq κ] in
theorem NV (c:P.underlying t=some (.map kt et)) (a:BZ w b ek eV es) (e:ev σ m=.map (some b)) :
 (execOp (ev σ) ⟨dst,.call ⟨.builtin .len,#[m],#[t]⟩,ty,pos,af,g⟩).run P w=.ok (.value (.int .i64 es.length)) w:=by
 unfold BZ at a;have d:(getObj b).run P w=.ok (.map (D8 ek eV es).toArray es.length) w:=by simp[getObj,Sem.run,a]
 simp[execOp,resolve,e,invoke,builtin,Builtin.len_,run_underlying c,d,goInt,Im]
end
def Dg (w:World) (it b n:Nat) (seen:List Nat):Prop:=w.heap[it]?=some (.mapIter (some b) n seen.toArray n)
theorem Dg.lt {w:World} {it b n:Nat} {seen:List Nat} (h:Dg w it b n seen):it<w.heap.size:=(Array.getElem?_eq_some_iff.1 h).1
theorem Dg.chg {M:Nat->Prop} {w w':World} {it b n:Nat} {seen:List Nat} (h:Dg w it b n seen) (c:Chg M w w') (a:¬M it):Dg w' it b n seen:=(c.blk it h.lt a).trans h
theorem Dg.ext {w w':World} {it b n:Nat} {seen:List Nat} (h:Dg w it b n seen) (c:Ao w w'):Dg w' it b n seen:=h.chg c λf=>f
section
variable {w w' : World} {it b n : Nat} {seen : List Nat} (hb : Dg w it b n seen)
include hb
theorem Chg.keepI {M:Nat->Prop} (h:Chg M w w') (a:¬M it):Dg w' it b n seen:=hb.chg h a
theorem New.keepI {q:Nat} {c:Array Value} {t:TypeId} (h:New w w' q c t):Dg w' it b n seen:=hb.ext h.ext
theorem New.ltI {q:Nat} {c:Array Value} {t:TypeId} (h:New w w' q c t):it<q:=by rw[h.eq];exact hb.lt
end
section
variable {P : Program} {N : Nat} {Q : Dj} {σ : CN} {w : World} {K : CN → World → Prop} {ops : Array Oper} {rest : List Oper} {d : Nat} {ty : TypeId} {pos : String} {af : Array Edge} {g : Option (Nat × Bool)} {dst : Option Tmp} {t kt et : TypeId} {x : Operand} {b it : Nat}
variable {κ ν : Type} {ek : κ → Value} {eV : ν → Value} {es : List (κ × ν)} {seen : List Nat}
theorem UM (f:d<N) (g:P.underlying t=some (.map kt et)) (a:BZ w b ek eV es) (c:ev σ x=.map (some b))
 (e:∀it w',NewO w w' it (.mapIter (some b) es.length #[] es.length)->DW P N ops K Q rest (E4 σ d (.pointer (some ⟨it,0,none⟩))) w') :
 DW P N ops K Q (⟨some d,.range t x,ty,pos,af,none⟩::rest) σ w:=by
 unfold BZ at a;have h:(getObj b).run P w=.ok (.map (D8 ek eV es).toArray es.length) w:=by simp[getObj,Sem.run,a]
 refine B_ (v:=.pointer (some ⟨w.heap.size,0,none⟩)) (w':={w with heap:=w.heap.push (.mapIter (some b) es.length #[] es.length)}) O O f ?_ (e _ _ (NewO.mk' w _));simp[execOp,c,Instr.range,run_underlying g,h]
theorem JP {e:MapEntry} (h:e∈D8 ek eV es):∃p,es[e.born]?=some p∧e.key=ek p.1∧e.val=eV p.2:=by
 obtain ⟨i,hi⟩:=List.mem_iff_getElem?.1 h;rw[Ex] at hi;cases hp:es[i]? with
 | none=>rw[hp] at hi;cases hi
 | some p=>
  rw[hp] at hi;simp at hi;subst hi;exact ⟨p,hp,O,O⟩
theorem Vm (hN:d<N) (hm:BZ w b ek eV es) (hi:Dg w it b es.length seen) (h1:ev σ x=.pointer (some ⟨it,0,none⟩))
 (k1:(∀i,i<es.length->i∈seen)->DW P N ops K Q rest (E4 σ d (.tuple #[.bool false])) w)
 (k2:∀i p w',es[i]?=some p->i∉seen->PutO w w' it (.mapIter (some b) es.length (seen++[i]).toArray es.length)->DW P N ops K Q rest (E4 σ d (.tuple #[.bool true,ek p.1,eV p.2])) w') :
 DW P N ops K Q (⟨some d,.next x false,ty,pos,af,none⟩::rest) σ w:=by
 have ay:=hi.lt;have am:(getObj b).run P w=.ok (.map (D8 ek eV es).toArray es.length) w:=by unfold BZ at hm;simp[getObj,Sem.run,hm]
 have an:(getObj it).run P w=.ok (.mapIter (some b) es.length seen.toArray es.length) w:=by unfold Dg at hi;simp[getObj,Sem.run,hi]
 have ah:((!seen.toArray.isEmpty && !(D8 ek eV es).toArray.isEmpty) && (D8 ek eV es).toArray.all (λe=>decide (e.born ≥ es.length)))=false:=by
  cases es with
  | nil=>simp[D8]
  | cons p r=>
   have ar:({key:=ek p.1,val:=eV p.2,born:=0}:MapEntry)∈D8 ek eV (p::r):=List.mem_of_getElem? (i:=0) (by rw[Ex];rfl);have:(D8 ek eV (p::r)).toArray.all (λe=>decide (e.born ≥ (p::r).length))=false:=by
    rw[List.all_toArray,List.all_eq_false];exact ⟨_,ar,qP⟩
   rw[this,Bool.and_false]
 obtain ⟨aa,ab⟩:∃aa,aa=(D8 ek eV es).toArray.filter λe=>!seen.toArray.contains e.born:=⟨_,O⟩;have ac:∀e,e∈aa->e∈D8 ek eV es∧e.born∉seen:=λe he=>by rw[ab] at he;simpa using he
 have ai:aa.filter (λe=>decide (e.born<es.length))=aa:=by
  rw[Array.filter_eq_self];intro e he;obtain ⟨p,hp,_⟩:=JP (ac e he).1;simpa using AI hp
 have ag:aa.filter (λe=>decide (e.born ≥ es.length))=#[]:=by
  rw[Array.filter_eq_empty_iff];intro e he;obtain ⟨p,hp,_⟩:=JP (ac e he).1;have:=AI hp;simp;omega
 by_cases hemp:aa=#[]
 .have aq:=k1 λi a2=>by
   by_cases hin:i∈seen
   .exact hin
   .exfalso;obtain ⟨p,hp⟩:∃p,es[i]?=some p:=⟨_,List.getElem?_eq_getElem a2⟩;have he:({key:=ek p.1,val:=eV p.2,born:=i}:MapEntry)∈D8 ek eV es:=List.mem_of_getElem? (i:=i) (by rw[Ex,hp];rfl);have:({key:=ek p.1,val:=eV p.2,born:=i}:MapEntry)∈aa:=by rw[ab];simpa using ⟨he,hin⟩
    rw[hemp] at this;simp at this
  refine B_ (v:=.tuple #[.bool false]) (w':=w) O O hN ?_ aq;have aw:Question.forced (.mapNext 1)=true:=rfl;have aj:(choose (.mapNext 1)).run P w=.ok 0 w:=by simp[choose,Sem.run,aw]
  simp only[execOp,h1,Instr.next,Sem.run_bind,an,Result.andThen_ok,am,ah,Bool.false_eq_true,if_false,Sem.run_pure,<-ab,ai,ag,hemp];have a0:Array.filter (λx:MapEntry=>decide (x.born<es.length)) #[]=#[]:=qP
  have ax:Array.filter (λx:MapEntry=>decide (x.born ≥ es.length)) #[]=#[]:=qP
  have az:((if (#[]:Array MapEntry).isEmpty=true then #[none] else #[])++Array.map some ((#[]:Array MapEntry)++#[]):Array (Option MapEntry))=#[none]:=qP
  simp only[a0,ax,az];rw[show (#[none]:Array (Option MapEntry)).size=1 from O,aj];rfl
 .have ao:0<aa.size:=by rcases Nat.eq_zero_or_pos aa.size with h|h;exact absurd (Array.eq_empty_of_size_eq_zero h) hemp;exact h
  have ae:aa.isEmpty=false:=by simpa using hemp
  obtain ⟨j,dr,hj,aj⟩:∃j dr,j<aa.size∧(choose (.mapNext aa.size)).run P w=.ok j {w with drawn:=w.drawn+dr}:=by
   by_cases hf:Question.forced (.mapNext aa.size)=true
   .exact ⟨0,0,ao,by simp[choose,Sem.run,hf]⟩
   .exact ⟨_,1,Nat.mod_lt (w.tape w.drawn (.mapNext aa.size)) ao,by simp[choose,Sem.run,hf,Question.cut]⟩
  obtain ⟨e,he⟩:∃e,aa[j]?=some e:=⟨_,Array.getElem?_eq_getElem hj⟩;obtain ⟨al,av⟩:=ac e (Array.mem_of_getElem? he);obtain ⟨p,hp,hk,hv⟩:=JP al;have ap:({w with drawn:=w.drawn+dr}:World).heap[it]?=some (.mapIter (some b) es.length seen.toArray es.length):=hi;refine B_ (v:=.tuple #[.bool true,ek p.1,eV p.2]) (w':={w with drawn:=w.drawn+dr,heap:=w.heap.setIfInBounds it (.mapIter (some b) es.length (seen++[e.born]).toArray es.length)}) O O hN ?_ (k2 e.born p _ hp av ?_)
  .have a1:(setObj it (.mapIter (some b) es.length (seen.toArray.push e.born) es.length)).run P {w with drawn:=w.drawn+dr}=.ok () {w with drawn:=w.drawn+dr,heap:=w.heap.setIfInBounds it (.mapIter (some b) es.length (seen.toArray.push e.born) es.length)}:=by simp[setObj,Sem.run,ap]
   have ad:((#[]:Array (Option MapEntry))++(aa++#[]).map some)[j]?=some (some e):=by simp[he]
   have ak:((#[]:Array (Option MapEntry))++(aa++#[]).map some).size=aa.size:=qP
   simp only[execOp,h1,Instr.next,Sem.run_bind,an,Result.andThen_ok,am,ah,Bool.false_eq_true,if_false,Sem.run_pure,<-ab,ai,ag,ae,ak,aj,ad,a1,hk,hv];simp
  .refine ⟨by simp[ay],⟨O,O,O,Nat.le_add_right _ _,qP,λy hy au=>by simp[Array.getElem?_setIfInBounds,Ne.symm au]⟩,qP⟩
theorem UP {i:Nat} {p:κ×ν} (l:BZ w b ek eV es) (hi:Dg w it b es.length (seen++[i])) (m:es[i]?=some p) (n:ev σ x=.pointer (some ⟨it,0,none⟩)) :
 (execOp (ev σ) ⟨dst,.entry x,ty,pos,af,g⟩).run P w=.ok (.value (.tuple #[ek p.1,eV p.2])) w:=by
 have f:(getObj b).run P w=.ok (.map (D8 ek eV es).toArray es.length) w:=by unfold BZ at l;simp[getObj,Sem.run,l]
 have k:(getObj it).run P w=.ok (.mapIter (some b) es.length (seen++[i]).toArray es.length) w:=by unfold Dg at hi;simp[getObj,Sem.run,hi]
 have hb:(seen++[i]).toArray.back?=some i:=by simp[Array.back?]
 have c:=AI m;have o:(D8 ek eV es).find? (λe=>e.born == i)=some {key:=ek p.1,val:=eV p.2,born:=i}:=by
  rw[List.find?_eq_some_iff_getElem];refine ⟨qP,i,by rw[Im];exact c,?_,λj hj=>?_⟩
  .have:=Ex (ek:=ek) (eV:=eV) (es:=es) (i:=i);rw[m,List.getElem?_eq_getElem (by rw[Im];exact c)] at this;simpa using this
  .have d:=Ex (ek:=ek) (eV:=eV) (es:=es) (i:=j);have a:j<es.length:=qO
   rw[List.getElem?_eq_getElem (by rw[Im];exact a),List.getElem?_eq_getElem a] at d;simp at d;rw[d];simp;omega
 have h:(D8 ek eV es).toArray.find? (λe=>e.born == i)=some {key:=ek p.1,val:=eV p.2,born:=i}:=by simpa using o
 simp only[execOp,n,Instr.entry,Sem.run_bind,k,Result.andThen_ok,hb,f,h,Sem.run_pure];simp
end
theorem XJ {l:List Nat} (hd:l.Nodup) {a:Nat} (h:a∈l):l.count a=1:=by
 induction l with
 | nil=>cases h
 | cons x r ih=>
  rw[List.nodup_cons] at hd;rw[List.count_cons];rcases List.mem_cons.1 h with rfl|h
  .rw[List.count_eq_zero_of_not_mem hd.1];simp
  .have:x≠a:=λe=>hd.1 (e▸h);rw[ih hd.2 h];simp[this]
theorem Qm {n:Nat} {seen:List Nat} (hd:seen.Nodup) (d:∀i∈seen,i<n) (c:∀i,i<n->i∈seen):seen.Perm (List.range n):=by
 rw[List.perm_iff_count];intro a;by_cases h:a∈seen
 .rw[XJ hd h,XJ List.nodup_range (List.mem_range.2 (d a h))]
 .rw[List.count_eq_zero_of_not_mem h,List.count_eq_zero_of_not_mem (λb=>h (c a (List.mem_range.1 b)))]
theorem NP {n:Nat} {seen:List Nat} (hd:seen.Nodup) (a:∀i∈seen,i<n):seen.length<=n:=by
 have h:seen.Subset (List.range n):=λi hi=>List.mem_range.2 (a i hi);have:=hd.length_le_of_subset h;simpa using this
end Go.Eng
namespace Go.Proofs
open Go Go.Eng Go.Sort
section
variable {P : Program} {N : Nat} {Q : Dj} {σ : CN} {w : World} {K : CN → World → Prop} {ops : Array Oper} {rest : List Oper} {d : Nat} {ty : TypeId} {pos : String} {af : Array Edge} {t : TypeId} {x y : Operand}
theorem E8 {e bytes n:Nat} {z:Value} (o:d<N) (q:P.underlying t=some (.slice e)) (a:DK P e 1) (c:Hv P e bytes) (f:EO P e z) (g:z.cells=#[z]) (p:ev σ x=.int .i64 ((n:Nat):Int)) (r:ev σ y=.int .i64 ((n:Nat):Int)) (hb:n*bytes<=140737488355328) (hn:n<=140737488355328)
 (k:∀b w',New w w' b (List.replicate n z).toArray e->DW P N ops K Q rest (E4 σ d (.slice (some ⟨b,0,none⟩) n n)) w'):DW P N ops K Q (⟨some d,.makeSlice t x y,ty,pos,af,none⟩::rest) σ w:=by
 refine B_ (v:=.slice (some ⟨w.heap.size,0,none⟩) n n) (w':={w with heap:=w.heap.push (.cells (List.replicate n z).toArray e (0,0))}) O O o ?_ (k _ _ (New.mk' w _ e));unfold DK at a;unfold Hv at c;unfold EO at f;cases hi:P.info? e with
 | none=>rw[hi] at a;simp at a
 | some i=>
 rw[hi] at a c f;simp at a c f;have h:=run_make (P:=P) w t e i _ q hi f .i64 .i64 ((n:Nat):Int) ((n:Nat):Int) qO (Int.le_refl _) (by rw[c];have:((bytes:Nat):Int)*((n:Nat):Int)=(((n*bytes:Nat):Nat):Int):=(by rw[Int.natCast_mul,Int.mul_comm]);rw[this];omega) qO;have s:madeCells z.cells (n*i.size)=(List.replicate n z).toArray:=by
  rw[a,Nat.mul_one,g];apply Array.ext';simp only[madeCells];apply List.ext_getElem?;intro j;simp only[Array.toList_map,List.getElem?_map,List.getElem?_replicate];rcases Nat.lt_or_ge j n with l|l
  .have m:(Array.range n).toList[j]?=some j:=by simp[l]
   rw[m,if_pos l];simp[Nat.mod_one]
  .have m:(Array.range n).toList[j]?=none:=by simp;omega
   rw[m,if_neg qO];rfl
 simp only[Int.toNat_natCast,s] at h;simp only[execOp,p,r,Sem.run_bind,h,Result.andThen_ok];rfl
theorem DS {dst:Option Tmp} {g:Option (Nat×Bool)} {s:TypeId} {e:TypeId} {b n c:Nat} {l:List Int} (hs:P.underlying s=some (.slice e)) (k:P.underlying e=some (.int .u8)) (p:P.underlying t=some .string) (d:ev σ x=.slice (some ⟨b,0,none⟩) n c)
 (f:Az w b (l.map (Value.int .u8)).toArray e) (m:l.length=n):(execOp (ev σ) ⟨dst,.convert s t x,ty,pos,af,g⟩).run P w=.ok (.value (.string (strOfNums l))) w:=by
 have h:=run_convert_bytes_arg (P:=P) w s e hs k b 0 n c l m (λi hi=>by
  rw[Nat.zero_add];have j:l[i]?=some l[i]:=List.getElem?_eq_getElem qO;have a:=f.cell (o:=i) (v:=.int .u8 (l.getD i 0)) (by simp[List.getD,j]);exact a) t p
 simp only[execOp,d,Sem.run_bind,h,Result.andThen_ok];rfl
end
def Cd (base e size n:Nat) (xs:List Value) (old:Value) (hs:Nat):El:=λv w=>(∃a c,v=.slice a n c)∧w.ownsRow base e size v n xs∧∀k,v.ownBlock=some k->old.ownBlock=some k∨hs<=k
theorem K_ (base e size n:Nat) (xs:List Value) (a:Value) (hs:Nat):∀v w w',Ao w w'->Cd base e size n xs a hs v w->Cd base e size n xs a hs v w':=by
 rintro v w w' e ⟨d,c,b⟩;exact ⟨d,Aj c e,b⟩
theorem CL {P:Program} {N:Nat} {σ:CN} {w:World} {dst:Option Tmp} {ty:TypeId} {pos:String} {af:Array Edge} {g:Option (Nat×Bool)} {M:Nat->Prop} {t:TypeId} {s x:Operand} {base e size bytes n m c E D hs:Nat} {z v:Value} {xs news:List Value} (G:P.underlying t=some (.slice e)) (f:DK P e size) (l:Hv P e bytes) (A:EO P e z) (C:z.cells.size=size) (Q:0<size)
 (he:ev σ s=v) (o:w.ownsRow base e size v n xs) (W:ev σ x=.slice (some ⟨E,D,none⟩) m c) (K:news.length=m*size) (q:A' w E D news) (J:∀u∈news,u.oneCell'=true)
 (r:n+m<=maxLen) (a:(n+m)*bytes<=140737488355328) (p:base<=w.heap.size) (R:∀y,v.ownBlock=some y->M y) (H:hs<=w.heap.size) :
 Cs M P N ⟨dst,.call ⟨.builtin .append,#[s,x],#[t,t]⟩,ty,pos,af,g⟩ (Cd base e size (n+m) (xs++news) v hs) σ w:=by
 unfold DK at f;unfold Hv at l;unfold EO at A;cases hi:P.info? e with
 | none=>rw[hi] at f;simp at f
 | some i=>
 rw[hi] at f l A;simp at f l A;have d:∀j u,news[j]?=some u->w.cell? ((⟨E,D,none⟩:Addr).add j)=some u:=λj u T=>by rw[Addr.add_lit];exact q j u T
 obtain ⟨v',w',F,L,B,_⟩:=run_append_own (P:=P) w base t ty e i z size bytes G hi A f l C Q v n xs o ⟨E,D,none⟩ m c news K d J r a p;have S:Chg (λx=>v.ownBlock=some x) w w':=⟨B.os,B.tape,B.output,Iu (P:=P) G hi A f l o K d J r a F,B.size,λb hb V=>B.block b hb (λh=>V h.symm)⟩;have U:=It (P:=P) G hi A f l C Q o K d J r a F;refine AY (v:=v') (w':=w') (by simp[execOp,resolve,invoke,builtin,he,W,F]) (S.mono λy _ Z=>R y Z) ⟨A9 L,L,λk X=>?_⟩;rcases U k X with I|I
 .exact .inl I
 .exact .inr (Nat.le_trans H I)
def C0 (e:Nat) (c:Array Value) (hs:Nat):El:=λv w=>∃b,v=.slice (some ⟨b,0,none⟩) 1 1∧Az w b c e∧hs<=b
theorem KW (e:Nat) (c:Array Value) (hs:Nat):∀v w w',Ao w w'->C0 e c hs v w->C0 e c hs v w':=by
 rintro v w w' x ⟨b,f,d,a⟩;exact ⟨b,f,Ao.keep x d,a⟩
theorem Cq {P:Program} {N:Nat} {σ:CN} {w:World} {dst:Option Tmp} {ty:TypeId} {pos:String} {af:Array Edge} {g:Option (Nat×Bool)} {M:Nat->Prop} {t e n hs:Nat} {x:Operand} {v z:Value} {c:Array Value} (h:P.underlying t=some (.slice e)) (a:DK P e n) (j:EO P e z) (f:ev σ x=v)
 (l:¬(1*n > 2 ^ 24)) (k:1*n≠0) (m:Instr.fill (λi=>some (i*n,n)) ((Array.range (1*n)).map (z.cells[· % z.cells.size]!)) [(0,v)]=some c) (b:hs<=w.heap.size) :
 Cs M P N ⟨dst,.buildSlice t 1 #[(0,x)],ty,pos,af,g⟩ (C0 e c hs) σ w:=by
 have d:=New.mk' w c e;exact AY (FR (parts:=[(0,x)]) (ps:=[(0,v)]) (by simp only[List.map,f]) h a j l k m) (Ao.chg d.ext) ⟨_,O,d.blk,b⟩
theorem KN {w:World} {b e base:Nat} {v:Value} (h:Az w b #[v] e) (hb:base<=b):w.ownsRow base e 1 (.slice (some ⟨b,0,none⟩) 1 1) 1 [v]:=
 ⟨O,.inr ⟨b,1,#[v],O,hb,h,Nat.le_refl _,qD,O,O⟩⟩
def Om (b:Bool):List Value:=[.bool b]
def GK (w:World) (v:Value) (l:List Bool):Prop:=BL w 1 v (l.map Om)
theorem HO {w:World} {a:Option Addr} {n c:Nat} {l:List Bool} (h:GK w (.slice a n c) l) (e:0<n) :
 ∃b o,a=some ⟨b,o,none⟩∧∀i x,l[i]?=some x->w.cell? ⟨b,o+i,none⟩=some (.bool x):=by
 obtain ⟨b,o,d,h⟩:=BL.at h e;refine ⟨b,o,d,λi x f=>?_⟩;have:=h i (Om x) (by simp[f]) 0 _ O;simpa using this
theorem Pg (l:List Bool):(l.map Om).flatten=l.map Value.bool:=by
 induction l with
 | nil=>rfl
 | cons x l ih=>simp[Om];simpa[Om] using ih
abbrev TB:Nat:=4
abbrev Xs:Nat:=66
theorem Hd {w:World} {base n:Nat} {v:Value} {l:List Bool} (h:w.ownsRow base TB 1 v n (l.map Value.bool)) (b:n=l.length):GK w v l:=by
 rw[<-Pg] at h;exact DY h (by intro x a;simp only[List.mem_map] at a;obtain ⟨p,_,rfl⟩:=a;rfl) (by simp[b]) qD
structure LSt (To e sz:Nat) (w:World) (base:Nat) (vo:Value) (vs:List Value) (ns:List (Nat×List Value)):Prop where
 o:w.ownsRow base To 1 vo ns.length vs
 len:vs.length=ns.length
 inn:∀(i:Nat) v p,vs[i]?=some v->ns[i]?=some p->w.ownsRow base e sz v p.1 p.2
 apo:∀(i:Nat) v b,vs[i]?=some v->v.ownBlock=some b->vo.ownBlock≠some b
theorem LSt.start (To e sz:Nat) (w:World) (base:Nat):LSt To e sz w base (.slice none 0 0) [] []:=
 ⟨World.ownsRow_nil _ _ _ _,O,λi v p h=>by simp at h,λi v b h=>by simp at h⟩
theorem LSt.chg {M:Nat->Prop} {To e sz base:Nat} {w w':World} {g:Value} {vs:List Value} {m:List (Nat×List Value)} (h:LSt To e sz w base g vs m) (c:Chg M w w') (j:∀b,base<=b->b<w.heap.size->¬M b):LSt To e sz w' base g vs m:=
 ⟨Ax h.o c λk a=>j k (h.o.lt k a).1 (h.o.lt k a).2,h.len,λi v l f d=>Ax (h.inn i v l f d) c λk a=>j k ((h.inn i v l f d).lt k a).1 ((h.inn i v l f d).lt k a).2,h.apo⟩
theorem LSt.ext {To e sz base:Nat} {w w':World} {b:Value} {vs:List Value} {a:List (Nat×List Value)} (h:LSt To e sz w base b vs a) (c:Ao w w'):LSt To e sz w' base b vs a:=h.chg c λ_ _ _ f=>f
theorem LSt.on {To e sz base n:Nat} {w:World} {b:Value} {vs:List Value} {a:List (Nat×List Value)} (h:LSt To e sz w base b vs a) (c:n=a.length):w.ownsRow base To 1 b n vs:=by subst c;exact h.o
theorem LSt.push {To e sz base y n m:Nat} {w w':World} {q v' u:Value} {vs us:List Value} {s:List (Nat×List Value)} (h:LSt To e sz w base q vs s) (E:n=s.length) (t:w.ownsRow y e sz u m us) (hb:base<=y) (B:∀k,q.ownBlock=some k->k<y)
 (F:w'.ownsRow base To 1 v' (n+1) (vs++[u])) (C:Chg (λx=>q.ownBlock=some x) w w') (D:∀k,v'.ownBlock=some k->q.ownBlock=some k∨w.heap.size<=k):LSt To e sz w' base v' (vs++[u]) (s++[(m,us)]):=by
 have g:∀(i:Nat) v,(vs++[u])[i]?=some v->vs[i]?=some v∨(i=vs.length∧v=u):=by
  intro i v d;rcases Nat.lt_or_ge i vs.length with a|a
  .left;rwa [List.getElem?_append_left a] at d
  .right;rw[List.getElem?_append_right a] at d;have f:=AI d;simp at f;obtain rfl:i=vs.length:=qO
   simp at d;exact ⟨O,d.symm⟩
 have r:∀b,u.ownBlock=some b->q.ownBlock≠some b:=λb z G=>by
  have a:=B b G;have f:=(t.lt b z).1;omega
 refine ⟨by rw[List.length_append,<-E];exact F,by simp[h.len],?_,?_⟩
 .intro i v p d j;rcases g i v d with a|⟨a,rfl⟩
  .rw[List.getElem?_append_left (by have:=AI a;have:=h.len;omega)] at j;exact Ax (h.inn i v p a j) C λk A=>h.apo i v k a A
  .rw[a,h.len] at j;simp at j;subst j;exact Eo (Ax t C λk A=>r k A) hb
 .intro i v b d c o;rcases g i v d with a|⟨_,rfl⟩
  .rcases D b o with f|f
   .exact h.apo i v b a c f
   .obtain ⟨p,j⟩:=AL (l:=s) (i:=i) (by have:=AI a;have:=h.len;omega);have:=((h.inn i v p a j).lt b c).2;omega
  .rcases D b o with f|f
   .exact r b c f
   .have:=(t.lt b c).2;omega
theorem PA {w w':World} {base e size n cap g i:Nat} {xs:List Value} {b:Array Value} {v:Value} (h:w.ownsRow base e size (.slice (some ⟨g,0,none⟩) n cap) n xs) (m:Az w g b e) (hi:i<n*size) (c:Az w' g (b.setIfInBounds i v) e):w'.ownsRow base e size (.slice (some ⟨g,0,none⟩) n cap) n (xs.set i v):=by
 rcases h.2 with ⟨p,_⟩|⟨g',cap',cur',o,f,j,k,d,l,a⟩
 .simp at p
 .simp only[Value.slice.injEq,Option.some.injEq,Addr.mk.injEq,and_true] at o;obtain ⟨rfl,_,rfl⟩:=o;unfold Az at m c;rw[m] at j;simp only[Option.some.injEq,Obj.cells.injEq,and_true] at j;obtain ⟨rfl,_⟩:=j;refine ⟨by simpa using h.1,.inr ⟨g,cap,_,O,f,c,k,d,by simpa using l,?_⟩⟩;rw[<-a,Array.toList_setIfInBounds,List.take_set]
theorem SL {w:World} {base e size n cap g:Nat} {xs:List Value} (h:w.ownsRow base e size (.slice (some ⟨g,0,none⟩) n cap) n xs):∃a,Az w g a e∧n*size<=a.size:=by
 rcases h.2 with ⟨j,_⟩|⟨g',cap',b,f,hbg,i,c,hcm,d,htake⟩
 .simp at j
 .simp only[Value.slice.injEq,Option.some.injEq,Addr.mk.injEq,and_true] at f;obtain ⟨rfl,_,rfl⟩:=f;exact ⟨b,i,by rw[d];exact Nat.mul_le_mul_right _ c⟩
structure GSt (To e sz:Nat) (w:World) (base:Nat) (vo:Value) (vs:List Value) (ns:List (Nat×List Value)):Prop where
 l:LSt To e sz w base vo vs ns
 ap:∀(i j:Nat) v u b,vs[i]?=some v->vs[j]?=some u->v.ownBlock=some b->u.ownBlock=some b->i=j
theorem GSt.ext {To e sz base:Nat} {w w':World} {b:Value} {vs:List Value} {a:List (Nat×List Value)} (h:GSt To e sz w base b vs a) (c:Ao w w'):GSt To e sz w' base b vs a:=⟨h.l.ext c,h.ap⟩
theorem GSt.made {To e sz base b n:Nat} {w:World} (g:Az w b (List.replicate n (Value.slice none 0 0)).toArray To) (hb:base<=b) (f:n<=9223372036854775807) (hbw:base<=b):GSt To e sz w base (.slice (some ⟨b,0,none⟩) n n) (List.replicate n (.slice none 0 0)) (List.replicate n (0,[])):=by
 have d:∀(i:Nat) v,(List.replicate n (Value.slice none 0 0))[i]?=some v->v=.slice none 0 0:=λi v h=>by
  have:=List.mem_of_getElem? h;exact (List.mem_replicate.1 this).2
 refine ⟨⟨?_,qP,λi v p h k=>?_,λi v b h a=>?_⟩,λi j v u b h _ a=>?_⟩
 .rw[List.length_replicate];exact ⟨qP,.inr ⟨b,n,_,O,hb,g,Nat.le_refl _,f,qP,qP⟩⟩
 .have c:=(List.mem_replicate.1 (List.mem_of_getElem? k)).2;subst c;rw[d i v h];exact World.ownsRow_nil _ _ _ _
 .rw[d i v h] at a;cases a
 .rw[d i v h] at a;cases a
theorem GSt.grow {To e sz:Nat} {w w' M:World} {base g cap k n m m':Nat} {v v':Value} {vs:List Value} {A:List (Nat×List Value)} {xs xs':List Value} {C:Array Value} (h:GSt To e sz w base (.slice (some ⟨g,0,none⟩) n cap) vs A) (K:n=A.length) (F:vs[k]?=some v) (hp:A[k]?=some (m,xs))
 (S:w'.ownsRow base e sz v' m' xs') (J:Chg (λx=>v.ownBlock=some x) w w') (L:∀k,v'.ownBlock=some k->v.ownBlock=some k∨w.heap.size<=k)
 (R:Az w' g C To) (H:Put w' M g (C.setIfInBounds k v') To):GSt To e sz M base (.slice (some ⟨g,0,none⟩) n cap) (vs.set k v') (A.set k (m',xs')):=by
 have hkl:=AI F;have B:v.ownBlock≠some g:=λe=>h.l.apo k v g F e O;have hgl:=(h.l.o.lt g O).2;have s:v'.ownBlock≠some g:=λe=>by rcases L g e with d|d;exact B d;omega
 have D:w'.ownsRow base To 1 (.slice (some ⟨g,0,none⟩) n cap) A.length vs:=Ax h.l.o J λq r=>by cases r;exact B
 rw[<-K] at D;have G:=PA D R (i:=k) (by have:=h.l.len;omega) H.blk;have c:∀(i:Nat) u,(vs.set k v')[i]?=some u->(i=k∧u=v')∨(i≠k∧vs[i]?=some u):=by
  intro i u a;rw[List.getElem?_set] at a;split at a
  .rename_i I
   exact .inl ⟨I.symm,(Option.some.inj a).symm⟩
  .rename_i I
   exact .inr ⟨λe=>I e.symm,a⟩
 have y:∀(i:Nat) u,vs[i]?=some u->∃q,A[i]?=some q:=λi u a=>AL (by have:=AI a;have:=h.l.len;omega);have p:∀(i:Nat) u b,i≠k->vs[i]?=some u->u.ownBlock=some b->v.ownBlock≠some b∧v'.ownBlock≠some b∧b≠g:=by
  intro i u b hi a hb;have d:v.ownBlock≠some b:=λe=>hi (h.ap i k u v b a F hb e);refine ⟨d,λe=>?_,λe=>h.l.apo i u b a hb (by rw[e];rfl)⟩;rcases L b e with f|f
  .exact d f
  .obtain ⟨q,r⟩:=y i u a;have:=((h.l.inn i u q a r).lt b hb).2;omega
 refine ⟨⟨by rw[List.length_set,<-K];exact G,by simp[h.l.len],?_,?_⟩,?_⟩
 .intro i u q a r;rcases c i u a with ⟨rfl,rfl⟩|⟨d,f⟩
  .rw[List.getElem?_set,if_pos O,if_pos (by have:=h.l.len;omega)] at r;have E:=Option.some.inj r;subst E;exact Ax S H.chg λb hb e=>s (e▸hb)
  .rw[List.getElem?_set,if_neg (λe=>d e.symm)] at r;exact Ax (Ax (h.l.inn i u q f r) J λb hb=>(p i u b d f hb).1) H.chg λb hb e=>(p i u b d f hb).2.2 e
 .intro i u b a hb;rcases c i u a with ⟨rfl,rfl⟩|⟨d,f⟩
  .intro e;cases e;exact s hb
  .exact h.l.apo i u b f hb
 .intro i j u z b a Q hb t;rcases c i u a with ⟨rfl,rfl⟩|⟨d,f⟩<;>rcases c j z Q with ⟨rfl,rfl⟩|⟨P,N⟩
  .rfl
  .exact absurd hb (p j z b P N t).2.1
  .exact absurd t (p i u b d f hb).2.1
  .exact h.ap i j u z b f N hb t
end Go.Proofs
