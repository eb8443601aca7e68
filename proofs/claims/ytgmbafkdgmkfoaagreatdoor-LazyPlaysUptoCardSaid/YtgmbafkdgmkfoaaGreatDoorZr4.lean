/- Contracts and plain lemmas, part 4. -/
import Derived.Test.YtgmbafkdgmkfoaaGreatDoorZr3
open Go.Proofs.Tryz
set_option maxHeartbeats 16000000
namespace Go.Proofs
open Go Go.Eng Go.Sort
theorem GQ {α:Type} [DecidableEq α]:∀{l m:List α},l.Nodup->(∀x∈l,x∈m)->l.length<=m.length
 | [],_,_,_=>dR _
 | x::l,m,hd,h=>by
  have a:=kD.1 hd;have c:=h x eJ;have d:=GQ (l:=l) (m:=m.erase x) a.2 λy b=>(List.mem_erase_of_ne (show y≠x from λe=>a.1 (by rw[<-e];exact b))).2 (h y (eP _ b));rw[List.length_erase_of_mem c] at d;have:=List.length_pos_of_mem c;simp only[d_];omega
def Lq:oF->List Int
  | []=>[]
  | s::l=>s.1::(s.2+1)::Lq l
theorem Lp:∀l:oF,(Lq l).length=2*l.length
 | []=>rfl
 | s::l=>by simp only[Lq,d_,Lp l];omega
theorem JM:∀{l:oF} {x:Int},x∈Lq l↔∃s∈l,x=s.1∨x=s.2+1
 | [],x=>by simp[Lq]
 | s::l,x=>by
  simp only[Lq,dZ,JM (l:=l),exists_eq_or_imp];constructor
  .rintro (h|h|h)
   .exact .inl (.inl h)
   .exact .inl (.inr h)
   .exact .inr h
  .rintro ((h|h)|h)
   .exact .inl h
   .exact .inr (.inl h)
   .exact .inr (.inr h)
theorem Sn:∀{l:oF},Canon l->(Lq l).Pairwise (· < ·)
 | [],_=>List.Pairwise.nil
 | s::l,h=>by
  have f:=h.head;unfold EA at f;have g:=h.far;have a:∀x∈Lq l,s.2+1<x:=λx c=>by
   obtain ⟨t,e,b⟩:=JM.1 c;have:=g t e;have d:=h.tail.ok t e;unfold EA at d;rcases b with b|b<;>omega
  refine List.Pairwise.cons (λx c=>?_) (List.Pairwise.cons (λx c=>a x c) (Sn h.tail));rcases dZ.1 c with b|b
  .omega
  .have:=a x b;omega
theorem Ry {p:oB} {f:Int->Bool} {c:oF} (A:(0:Int)∈p) (P:It f p) (h:Dy c f) {s:Sp} (hs:s∈c):s.1∈p∧(s.2<1114111->s.2+1∈p):=by
 have H:=h.1.ok s hs;unfold EA at H;have E:∀t∈c,t=s∨t.2+2<=s.1∨s.2+2<=t.1:=by
  intro t I;have N:=h.1.gap;obtain ⟨i,hi⟩:=gF hs;obtain ⟨j,M⟩:=gF I;have u:=AX hi;have v:=AX M;rw[dM u] at hi;rw[dM v] at M;cases hi;cases M;rcases jN i j with n|n|n
  .exact .inr (.inr (fB.1 N i j u v n))
  .subst n;exact .inl O
  .exact .inr (.inl (fB.1 N j i v u n))
 have q:∀r,(r=s.1 - 1∨r=s.2+1)->Ca c r=false:=by
  intro r hr;cases hh:Ca c r with
  | false=>rfl
  | true=>
   obtain ⟨t,I,n,F⟩:=Eu.1 hh;rcases E t I with d|d|d
   .subst d;omega
   .omega
   .omega
 have z:∀r,s.1<=r->r<=s.2->f r=true:=λr n F=>by rw[<-h.2 r qO qO];exact Eu.2 ⟨s,hs,n,F⟩
 -- between the greatest cut at or below a point and the point f is constant
 have B:∀x:Int,1<=x->x<=1114111->f (x - 1)≠f x->x∈p:=by
  intro x n F K;apply Classical.byContradiction;intro R
  -- the greatest cut below x
  obtain ⟨a,w,o,C⟩:∃a∈p,a<=x - 1∧∀k∈p,k<=x - 1->k<=a:=by
   have:∀l:oB,(∃a∈l,a<=x - 1)->∃a∈l,a<=x - 1∧∀k∈l,k<=x - 1->k<=a:=by
    intro l
    induction l with
    | nil=>rintro ⟨a,w,_⟩;cases w
    | cons y l ih=>
     rintro ⟨a,w,o⟩;by_cases L:∃a∈l,a<=x - 1
     .obtain ⟨b,hb,G,D⟩:=ih L;by_cases U:y<=x - 1∧b<y
      .exact ⟨y,eJ,U.1,λk m g=>by rcases dZ.1 m with rfl|d;omega;have:=D k d g;omega⟩
      .exact ⟨b,eP _ hb,G,λk m g=>by rcases dZ.1 m with rfl|d;omega;exact D k d g⟩
     .rcases dZ.1 w with rfl|d
      .exact ⟨a,eJ,o,λk m g=>by rcases dZ.1 m with rfl|J;omega;exact absurd ⟨k,J,g⟩ L⟩
      .exact absurd ⟨a,d,o⟩ L
   exact this p ⟨0,A,qO⟩
  have hb:∀k∈p,k<=a∨x<k:=λk m=>by
   rcases mN x k with d|d
   .exact .inr d
   .left;refine C k m ?_;rcases mN k x with J|J
    .omega
    .have e:x=k:=qO
     exact absurd (e▸m) R
  have T:=P a x w qO F hb;have S:=P a (x - 1) w o qO λk m=>by rcases hb k m with d|d;exact .inl d;right;omega
  exact K (S.trans T.symm)
 constructor
 .rcases mN 0 s.1 with Q|Q
  .refine B s.1 qO qO ?_;rw[z s.1 (gM _) H.2.1,<-h.2 (s.1 - 1) qO qO,q _ (.inl O)];decide
  .have:s.1=0:=qO
   rw[this];exact A
 .intro n;refine B (s.2+1) qO qO ?_;rw[show s.2+1 - 1=s.2 by omega,z s.2 H.2.1 (gM _),<-h.2 (s.2+1) qO qO,q _ (.inr O)];decide
theorem US {p:oB} {f:Int->Bool} {c:oF} (b:(0:Int)∈p) (o:It f p) (h:Dy c f):2*c.length<=p.length+1:=by
 have i:=Sn h.1;have n:(Lq c).Nodup:=i.imp λd=>qO
 have e:=GQ (l:=Lq c) (m:=1114112::p) n λx d=>by
  obtain ⟨s,hs,a⟩:=JM.1 d;have j:=h.1.ok s hs;unfold EA at j;obtain ⟨k,q⟩:=Ry b o h hs;rcases a with a|a
  .rw[a];exact eP _ k
  .rcases mN s.2 1114111 with g|g
   .rw[a];exact eP _ (q g)
   .rw[a,show s.2+1=1114112 by omega];exact eJ
 rw[Lp] at e;simpa using e
theorem Xn {l:oF} {p:oB} (h:Dx l p):p.length<=2*l.length+1:=by
 have b:=GQ (l:=p) (m:=0::Lq l) (h.1.imp λc=>qO) λx c=>by
  rcases (h.2 x).1 c with a|⟨s,hs,a⟩
  .rw[a];exact eJ
  .refine eP _ (JM.2 ⟨s,hs,?_⟩);rcases a with a|⟨_,a⟩
   .exact .inl a
   .exact .inr a
 rw[d_,Lp] at b;exact b
theorem I3 {ll:nZ} {p:oB} (f:Dx ll.flatten p) (b:List Bool):It (λr=>decide (A5 ll r=b)) p:=by
 intro a r d g c hb;have:A5 ll r=A5 ll a:=by
  unfold A5;apply nQ;intro l e;exact NU f e a r d g c hb
 show decide (A5 ll r=b)=decide (A5 ll a=b);rw[this]
structure FirstAt (l:List (List Bool)) (ks:List (List Bool)) (js:oC):Prop where
 len:js.length=ks.length
 lt:js.Pairwise (· < ·)
 at':∀(k j:Nat) key,js[k]?=some j->ks[k]?=some key->l[j]?=some key∧∀i,i<j->l[i]?≠some key
theorem WI (l:List (List Bool)):∃g,FirstAt l (DD l) g∧(∀j∈g,j<l.length)∧∀m∈l,m∈DD l:=by
 suffices h:∀n,n<=l.length->∃g,FirstAt (l.take n) (DD (l.take n)) g∧(∀j∈g,j<n)∧∀m∈l.take n,m∈DD (l.take n) by
  have:=h l.length (dU _)
  rwa [eE] at this
 intro n
 induction n with
 | zero=>intro _;exact ⟨[],⟨O,List.Pairwise.nil,λk j c h=>by simp at h⟩,λj h=>(by cases h),λm h=>(by simp at h)⟩
 | succ n ih=>
  intro hn;obtain ⟨g,o,hb,w⟩:=ih qO;obtain ⟨x,A⟩:=AU (l:=l) (i:=n) qO;rw[CL A,Gp];have s:(l.take n).length=n:=by simp;omega
  have e:∀(i:Nat) c,i<n->((l.take n++[x])[i]?=some c↔(l.take n)[i]?=some c):=λi c hi=>by rw[dQ qO]
  unfold Hq;split
  .rename_i f
   refine ⟨g,⟨o.len,o.lt,λk j c d p=>?_⟩,λj y=>by have:=hb j y;omega,λm h=>?_⟩
   .have q:=hb j (dK d);obtain ⟨r,v⟩:=o.at' k j c d p;exact ⟨(e j c q).2 r,λi hi t=>v i hi ((e i c qO).1 t)⟩
   .rcases eC.1 h with d|d
    .exact w m d
    .rw[dO] at d;rw[d];exact f
  .rename_i f
   refine ⟨g++[n],⟨by simp[o.len],?_,λk j c d p=>?_⟩,λj y=>?_,λm h=>?_⟩
   .rw[iN];exact ⟨o.lt,kM _ _,λa B b u=>by rw[dO] at u;subst u;exact hb a B⟩
   .rcases eI k g.length with r|r
    .rw[dQ r] at d;rw[dQ (by rw[<-o.len];exact r)] at p;have q:=hb j (dK d);obtain ⟨v,t⟩:=o.at' k j c d p;exact ⟨(e j c q).2 v,λi hi z=>t i hi ((e i c qO).1 z)⟩
    .rw[dX r] at d;rw[dX (by rw[<-o.len];exact r)] at p;have v:=AX d;simp at v;rw[show k - g.length=0 by omega] at d;rw[show k - (DD (l.take n)).length=0 by have:=o.len;omega] at p;simp at d p;subst d;subst p;refine ⟨by rw[dX qO,s,kI];rfl,λi hi t=>f (w _ (dK ((e i _ hi).1 t)))⟩
   .rcases eC.1 y with d|d
    .have:=hb j d;omega
    .rw[dO] at d;omega
   .rcases eC.1 h with d|d
    .exact iE _ (w m d)
    .exact lI _ d
theorem Rh {c:oF} {m:Int} (h:Canon c) (b:Ca c m=true) (g:∀r,0<=r->r<m->Ca c r=false):c≠[]∧BH c=m:=by
 cases c with
 | nil=>cases b
 | cons s l=>
  refine ⟨λe=>(by cases e),?_⟩;have d:=h.head;unfold EA at d;show s.1=m;rcases mF s.1 m with a|a|a
  .have:=g s.1 qO a;have f:Ca (s::l) s.1=true:=Eu.2 ⟨s,eJ,gM _,d.2.1⟩;rw[this] at f;cases f
  .exact a
  .rw[H4 h a] at b;cases b
structure Parted (ll cs:nZ):Prop where
 can:∀c∈cs,Canon c
 part:Hd cs
 heads:I_ cs
 mark:∀(k:Nat) c r,cs[k]?=some c->0<=r->r<=1114111->(Ca c r=true↔A5 ll r=A5 ll (BH c))
 low:∀c∈cs,0<=BH c∧BH c<=1114111
 inj:∀(i j:Nat) c d,cs[i]?=some c->cs[j]?=some d->A5 ll (BH c)=A5 ll (BH d)->i=j
theorem Gv.parted {ll cs:nZ} (h:Gv ll cs) (L:∀s∈ll.flatten,EA s):Parted ll cs:=by
 obtain ⟨p,Q,hl,hm⟩:=h;obtain ⟨T,B,hb,R⟩:=WI (p.map (A5 ll));have n:∀(k:Nat) c,cs[k]?=some c->∃f j lo,(DD (p.map (A5 ll)))[k]?=some f∧T[k]?=some j∧p[j]?=some lo∧A5 ll lo=f∧Dy c (λr=>decide (A5 ll r=f))∧c≠[]∧BH c=lo∧0<=lo∧lo<=1114111:=by
  intro k c o;obtain ⟨f,x⟩:=AU (l:=DD (p.map (A5 ll))) (i:=k) (by have:=AX o;omega);obtain ⟨j,t⟩:=AU (l:=T) (i:=k) (by have:=AX x;have:=B.len;omega);obtain ⟨F,v⟩:=B.at' k j f t x;rw[eN] at F;obtain ⟨lo,g,S⟩:=iQ.1 F;have A:=hm k f c x o;have C:=Cn Q L (dK g);obtain ⟨e1,e2⟩:=Rh (m:=lo) A.1 (by rw[A.2 lo C.1 C.2];exact decide_eq_true S) λr D I=>by
   rw[A.2 r D qO,decide_eq_false_iff_not];intro hr;obtain ⟨i,li,z,G,_,h6⟩:=KB Q L j (by have:=AX g;omega) r D (by rw[Pz g];exact I);have ag:i<j:=by
    rcases eI i j with h7|h7
    .exact h7
    .exfalso;have h8:lo<=li:=by
      rcases eI j i with V|V
      .have q:=AX g;have u:=AX z;rw[dM q] at g;rw[dM u] at z;cases g;cases z;exact Int.le_of_lt (fB.1 Q.1 j i q u V)
      .obtain rfl:i=j:=qO
       rw[g] at z;cases z;exact gM _
     omega
   exact v i ag (by rw[eN,z,iF,<-h6,hr])
  exact ⟨f,j,lo,x,t,g,S,A,e1,e2,C.1,C.2⟩
 have ab:∀(i j:Nat) f,(DD (p.map (A5 ll)))[i]?=some f->(DD (p.map (A5 ll)))[j]?=some f->i=j:=by
  intro i j f hi t;obtain ⟨a,U⟩:=AU (l:=T) (i:=i) (by have:=AX hi;have:=B.len;omega);obtain ⟨b,E⟩:=AU (l:=T) (i:=j) (by have:=AX t;have:=B.len;omega);obtain ⟨F,v⟩:=B.at' i a f U hi;obtain ⟨w,z⟩:=B.at' j b f E t;have ad:a=b:=by
   rcases jN a b with G|G|G
   .exact absurd F (z a G)
   .exact G
   .exact absurd w (v b G)
  subst ad;have u:=AX U;have q:=AX E;rw[dM u] at U;rw[dM q] at E;have e:=(gQ U).trans (gQ E).symm;rcases jN i j with w|w|w
  .have:=fB.1 B.lt i j u q w;omega
  .exact w
  .have:=fB.1 B.lt j i q u w;omega
 have J:∀(i j:Nat) c d,cs[i]?=some c->cs[j]?=some d->A5 ll (BH c)=A5 ll (BH d)->i=j:=by
  intro i j c d o hd S;obtain ⟨f,_,lo,F,_,_,v,_,_,w,_⟩:=n i c o;obtain ⟨key',_,W,ah,_,_,af,_,_,ac,_⟩:=n j d hd;rw[w,ac,v,af] at S;subst S;exact ab i j f F ah
 have M:∀(k:Nat) c r,cs[k]?=some c->0<=r->r<=1114111->(Ca c r=true↔A5 ll r=A5 ll (BH c)):=by
  intro k c r o D I;obtain ⟨f,_,lo,_,_,_,v,A,_,w,_⟩:=n k c o;rw[A.2 r D I,decide_eq_true_eq,w,v]
 refine ⟨?_,?_,?_,M,?_,J⟩
 .intro c o;obtain ⟨k,x⟩:=gF o;obtain ⟨_,_,_,_,_,_,_,A,_⟩:=n k c x;exact A.1
 .intro r D I;obtain ⟨lo,g,ae⟩:=Pm Q L D I;have X:=R (A5 ll lo) (eU.2 ⟨lo,g,O⟩);obtain ⟨k,x⟩:=gF X;obtain ⟨c,o⟩:=AU (l:=cs) (i:=k) (by have:=AX x;omega);have A:=hm k _ c x o;have F:Ca c r=true:=by rw[A.2 r D I];exact decide_eq_true ae
  have H:∀(j:Nat) d,cs[j]?=some d->Ca d r=true->j=k:=λj d hd v=>
   J j k d c hd o (((M j d r hd D I).1 v).symm.trans ((M k c r o D I).1 F))
  have hkl:=AX o;rw[show cs=cs.take k++c::cs.drop (k+1) by rw[<-Bi o,fF],kJ,List.countP_cons,F];have z1:(cs.take k).countP (λl=>Ca l r)=0:=by
   rw[nR];intro d hd v;obtain ⟨j,t⟩:=gF hd;have q:=AX t;simp at q;rw[gL qO] at t;have:=H j d t v;omega
  have z2:(cs.drop (k+1)).countP (λl=>Ca l r)=0:=by
   rw[nR];intro d hd v;obtain ⟨j,t⟩:=gF hd;rw[jJ] at t;have:=H _ d t v;omega
  rw[z1,z2];rfl
 .intro k x;obtain ⟨c,o⟩:=AU x;obtain ⟨_,j,lo,_,t,g,_,_,aa,hh,h0,_⟩:=n k c o;have P:cs.getD k []=c:=by simp[List.getD,o]
  refine ⟨by rw[P];exact aa,?_⟩;rw[P,hh];cases k with
  | zero=>show (-1:Int)<lo;omega
  | succ k=>
   obtain ⟨d,hd⟩:=AU (l:=cs) (i:=k) qO;obtain ⟨_,j',W,_,K,y,_,_,_,Z,_⟩:=n k d hd;have N:cs.getD k []=d:=by simp[List.getD,hd]
   show BH (cs.getD k [])<lo;rw[N,Z];have a1:=AX t;have a2:=AX K;rw[dM a1] at t;rw[dM a2] at K;cases t;cases K;have V:=fB.1 B.lt k (k+1) a2 a1 qO;have b1:=AX g;have b2:=AX y;rw[dM b1] at g;rw[dM b2] at y;cases g;cases y;exact fB.1 Q.1 _ _ b2 b1 V
 .intro c o;obtain ⟨k,x⟩:=gF o;obtain ⟨_,_,lo,_,_,_,_,_,_,w,z,G⟩:=n k c x;rw[w];exact ⟨z,G⟩
theorem Gv.short {ll cs:nZ} (h:Gv ll cs):∀c∈cs,2*c.length<=2*ll.flatten.length+2:=by
 obtain ⟨p,d,hl,f⟩:=h;intro c g;obtain ⟨k,e⟩:=gF g;obtain ⟨b,a⟩:=AU (l:=DD (p.map (A5 ll))) (i:=k) (by have:=AX e;omega);have h1:=US ((d.2 0).2 (.inl O)) (I3 d b) (f k b c a e);have h2:=Xn d;omega
theorem O3:∀(l:List (List Bool)),(DD l).Nodup:=by
 intro l
 suffices h:∀(l a:List (List Bool)),a.Nodup->(l.foldl Hq a).Nodup from h l [] g_
 intro l
 induction l with
 | nil=>exact λa h=>h
 | cons x l ih=>exact λa h=>ih _ (Mi h)
theorem Ro (l:List (List Bool)):∀m∈DD l,m∈l:=by
 suffices h:∀(l a:List (List Bool)),∀m∈l.foldl Hq a,m∈a∨m∈l by
  intro m d;rcases h l [] m d with b|b
  .cases b
  .exact b
 intro l
 induction l with
 | nil=>exact λa m h=>.inl h
 | cons x l ih=>
  intro a m h;rcases ih _ m h with b|b
  .rcases Qs.1 b with c|c
   .exact .inl c
   .rw[c];exact .inr eJ
  .exact .inr (eP _ b)
end Go.Proofs
namespace Go.Proofs
open Go Go.Eng
set_option maxRecDepth 100000
def HC (k:Int):Int:=if k=3∨k=4∨k=7 then 2 else if k=5∨k=6∨k=8∨k=9∨k=10 then 1 else 0
def aP:oG:=#[I6 0,I6 0,I6 0,I6 2,I6 2,I6 1,I6 1,I6 2,I6 1,I6 1,I6 1]
theorem Vh:∀i,i<11->aP[i]?=some (I6 (HC ((i:Nat):Int))):=by
 intro i h
 match i,h with
 | 0,_=>rfl
 | 1,_=>rfl
 | 2,_=>rfl
 | 3,_=>rfl
 | 4,_=>rfl
 | 5,_=>rfl
 | 6,_=>rfl
 | 7,_=>rfl
 | 8,_=>rfl
 | 9,_=>rfl
 | 10,_=>rfl
theorem RS (k:Int) (g:0<=k) (h1:k<=10) (a:World):Bj prog 78 #[I6 k] a λv w=>v=I6 (HC k)∧Ah a w:=by
 refine qR func78 O ntmps78 O (λE=>(AA (qA (I6 0) O (AB (AA (Aw (ps:=[(0,(I6 0)),(1,(I6 0)),(2,(I6 0)),(3,(I6 2)),(4,(I6 2)),(5,(I6 1)),(6,(I6 1)),(7,(I6 2)),(8,(I6 1)),(9,(I6 1)),(10,(I6 1))]) (c:=#[(I6 0),(I6 0),(I6 0),(I6 2),(I6 2),(I6 1),(I6 1),(I6 2),(I6 1),(I6 1),(I6 1)]) qD O eA Al Ex qD qD qK ?_))))));intro f wq d;have E:=E.ext d.ext;have e:=d.blk;refine qM (I6 k) O (qV (AL (b:=f) (o:=0) (len:=11) (cap:=11) (i:=k.toNat) (o':=0+k.toNat) O O qO eA Al qO qO) (qV (AJ (v:=(I6 (HC k))) O Ag (e.cell (by have:=Vh k.toNat qO;rw[Int.toNat_of_nonneg g] at this;rw[eO];exact this))) (qA (I6 (HC k)) O (AB (AO (AY results78 (v:=(I6 (HC k))) O ?_))))));exact ⟨O,E⟩
theorem IV {t:Re} (h0:0<=t.kind) (h1:t.kind<=10):Kk t.kind t.args.length = !(decide ((t.args.length:Int)<HC t.kind) || (decide (HC t.kind<2) && decide (HC t.kind<t.args.length))):=by
 unfold Kk HC;by_cases a:t.kind=3∨t.kind=4∨t.kind=7
 .simp only[if_pos a];rw[fZ];simp
 .by_cases b:t.kind=5∨t.kind=6∨t.kind=8∨t.kind=9∨t.kind=10
  .simp only[if_neg a,if_pos b];rw[fZ];simp;omega
  .simp only[if_neg a,if_neg b];rw[fZ];simp
theorem YV (wb w0:World) (t:Re) (vs:n_) (ht:A3 wb t vs) (hE:Ah wb w0) :
 Bj prog 32 #[.agg vs.toArray] w0 λv w=>v=I6 (Cb t)∧Ah w0 w:=by
 have ht0:=ht;obtain ⟨sa,sc,aa,ac,rfl,bq,fv,fn⟩:=ht.form;have e5:t.set.length<=9223372036854775807:=by simpa using BX.le bq
 refine qR func32 O ntmps32 O (λE=>(AA (BC (v:=(.agg (R6 t sa sc aa ac))) (c:=(R6 t sa sc aa ac)) qD O O ?_)));intro b1 w1 N1;have E:=E.ext N1.ext;have B1:=N1.blk;refine qA _ O (AB (AH (AA (qF b1 0 0 O dI O Al O (qV (AJ O Ag (B1.cell O)) ?_)))));obtain ⟨e2,ez⟩:∃e,(decide ((t.kind:Int)<0))=e:=⟨_,O⟩;refine qV ((A6 O O).trans (by rw[ez];try rfl)) (qM _ O (qG (.bool e2) (nU e2 (P6 b1 0)) (by cases e2<;>first|exact gA|exact gB|exact .inl ⟨O,AQ O dI O Al O⟩) (qG (.bool e2) (nU e2 (I6 t.kind)) (by cases e2<;>first|exact gA|exact gB|exact .inl ⟨O,AJ O Ag (B1.cell O)⟩) ?_)));obtain ⟨e3,fl⟩:∃e,(decide ((10:Int)<t.kind))=e:=⟨_,O⟩;refine qG (.bool e2) (nU e2 (.bool e3)) (by cases e2<;>first|exact gA|exact gB|exact .inl ⟨O,(CN O O).trans (by rw[fl];try rfl)⟩) ?_;obtain ⟨e4,ew⟩:∃e,(e2 || e3)=e:=⟨_,O⟩;refine qV (Af (v:=.bool e4) O (by rw[<-ew];cases e2<;>rfl)) (AB ?_);subst ew;subst fl;subst ez;refine A4 O (λhk=>?_) (λhk=>?_)
 .have fq:=hk;simp at hk;refine AA (qA _ O (AB (AO (AK (AY iG (v:=(I6 1)) O ?_)))));exact ⟨BI (by unfold Cb;rw[if_pos qO]),E⟩
 .have fq:=hk;simp at hk;refine AM (AC (AA (qF b1 0 2 O dI O BF O (qV (AJ O A9 (B1.cell O)) (qV (AT dJ O) (qA _ O (AB (AH (AA (qM _ O (qF b1 0 0 O dI O Al O (qV (AJ O Ag (B1.cell O)) (qE O (AS func78 kQ kQ O) (RS t.kind qO qO _) ?_)))))))))))));rintro _ w1 ⟨rfl,X1⟩;have B1:=X1.keep B1;have E:=E.ext X1;refine qV (A6 O O) (qM _ O ?_);rcases dT (decide ((((t.args.length:Nat):Int):Int)<HC t.kind)) with a0|a0
  .have bi:=a0;have bi:=of_decide_eq_true bi;refine AD O O qD (v:=.bool true) (Ar a0) (dH O) (AD O O qD (v:=.bool true) (Ar a0) (dH O) (AD O O qD (v:=.bool true) (Ar a0) (dH O) (AD O O qD (v:=.bool true) (Ar a0) (dH O) (AD O O qD (v:=.bool true) (Ar a0) (dH O) (AD O O qD (v:=undef) O (dG O) (AD O O qD (v:=undef) O (dG O) (AD O O qD (v:=undef) O (dG O) (AD O O qD (v:=undef) O (dG O) (AD O O qD (v:=undef) O (dG O) (AD O O qD (v:=.bool true) (Ar a0) (dH O) (qV (Af (v:=(.bool true)) O (by rw[a0];rfl)) (AB (Aq O (AA ?_))))))))))))));refine qA _ O (AB (AO (AK (AY iG (v:=(I6 3)) O ?_))));have et:Kk t.kind t.args.length=false:=by rw[IV qO qO];simp;omega
   exact ⟨BI (by unfold Cb;rw[if_neg qO,if_pos (by simp[Dj,et])]),E⟩
  .have bi:=a0;have bi:=of_decide_eq_false bi;refine AF O O qD (Ar a0) (qF b1 0 0 O dI O Al O (AF O O qD (Ar a0) (qV (AJ O Ag (B1.cell O)) (AF O O qD (Ar a0) (qE O (AS func78 kQ kQ O) (RS t.kind qO qO _) ?_)))));rintro _ w2 ⟨rfl,X2⟩;have B1:=X2.keep B1;have E:=E.ext X2;refine AF O O qD (Ar a0) (qV (A6 O O) (AF O O qD (Ar a0) (qM _ O ?_)));rcases dT (decide ((HC t.kind:Int)<2)) with a1|a1
   .have bh:=a1;have bh:=of_decide_eq_true bh;refine AF O O qD (Ar a1) (qM _ O (AF O O qD (Ar a1) (qF b1 0 0 O dI O Al O (AF O O qD (Ar a1) (qV (AJ O Ag (B1.cell O)) (AF O O qD (Ar a1) (qE O (AS func78 kQ kQ O) (RS t.kind qO qO _) ?_)))))));rintro _ w3 ⟨rfl,X3⟩;have B1:=X3.keep B1;have E:=E.ext X3;refine AF O O qD (Ar a1) (qV (CN O O) (AF O O qD (Ar a0) (qV (Af (v:=(.bool (decide ((HC t.kind:Int)<(t.args.length:Int))))) O (by rw[a1];rfl)) (qV (Af (v:=(.bool (decide ((HC t.kind:Int)<(t.args.length:Int))))) O (by rw[a0];rfl)) (AB (qC O (λhn=>?_) (λhn=>?_)))))))
    .refine AA (qA _ O (AB (AO (AK (AY iG (v:=(I6 3)) O ?_)))));have et:Kk t.kind t.args.length=false:=by rw[IV qO qO];simp;omega
     exact ⟨BI (by unfold Cb;rw[if_neg qO,if_pos (by simp[Dj,et])]),E⟩
    .have ei:Kk t.kind t.args.length=true:=by rw[IV qO qO];simp;omega
     refine AM (AC (AH (AA (qF b1 0 0 O dI O Al O (qV (AJ O Ag (B1.cell O)) ?_)))));obtain ⟨e9,ff⟩:∃e,(decide ((t.kind:Int)≠2))=e:=⟨_,O⟩;refine qV ((Bb O O).trans (by rw[ff];try rfl)) (qM _ O (qG (.bool e9) (yU e9 (P6 b1 1)) (by cases e9<;>first|exact gA|exact gB|exact .inl ⟨O,AQ O dI O Bc O⟩) (qG (.bool e9) (yU e9 (.slice sa t.set.length sc)) (by cases e9<;>first|exact gA|exact gB|exact .inl ⟨O,AJ O Bf (B1.cell O)⟩) (qG (.bool e9) (yU e9 (I6 (t.set.length:Int))) (by cases e9<;>first|exact gA|exact gB|exact .inl ⟨O,AT dS O⟩) ?_))));obtain ⟨fm,b4⟩:∃e,(decide ((0:Int)<((t.set.length:Nat):Int)))=e:=⟨_,O⟩;refine qG (.bool e9) (yU e9 (.bool fm)) (by cases e9<;>first|exact gA|exact gB|exact .inl ⟨O,(CN O O).trans (by rw[b4];try rfl)⟩) ?_;obtain ⟨aq,de⟩:∃e,(e9 && fm)=e:=⟨_,O⟩;refine qV (Af (v:=.bool aq) O (by rw[<-de];cases e9<;>rfl)) (qM _ O (qG (.bool aq) (nU aq (P6 b1 0)) (by cases aq<;>first|exact gA|exact gB|exact .inl ⟨O,AQ O dI O Al O⟩) (qG (.bool aq) (nU aq (I6 t.kind)) (by cases aq<;>first|exact gA|exact gB|exact .inl ⟨O,AJ O Ag (B1.cell O)⟩) ?_)));obtain ⟨be,ck⟩:∃e,(decide ((t.kind:Int)≠6))=e:=⟨_,O⟩;refine qG (.bool aq) (nU aq (.bool be)) (by cases aq<;>first|exact gA|exact gB|exact .inl ⟨O,(Bb O O).trans (by rw[ck];try rfl)⟩) (qG (.bool aq) (nU aq (.bool be)) (by cases aq<;>first|exact gA|exact gB|exact .inl ⟨O,Am O⟩) (qG (nU aq (.bool be)) (nU aq (yU be (P6 b1 4))) (by cases aq<;>cases be<;>first|exact gA|exact gB|exact .inl ⟨O,AQ O dI O Al O⟩) (qG (nU aq (.bool be)) (nU aq (yU be (I6 t.mx))) (by cases aq<;>cases be<;>first|exact gA|exact gB|exact .inl ⟨O,AJ O Ag (B1.cell O)⟩) ?_)));obtain ⟨fb,cy⟩:∃e,(decide ((t.mx:Int)≠0))=e:=⟨_,O⟩;refine qG (nU aq (.bool be)) (nU aq (yU be (.bool fb))) (by cases aq<;>cases be<;>first|exact gA|exact gB|exact .inl ⟨O,(Bb O O).trans (by rw[cy];try rfl)⟩) ?_;obtain ⟨ea,bz⟩:∃e,(be && fb)=e:=⟨_,O⟩;refine qG (.bool aq) (nU aq (.bool ea)) (by cases aq<;>first|exact gA|exact gB|exact .inl ⟨O,Af (v:=.bool ea) O (by rw[<-bz];cases be<;>rfl)⟩) ?_;obtain ⟨aj,dc⟩:∃e,(aq || ea)=e:=⟨_,O⟩;refine qV (Af (v:=.bool aj) O (by rw[<-dc];cases aq<;>rfl)) (qM _ O (qG (.bool aj) (nU aj (P6 b1 0)) (by cases aj<;>first|exact gA|exact gB|exact .inl ⟨O,AQ O dI O Al O⟩) (qG (.bool aj) (nU aj (I6 t.kind)) (by cases aj<;>first|exact gA|exact gB|exact .inl ⟨O,AJ O Ag (B1.cell O)⟩) ?_)));obtain ⟨a8,dj⟩:∃e,(decide ((t.kind:Int)≠6))=e:=⟨_,O⟩;refine qG (.bool aj) (nU aj (.bool a8)) (by cases aj<;>first|exact gA|exact gB|exact .inl ⟨O,(Bb O O).trans (by rw[dj];try rfl)⟩) (qG (.bool aj) (nU aj (.bool a8)) (by cases aj<;>first|exact gA|exact gB|exact .inl ⟨O,Am O⟩) (qG (nU aj (.bool a8)) (nU aj (yU a8 (P6 b1 0))) (by cases aj<;>cases a8<;>first|exact gA|exact gB|exact .inl ⟨O,AQ O dI O Al O⟩) (qG (nU aj (.bool a8)) (nU aj (yU a8 (I6 t.kind))) (by cases aj<;>cases a8<;>first|exact gA|exact gB|exact .inl ⟨O,AJ O Ag (B1.cell O)⟩) ?_)));obtain ⟨fo,bu⟩:∃e,(decide ((t.kind:Int)≠9))=e:=⟨_,O⟩;refine qG (nU aj (.bool a8)) (nU aj (yU a8 (.bool fo))) (by cases aj<;>cases a8<;>first|exact gA|exact gB|exact .inl ⟨O,(Bb O O).trans (by rw[bu];try rfl)⟩) ?_;obtain ⟨a3,cr⟩:∃e,(a8 && fo)=e:=⟨_,O⟩;refine qG (.bool aj) (nU aj (.bool a3)) (by cases aj<;>first|exact gA|exact gB|exact .inl ⟨O,Af (v:=.bool a3) O (by rw[<-cr];cases a8<;>rfl)⟩) (qG (.bool aj) (nU aj (.bool a3)) (by cases aj<;>first|exact gA|exact gB|exact .inl ⟨O,Am O⟩) (qG (nU aj (.bool a3)) (nU aj (yU a3 (P6 b1 3))) (by cases aj<;>cases a3<;>first|exact gA|exact gB|exact .inl ⟨O,AQ O dI O Al O⟩) (qG (nU aj (.bool a3)) (nU aj (yU a3 (I6 t.mn))) (by cases aj<;>cases a3<;>first|exact gA|exact gB|exact .inl ⟨O,AJ O Ag (B1.cell O)⟩) ?_)));obtain ⟨e0,dk⟩:∃e,(decide ((t.mn:Int)≠0))=e:=⟨_,O⟩;refine qG (nU aj (.bool a3)) (nU aj (yU a3 (.bool e0))) (by cases aj<;>cases a3<;>first|exact gA|exact gB|exact .inl ⟨O,(Bb O O).trans (by rw[dk];try rfl)⟩) ?_;obtain ⟨eo,b5⟩:∃e,(a3 && e0)=e:=⟨_,O⟩;refine qG (.bool aj) (nU aj (.bool eo)) (by cases aj<;>first|exact gA|exact gB|exact .inl ⟨O,Af (v:=.bool eo) O (by rw[<-b5];cases a3<;>rfl)⟩) ?_;obtain ⟨av,cu⟩:∃e,(aj || eo)=e:=⟨_,O⟩;refine qV (Af (v:=.bool av) O (by rw[<-cu];cases aj<;>rfl)) (qM _ O (qG (.bool av) (nU av (P6 b1 0)) (by cases av<;>first|exact gA|exact gB|exact .inl ⟨O,AQ O dI O Al O⟩) (qG (.bool av) (nU av (I6 t.kind)) (by cases av<;>first|exact gA|exact gB|exact .inl ⟨O,AJ O Ag (B1.cell O)⟩) ?_)));obtain ⟨bj,dd⟩:∃e,(decide ((t.kind:Int)≠10))=e:=⟨_,O⟩;refine qG (.bool av) (nU av (.bool bj)) (by cases av<;>first|exact gA|exact gB|exact .inl ⟨O,(Bb O O).trans (by rw[dd];try rfl)⟩) (qG (.bool av) (nU av (.bool bj)) (by cases av<;>first|exact gA|exact gB|exact .inl ⟨O,Am O⟩) (qG (nU av (.bool bj)) (nU av (yU bj (P6 b1 5))) (by cases av<;>cases bj<;>first|exact gA|exact gB|exact .inl ⟨O,AQ O dI O G8 O⟩) (qG (nU av (.bool bj)) (nU av (yU bj (.bool t.neg))) (by cases av<;>cases bj<;>first|exact gA|exact gB|exact .inl ⟨O,AJ O HG (B1.cell O)⟩) ?_)));obtain ⟨d9,b3⟩:∃e,(bj && t.neg)=e:=⟨_,O⟩;refine qG (.bool av) (nU av (.bool d9)) (by cases av<;>first|exact gA|exact gB|exact .inl ⟨O,Af (v:=.bool d9) O (by rw[<-b3];cases bj<;>rfl)⟩) ?_;obtain ⟨fr,c0⟩:∃e,(av || d9)=e:=⟨_,O⟩;refine qV (Af (v:=.bool fr) O (by rw[<-c0];cases av<;>rfl)) (AB ?_);subst c0;subst b3;subst dd;subst cu;subst b5;subst dk;subst cr;subst bu;subst dj;subst dc;subst bz;subst cy;subst ck;subst de;subst b4;subst ff;refine A4 O (λhf=>?_) (λhf=>?_)
     .have d8:=hf;have bt:Dj t=false:=by rw[<-jE];intro h;unfold Dj at h;generalize t.set.length=sl at h hf;cases hng:t.neg<;>simp[hng] at h hf<;>omega
      refine AA (qA _ O (AB (AO (AK (AY iG (v:=(I6 3)) O ?_)))));exact ⟨BI (by unfold Cb;rw[if_neg qO,if_pos bt]),E⟩
     .have d8:=hf;have bt:Dj t=true:=by unfold Dj;rw[ei];generalize t.set.length=sl at hf;cases hng:t.neg<;>simp[hng] at hf⊢<;>omega
      have hN:Cb t=if t.kind=2 then (if BJ t.set≠0 then BJ t.set else if (t.set.length:Int)=0 then 3 else 0) else if t.kind=6 then (if t.mn<0∨t.mx<t.mn∨8<t.mx then 1 else 0) else if t.kind=9 then (if t.mn<0∨9<t.mn then 1 else 0) else 0:=by unfold Cb;rw[if_neg qO,if_neg (by simp[bt])]
      rw[hN];refine AM (AC (AH (AA (qF b1 0 0 O dI O Al O (qV (AJ O Ag (B1.cell O)) (qV (Ai O O) (AB (qC O (λh2=>?_) (λh2=>?_)))))))))
      .rw[if_pos h2];refine AH (AA (qF b1 0 1 O dI O Bc O (qV (AJ O Bf (B1.cell O)) (qE O (AS func34 kQ kQ O) (O7 _ _ t.set ((bq.ext hE).ext E)) ?_))));rintro _ fs ⟨rfl,d5⟩;have B1:=d5.keep B1;have E:=E.ext d5;refine qA _ O (AB (AA (qM _ O (qV (Bb O O) (AB (qC O (λh3=>?_) (λh3=>?_)))))))
       .refine AA (qM _ O (qA _ O (AB (AO (AK (AK (AY iG (v:=(I6 (BJ t.set))) O ?_)))))));exact ⟨BI (by rw[if_pos h3]),E⟩
       .rw[if_neg h3];refine AM (AC (AA (qF b1 0 1 O dI O Bc O (qV (AJ O Bf (B1.cell O)) (qV (AT dS O) (qV (Ai O O) (AB (qC O (λh4=>?_) (λh4=>?_)))))))))
        .refine AA (qA _ O (AB (AO (AK (AY iG (v:=(I6 3)) O ?_)))));exact ⟨BI (by rw[if_pos h4]),E⟩
        .rw[if_neg h4];refine AM (AC (AH (AA (qF b1 0 0 O dI O Al O (qV (AJ O Ag (B1.cell O)) ?_)))));obtain ⟨ad,c9⟩:∃e,(decide ((t.kind:Int)=6))=e:=⟨_,O⟩;refine qV ((Ai O O).trans (by rw[c9];try rfl)) (qM _ O (qG (.bool ad) (yU ad (P6 b1 3)) (by cases ad<;>first|exact gA|exact gB|exact .inl ⟨O,AQ O dI O Al O⟩) (qG (.bool ad) (yU ad (I6 t.mn)) (by cases ad<;>first|exact gA|exact gB|exact .inl ⟨O,AJ O Ag (B1.cell O)⟩) ?_)));obtain ⟨a5,ci⟩:∃e,(decide ((t.mn:Int)<0))=e:=⟨_,O⟩;refine qG (.bool ad) (yU ad (.bool a5)) (by cases ad<;>first|exact gA|exact gB|exact .inl ⟨O,(A6 O O).trans (by rw[ci];try rfl)⟩) (qG (.bool ad) (yU ad (.bool a5)) (by cases ad<;>first|exact gA|exact gB|exact .inl ⟨O,Am O⟩) (qG (yU ad (.bool a5)) (yU ad (nU a5 (P6 b1 4))) (by cases ad<;>cases a5<;>first|exact gA|exact gB|exact .inl ⟨O,AQ O dI O Al O⟩) (qG (yU ad (.bool a5)) (yU ad (nU a5 (I6 t.mx))) (by cases ad<;>cases a5<;>first|exact gA|exact gB|exact .inl ⟨O,AJ O Ag (B1.cell O)⟩) ?_)));obtain ⟨fj,c8⟩:∃e,(decide ((8:Int)<t.mx))=e:=⟨_,O⟩;refine qG (yU ad (.bool a5)) (yU ad (nU a5 (.bool fj))) (by cases ad<;>cases a5<;>first|exact gA|exact gB|exact .inl ⟨O,(CN O O).trans (by rw[c8];try rfl)⟩) ?_;obtain ⟨aw,c2⟩:∃e,(a5 || fj)=e:=⟨_,O⟩;refine qG (.bool ad) (yU ad (.bool aw)) (by cases ad<;>first|exact gA|exact gB|exact .inl ⟨O,Af (v:=.bool aw) O (by rw[<-c2];cases a5<;>rfl)⟩) (qG (.bool ad) (yU ad (.bool aw)) (by cases ad<;>first|exact gA|exact gB|exact .inl ⟨O,Am O⟩) (qG (yU ad (.bool aw)) (yU ad (nU aw (P6 b1 3))) (by cases ad<;>cases aw<;>first|exact gA|exact gB|exact .inl ⟨O,AQ O dI O Al O⟩) (qG (yU ad (.bool aw)) (yU ad (nU aw (I6 t.mn))) (by cases ad<;>cases aw<;>first|exact gA|exact gB|exact .inl ⟨O,AJ O Ag (B1.cell O)⟩) (qG (yU ad (.bool aw)) (yU ad (nU aw (P6 b1 4))) (by cases ad<;>cases aw<;>first|exact gA|exact gB|exact .inl ⟨O,AQ O dI O Al O⟩) (qG (yU ad (.bool aw)) (yU ad (nU aw (I6 t.mx))) (by cases ad<;>cases aw<;>first|exact gA|exact gB|exact .inl ⟨O,AJ O Ag (B1.cell O)⟩) ?_)))));obtain ⟨fc,dx⟩:∃e,(decide ((t.mx:Int)<t.mn))=e:=⟨_,O⟩;refine qG (yU ad (.bool aw)) (yU ad (nU aw (.bool fc))) (by cases ad<;>cases aw<;>first|exact gA|exact gB|exact .inl ⟨O,(CN O O).trans (by rw[dx];try rfl)⟩) ?_;obtain ⟨eg,ct⟩:∃e,(aw || fc)=e:=⟨_,O⟩;refine qG (.bool ad) (yU ad (.bool eg)) (by cases ad<;>first|exact gA|exact gB|exact .inl ⟨O,Af (v:=.bool eg) O (by rw[<-ct];cases aw<;>rfl)⟩) ?_;obtain ⟨ai,cf⟩:∃e,(ad && eg)=e:=⟨_,O⟩;refine qV (Af (v:=.bool ai) O (by rw[<-cf];cases ad<;>rfl)) (qM _ O (qG (.bool ai) (nU ai (P6 b1 0)) (by cases ai<;>first|exact gA|exact gB|exact .inl ⟨O,AQ O dI O Al O⟩) (qG (.bool ai) (nU ai (I6 t.kind)) (by cases ai<;>first|exact gA|exact gB|exact .inl ⟨O,AJ O Ag (B1.cell O)⟩) ?_)));obtain ⟨an,c6⟩:∃e,(decide ((t.kind:Int)=9))=e:=⟨_,O⟩;refine qG (.bool ai) (nU ai (.bool an)) (by cases ai<;>first|exact gA|exact gB|exact .inl ⟨O,(Ai O O).trans (by rw[c6];try rfl)⟩) (qG (.bool ai) (nU ai (.bool an)) (by cases ai<;>first|exact gA|exact gB|exact .inl ⟨O,Am O⟩) (qG (nU ai (.bool an)) (nU ai (yU an (P6 b1 3))) (by cases ai<;>cases an<;>first|exact gA|exact gB|exact .inl ⟨O,AQ O dI O Al O⟩) (qG (nU ai (.bool an)) (nU ai (yU an (I6 t.mn))) (by cases ai<;>cases an<;>first|exact gA|exact gB|exact .inl ⟨O,AJ O Ag (B1.cell O)⟩) ?_)));obtain ⟨bg,da⟩:∃e,(decide ((t.mn:Int)<0))=e:=⟨_,O⟩;refine qG (nU ai (.bool an)) (nU ai (yU an (.bool bg))) (by cases ai<;>cases an<;>first|exact gA|exact gB|exact .inl ⟨O,(A6 O O).trans (by rw[da];try rfl)⟩) (qG (nU ai (.bool an)) (nU ai (yU an (.bool bg))) (by cases ai<;>cases an<;>first|exact gA|exact gB|exact .inl ⟨O,Am O⟩) (qG (nU ai (yU an (.bool bg))) (nU ai (yU an (nU bg (P6 b1 3)))) (by cases ai<;>cases an<;>cases bg<;>first|exact gA|exact gB|exact .inl ⟨O,AQ O dI O Al O⟩) (qG (nU ai (yU an (.bool bg))) (nU ai (yU an (nU bg (I6 t.mn)))) (by cases ai<;>cases an<;>cases bg<;>first|exact gA|exact gB|exact .inl ⟨O,AJ O Ag (B1.cell O)⟩) ?_)));obtain ⟨fa,ds⟩:∃e,(decide ((9:Int)<t.mn))=e:=⟨_,O⟩;refine qG (nU ai (yU an (.bool bg))) (nU ai (yU an (nU bg (.bool fa)))) (by cases ai<;>cases an<;>cases bg<;>first|exact gA|exact gB|exact .inl ⟨O,(CN O O).trans (by rw[ds];try rfl)⟩) ?_;obtain ⟨ep,bv⟩:∃e,(bg || fa)=e:=⟨_,O⟩;refine qG (nU ai (.bool an)) (nU ai (yU an (.bool ep))) (by cases ai<;>cases an<;>first|exact gA|exact gB|exact .inl ⟨O,Af (v:=.bool ep) O (by rw[<-bv];cases bg<;>rfl)⟩) ?_;obtain ⟨d6,c1⟩:∃e,(an && ep)=e:=⟨_,O⟩;refine qG (.bool ai) (nU ai (.bool d6)) (by cases ai<;>first|exact gA|exact gB|exact .inl ⟨O,Af (v:=.bool d6) O (by rw[<-c1];cases an<;>rfl)⟩) ?_;obtain ⟨fp,c3⟩:∃e,(ai || d6)=e:=⟨_,O⟩;refine qV (Af (v:=.bool fp) O (by rw[<-c3];cases ai<;>rfl)) (AB ?_);subst c3;subst c1;subst bv;subst ds;subst da;subst c6;subst cf;subst ct;subst dx;subst c2;subst c8;subst ci;subst c9;have ed:((((decide ((t.kind:Int)=6)) && (((decide ((t.mn:Int)<0)) || (decide ((8:Int)<t.mx))) || (decide ((t.mx:Int)<t.mn)))) || ((decide ((t.kind:Int)=9)) && ((decide ((t.mn:Int)<0)) || (decide ((9:Int)<t.mn))))))=false:=by simp[h2]
         refine Ae (Ar ed) (AM (AC (AA (qA _ O (AB (AO (AY iG (v:=(I6 0)) O ?_)))))));exact ⟨O,E⟩
      .rw[if_neg h2];refine AM (AC (AH (AA (qF b1 0 0 O dI O Al O (qV (AJ O Ag (B1.cell O)) ?_)))));obtain ⟨ae,cg⟩:∃e,(decide ((t.kind:Int)=6))=e:=⟨_,O⟩;refine qV ((Ai O O).trans (by rw[cg];try rfl)) (qM _ O (qG (.bool ae) (yU ae (P6 b1 3)) (by cases ae<;>first|exact gA|exact gB|exact .inl ⟨O,AQ O dI O Al O⟩) (qG (.bool ae) (yU ae (I6 t.mn)) (by cases ae<;>first|exact gA|exact gB|exact .inl ⟨O,AJ O Ag (B1.cell O)⟩) ?_)));obtain ⟨a6,dt⟩:∃e,(decide ((t.mn:Int)<0))=e:=⟨_,O⟩;refine qG (.bool ae) (yU ae (.bool a6)) (by cases ae<;>first|exact gA|exact gB|exact .inl ⟨O,(A6 O O).trans (by rw[dt];try rfl)⟩) (qG (.bool ae) (yU ae (.bool a6)) (by cases ae<;>first|exact gA|exact gB|exact .inl ⟨O,Am O⟩) (qG (yU ae (.bool a6)) (yU ae (nU a6 (P6 b1 4))) (by cases ae<;>cases a6<;>first|exact gA|exact gB|exact .inl ⟨O,AQ O dI O Al O⟩) (qG (yU ae (.bool a6)) (yU ae (nU a6 (I6 t.mx))) (by cases ae<;>cases a6<;>first|exact gA|exact gB|exact .inl ⟨O,AJ O Ag (B1.cell O)⟩) ?_)));obtain ⟨ex,b7⟩:∃e,(decide ((8:Int)<t.mx))=e:=⟨_,O⟩;refine qG (yU ae (.bool a6)) (yU ae (nU a6 (.bool ex))) (by cases ae<;>cases a6<;>first|exact gA|exact gB|exact .inl ⟨O,(CN O O).trans (by rw[b7];try rfl)⟩) ?_;obtain ⟨az,dq⟩:∃e,(a6 || ex)=e:=⟨_,O⟩;refine qG (.bool ae) (yU ae (.bool az)) (by cases ae<;>first|exact gA|exact gB|exact .inl ⟨O,Af (v:=.bool az) O (by rw[<-dq];cases a6<;>rfl)⟩) (qG (.bool ae) (yU ae (.bool az)) (by cases ae<;>first|exact gA|exact gB|exact .inl ⟨O,Am O⟩) (qG (yU ae (.bool az)) (yU ae (nU az (P6 b1 3))) (by cases ae<;>cases az<;>first|exact gA|exact gB|exact .inl ⟨O,AQ O dI O Al O⟩) (qG (yU ae (.bool az)) (yU ae (nU az (I6 t.mn))) (by cases ae<;>cases az<;>first|exact gA|exact gB|exact .inl ⟨O,AJ O Ag (B1.cell O)⟩) (qG (yU ae (.bool az)) (yU ae (nU az (P6 b1 4))) (by cases ae<;>cases az<;>first|exact gA|exact gB|exact .inl ⟨O,AQ O dI O Al O⟩) (qG (yU ae (.bool az)) (yU ae (nU az (I6 t.mx))) (by cases ae<;>cases az<;>first|exact gA|exact gB|exact .inl ⟨O,AJ O Ag (B1.cell O)⟩) ?_)))));obtain ⟨e1,cx⟩:∃e,(decide ((t.mx:Int)<t.mn))=e:=⟨_,O⟩;refine qG (yU ae (.bool az)) (yU ae (nU az (.bool e1))) (by cases ae<;>cases az<;>first|exact gA|exact gB|exact .inl ⟨O,(CN O O).trans (by rw[cx];try rfl)⟩) ?_;obtain ⟨eb,co⟩:∃e,(az || e1)=e:=⟨_,O⟩;refine qG (.bool ae) (yU ae (.bool eb)) (by cases ae<;>first|exact gA|exact gB|exact .inl ⟨O,Af (v:=.bool eb) O (by rw[<-co];cases az<;>rfl)⟩) ?_;obtain ⟨ak,cd⟩:∃e,(ae && eb)=e:=⟨_,O⟩;refine qV (Af (v:=.bool ak) O (by rw[<-cd];cases ae<;>rfl)) (qM _ O (qG (.bool ak) (nU ak (P6 b1 0)) (by cases ak<;>first|exact gA|exact gB|exact .inl ⟨O,AQ O dI O Al O⟩) (qG (.bool ak) (nU ak (I6 t.kind)) (by cases ak<;>first|exact gA|exact gB|exact .inl ⟨O,AJ O Ag (B1.cell O)⟩) ?_)));obtain ⟨ao,cc⟩:∃e,(decide ((t.kind:Int)=9))=e:=⟨_,O⟩;refine qG (.bool ak) (nU ak (.bool ao)) (by cases ak<;>first|exact gA|exact gB|exact .inl ⟨O,(Ai O O).trans (by rw[cc];try rfl)⟩) (qG (.bool ak) (nU ak (.bool ao)) (by cases ak<;>first|exact gA|exact gB|exact .inl ⟨O,Am O⟩) (qG (nU ak (.bool ao)) (nU ak (yU ao (P6 b1 3))) (by cases ak<;>cases ao<;>first|exact gA|exact gB|exact .inl ⟨O,AQ O dI O Al O⟩) (qG (nU ak (.bool ao)) (nU ak (yU ao (I6 t.mn))) (by cases ak<;>cases ao<;>first|exact gA|exact gB|exact .inl ⟨O,AJ O Ag (B1.cell O)⟩) ?_)));obtain ⟨a9,b8⟩:∃e,(decide ((t.mn:Int)<0))=e:=⟨_,O⟩;refine qG (nU ak (.bool ao)) (nU ak (yU ao (.bool a9))) (by cases ak<;>cases ao<;>first|exact gA|exact gB|exact .inl ⟨O,(A6 O O).trans (by rw[b8];try rfl)⟩) (qG (nU ak (.bool ao)) (nU ak (yU ao (.bool a9))) (by cases ak<;>cases ao<;>first|exact gA|exact gB|exact .inl ⟨O,Am O⟩) (qG (nU ak (yU ao (.bool a9))) (nU ak (yU ao (nU a9 (P6 b1 3)))) (by cases ak<;>cases ao<;>cases a9<;>first|exact gA|exact gB|exact .inl ⟨O,AQ O dI O Al O⟩) (qG (nU ak (yU ao (.bool a9))) (nU ak (yU ao (nU a9 (I6 t.mn)))) (by cases ak<;>cases ao<;>cases a9<;>first|exact gA|exact gB|exact .inl ⟨O,AJ O Ag (B1.cell O)⟩) ?_)));obtain ⟨ey,cs⟩:∃e,(decide ((9:Int)<t.mn))=e:=⟨_,O⟩;refine qG (nU ak (yU ao (.bool a9))) (nU ak (yU ao (nU a9 (.bool ey)))) (by cases ak<;>cases ao<;>cases a9<;>first|exact gA|exact gB|exact .inl ⟨O,(CN O O).trans (by rw[cs];try rfl)⟩) ?_;obtain ⟨er,c4⟩:∃e,(a9 || ey)=e:=⟨_,O⟩;refine qG (nU ak (.bool ao)) (nU ak (yU ao (.bool er))) (by cases ak<;>cases ao<;>first|exact gA|exact gB|exact .inl ⟨O,Af (v:=.bool er) O (by rw[<-c4];cases a9<;>rfl)⟩) ?_;obtain ⟨em,dl⟩:∃e,(ao && er)=e:=⟨_,O⟩;refine qG (.bool ak) (nU ak (.bool em)) (by cases ak<;>first|exact gA|exact gB|exact .inl ⟨O,Af (v:=.bool em) O (by rw[<-dl];cases ao<;>rfl)⟩) ?_;obtain ⟨fw,bx⟩:∃e,(ak || em)=e:=⟨_,O⟩;refine qV (Af (v:=.bool fw) O (by rw[<-bx];cases ak<;>rfl)) (AB ?_);subst bx;subst dl;subst c4;subst cs;subst b8;subst cc;subst cd;subst co;subst cx;subst dq;subst b7;subst dt;subst cg;refine A4 O (λh6=>?_) (λh6=>?_)
       .have ef:=h6;simp at h6;refine AA (qA _ O (AB (AO (AK (AY iG (v:=(I6 1)) O ?_)))));exact ⟨BI (by by_cases h66:t.kind=6;rw[if_pos h66,if_pos qO];rw[if_neg h66,if_pos qO,if_pos qO]),E⟩
       .have ef:=h6;simp at h6;refine AM (AC (AA (qA _ O (AB (AO (AY iG (v:=(I6 0)) O ?_))))));exact ⟨BI (by by_cases h66:t.kind=6;rw[if_pos h66,if_neg qO];rw[if_neg h66];by_cases h9:t.kind=9;rw[if_pos h9,if_neg qO];rw[if_neg h9]),E⟩
   .have bh:=a1;have bh:=of_decide_eq_false bh;have ei:Kk t.kind t.args.length=true:=by rw[IV qO qO];simp;omega
    refine AD O O qD (v:=.bool false) (Ar a1) (dH O) (AD O O qD (v:=.bool false) (Ar a1) (dH O) (AD O O qD (v:=.bool false) (Ar a1) (dH O) (AD O O qD (v:=.bool false) (Ar a1) (dH O) (AD O O qD (v:=.bool false) (Ar a1) (dH O) (AF O O qD (Ar a0) (qV (Af (v:=(.bool false)) O (by rw[a1];rfl)) (qV (Af (v:=(.bool false)) O (by rw[a0];rfl)) (AB (Ae O (AM (AC (AH (AA (qF b1 0 0 O dI O Al O (qV (AJ O Ag (B1.cell O)) ?_)))))))))))))));obtain ⟨a2,dr⟩:∃e,(decide ((t.kind:Int)≠2))=e:=⟨_,O⟩;refine qV ((Bb O O).trans (by rw[dr];try rfl)) (qM _ O (qG (.bool a2) (yU a2 (P6 b1 1)) (by cases a2<;>first|exact gA|exact gB|exact .inl ⟨O,AQ O dI O Bc O⟩) (qG (.bool a2) (yU a2 (.slice sa t.set.length sc)) (by cases a2<;>first|exact gA|exact gB|exact .inl ⟨O,AJ O Bf (B1.cell O)⟩) (qG (.bool a2) (yU a2 (I6 (t.set.length:Int))) (by cases a2<;>first|exact gA|exact gB|exact .inl ⟨O,AT dS O⟩) ?_))));obtain ⟨fe,dy⟩:∃e,(decide ((0:Int)<((t.set.length:Nat):Int)))=e:=⟨_,O⟩;refine qG (.bool a2) (yU a2 (.bool fe)) (by cases a2<;>first|exact gA|exact gB|exact .inl ⟨O,(CN O O).trans (by rw[dy];try rfl)⟩) ?_;obtain ⟨ar,dn⟩:∃e,(a2 && fe)=e:=⟨_,O⟩;refine qV (Af (v:=.bool ar) O (by rw[<-dn];cases a2<;>rfl)) (qM _ O (qG (.bool ar) (nU ar (P6 b1 0)) (by cases ar<;>first|exact gA|exact gB|exact .inl ⟨O,AQ O dI O Al O⟩) (qG (.bool ar) (nU ar (I6 t.kind)) (by cases ar<;>first|exact gA|exact gB|exact .inl ⟨O,AJ O Ag (B1.cell O)⟩) ?_)));obtain ⟨bb,d2⟩:∃e,(decide ((t.kind:Int)≠6))=e:=⟨_,O⟩;refine qG (.bool ar) (nU ar (.bool bb)) (by cases ar<;>first|exact gA|exact gB|exact .inl ⟨O,(Bb O O).trans (by rw[d2];try rfl)⟩) (qG (.bool ar) (nU ar (.bool bb)) (by cases ar<;>first|exact gA|exact gB|exact .inl ⟨O,Am O⟩) (qG (nU ar (.bool bb)) (nU ar (yU bb (P6 b1 4))) (by cases ar<;>cases bb<;>first|exact gA|exact gB|exact .inl ⟨O,AQ O dI O Al O⟩) (qG (nU ar (.bool bb)) (nU ar (yU bb (I6 t.mx))) (by cases ar<;>cases bb<;>first|exact gA|exact gB|exact .inl ⟨O,AJ O Ag (B1.cell O)⟩) ?_)));obtain ⟨e8,di⟩:∃e,(decide ((t.mx:Int)≠0))=e:=⟨_,O⟩;refine qG (nU ar (.bool bb)) (nU ar (yU bb (.bool e8))) (by cases ar<;>cases bb<;>first|exact gA|exact gB|exact .inl ⟨O,(Bb O O).trans (by rw[di];try rfl)⟩) ?_;obtain ⟨ec,dw⟩:∃e,(bb && e8)=e:=⟨_,O⟩;refine qG (.bool ar) (nU ar (.bool ec)) (by cases ar<;>first|exact gA|exact gB|exact .inl ⟨O,Af (v:=.bool ec) O (by rw[<-dw];cases bb<;>rfl)⟩) ?_;obtain ⟨ag,dp⟩:∃e,(ar || ec)=e:=⟨_,O⟩;refine qV (Af (v:=.bool ag) O (by rw[<-dp];cases ar<;>rfl)) (qM _ O (qG (.bool ag) (nU ag (P6 b1 0)) (by cases ag<;>first|exact gA|exact gB|exact .inl ⟨O,AQ O dI O Al O⟩) (qG (.bool ag) (nU ag (I6 t.kind)) (by cases ag<;>first|exact gA|exact gB|exact .inl ⟨O,AJ O Ag (B1.cell O)⟩) ?_)));obtain ⟨a7,bw⟩:∃e,(decide ((t.kind:Int)≠6))=e:=⟨_,O⟩;refine qG (.bool ag) (nU ag (.bool a7)) (by cases ag<;>first|exact gA|exact gB|exact .inl ⟨O,(Bb O O).trans (by rw[bw];try rfl)⟩) (qG (.bool ag) (nU ag (.bool a7)) (by cases ag<;>first|exact gA|exact gB|exact .inl ⟨O,Am O⟩) (qG (nU ag (.bool a7)) (nU ag (yU a7 (P6 b1 0))) (by cases ag<;>cases a7<;>first|exact gA|exact gB|exact .inl ⟨O,AQ O dI O Al O⟩) (qG (nU ag (.bool a7)) (nU ag (yU a7 (I6 t.kind))) (by cases ag<;>cases a7<;>first|exact gA|exact gB|exact .inl ⟨O,AJ O Ag (B1.cell O)⟩) ?_)));obtain ⟨e6,cb⟩:∃e,(decide ((t.kind:Int)≠9))=e:=⟨_,O⟩;refine qG (nU ag (.bool a7)) (nU ag (yU a7 (.bool e6))) (by cases ag<;>cases a7<;>first|exact gA|exact gB|exact .inl ⟨O,(Bb O O).trans (by rw[cb];try rfl)⟩) ?_;obtain ⟨a4,dm⟩:∃e,(a7 && e6)=e:=⟨_,O⟩;refine qG (.bool ag) (nU ag (.bool a4)) (by cases ag<;>first|exact gA|exact gB|exact .inl ⟨O,Af (v:=.bool a4) O (by rw[<-dm];cases a7<;>rfl)⟩) (qG (.bool ag) (nU ag (.bool a4)) (by cases ag<;>first|exact gA|exact gB|exact .inl ⟨O,Am O⟩) (qG (nU ag (.bool a4)) (nU ag (yU a4 (P6 b1 3))) (by cases ag<;>cases a4<;>first|exact gA|exact gB|exact .inl ⟨O,AQ O dI O Al O⟩) (qG (nU ag (.bool a4)) (nU ag (yU a4 (I6 t.mn))) (by cases ag<;>cases a4<;>first|exact gA|exact gB|exact .inl ⟨O,AJ O Ag (B1.cell O)⟩) ?_)));obtain ⟨fi,d1⟩:∃e,(decide ((t.mn:Int)≠0))=e:=⟨_,O⟩;refine qG (nU ag (.bool a4)) (nU ag (yU a4 (.bool fi))) (by cases ag<;>cases a4<;>first|exact gA|exact gB|exact .inl ⟨O,(Bb O O).trans (by rw[d1];try rfl)⟩) ?_;obtain ⟨ek,cv⟩:∃e,(a4 && fi)=e:=⟨_,O⟩;refine qG (.bool ag) (nU ag (.bool ek)) (by cases ag<;>first|exact gA|exact gB|exact .inl ⟨O,Af (v:=.bool ek) O (by rw[<-cv];cases a4<;>rfl)⟩) ?_;obtain ⟨au,d3⟩:∃e,(ag || ek)=e:=⟨_,O⟩;refine qV (Af (v:=.bool au) O (by rw[<-d3];cases ag<;>rfl)) (qM _ O (qG (.bool au) (nU au (P6 b1 0)) (by cases au<;>first|exact gA|exact gB|exact .inl ⟨O,AQ O dI O Al O⟩) (qG (.bool au) (nU au (I6 t.kind)) (by cases au<;>first|exact gA|exact gB|exact .inl ⟨O,AJ O Ag (B1.cell O)⟩) ?_)));obtain ⟨bk,d0⟩:∃e,(decide ((t.kind:Int)≠10))=e:=⟨_,O⟩;refine qG (.bool au) (nU au (.bool bk)) (by cases au<;>first|exact gA|exact gB|exact .inl ⟨O,(Bb O O).trans (by rw[d0];try rfl)⟩) (qG (.bool au) (nU au (.bool bk)) (by cases au<;>first|exact gA|exact gB|exact .inl ⟨O,Am O⟩) (qG (nU au (.bool bk)) (nU au (yU bk (P6 b1 5))) (by cases au<;>cases bk<;>first|exact gA|exact gB|exact .inl ⟨O,AQ O dI O G8 O⟩) (qG (nU au (.bool bk)) (nU au (yU bk (.bool t.neg))) (by cases au<;>cases bk<;>first|exact gA|exact gB|exact .inl ⟨O,AJ O HG (B1.cell O)⟩) ?_)));obtain ⟨en,dv⟩:∃e,(bk && t.neg)=e:=⟨_,O⟩;refine qG (.bool au) (nU au (.bool en)) (by cases au<;>first|exact gA|exact gB|exact .inl ⟨O,Af (v:=.bool en) O (by rw[<-dv];cases bk<;>rfl)⟩) ?_;obtain ⟨ft,b0⟩:∃e,(au || en)=e:=⟨_,O⟩;refine qV (Af (v:=.bool ft) O (by rw[<-b0];cases au<;>rfl)) (AB ?_);subst b0;subst dv;subst d0;subst d3;subst cv;subst d1;subst dm;subst cb;subst bw;subst dp;subst dw;subst di;subst d2;subst dn;subst dy;subst dr;refine A4 O (λhf=>?_) (λhf=>?_)
    .have d8:=hf;have bt:Dj t=false:=by rw[<-jE];intro h;unfold Dj at h;generalize t.set.length=sl at h hf;cases hng:t.neg<;>simp[hng] at h hf<;>omega
     refine AA (qA _ O (AB (AO (AK (AY iG (v:=(I6 3)) O ?_)))));exact ⟨BI (by unfold Cb;rw[if_neg qO,if_pos bt]),E⟩
    .have d8:=hf;have bt:Dj t=true:=by unfold Dj;rw[ei];generalize t.set.length=sl at hf;cases hng:t.neg<;>simp[hng] at hf⊢<;>omega
     have hN:Cb t=if t.kind=2 then (if BJ t.set≠0 then BJ t.set else if (t.set.length:Int)=0 then 3 else 0) else if t.kind=6 then (if t.mn<0∨t.mx<t.mn∨8<t.mx then 1 else 0) else if t.kind=9 then (if t.mn<0∨9<t.mn then 1 else 0) else 0:=by unfold Cb;rw[if_neg qO,if_neg (by simp[bt])]
     rw[hN];refine AM (AC (AH (AA (qF b1 0 0 O dI O Al O (qV (AJ O Ag (B1.cell O)) (qV (Ai O O) (AB (qC O (λh2=>?_) (λh2=>?_)))))))))
     .rw[if_pos h2];refine AH (AA (qF b1 0 1 O dI O Bc O (qV (AJ O Bf (B1.cell O)) (qE O (AS func34 kQ kQ O) (O7 _ _ t.set ((bq.ext hE).ext E)) ?_))));rintro _ fs ⟨rfl,d5⟩;have B1:=d5.keep B1;have E:=E.ext d5;refine qA _ O (AB (AA (qM _ O (qV (Bb O O) (AB (qC O (λh3=>?_) (λh3=>?_)))))))
      .refine AA (qM _ O (qA _ O (AB (AO (AK (AK (AY iG (v:=(I6 (BJ t.set))) O ?_)))))));exact ⟨BI (by rw[if_pos h3]),E⟩
      .rw[if_neg h3];refine AM (AC (AA (qF b1 0 1 O dI O Bc O (qV (AJ O Bf (B1.cell O)) (qV (AT dS O) (qV (Ai O O) (AB (qC O (λh4=>?_) (λh4=>?_)))))))))
       .refine AA (qA _ O (AB (AO (AK (AY iG (v:=(I6 3)) O ?_)))));exact ⟨BI (by rw[if_pos h4]),E⟩
       .rw[if_neg h4];refine AM (AC (AH (AA (qF b1 0 0 O dI O Al O (qV (AJ O Ag (B1.cell O)) ?_)))));obtain ⟨af,df⟩:∃e,(decide ((t.kind:Int)=6))=e:=⟨_,O⟩;refine qV ((Ai O O).trans (by rw[df];try rfl)) (qM _ O (qG (.bool af) (yU af (P6 b1 3)) (by cases af<;>first|exact gA|exact gB|exact .inl ⟨O,AQ O dI O Al O⟩) (qG (.bool af) (yU af (I6 t.mn)) (by cases af<;>first|exact gA|exact gB|exact .inl ⟨O,AJ O Ag (B1.cell O)⟩) ?_)));obtain ⟨bc,d4⟩:∃e,(decide ((t.mn:Int)<0))=e:=⟨_,O⟩;refine qG (.bool af) (yU af (.bool bc)) (by cases af<;>first|exact gA|exact gB|exact .inl ⟨O,(A6 O O).trans (by rw[d4];try rfl)⟩) (qG (.bool af) (yU af (.bool bc)) (by cases af<;>first|exact gA|exact gB|exact .inl ⟨O,Am O⟩) (qG (yU af (.bool bc)) (yU af (nU bc (P6 b1 4))) (by cases af<;>cases bc<;>first|exact gA|exact gB|exact .inl ⟨O,AQ O dI O Al O⟩) (qG (yU af (.bool bc)) (yU af (nU bc (I6 t.mx))) (by cases af<;>cases bc<;>first|exact gA|exact gB|exact .inl ⟨O,AJ O Ag (B1.cell O)⟩) ?_)));obtain ⟨fg,du⟩:∃e,(decide ((8:Int)<t.mx))=e:=⟨_,O⟩;refine qG (yU af (.bool bc)) (yU af (nU bc (.bool fg))) (by cases af<;>cases bc<;>first|exact gA|exact gB|exact .inl ⟨O,(CN O O).trans (by rw[du];try rfl)⟩) ?_;obtain ⟨ax,b6⟩:∃e,(bc || fg)=e:=⟨_,O⟩;refine qG (.bool af) (yU af (.bool ax)) (by cases af<;>first|exact gA|exact gB|exact .inl ⟨O,Af (v:=.bool ax) O (by rw[<-b6];cases bc<;>rfl)⟩) (qG (.bool af) (yU af (.bool ax)) (by cases af<;>first|exact gA|exact gB|exact .inl ⟨O,Am O⟩) (qG (yU af (.bool ax)) (yU af (nU ax (P6 b1 3))) (by cases af<;>cases ax<;>first|exact gA|exact gB|exact .inl ⟨O,AQ O dI O Al O⟩) (qG (yU af (.bool ax)) (yU af (nU ax (I6 t.mn))) (by cases af<;>cases ax<;>first|exact gA|exact gB|exact .inl ⟨O,AJ O Ag (B1.cell O)⟩) (qG (yU af (.bool ax)) (yU af (nU ax (P6 b1 4))) (by cases af<;>cases ax<;>first|exact gA|exact gB|exact .inl ⟨O,AQ O dI O Al O⟩) (qG (yU af (.bool ax)) (yU af (nU ax (I6 t.mx))) (by cases af<;>cases ax<;>first|exact gA|exact gB|exact .inl ⟨O,AJ O Ag (B1.cell O)⟩) ?_)))));obtain ⟨e7,dz⟩:∃e,(decide ((t.mx:Int)<t.mn))=e:=⟨_,O⟩;refine qG (yU af (.bool ax)) (yU af (nU ax (.bool e7))) (by cases af<;>cases ax<;>first|exact gA|exact gB|exact .inl ⟨O,(CN O O).trans (by rw[dz];try rfl)⟩) ?_;obtain ⟨eh,cz⟩:∃e,(ax || e7)=e:=⟨_,O⟩;refine qG (.bool af) (yU af (.bool eh)) (by cases af<;>first|exact gA|exact gB|exact .inl ⟨O,Af (v:=.bool eh) O (by rw[<-cz];cases ax<;>rfl)⟩) ?_;obtain ⟨al,cm⟩:∃e,(af && eh)=e:=⟨_,O⟩;refine qV (Af (v:=.bool al) O (by rw[<-cm];cases af<;>rfl)) (qM _ O (qG (.bool al) (nU al (P6 b1 0)) (by cases al<;>first|exact gA|exact gB|exact .inl ⟨O,AQ O dI O Al O⟩) (qG (.bool al) (nU al (I6 t.kind)) (by cases al<;>first|exact gA|exact gB|exact .inl ⟨O,AJ O Ag (B1.cell O)⟩) ?_)));obtain ⟨am,ce⟩:∃e,(decide ((t.kind:Int)=9))=e:=⟨_,O⟩;refine qG (.bool al) (nU al (.bool am)) (by cases al<;>first|exact gA|exact gB|exact .inl ⟨O,(Ai O O).trans (by rw[ce];try rfl)⟩) (qG (.bool al) (nU al (.bool am)) (by cases al<;>first|exact gA|exact gB|exact .inl ⟨O,Am O⟩) (qG (nU al (.bool am)) (nU al (yU am (P6 b1 3))) (by cases al<;>cases am<;>first|exact gA|exact gB|exact .inl ⟨O,AQ O dI O Al O⟩) (qG (nU al (.bool am)) (nU al (yU am (I6 t.mn))) (by cases al<;>cases am<;>first|exact gA|exact gB|exact .inl ⟨O,AJ O Ag (B1.cell O)⟩) ?_)));obtain ⟨bd,cw⟩:∃e,(decide ((t.mn:Int)<0))=e:=⟨_,O⟩;refine qG (nU al (.bool am)) (nU al (yU am (.bool bd))) (by cases al<;>cases am<;>first|exact gA|exact gB|exact .inl ⟨O,(A6 O O).trans (by rw[cw];try rfl)⟩) (qG (nU al (.bool am)) (nU al (yU am (.bool bd))) (by cases al<;>cases am<;>first|exact gA|exact gB|exact .inl ⟨O,Am O⟩) (qG (nU al (yU am (.bool bd))) (nU al (yU am (nU bd (P6 b1 3)))) (by cases al<;>cases am<;>cases bd<;>first|exact gA|exact gB|exact .inl ⟨O,AQ O dI O Al O⟩) (qG (nU al (yU am (.bool bd))) (nU al (yU am (nU bd (I6 t.mn)))) (by cases al<;>cases am<;>cases bd<;>first|exact gA|exact gB|exact .inl ⟨O,AJ O Ag (B1.cell O)⟩) ?_)));obtain ⟨fh,ca⟩:∃e,(decide ((9:Int)<t.mn))=e:=⟨_,O⟩;refine qG (nU al (yU am (.bool bd))) (nU al (yU am (nU bd (.bool fh)))) (by cases al<;>cases am<;>cases bd<;>first|exact gA|exact gB|exact .inl ⟨O,(CN O O).trans (by rw[ca];try rfl)⟩) ?_;obtain ⟨eu,dg⟩:∃e,(bd || fh)=e:=⟨_,O⟩;refine qG (nU al (.bool am)) (nU al (yU am (.bool eu))) (by cases al<;>cases am<;>first|exact gA|exact gB|exact .inl ⟨O,Af (v:=.bool eu) O (by rw[<-dg];cases bd<;>rfl)⟩) ?_;obtain ⟨ee,b9⟩:∃e,(am && eu)=e:=⟨_,O⟩;refine qG (.bool al) (nU al (.bool ee)) (by cases al<;>first|exact gA|exact gB|exact .inl ⟨O,Af (v:=.bool ee) O (by rw[<-b9];cases am<;>rfl)⟩) ?_;obtain ⟨fu,db⟩:∃e,(al || ee)=e:=⟨_,O⟩;refine qV (Af (v:=.bool fu) O (by rw[<-db];cases al<;>rfl)) (AB ?_);subst db;subst b9;subst dg;subst ca;subst cw;subst ce;subst cm;subst cz;subst dz;subst b6;subst du;subst d4;subst df;have ej:((((decide ((t.kind:Int)=6)) && (((decide ((t.mn:Int)<0)) || (decide ((8:Int)<t.mx))) || (decide ((t.mx:Int)<t.mn)))) || ((decide ((t.kind:Int)=9)) && ((decide ((t.mn:Int)<0)) || (decide ((9:Int)<t.mn))))))=false:=by simp[h2]
        refine Ae (Ar ej) (AM (AC (AA (qA _ O (AB (AO (AY iG (v:=(I6 0)) O ?_)))))));exact ⟨O,E⟩
     .rw[if_neg h2];refine AM (AC (AH (AA (qF b1 0 0 O dI O Al O (qV (AJ O Ag (B1.cell O)) ?_)))));obtain ⟨ab,cp⟩:∃e,(decide ((t.kind:Int)=6))=e:=⟨_,O⟩;refine qV ((Ai O O).trans (by rw[cp];try rfl)) (qM _ O (qG (.bool ab) (yU ab (P6 b1 3)) (by cases ab<;>first|exact gA|exact gB|exact .inl ⟨O,AQ O dI O Al O⟩) (qG (.bool ab) (yU ab (I6 t.mn)) (by cases ab<;>first|exact gA|exact gB|exact .inl ⟨O,AJ O Ag (B1.cell O)⟩) ?_)));obtain ⟨bf,c5⟩:∃e,(decide ((t.mn:Int)<0))=e:=⟨_,O⟩;refine qG (.bool ab) (yU ab (.bool bf)) (by cases ab<;>first|exact gA|exact gB|exact .inl ⟨O,(A6 O O).trans (by rw[c5];try rfl)⟩) (qG (.bool ab) (yU ab (.bool bf)) (by cases ab<;>first|exact gA|exact gB|exact .inl ⟨O,Am O⟩) (qG (yU ab (.bool bf)) (yU ab (nU bf (P6 b1 4))) (by cases ab<;>cases bf<;>first|exact gA|exact gB|exact .inl ⟨O,AQ O dI O Al O⟩) (qG (yU ab (.bool bf)) (yU ab (nU bf (I6 t.mx))) (by cases ab<;>cases bf<;>first|exact gA|exact gB|exact .inl ⟨O,AJ O Ag (B1.cell O)⟩) ?_)));obtain ⟨fd,b2⟩:∃e,(decide ((8:Int)<t.mx))=e:=⟨_,O⟩;refine qG (yU ab (.bool bf)) (yU ab (nU bf (.bool fd))) (by cases ab<;>cases bf<;>first|exact gA|exact gB|exact .inl ⟨O,(CN O O).trans (by rw[b2];try rfl)⟩) ?_;obtain ⟨ay,cn⟩:∃e,(bf || fd)=e:=⟨_,O⟩;refine qG (.bool ab) (yU ab (.bool ay)) (by cases ab<;>first|exact gA|exact gB|exact .inl ⟨O,Af (v:=.bool ay) O (by rw[<-cn];cases bf<;>rfl)⟩) (qG (.bool ab) (yU ab (.bool ay)) (by cases ab<;>first|exact gA|exact gB|exact .inl ⟨O,Am O⟩) (qG (yU ab (.bool ay)) (yU ab (nU ay (P6 b1 3))) (by cases ab<;>cases ay<;>first|exact gA|exact gB|exact .inl ⟨O,AQ O dI O Al O⟩) (qG (yU ab (.bool ay)) (yU ab (nU ay (I6 t.mn))) (by cases ab<;>cases ay<;>first|exact gA|exact gB|exact .inl ⟨O,AJ O Ag (B1.cell O)⟩) (qG (yU ab (.bool ay)) (yU ab (nU ay (P6 b1 4))) (by cases ab<;>cases ay<;>first|exact gA|exact gB|exact .inl ⟨O,AQ O dI O Al O⟩) (qG (yU ab (.bool ay)) (yU ab (nU ay (I6 t.mx))) (by cases ab<;>cases ay<;>first|exact gA|exact gB|exact .inl ⟨O,AJ O Ag (B1.cell O)⟩) ?_)))));obtain ⟨fk,cj⟩:∃e,(decide ((t.mx:Int)<t.mn))=e:=⟨_,O⟩;refine qG (yU ab (.bool ay)) (yU ab (nU ay (.bool fk))) (by cases ab<;>cases ay<;>first|exact gA|exact gB|exact .inl ⟨O,(CN O O).trans (by rw[cj];try rfl)⟩) ?_;obtain ⟨d7,ch⟩:∃e,(ay || fk)=e:=⟨_,O⟩;refine qG (.bool ab) (yU ab (.bool d7)) (by cases ab<;>first|exact gA|exact gB|exact .inl ⟨O,Af (v:=.bool d7) O (by rw[<-ch];cases ay<;>rfl)⟩) ?_;obtain ⟨ah,cl⟩:∃e,(ab && d7)=e:=⟨_,O⟩;refine qV (Af (v:=.bool ah) O (by rw[<-cl];cases ab<;>rfl)) (qM _ O (qG (.bool ah) (nU ah (P6 b1 0)) (by cases ah<;>first|exact gA|exact gB|exact .inl ⟨O,AQ O dI O Al O⟩) (qG (.bool ah) (nU ah (I6 t.kind)) (by cases ah<;>first|exact gA|exact gB|exact .inl ⟨O,AJ O Ag (B1.cell O)⟩) ?_)));obtain ⟨ap,cq⟩:∃e,(decide ((t.kind:Int)=9))=e:=⟨_,O⟩;refine qG (.bool ah) (nU ah (.bool ap)) (by cases ah<;>first|exact gA|exact gB|exact .inl ⟨O,(Ai O O).trans (by rw[cq];try rfl)⟩) (qG (.bool ah) (nU ah (.bool ap)) (by cases ah<;>first|exact gA|exact gB|exact .inl ⟨O,Am O⟩) (qG (nU ah (.bool ap)) (nU ah (yU ap (P6 b1 3))) (by cases ah<;>cases ap<;>first|exact gA|exact gB|exact .inl ⟨O,AQ O dI O Al O⟩) (qG (nU ah (.bool ap)) (nU ah (yU ap (I6 t.mn))) (by cases ah<;>cases ap<;>first|exact gA|exact gB|exact .inl ⟨O,AJ O Ag (B1.cell O)⟩) ?_)));obtain ⟨ba,dh⟩:∃e,(decide ((t.mn:Int)<0))=e:=⟨_,O⟩;refine qG (nU ah (.bool ap)) (nU ah (yU ap (.bool ba))) (by cases ah<;>cases ap<;>first|exact gA|exact gB|exact .inl ⟨O,(A6 O O).trans (by rw[dh];try rfl)⟩) (qG (nU ah (.bool ap)) (nU ah (yU ap (.bool ba))) (by cases ah<;>cases ap<;>first|exact gA|exact gB|exact .inl ⟨O,Am O⟩) (qG (nU ah (yU ap (.bool ba))) (nU ah (yU ap (nU ba (P6 b1 3)))) (by cases ah<;>cases ap<;>cases ba<;>first|exact gA|exact gB|exact .inl ⟨O,AQ O dI O Al O⟩) (qG (nU ah (yU ap (.bool ba))) (nU ah (yU ap (nU ba (I6 t.mn)))) (by cases ah<;>cases ap<;>cases ba<;>first|exact gA|exact gB|exact .inl ⟨O,AJ O Ag (B1.cell O)⟩) ?_)));obtain ⟨c7,bo⟩:∃e,(decide ((9:Int)<t.mn))=e:=⟨_,O⟩;refine qG (nU ah (yU ap (.bool ba))) (nU ah (yU ap (nU ba (.bool c7)))) (by cases ah<;>cases ap<;>cases ba<;>first|exact gA|exact gB|exact .inl ⟨O,(CN O O).trans (by rw[bo];try rfl)⟩) ?_;obtain ⟨bs,bm⟩:∃e,(ba || c7)=e:=⟨_,O⟩;refine qG (nU ah (.bool ap)) (nU ah (yU ap (.bool bs))) (by cases ah<;>cases ap<;>first|exact gA|exact gB|exact .inl ⟨O,Af (v:=.bool bs) O (by rw[<-bm];cases ba<;>rfl)⟩) ?_;obtain ⟨br,bp⟩:∃e,(ap && bs)=e:=⟨_,O⟩;refine qG (.bool ah) (nU ah (.bool br)) (by cases ah<;>first|exact gA|exact gB|exact .inl ⟨O,Af (v:=.bool br) O (by rw[<-bp];cases ap<;>rfl)⟩) ?_;obtain ⟨es,bn⟩:∃e,(ah || br)=e:=⟨_,O⟩;refine qV (Af (v:=.bool es) O (by rw[<-bn];cases ah<;>rfl)) (AB ?_);subst bn;subst bp;subst bm;subst bo;subst dh;subst cq;subst cl;subst ch;subst cj;subst cn;subst b2;subst c5;subst cp;refine A4 O (λh6=>?_) (λh6=>?_)
      .have ef:=h6;simp at h6;refine AA (qA _ O (AB (AO (AK (AY iG (v:=(I6 1)) O ?_)))));exact ⟨BI (by by_cases h66:t.kind=6;rw[if_pos h66,if_pos qO];rw[if_neg h66,if_pos qO,if_pos qO]),E⟩
      .have ef:=h6;simp at h6;refine AM (AC (AA (qA _ O (AB (AO (AY iG (v:=(I6 0)) O ?_))))));exact ⟨BI (by by_cases h66:t.kind=6;rw[if_pos h66,if_neg qO];rw[if_neg h66];by_cases h9:t.kind=9;rw[if_pos h9,if_neg qO];rw[if_neg h9]),E⟩
abbrev TE:Nat:=25
mutual
def EX:Re->List Re
  | .mk k set args mn mx ng=>.mk k set args mn mx ng::Dh args
def Dh:List Re->List Re
  | []=>[]
  | t::ts=>EX t++Dh ts
end
theorem K6 (t:Re):EX t=t::Dh t.args:=by cases t;simp only[EX,Re.args]
theorem JN:∀(a b:List Re),Dh (a++b)=Dh a++Dh b
 | [],b=>by simp[Dh]
 | x::a,b=>by simp only[fH,Dh,JN a b,eW]
mutual
theorem En:∀(t:Re),(EX t).length=t.size
 | .mk k set args mn mx ng=>by simp only[EX,Re.size,d_,J' args]
theorem J':∀(ts:List Re),(Dh ts).length=Re.sizes ts
 | []=>by simp[Dh,Re.sizes]
 | t::ts=>by simp only[Dh,Re.sizes,dN,En t,J' ts]
end
theorem GA:∀(ts:List Re),ts.length<=Re.sizes ts
 | []=>qP
 | t::ts=>by have:=GA ts;have:=t.size_pos;simp only[Re.sizes,d_];omega
theorem Mw (ts:List Re):Re.sizes ts.reverse=Re.sizes ts:=by
 induction ts with
 | nil=>rfl
 | cons t ts ih=>simp only[List.reverse_cons,Re.sizes_append,ih,Re.sizes];omega
def EM (w:World):List Re->List n_->Prop
  | [],[]=>True
  | t::ts,r::rs=>A3 w t r∧EM w ts rs
  | _,_=>False
theorem EM.ext {w w':World} (e:Ah w w'):∀{ts:List Re} {a:List n_},EM w ts a->EM w' ts a
 | [],[],_=>trivial
 | t::ts,r::a,h=>⟨A3.ext e t h.1,EM.ext e h.2⟩
 | [],_::_,h=>h.elim
 | _::_,[],h=>h.elim
theorem EM.get {w:World}:∀{ts:List Re} {a:List n_},EM w ts a->∀{i:Nat} {t:Re},ts[i]?=some t->∃r,a[i]?=some r∧A3 w t r
 | [],[],_,_,_,h=>by simp at h
 | t::ts,r::a,h,0,_,h'=>by simp at h';subst h';exact ⟨r,O,h.1⟩
 | t::ts,r::a,h,i+1,_,h'=>by
  obtain ⟨d,b,c⟩:=EM.get h.2 (i:=i) (by simpa using h');exact ⟨d,by simpa using b,c⟩
 | [],_::_,h,_,_,_=>h.elim
 | _::_,[],h,_,_,_=>h.elim
def C7 (S:oD) (w:World):List Re->List n_->Prop
  | [],[]=>True
  | t::ts,r::rs=>AR S w t r∧C7 S w ts rs
  | _,_=>False
theorem C7.len {S:oD} {w:World}:∀{ts:List Re} {a:List n_},C7 S w ts a->a.length=ts.length
 | [],[],_=>rfl
 | t::ts,r::a,h=>by simp only[d_,C7.len h.2]
 | [],_::_,h=>h.elim
 | _::_,[],h=>h.elim
theorem C7.six {S:oD} {w:World}:∀{ts:List Re} {b:List n_},C7 S w ts b->∀r∈b,r.length=6
 | [],[],_,r,a=>by cases a
 | t::ts,r::b,h,r',a=>by
  rcases dZ.1 a with rfl|a
  .exact h.1.len
  .exact C7.six h.2 r' a
 | [],_::_,h,_,_=>h.elim
 | _::_,[],h,_,_=>h.elim
theorem C7.snoc {S:oD} {w:World}:∀{ts:List Re} {a:List n_},C7 S w ts a->∀{t:Re} {r:n_},AR S w t r->C7 S w (ts++[t]) (a++[r])
 | [],[],_,_,_,h=>⟨h,trivial⟩
 | t::ts,r::a,h,_,_,h'=>⟨h.1,C7.snoc h.2 h'⟩
 | [],_::_,h,_,_,_=>h.elim
 | _::_,[],h,_,_,_=>h.elim
theorem C7.pop {S:oD} {w:World}:∀{ts:List Re} {b:List n_} {t:Re},C7 S w (ts++[t]) b->∃a r,b=a++[r]∧C7 S w ts a∧AR S w t r
 | [],[],_,h=>h.elim
 | [],[r],_,h=>⟨[],r,O,trivial,h.1⟩
 | [],r::c::b,_,h=>h.2.elim
 | t::ts,[],_,h=>h.elim
 | t::ts,r::b,t',h=>by
  obtain ⟨a,c,d,f,e⟩:=C7.pop (ts:=ts) h.2;exact ⟨r::a,c,by rw[d];rfl,⟨h.1,f⟩,e⟩
theorem C7.of {S:oD} {w:World}:∀{ts:List Re} {a:List n_},C7 S w ts a->EM w ts a
 | [],[],_=>trivial
 | t::ts,r::a,h=>⟨AR.at t h.1,C7.of h.2⟩
 | [],_::_,h=>h.elim
 | _::_,[],h=>h.elim
def Fc (u v:Value):Prop:=∀k,u.ownBlock=some k->v.ownBlock≠some k
theorem Fc.symm {u v:Value} (h:Fc u v):Fc v u:=λk b a=>h k a b
theorem Fc.slc {a:oE} {n c n' c':Nat} {v:Value} (h:Fc (.slice a n c) v):Fc (.slice a n' c') v:=by
 cases a<;>exact h
theorem Fc.app {w:World} {base e size n:Nat} {u a v:Value} {xs:n_} (h:Fc u v) (f:w.ownsRow base e size v n xs) (D:∀k,a.ownBlock=some k->u.ownBlock=some k∨w.heap.size<=k):Fc a v:=λk d c=>by
 rcases D k d with b|b
 .exact h k b c
 .have:=(f.lt k c).2;omega
theorem Fc.nil (v:Value):Fc (.slice none 0 0) v:=λk h=>by cases h
theorem NV {w w':World} {base e size n:Nat} {u v:Value} {xs:n_} (h:w.ownsRow base e size v n xs) (C:Chg (λx=>u.ownBlock=some x) w w') (hd:Fc u v):w'.ownsRow base e size v n xs:=
 CH h C λk b a=>hd k a b
theorem XW {a:oE} {c m:Nat}:(if c=0 then a else Option.map (λq:Addr=>q.add (0*m)) a)=a:=by
 split
 .rfl
 .cases a<;>simp[Addr.add]
theorem QM {a:List n_} (h:∀r∈a,r.length=6):a.flatten.length=a.length*6:=by
 induction a with
 | nil=>rfl
 | cons r a ih=>rw[fE,dN,ih (λc b=>h c (eP _ b)),h r eJ,d_];omega
theorem WD {a:List n_} {r:n_} {n:Nat} (h:∀r∈a,r.length=6) (hn:a.length=n):((a++[r]).flatten).take (n*6)=a.flatten:=by
 rw[fX,gS (by rw[QM h,hn];exact dU _),fK (by rw[QM h,hn];exact dU _)]
theorem XV {α:Type} {l:List α} (h:0<l.length):∃a x,l=a++[x]:=by
 rcases lF l with rfl|⟨a,x,rfl⟩
 .simp at h
 .exact ⟨a,x,m_⟩
abbrev RD (x:Re) (xa:oE) (xc:Nat) (ya:oE) (yc:Nat):n_:=(oJ x xa xc ya yc)
theorem KC {S:oD} {w:World} {base e n:Nat} {v:Value} {ts:List Re} {a:List n_} {c:World} (h:w.ownsRow base e 6 v n a.flatten) (b:C7 S c ts a) (hn:ts.length=n):BX w 6 v a:=
 Di h b.six (by rw[b.len,hn]) qD
theorem ZT (J:World) (S:oD) (t:Re) (vs:n_) (most:Int) (ht:AR S J t vs) (hs:t.size<=2097152) :
 Bj prog 31 #[.agg vs.toArray,I6 most] J λv w=>∃a c rows,v=.slice a ((EX t).take most.toNat).length c∧BX w 6 v rows∧C7 S J ((EX t).take most.toNat) rows∧Ah J w:=by
 have bb:=ht;obtain ⟨sa,sc,aa,ac,rfl,hset,hlen,hargs⟩:=ht.form;refine qR func31 O ntmps31 O (λE=>(AA (BC (v:=(.agg (R6 t sa sc aa ac))) (c:=(R6 t sa sc aa ac)) qD O O ?_)));intro bp wp Np;have E:=E.ext Np.ext;have p:=Np.blk;refine qA _ O (AB (AA (qA _ O (AB (AA (qV (AI (vs:=(oJ t sa sc aa ac)) O Ad AG O (p.cells O)) (Aw (ps:=[(0,(.agg (R6 t sa sc aa ac)))]) (c:=(R6 t sa sc aa ac)) qD O dJ AG A1 qD qD qK ?_)))))));intro bq wq Nq;have p:=Nq.keep p;have E:=E.ext Nq.ext;have Bq:=Nq.blk;refine qA _ O (AB (AH (AW ?_)));obtain ⟨base,hbase⟩:∃base,base=wp.heap.size:=⟨_,O⟩;have hb0:J.heap.size<=base:=by have:=Np.size;omega
 have hpb:bp<base:=by have:=Np.size;have:=Np.eq;omega
 have a3:base<=bq:=by have:=Nq.eq;omega
 have af:wq.ownsRow base TE 6 (.slice (oI bq 0) 1 1) 1 ([(oJ t sa sc aa ac)]:List n_).flatten:=⟨O,.inr ⟨bq,1,_,O,a3,Bq,qD,qD,O,O⟩⟩;have an:base<=wq.heap.size:=by have:=Nq.size;omega
 refine Ax (λnn_ σ W1=>∃(d g:List Re) (ro rs:List n_) (oa:oE) (oc:Nat) (K:oE) (F:Nat),(∃jj_,σ=BW jj_ [(1,(I6 most)),(5,(.slice oa d.length oc)),(6,(.slice K g.length F))])∧Chg Aj J W1∧BV W1 bp (R6 t sa sc aa ac) 25∧(W1.ownsRow base TE 6 (.slice oa d.length oc) d.length ro.flatten)∧(W1.ownsRow base TE 6 (.slice K g.length F) g.length rs.flatten)∧(Fc (.slice oa d.length oc) (.slice K g.length F))∧(C7 S J d ro)∧(C7 S J g rs)∧(EX t=d++Dh g.reverse)∧(d.length<=most.toNat)∧(base<=W1.heap.size)∧nn_=t.size - d.length) (n:=t.size - ([]:List Re).length) ?_ ?_
 .exact ⟨([]:List Re),[t],([]:List n_),[(oJ t sa sc aa ac)],none,0,oI bq 0,1,oH,E,p,World.ownsRow_nil _ _ _ _,af,Fc.nil _,trivial,⟨bb,trivial⟩,(by simp[Dh]),dR _,an,O⟩
 .clear E p;rintro _ _ W1 ⟨d,g,ro,rs,oa,oc,K,F,⟨j1,rfl⟩,E,p,hO,hS,ax,aj,bf,C,hmo,T,rfl⟩;have hsz:d.length+Re.sizes g=t.size:=by rw[<-En t,C,dN,J',Mw]
  have hsl:=GA g;refine AH (AA (qM _ O (qV (AT dJ O) ?_)));obtain ⟨D,am⟩:∃e,(decide ((0:Int)<((g.length:Nat):Int)))=e:=⟨_,O⟩;refine qV ((CN O O).trans (by rw[am];try rfl)) (qM _ O (qG (.bool D) (yU D (.slice oa d.length oc)) (by cases D<;>first|exact gA|exact gB|exact .inl ⟨O,Am O⟩) (qG (.bool D) (yU D (I6 (d.length:Int))) (by cases D<;>first|exact gA|exact gB|exact .inl ⟨O,AT dJ O⟩) (qG (.bool D) (yU D (I6 most)) (by cases D<;>first|exact gA|exact gB|exact .inl ⟨O,Am O⟩) ?_))));obtain ⟨e3,av⟩:∃e,(decide ((((d.length:Nat):Int):Int)<most))=e:=⟨_,O⟩;refine qG (.bool D) (yU D (.bool e3)) (by cases D<;>first|exact gA|exact gB|exact .inl ⟨O,(A6 O O).trans (by rw[av];try rfl)⟩) ?_;obtain ⟨e4,al⟩:∃e,(D && e3)=e:=⟨_,O⟩;refine qV (Af (v:=.bool e4) O (by rw[<-al];cases D<;>rfl)) (AB ?_);subst al;subst av;subst am;refine A4 O (λG=>?_) (λG=>?_)
  .have ap:=G;simp at G;have bc:=λk h=>(hO.lt k h).2;have a5:=λk h=>(hS.lt k h).2;obtain ⟨f,x,rfl⟩:=XV (l:=g) qO;obtain ⟨ar,r,rfl,s,ai⟩:=bf.pop;obtain ⟨X,Z,V,R,rfl,hxset,hxlen,U⟩:=ai.form;have ay:C7 S J (f++[x]) (ar++[_]):=s.snoc ai;obtain ⟨kb,ko,rfl,a6⟩:=BX.at (KC hS ay O) qO;have hkl:(f++[x]).length=f.length+1:=qP
   have a2:=a6 f.length _ (by rw[dX (by rw[s.len];exact dU _),s.len];simp;rfl);have hkcap:=(BX.cap (KC hS ay O)).1;refine AM (AC (AW (AA (qM _ O (qM _ O (qV (AT dJ O) (qV (DZ O O (A8 qO)) (qV (AL (b:=kb) (o:=ko) (len:=(f++[x]).length) (cap:=F) (i:=f.length) (o':=ko+f.length*6) O O qO dJ AG qO qO) (qV (AI O Ad AG O (a2)) (As (v:=(.agg (R6 x X Z V R))) (c:=(R6 x X Z V R)) (n:=6) qD A1 O AG O O O qS ?_))))))))));intro bx wx W;have p:=W.keep p;have E:=E.ext W.ext;have B:=W.blk;refine AB (AA (qM _ O (qM _ O (qV (AT dJ O) (qV (DZ O O (A8 qO)) ?_)))));obtain ⟨k2,ah⟩:∃a':oE,(if F=0 then (oI kb ko) else Option.map (λq:Addr=>q.add (0*6)) (oI kb ko))=a':=⟨_,O⟩;refine qV (J6 (hi:=f.length) dJ AG O O qO qO ah) (qA _ O (AB (AA (qM _ O (qV (AI (vs:=(oJ x X Z V R)) O Ad AG O (B.cells O)) (Aw (ps:=[(0,(.agg (R6 x X Z V R)))]) (c:=(R6 x X Z V R)) qD O dJ AG A1 qD qD qK ?_))))));intro bn wn Nn;have p:=Nn.keep p;have B:=Nn.keep B;have hO:=Az (Az hO W.ext) Nn.ext;have hS:=Az (Az hS W.ext) Nn.ext;have T:=dL (dL T W.ext.size) Nn.ext.size;have E:=E.ext Nn.ext;have Bn:=Nn.blk;rw[XW] at ah;subst ah;have ak:=Xo (m:=f.length) hS qO qO;rw[WD s.six s.len] at ak;clear hS;refine BQ (base:=base) (n:=d.length) (m:=1) (xs:=ro.flatten) (news:=(oJ x X Z V R)) (size:=6) (bytes:=80) (v:=(.slice oa d.length oc)) qD dJ AG E0 A1 O qD O hO O (O) (Bn.cells O) qS (by unfold maxLen;omega) qO (T) ?_;intro v9 w9 aq N a7;have p:=N.keep (λh=>by have:=(hO.lt _ h).1;omega) p;have B:=N.keep (λh=>absurd (bc _ h) (by have:=W.eq;omega)) B;have E:=E.step N (λx hx h=>absurd (hO.lt x h).1 qO);obtain ⟨P,Q,rfl⟩:=BB aq;have z:=NV ak N ax.slc.symm.slc.symm;have u:=Fc.app (ax.slc.symm.slc.symm) ak a7;have hsz2:Re.sizes (f++[x])=Re.sizes f+x.size:=by rw[Re.sizes_append];simp[Re.sizes]
   have hxs:=x.size_eq;have hal:=GA x.args;have hstl:=GA f;have j:=dL T N.size;refine qA _ O (AB (AA (qF bx 0 2 O dI O BF O (qV (AJ O A9 (B.cell O)) (qV (AT dJ O) (qV (DZ O O (A8 qO)) (qA _ O (AB (AW (Ax (λnn_ σ W6=>∃(i:Nat) (PE:List Re) (H:List n_) (K:oE) (F:Nat),(∃jj_,σ=BW jj_ [(1,(I6 most)),(5,(.slice P (d.length+1) Q)),(7,(P6 bx 0)),(8,(I6 ((i:Int) - 1))),(6,(.slice K PE.length F))])∧Chg Aj J W6∧BV W6 bp (R6 t sa sc aa ac) 25∧BV W6 bx (R6 x X Z V R) 25∧(i<=x.args.length)∧(W6.ownsRow base TE 6 (.slice P (d.length+1) Q) (d.length+1) (ro++[RD x X Z V R]).flatten)∧(W6.ownsRow base TE 6 (.slice K PE.length F) PE.length H.flatten)∧(Fc (.slice P (d.length+1) Q) (.slice K PE.length F))∧(C7 S J PE H)∧(PE=f++(x.args.drop i).reverse)∧(base<=W6.heap.size)∧(∀k,(Value.slice K PE.length F).ownBlock=some k->k≠bx)∧nn_=2*i) (n:=2*x.args.length) ?_ ?_))))))))))
   .exact ⟨x.args.length,f,ar,_,_,oH,E,p,B,dU _,(by simpa using aq),z,u,s,qP,j,(λk h e=>by have h1:k<_:=a5 k h;have:=W.eq;omega),O⟩
   .clear E p B;rintro _ _ W6 ⟨i,PE,H,K,F,⟨j6,rfl⟩,E,p,B,hi,I,z,u,ae,ag,j,aw,rfl⟩;refine AH (AA (qM _ O (qV (El O O) (AB (qC O (λa9=>?_) (λa9=>?_))))))
    .obtain ⟨y,hy⟩:=AU (l:=x.args) (i:=i - 1) qO;obtain ⟨ab,ao,rfl,a0⟩:∃b o,V=oI b o∧BM S J b o x.args:=by
      rcases U with h|h
      .rw[h] at hy;simp at hy
      .obtain ⟨b,o,_,h1,h2⟩:=h;exact ⟨b,o,h1,h2⟩
     obtain ⟨us,a1,au⟩:=a0.get hy;obtain ⟨va,vc,za,zc,rfl,_,_,_⟩:=au.form;have hbxl:=B.lt;refine AM (AC (AH (AW (AN (qM _ O (qF bx 0 2 O dI O BF O (qV (AJ O A9 (B.cell O)) (qM _ O (qV (AL (b:=ab) (o:=ao) (len:=x.args.length) (cap:=R) (i:=i - 1) (o':=ao+(i - 1)*6) O O qO dJ AG qO qO) (qV (AI O Ad AG O (a1.ext E)) ?_))))))))));have hst2l:PE.length=f.length+(x.args.length - i):=by rw[ag];simp
     refine Aw (ps:=[(0,(.agg (R6 y va vc za zc)))]) (c:=(R6 y va vc za zc)) qD O dJ AG A1 qD qD qK ?_;intro bm wm Nm;have p:=Nm.keep p;have B:=Nm.keep B;have I:=Az I Nm.ext;have z:=Az z Nm.ext;have j:=dL j Nm.ext.size;have E:=E.ext Nm.ext;have Bm:=Nm.blk;refine BQ (base:=base) (n:=PE.length) (m:=1) (xs:=H.flatten) (news:=(oJ y va vc za zc)) (size:=6) (bytes:=80) (v:=(.slice K PE.length F)) qD dJ AG E0 A1 O qD O z O (O) (Bm.cells O) qS (by unfold maxLen;omega) qO (j) ?_;intro v19 w19 M A L;have p:=A.keep (λh=>by have:=(z.lt _ h).1;omega) p;have B:=A.keep (λh=>aw _ h O) B;have E:=E.step A (λx hx h=>absurd (z.lt x h).1 qO);obtain ⟨be,ba,rfl⟩:=BB M;have bd:=NV I A u.symm;have ad:=(Fc.app u.symm I L).symm;have a8:(PE++[y]).length=PE.length+1:=qP
     rw[<-a8] at M ad L⊢;refine qA _ O (AB (AV (AC (AN (qM _ O (qV (DZ (c:=(((i - 1:Nat):Nat):Int) - 1) O O (by rw[A8 qO];omega)) (qA _ O (AB (AC ?_)))))))));exact ⟨2*(i - 1),qO,i - 1,PE++[y],H++[_],be,ba,oH,E,p,B,qO,bd,(by simpa using M),ad,ae.snoc au,(by rw[ag,Bi hy,show i - 1+1=i from qO];simp),dL j A.size,(λk h e=>by rcases L k h with h1|h1;exact aw k h1 e;have:=Nm.size;omega),O⟩
    .obtain rfl:i=0:=qO
     have a4:(d++[x]).length=d.length+1:=qP
     rw[<-a4] at I u⊢;refine Av (AZ (AZ (Ao (AV (AC ?_)))));exact ⟨t.size - (d++[x]).length,qO,d++[x],PE,ro++[_],H,P,Q,K,F,oH,E,p,I,z,u,aj.snoc ai,ae,(by rw[C,ag];simp[Dh,JN,K6 x]),(by simp;omega),j,O⟩
  .have ap:=G;have az:d=(EX t).take most.toNat:=by
    simp at G;rcases gO g.length with h|h
    .have:g=[]:=eD h;subst this;have hp:EX t=d:=by rw[C];simp[Dh]
     rw[hp,fK qO]
    .have hle:=G h;have:d.length=most.toNat:=qO
     rw[C,<-this,mW rfl]
   rw[<-az];refine Av (AZ (AZ (Ao (AC (AA (qM _ O (qA _ O (AB (AO (AY results31 (v:=(.slice oa d.length oc)) O ?_))))))))));exact ⟨oa,oc,ro,O,KC hO aj O,aj,E⟩
theorem Pj (d:World) (t:Re) (vs:n_) (most:Int) (i:A3 d t vs) (hs:t.size<=2097152) :
 Bj prog 31 #[.agg vs.toArray,I6 most] d λv w=>∃a c rows,v=.slice a ((EX t).take most.toNat).length c∧BX w 6 v rows∧EM d ((EX t).take most.toNat) rows∧Ah d w:=
 (ZT d (λb=>b<d.heap.size) t vs most (AR.of_at t i) hs).mono λv w h=>by obtain ⟨a,c,rows,g,f,e,j⟩:=h;exact ⟨a,c,rows,g,f,e.of,j⟩
end Go.Proofs
namespace Go.Proofs
open Go Go.Eng Go.Sort
set_option maxRecDepth 100000
def Ez (s:nZ) (t:Re):nZ:=if t.kind=2∧t.set∉s then s++[t.set] else s
def CU (t:Re):nZ:=(EX t).foldl Ez []
theorem Mg {x:oF}:∀{l:List Re} {s:nZ},x∈l.foldl Ez s↔x∈s∨∃t∈l,t.kind=2∧x=t.set
  | [],s=>qP
  | t::l,s=>by
    rw[f_,Mg];have e:x∈Ez s t↔x∈s∨(t.kind=2∧x=t.set):=by
      unfold Ez;split
      · rename_i h
        simp[h.1]
      · rename_i h
        constructor
        · exact .inl
        · rintro (h1|⟨h1,rfl⟩)
          · exact h1
          · exact Classical.byContradiction λh2=>h ⟨h1,h2⟩
    rw[e];constructor
    · rintro ((h|h)|⟨u,hu,h⟩)
      · exact .inl h
      · exact .inr ⟨t,qP,h⟩
      · exact .inr ⟨u,by simp[hu],h⟩
    · rintro (h|⟨u,hu,h⟩)
      · exact .inl (.inl h)
      · rcases dZ.1 hu with rfl|hu
        · exact .inl (.inr h)
        · exact .inr ⟨u,hu,h⟩
theorem Mh:∀(l:List Re) (s:nZ),(l.foldl Ez s).length<=s.length+l.length
 | [],s=>qP
 | t::l,s=>by
  have h:=Mh l (Ez s t);have h2:(Ez s t).length<=s.length+1:=by
   unfold Ez;split
   .simp
   .omega
  rw[f_,d_];omega
mutual
theorem Qq {P:oF->Prop}:∀{t:Re},(∀u∈EX t,u.kind=2->P u.set)->Cu P t
 | .mk k s a m x g,h=>by
  rw[K6] at h;exact ⟨h (.mk k s a m x g) qP,OU λu b=>h u (by simp only[dZ];exact .inr b)⟩
theorem OU {P:oF->Prop}:∀{ts:List Re},(∀u∈Dh ts,u.kind=2->P u.set)->IF P ts
 | [],_=>trivial
 | t::ts,h=>by
  simp only[Dh,eC] at h;exact ⟨Qq λu a=>h u (.inl a),OU λu a=>h u (.inr a)⟩
end
mutual
theorem Pk {P:oF->Prop}:∀{t:Re},Cu P t->∀u∈EX t,u.kind=2->P u.set
 | .mk k s a m x g,h,u,b=>by
  rw[K6] at b;rcases dZ.1 b with rfl|b
  .exact h.1
  .exact NT h.2 u b
theorem NT {P:oF->Prop}:∀{ts:List Re},IF P ts->∀u∈Dh ts,u.kind=2->P u.set
 | [],_,u,a=>by simp[Dh] at a
 | t::ts,h,u,a=>by
  simp only[Dh,eC] at a;rcases a with a|a
  .exact Pk h.1 u a
  .exact NT h.2 u a
end
theorem U8 {P:oF->Prop} {t:Re} (h:∀s∈CU t,P s):Cu P t:=
 Qq λu a b=>h u.set (Mg.2 (.inr ⟨u,a,b,O⟩))
theorem H' {P:oF->Prop} {t:Re} (h:Cu P t):∀s∈CU t,P s:=λs hs=>by
 rcases Mg.1 hs with a|⟨u,b,c,rfl⟩
 .cases a
 .exact Pk h u b c
theorem Lc (t:Re):(CU t).length<=t.size:=by
 have:=Mh (EX t) [];rw[En] at this;simpa[CU] using this
mutual
theorem GK:∀{t:Re},C' t->DA [9,10] t=false->Cu (λs=>BJ s=0) t
 | .mk k s a m x g,h,hu=>by
  obtain ⟨c,f⟩:=G1 hu;have i:k≠9:=λe=>by subst e;simp at c
  have b:k≠10:=λe=>by subst e;simp at c
  exact ⟨λd=>((Oj (t:=.mk k s a m x g) h i b O).k2 d).2,Ke (C8 h) f⟩
theorem Ke:∀{ts:List Re},DC ts->DH [9,10] ts=false->IF (λs=>BJ s=0) ts
 | [],_,_=>trivial
 | t::ts,h,hu=>by
  simp only[DC] at h;simp only[DH,iD] at hu;exact ⟨GK h.1 hu.1,Ke h.2 hu.2⟩
end
theorem Wh:∀(l:List (Int×Int)) (p:Option Int),DW p l=0->∀s∈l,EA s:=by
 intro l
 induction l with
 | nil=>simp
 | cons a l ih=>
  intro p h s hs;rw[Ci] at h;by_cases b:Dz a=false
  .rw[if_pos b] at h;simp at h
  rw[if_neg b] at h;have c:DW (some a.2) l=0:=by
   split at h
   .split at h
    .simp at h
    .exact h
   .simpa using h
  rcases dZ.1 hs with rfl|hs
  .simp[Dz] at b;exact ⟨qO,qO,qO⟩
  .exact ih _ c s hs
theorem MZ {s:oF} (h:BJ s=0):(∀p∈s,EA p)∧s.length<=16:=by
 unfold BJ at h;split at h
 .cases h
 .exact ⟨Wh _ _ h,qO⟩
theorem Mb:∀{ll:nZ},(∀l∈ll,BJ l=0)->HP ll=0
 | [],_=>rfl
 | l::ll,h=>by
  unfold HP;rw[if_neg (by simp[h l qP])];exact Mb λx a=>h x (by simp[a])
theorem WB {ll:nZ} (h:∀l∈ll,BJ l=0):∀s∈ll.flatten,EA s:=λs hs=>by
 obtain ⟨l,a,b⟩:=iA.1 hs;exact (MZ (h l a)).1 s b
theorem QN {ll:nZ} (h:∀l∈ll,BJ l=0):ll.flatten.length<=16*ll.length:=by
 induction ll with
 | nil=>simp
 | cons l ll ih=>
  have h1:=(MZ (h l qP)).2;have h2:=ih λx a=>h x (by simp[a]);rw[fE,dN,d_];omega
structure Fam (r:Re) (L:List Re):Prop where
 ok:∀x∈L,Au x∧x.size<=300
 nd:L.Nodup
 ne:L≠[]
 cl:∀P,Cu P r->∀x∈L,Cu P x
theorem Fam.push {r y:Re} {L:List Re} (h:Fam r L) (g:Au y∧y.size<=300) (hn:y∉L) (i:∀P,Cu P r->Cu P y):Fam r (L++[y]):=by
 refine ⟨λx d=>?_,?_,qP,λP e x d=>?_⟩
 .rcases eC.1 d with c|c
  .exact h.ok x c
  .rw[dO.1 c];exact g
 .rw[gN];exact ⟨h.nd,qP,λa f b hb=>by rw[dO.1 hb];rintro rfl;exact hn f⟩
 .rcases eC.1 d with c|c
  .exact h.cl P e x c
  .rw[dO.1 c];exact i P e
theorem Fam.first {r:Re} (b:Au (CR r)) (d:(CR r).size<=300):Fam r [CR r]:=
 ⟨λx a=>by rw[dO.1 a];exact ⟨b,d⟩,qP,qP,λP c x a=>by rw[dO.1 a];exact Qp c⟩
theorem Ic:∀{ll:nZ} {k:Nat} {l:oF},(∀x∈ll.take k,BJ x=0)->ll[k]?=some l->BJ l≠0->HP ll=BJ l
 | [],_,_,_,h,_=>by simp at h
 | x::ll,0,l,_,h,hc=>by simp at h;subst h;unfold HP;rw[if_pos hc]
 | x::ll,k+1,l,hz,h,hc=>by
  unfold HP;rw[if_neg (by simpa using hz x qP)];exact Ic (k:=k) (λy a=>hz y (by simp[a])) (by simpa using h) hc
theorem FI:∀{ll:nZ},(∀x∈ll,BJ x=0)->HP ll=0
 | [],_=>rfl
 | x::ll,h=>by
  unfold HP;rw[if_neg (by simpa using h x qP)];exact FI λy a=>h y (by simp[a])
theorem VX {w:World} {base e size n c:Nat} {a:oE} {xs:n_} (h:w.ownsRow base e size (.slice a n c) n xs):n<=c∧c<=9223372036854775807:=by
 rcases h.2 with ⟨i,h0⟩|⟨g,cap,cur,f,_,_,d,b,_⟩
 .simp only[Value.slice.injEq] at i;omega
 .simp only[Value.slice.injEq] at f;obtain ⟨_,_,rfl⟩:=f;exact ⟨d,b⟩
def Wz (base:Nat) (w:World) (r:Value) (out:nZ) (e:Int):Prop:=∃a c,r=.tuple #[.slice a out.length c,I6 e]∧Ct (λb=>base<=b) w (.slice a out.length c) out
theorem VK {ll:nZ} {i:Nat} {l:oF} (h:ll[i]?=some l):Kv (ll.take (i+1)).flatten=Kv (ll.take i).flatten++l.flatMap λs=>[s.1,s.2+1]:=by
 rw[IS h];unfold Kv;rw[kB,fH]
theorem VL {l:oF} {j:Nat} {s:Sp} (h:l[j]?=some s):(l.take (j+1)).flatMap (λs=>[s.1,s.2+1])=(l.take j).flatMap (λs=>[s.1,s.2+1])++[s.1,s.2+1]:=by
 rw[CL h,kB];simp
theorem WV {p q:oB} {i:Nat} {c:Int} (d:q=p∨q=p++[1114112]) (a:q[i]?=some c) (hb:∀x∈p,x<=1114111):(c<=1114111->p[i]?=some c)∧(1114111<c->p.length<=i):=by
 rcases d with rfl|rfl
 .exact ⟨λ_=>a,λh=>absurd (hb c (dK a)) qO⟩
 .rcases eI i p.length with b|b
  .rw[dQ b] at a;exact ⟨λ_=>a,λh=>absurd (hb c (dK a)) qO⟩
  .rw[dX b] at a;have e:=AX a;simp at e;rw[show i - p.length=0 by omega] at a;simp at a;exact ⟨λh=>qO,λ_=>b⟩
theorem TM {p q:oB} (a:q=p∨q=p++[1114112]):p.length<=q.length∧q.length<=p.length+1:=by
 rcases a with rfl|rfl<;>simp
theorem WT {p q:oB} {i:Nat} {c:Int} (d:q=p∨q=p++[1114112]) (hi:i<=p.length) (a:q[i]?=some c):nx p i=c:=by
 unfold nx;rcases d with rfl|rfl
 .rw[a];rfl
 .rcases eI i p.length with b|b
  .rw[dQ b] at a;rw[a];rfl
  .rw[dX b] at a;rw[show i - p.length=0 by omega] at a;simp at a;rw[eR b];simpa using a
theorem WU {p q:oB} {i:Nat} (a:q=p∨q=p++[1114112]) (hi:q.length<=i):nx p i=1114112:=by
 have:=TM a;unfold nx;rw[eR qO];rfl
theorem CSt.on {w:World} {base n:Nat} {vo:Value} {vs:n_} {a:nZ} (h:CSt w base vo vs a) (hn:n=a.length):w.ownsRow base PF 1 vo n vs:=by subst hn;exact h.o
theorem U1 {a:nZ} {c:List (List Bool)} {m:List Bool} (hl:a.length=c.length) (hn:m∉c):∀(j:Nat) q,(a++[[]])[j]?=some q->a[j]?=some q∨(j=c.length∧q=[]∧m∉c):=by
 intro j q b;rcases eI j a.length with d|d
 .left;rwa [dQ d] at b
 .right;rw[dX d] at b;have e:=AX b;simp at e;rw[show j - a.length=0 by omega] at b;simp at b;exact ⟨qO,by simp[b],hn⟩
theorem U2 {vs:n_} {z:Nat} (h:∀(i:Nat) v b,vs[i]?=some v->v.ownBlock=some b->b<z):∀(i:Nat) v b,(vs++[.slice none 0 0])[i]?=some v->v.ownBlock=some b->b<z:=by
 intro i v b a hb;rcases eI i vs.length with c|c
 .rw[dQ c] at a;exact h i v b a hb
 .rw[dX c] at a;have d:=AX a;simp at d;rw[show i - vs.length=0 by omega] at a;simp at a;subst a;cases hb
def D6 (ll:nZ) (c:Int) (e:Nat):oB:=(A5 (ll.take e) c).map PB++List.replicate (ll.length - e) 0
theorem P1 (ll:nZ) (c:Int):D6 ll c 0=List.replicate ll.length 0:=by simp[D6,A5]
theorem RT {ll:nZ} {c:Int} {e:Nat} (h:e<=ll.length):(D6 ll c e).length=ll.length:=by
 simp[D6,A5];omega
theorem P2 {ll:nZ} {c:Int} {e:Nat} {l:oF} (h:ll[e]?=some l):D6 ll c (e+1)=(D6 ll c e).set e (PB (Ca l c)):=by
 have hl:=AX h;unfold D6 A5;rw[CL h,show ll.length - e=(ll.length - (e+1))+1 by omega,nS,eT,eT,eW];have a:(((ll.take e).map λl=>Ca l c).map PB).length=e:=by simp;omega
 rw[List.set_append_right _ _ qO,a,kI];simp
theorem P3 {ll:nZ} {c:Int} {e:Nat} {l:oF} (h:ll[e]?=some l) (hi:Ca l c=false):D6 ll c (e+1)=D6 ll c e:=by
 have hl:=AX h;unfold D6 A5;rw[CL h,show ll.length - e=(ll.length - (e+1))+1 by omega,nS,eT,eT,eW];simp[hi,PB]
theorem RU (ll:nZ) (c:Int):D6 ll c ll.length=(A5 ll c).map PB:=by simp[D6]
theorem YT (a:World) (g c n:Nat) (l q:oB) (e:Sort.Holds (Value.int .i64) a g 0 l.toArray) (d:l.length<=c∧c<=9223372036854775807) (hn:l.length=n) (b:q=Lib.compact l) :
 Bj prog 66 #[.slice (oI g 0) n c] a λr w=>r=.slice (oI g 0) q.length c∧Bw w r q∧Chg (λx=>x=g) a w:=by
 subst hn;subst b;exact YU a g c l e d
theorem Wd (w0:World) (v:Value) (ll:nZ) (h:C0 w0 v ll) (hL:ll.flatten.length≤1048576) (hL2:ll.length≤1048576) :
  Bj prog 26 #[v] w0 λr w=>(∃out e,Kx ll out e∧Wz w0.heap.size w r out e)∧Ah w0 w:=by
 obtain ⟨a,c,rfl,_,hle⟩:=h.form;obtain ⟨base,dy⟩:∃base,base=w0.heap.size:=⟨_,rfl⟩;refine qR func26 rfl ntmps26 rfl (λE=>(AA (qA _ rfl (qA _ rfl (AB (AH (AA (qM _ rfl (qV (AT eH rfl) (qM _ rfl (AB (AW (Ax (λnn_ σ W1=>∃(k:Nat),(∃jj_,σ=BW jj_ [(0,(.slice a ll.length c)),(23,(.slice a ll.length c)),(24,(I6 (ll.length:Int))),(25,(I6 (k:Int)))])∧Chg Aj w0 W1∧(k≤ll.length)∧(∀l∈ll.take k,BJ l=0)∧nn_=ll.length - k) (n:=ll.length - 0) ?_ ?_)))))))))))))
 ·exact ⟨0,oH,E,dR _,qP,rfl⟩
 ·clear E;rintro _ _ W1 ⟨k,⟨j1,rfl⟩,E,hk,hz,rfl⟩;refine AA (qV (A6 rfl rfl) (AB (AH (qC rfl (λfi=>?_) (λfi=>?_)))))
  ·obtain ⟨l,hx⟩:=AU (l:=ll) (i:=k) qO;obtain ⟨b,o,rfl,br⟩:=CD h qO;obtain ⟨ra,rc,af,ar⟩:=br k l hx;refine AM (AC (AH (AW (AA (qV (AL (b:=b) (o:=o) (len:=ll.length) (cap:=c) (i:=k) (o':=o+k) rfl rfl rfl eH Bc qO qO) (qV (AJ rfl Bf (E.cell (λf=>f) af)) (qA _ rfl (AB (AA (qM _ rfl (qE rfl (AS func64 kQ kQ rfl) (Pb _ _ l (ar.ext E)) ?_)))))))))));rintro _ w9 ⟨rfl,X9⟩;have E:=E.ext X9;refine qA _ rfl (AB (AA (qM _ rfl (qV (Bb rfl rfl) (AB (qC rfl (λhc=>?_) (λhc=>?_)))))))
   ·refine AA (qM _ rfl (qA _ rfl (qA _ rfl (AB (AO (Ac (AK (AK (Ac (AK (CA lJ (v:=(.slice none 0 0)) (v':=(I6 (BJ l))) rfl rfl ?_)))))))))));exact ⟨⟨[],BJ l,.inl ⟨by rw[Ic hz hx hc];exact hc,(Ic hz hx hc).symm,rfl⟩,none,0,rfl,D0 _ _⟩,E⟩
   ·refine AM (AV (AC (AN (qV (A0 rfl rfl (A8 qO)) (qM _ rfl (AB (AC ?_)))))));exact ⟨ll.length - (k+1),qO,k+1,oH,E,qO,(λy hy=>by rw[CL hx] at hy;rcases eC.1 hy with h1|h1;exact hz y h1;rw[dO] at h1;subst h1;omega),rfl⟩
  ·have fo:k=ll.length:=qO
   rw[fo,eE] at hz;have bf:=FI hz;have be:∀s∈ll.flatten,EA s:=λs hs=>by obtain ⟨l,hl,hs⟩:=iA.1 hs;exact (Dd (hz l hl)).1.ok s hs
   refine Av (AZ (AZ (Ao (AC (AA (Aw (ps:=[(0,(I6 0))]) (c:=#[(I6 0)]) qD rfl eA Al Ex qD qD qK ?_))))));intro bq wq Nq;have Fq:=Nq.ge E;have E:=E.ext Nq.ext;have Bq:=Nq.blk;refine qA _ rfl (AB (AH (AA (qM _ rfl (qV (AT eH rfl) (qM _ rfl (AB (AW ?_))))))));have b9:=Ps (base:=base) Bq qO;have dk:base≤wq.heap.size:=by have:=E.size;omega
   refine Ax (λnn_ σ W4=>∃(i:Nat) (la:oE) (lc:Nat) (n:Nat) (rs:oB),(∃jj_,σ=BW jj_ [(0,(.slice a ll.length c)),(36,(.slice a ll.length c)),(37,(I6 (ll.length:Int))),(38,(I6 (i:Int))),(7,(.slice la n lc))])∧Chg Aj w0 W4∧(i≤ll.length)∧(rs=Kv (ll.take i).flatten)∧(n=rs.length)∧(W4.ownsRow base Qt 1 (.slice la n lc) n (rs.map (Value.int .i64)))∧(base≤W4.heap.size)∧nn_=ll.length - i) (n:=ll.length - 0) ?_ ?_
   ·exact ⟨0,oI bq 0,1,1,[0],oH,E,dR _,rfl,rfl,b9,dk,rfl⟩
   ·clear E;rintro _ _ W4 ⟨i,la,lc,n,rs,⟨j4,rfl⟩,E,hi,cf,hn,ai,fr,rfl⟩;refine AA (qV (A6 rfl rfl) (AB (AH (qC rfl (λc7=>?_) (λc7=>?_)))))
    ·obtain ⟨l,hx⟩:=AU (l:=ll) (i:=i) qO;obtain ⟨b,o,rfl,br⟩:=CD h qO;obtain ⟨ra,rc,af,ar⟩:=br i l hx;have fq:=X' ll (i+1);rw[IS hx,dN] at fq;have c3:=Ll (ll.take i).flatten;rw[←cf] at c3;refine AM (AC (AH (AW (AA (qV (AL (b:=b) (o:=o) (len:=ll.length) (cap:=c) (i:=i) (o':=o+i) rfl rfl rfl eH Bc qO qO) (qV (AJ rfl Bf (E.cell (λf=>f) af)) (qA _ rfl (AB (AA (qM _ rfl (qV (AT dS rfl) (qM _ rfl (AB (AW (Ax (λnn_ σ W6=>∃(j:Nat) (bu:oE) (b1:Nat) (n2:Nat),(∃jj_,σ=BW jj_ [(0,(.slice (oI b o) ll.length c)),(36,(.slice (oI b o) ll.length c)),(37,(I6 (ll.length:Int))),(38,(I6 (i:Int))),(42,(.slice ra l.length rc)),(43,(I6 (l.length:Int))),(44,(I6 (j:Int))),(7,(.slice bu n2 b1))])∧Chg Aj w0 W6∧(j≤l.length)∧(n2=rs.length+2*j)∧(W6.ownsRow base Qt 1 (.slice bu n2 b1) n2 ((rs++(l.take j).flatMap λs=>[s.1,s.2+1]).map (Value.int .i64)))∧(base≤W6.heap.size)∧nn_=l.length - j) (n:=l.length - 0) ?_ ?_)))))))))))))))
     ·exact ⟨0,la,lc,n,oH,E,dR _,qO,(by simpa using ai),fr,rfl⟩
     ·clear E;rintro _ _ W6 ⟨j,bu,b1,n2,⟨j6,rfl⟩,E,hj,hn2,ac,aj,rfl⟩;refine AA (qV (A6 rfl rfl) (AB (AH (qC rfl (λcp=>?_) (λcp=>?_)))))
      ·obtain ⟨s,hs⟩:=AU (l:=l) (i:=j) qO;obtain ⟨sb,so,rfl,eu⟩:=BR ar qO;have e9:=be s (iA.2 ⟨l,dK hx,dK hs⟩);unfold EA at e9;have d5:=ac;refine AM (AC (AH (AW (AA (qV (AL (b:=sb) (o:=so) (len:=l.length) (cap:=rc) (i:=j) (o':=so+j*2) rfl rfl rfl dS BL qO qO) (qV (AI rfl Dw BL rfl ((eu j s hs).ext E)) (As (v:=(.agg #[(I6 s.1),(I6 s.2)])) (c:=#[(I6 s.1),(I6 s.2)]) (n:=2) qD Df rfl BL rfl rfl rfl qS ?_)))))));intro bt wt Nt;have Ft:=Nt.ge E;have ac:=Az ac Nt.ext;have aj:=dL aj Nt.ext.size;have E:=E.ext Nt.ext;have Bt:=Nt.blk;refine AB (AN (qM _ rfl (qF bt 0 0 rfl eM rfl Al rfl (qV (AJ rfl Ag (Bt.cell rfl)) (qF bt 0 1 rfl eM rfl Al rfl (qV (AJ rfl Ag (Bt.cell rfl)) (qV (A0 rfl rfl (A8 qO)) (Aw (ps:=[(0,(I6 s.1)),(1,(I6 (s.2+1)))]) (c:=#[(I6 s.1),(I6 (s.2+1))]) qD rfl eA Al Ex qD qD qK ?_))))))));intro b8 w8 N8;have F8:=N8.ge E;have O8_bt:=N8.lt Bt;have Bt:=N8.keep Bt;have ac:=Az ac N8.ext;have aj:=dL aj N8.ext.size;have E:=E.ext N8.ext;have B8:=N8.blk;refine BQ (base:=base) (n:=n2) (m:=2) (xs:=((rs++(l.take j).flatMap λs=>[s.1,s.2+1]).map (Value.int .i64))) (news:=[(I6 s.1),(I6 (s.2+1))]) (size:=1) (bytes:=8) (v:=(.slice bu n2 b1)) qD eA Al PA Ex rfl qD rfl ac rfl (rfl) (B8.cells rfl) qS (by unfold maxLen;omega) qO (aj) ?_;intro v9 et d3 ee Dv9;have E:=E.step ee (λx hx h=>absurd (ac.lt x h).1 qO);obtain ⟨fc,e7,rfl⟩:=BB d3;refine qA _ rfl (AB (AV (AC (AN (qV (A0 rfl rfl (A8 qO)) (qM _ rfl (AB (AC ?_))))))));exact ⟨l.length - (j+1),qO,j+1,fc,e7,n2+2,oH,E,qO,qO,(by rw[VL hs,←eW];simpa using d3),dL aj ee.size,rfl⟩
      ·have fs:j=l.length:=qO
       rw[fs,eE] at ac;refine Av (AZ (AZ (Ao (AV (AC (AN (qV (A0 rfl rfl (A8 qO)) (qM _ rfl (AB (AC ?_))))))))));exact ⟨ll.length - (i+1),qO,i+1,bu,b1,n2,Kv (ll.take (i+1)).flatten,oH,E,qO,rfl,(by rw[Ll,IS hx,dN];omega),(by rw[VK hx,←cf];exact ac),aj,rfl⟩
    ·have e2:i=ll.length:=qO
     rw[e2,eE] at cf;have c3:=Ll ll.flatten;rw[←cf] at c3;obtain ⟨dz,d0⟩:n≤lc∧lc≤9223372036854775807:=VX ai;obtain ⟨g,rfl,hgb,hgc⟩:=Co ai qO;have hgl:=ai.lt g rfl;obtain ⟨q,hq⟩:∃q,q=Lib.compact (rs.mergeSort Ly):=⟨_,rfl⟩;obtain ⟨fd,ef⟩:q.Pairwise (· < ·)∧∀x,x∈q↔x∈Kv ll.flatten:=by rw[hq,←cf];exact MW rs
     obtain ⟨p,hP,bv⟩:=WS be fd ef;subst hn;refine Av (AZ (AZ (Ao (AC (AA (qM _ rfl (qE rfl (AS func65 kQ kQ rfl) (XQ _ base g lc rs ai qO) ?_)))))));rintro _ w31 ⟨rfl,eo,d2⟩;have E:=E.step d2 (λx hx hm=>absurd (ai.lt g rfl).1 qO);refine AB (AA (qM _ rfl (qE rfl (AS func66 kQ kQ rfl) (YT _ g lc rs.length (rs.mergeSort Ly) q eo (by simp;omega) qP hq) ?_)));rintro _ es ⟨rfl,en,eb⟩;have E:=E.step eb (λx hx hm=>absurd (ai.lt g rfl).1 qO);refine qA _ rfl (AB (AA (qA _ rfl (AB (AA (G9 EK Eh qD ?_))))));intro bm wm Nm;have Fm:=Nm.ge E;have E:=E.ext Nm.ext;intro Mm;refine qA _ rfl (AB (AH (AA (qM _ rfl (qV (AT eA rfl) (qM _ rfl (AB (AW ?_))))))));obtain ⟨n1,e4⟩:∃n,n=wm.heap.size:=⟨_,rfl⟩;have ei:B_ (λb=>b=g) wm 1 (.slice (oI g 0) q.length lc) (q.map GB):=B_.mk (en.ext Nm.ext) rfl;have eh:bm<n1:=by have:=Mm.lt;omega
     have ex:g<bm:=by have:=eb.size;have:=d2.size;have:=Nm.eq;omega
     have b6:w0.heap.size≤n1:=by have:=E.size;omega
     have d4:∀x∈p,x≤1114111:=λx hx=>(Cn hP be hx).2;have hpl:p.length≤1114112:=K7 hP.1 (λx hx=>Cn hP be hx);have hql:=TM bv;have em:∀x∈q,0≤x∧x≤1114112:=λx hx=>by rcases Lk.1 ((ef x).1 hx) with h1|⟨s,hs,h1⟩;omega;have:=be s hs;unfold EA at this;omega
     refine Ax (λnn_ σ W9=>∃(i2:Nat) (ks:List (List Bool)) (aa:nZ) (vs:n_) (oa:oE) (oc:Nat) (on:Nat),(∃jj_,σ=BW jj_ [(0,(.slice a ll.length c)),(7,(.slice (oI g 0) q.length lc)),(13,(.map (some bm))),(63,(.slice (oI g 0) q.length lc)),(64,(I6 (q.length:Int))),(65,(I6 (i2:Int))),(12,(.slice oa on oc))])∧Chg Aj w0 W9∧Bl W9 bm EK Eh (Ec ks 0)∧(GInv ll p i2 ks aa)∧(i2≤p.length)∧(CSt W9 n1 (.slice oa on oc) vs aa)∧(on=aa.length)∧(B_ (λb=>b=g) W9 1 (.slice (oI g 0) q.length lc) (q.map GB))∧(n1≤W9.heap.size)∧nn_=p.length - i2) (n:=p.length - 0) ?_ ?_
     ·exact ⟨0,[],[],[],none,0,0,oH,E,Mm,GInv.start hP be,dR _,CSt.start _ _,rfl,ei,qO,rfl⟩
     ·clear E Mm;rintro _ _ W9 ⟨i2,ks,aa,vs,oa,oc,on,⟨j9,rfl⟩,E,Mm,hG,hi2,hC,au,hI,dm,rfl⟩;refine AA (qV (A6 rfl rfl) (AB (AH (qC rfl (λcv=>?_) (λcv=>?_)))))
      ·obtain ⟨c1,dp⟩:=AU (l:=q) (i:=i2) qO;obtain ⟨qb,qo,ce,e3⟩:=CX (l:=q) hI.at qO;simp only[fI,Addr.mk.injEq,and_true] at ce;obtain ⟨rfl,rfl⟩:=ce;refine AM (AC (AH (AW (AA (qM _ rfl (qV (AL (b:=g) (o:=0) (len:=q.length) (cap:=lc) (i:=i2) (o':=0+i2) rfl rfl rfl eA Al qO qO) (qV (AJ rfl Ag (e3 i2 c1 dp)) (qA _ rfl (qA _ rfl (AB (AH (AA (qM _ rfl (qV (CN rfl rfl) (AB (qC rfl (λbp=>?_) (λbp=>?_)))))))))))))))))
       ·have c9:i2=p.length:=by have:=(WV bv dp d4).2 bp;omega
        have a2:=hG;rw[c9] at a2;have dw:=hC.join;have bo:=hG.cnt;have cw:=hG.len;refine Av (AZ (UH qD (AZ (AZ (Ao (AC (AH (AA (qM _ rfl (qV (AT eH rfl) (qM _ rfl (AB (AW (Ax (λnn_ σ ck=>∃(k3:Nat) (cs:nZ) (us:n_),(∃jj_,σ=BW jj_ [(12,(.slice oa on oc)),(133,(I6 (on:Int))),(134,(I6 (k3:Int)))])∧Chg Aj w0 ck∧(k3≤aa.length)∧(JSt ck n1 (.slice oa on oc) us aa cs k3)∧(∀c∈cs,c.length≤16)∧(n1≤ck.heap.size)∧nn_=aa.length - k3) (n:=aa.length - 0) ?_ ?_))))))))))))))
        ·exact ⟨0,[],vs,oH,E,dR _,dw,qP,dm,rfl⟩
        ·clear E;rintro _ _ ck ⟨k3,cs,us,⟨j12,rfl⟩,E,fa,hJ,b3,fg,rfl⟩;refine AA (qV (A6 rfl rfl) (AB (AH (qC rfl (λa7=>?_) (λa7=>?_)))))
         ·obtain ⟨o1,ag⟩:=AU (l:=aa) (i:=k3) qO;obtain ⟨u1,cg⟩:=AU (l:=us) (i:=k3) (by have:=hJ.len;omega);obtain ⟨⟨ua,uc,rfl⟩,dg⟩:=hJ.rst k3 u1 o1 (dU _) cg ag;have aq:=hJ.o;rw[←au] at aq;obtain ⟨gg,rfl,ea,ct⟩:=Co aq qO;have a0:=aq.lt gg rfl;have c4:=(a2.ok k3 o1 ag);refine AM (AC (AH (AW (AA (qM _ rfl (qA _ rfl (AB (AA (qM _ rfl (qM _ rfl (qM _ rfl (qM _ rfl (qV (AL (b:=gg) (o:=0) (len:=on) (cap:=oc) (i:=k3) (o':=0+k3) rfl rfl rfl eH Bc qO qO) (qV (AJ (v:=(.slice ua o1.length uc)) rfl Bf ((by have h1:=(aq.cells (g:=gg) rfl) k3 _ cg;rwa [Addr.add_lit] at h1))) (qE rfl (AS func68 kQ kQ rfl) (Vx _ _ o1 dg.at qO c4.1) ?_)))))))))))))));rintro _ e0 ⟨⟨j1,b7,⟨⟨ja,jc,rfl⟩,db⟩⟩,a1⟩;have E:=E.ext a1;obtain ⟨ca,am,d8⟩:=JP (Az aq a1);refine qV (AL (b:=gg) (o:=0) (len:=on) (cap:=oc) (i:=k3) (o':=0+k3) rfl rfl rfl eH Bc qO qO) ?_;have ax:=am;have az:True:=trivial;refine CB (b:=gg) (o:=0+k3) (c':=ca.setIfInBounds (0+k3) (.slice ja j1.length jc)) (v:=(.slice ja j1.length jc)) rfl rfl rfl Bc am qO (rfl) ?_;intro w14 dj;have az:=dj;have E:=dj.step E (by first|exact dH qO|assumption|exact dG rfl|exact dG (by assumption)|exact dG qP|exact dG qO|exact dG (by dsimp only;omega));have am:=dj.blk;refine AB (AA (qM _ rfl (qM _ rfl (qV (AL (b:=gg) (o:=0) (len:=on) (cap:=oc) (i:=k3) (o':=0+k3) rfl rfl rfl eH Bc qO qO) (qV (AJ rfl Bf (am.cell (by rw[jY qO]))) ?_)))));refine qV (AT dS rfl) (qV (CN rfl rfl) (AB (qC rfl (λds=>?_) (λds=>?_))))
          ·refine AA (qA _ rfl (qA _ rfl (AB (AO (Ac (AK (AK (Ac (AK (CA lJ (v:=(.slice none 0 0)) (v':=(I6 2)) rfl rfl ?_))))))))));obtain ⟨cF,dh,dv⟩:=OP a2 hP ag b7 qO;exact ⟨⟨[],2,.inr ⟨bf,cF,dh,.inl ⟨dv,rfl,rfl⟩⟩,none,0,rfl,D0 _ _⟩,E⟩
          ·refine AM (AV (AC (AN (qV (A0 rfl rfl (A8 qO)) (qM _ rfl (AB (AC ?_)))))));exact ⟨aa.length - (k3+1),qO,k3+1,cs++[j1],us.set k3 (.slice ja j1.length jc),oH,E,qO,(by have hS:=JSt.step (hJ.ext a1) au ag (⟨⟨_,_,rfl⟩,db⟩:Kz _ _ _ j1) a0.2 b7 ax (by simpa using az);exact hS),(λc hc=>by rcases eC.1 hc with h1|h1;exact b3 c h1;rw[dO] at h1;subst h1;omega),(by have:=a1.size;have:=az.chg.size;omega),rfl⟩
         ·have ah:k3=aa.length:=qO
          have ap:=a2.done hP (by rw[hJ.cl,ah]) hJ.jn;have ar:=(hJ.doneN ah).mono (S':=λb=>w0.heap.size≤b) (λb hb=>dL b6 hb);have av:cs.length=on:=by rw[hJ.cl,ah,au]
          refine Av (AZ (AZ (Ao (AC (AH (AA (qM _ rfl (qV (AT eH rfl) (qV (CN rfl rfl) (AB (qC rfl (λa6=>?_) (λa6=>?_))))))))))))
          ·refine AA (qA _ rfl (qA _ rfl (AB (AO (AK (CA lJ (v:=(.slice none 0 0)) (v':=(I6 2)) rfl rfl ?_))))));exact ⟨⟨[],2,.inr ⟨bf,cs,ap,.inl ⟨.inr qO,rfl,rfl⟩⟩,none,0,rfl,D0 _ _⟩,E⟩
          ·refine AM (AC (AA (qM _ rfl (qA _ rfl (qA _ rfl (AB (AO (CA lJ (v:=(.slice oa on oc)) (v':=(I6 0)) rfl rfl ?_))))))));rw[←av] at ar;exact ⟨⟨cs,0,.inr ⟨bf,cs,ap,.inr ⟨λc2=>by rcases c2 with ⟨c,h1,h2⟩|h2;have:=b3 c h1;omega;omega,rfl,rfl⟩⟩,oa,oc,by rw[av],ar⟩,E⟩
       ·have E6:Chg Aj W9 W9:=Chg.refl _ _;obtain ⟨z0,fl⟩:∃z0,z0=(W9).heap.size:=⟨_,rfl⟩;have b0:∀(i:Nat) v b,vs[i]?=some v→v.ownBlock=some b→b<z0:=λi v b hv hb=>by obtain ⟨l,hl⟩:=hC.some hv;have:=((hC.inn i v l hv hl).lt b hb).2;omega
        have d9:=(WV bv dp d4).1 qO;have hlp:=AX d9;refine AM (AC (AA (qM _ rfl (qV (B0 (ps:=[(0,(I6 c1)),(1,(I6 1114111))]) (v:=(.agg #[(I6 c1),(I6 1114111)])) rfl qK) (As (v:=(.agg #[(I6 c1),(I6 1114111)])) (c:=#[(I6 c1),(I6 1114111)]) (n:=2) qD Df rfl BL rfl rfl rfl qS ?_)))));intro bx wx Nx;have Fx:=Nx.ge E;have Fx_E6:=Nx.ge E6;have Ox_bm:=Nx.ltM Mm;have Mm:=Nx.keepM Mm;have E:=E.ext Nx.ext;have Bx:=Nx.blk;have E6:=E6.ext Nx.ext;refine AB (Gb (λσ cc=>∃(hi:Int),(∃jj_,σ=BW jj_ [(0,(.slice a ll.length c)),(7,(.slice (oI g 0) q.length lc)),(12,(.slice oa on oc)),(13,(.map (some bm))),(15,(I6 c1)),(16,(P6 bx 0)),(63,(.slice (oI g 0) q.length lc)),(64,(I6 (q.length:Int))),(65,(I6 (i2:Int)))])∧Chg Aj w0 cc∧Chg Aj W9 cc∧Bl cc bm EK Eh (Ec ks 0)∧BV cc bx (#[I6 c1,I6 hi]) 80∧(hi=nx p (i2+1) - 1)) ?_ ?_)
        ·skip
         refine AA (qM _ rfl (qV (A0 rfl rfl (A8 qO)) (qM _ rfl (qV (AT eA rfl) (qV (A6 rfl rfl) (AB (qC rfl (λfh=>?_) (λfh=>?_))))))))
         ·obtain ⟨d1,cr⟩:=AU (l:=q) (i:=i2+1) qO;have hdn:=WT bv qO cr;have hdb:=em d1 (dK cr);refine AN (qM _ rfl (qM _ rfl (qV (A0 rfl rfl (A8 qO)) (qV (AL (b:=g) (o:=0) (len:=q.length) (cap:=lc) (i:=i2+1) (o':=0+(i2+1)) rfl rfl qO eA Al qO qO) (qV (AJ rfl Ag (((hI.chg E6 λ_ _ f=>f).at |> λhh=>by obtain ⟨qb,qo,ec,fk⟩:=CX (l:=q) hh qO;simp only[fI,Addr.mk.injEq,and_true] at ec;obtain ⟨rfl,rfl⟩:=ec;exact fk (i2+1) d1 cr))) (qV (DZ (k:=.i64) (a:=d1) (b:=1) (c:=d1 - 1) rfl rfl (A8 qO)) (qF bx 0 1 rfl eM rfl Al rfl (CB (b:=bx) (o:=1) (c':=#[(I6 c1),(I6 (d1 - 1))]) (v:=(I6 (d1 - 1))) rfl rfl rfl Al Bx qP rfl ?_))))))));intro w19 cm;have Mm:=cm.keepM qO Mm;have E:=cm.step E (by first|exact dH qO|assumption|exact dG rfl|exact dG (by assumption)|exact dG qP|exact dG qO|exact dG (by dsimp only;omega));have E6:=cm.step E6 (dH qO);have Bx:=cm.blk;refine AB (AC ?_);exact ⟨d1 - 1,oH,E,E6,Mm,Bx,qO⟩
         ·refine AM (AC ?_);exact ⟨1114111,oH,E,E6,Mm,Bx,(by rw[WU bv qO];rfl)⟩
        ·clear E E6 Mm Bx;rintro _ cc ⟨hi,⟨j17,rfl⟩,E,E6,Mm,Bx,ey⟩;refine AA (qM _ rfl (qV (AT eH rfl) (ZL (n:=ll.length) (z:=(.int .u8 0)) (bytes:=1) qD kY ZH cG bO rfl rfl rfl qO qO ?_)));intro bk wk Nk;have Fk:=Nk.ge E;have Fk_E6:=Nk.ge E6;have Ok_bm:=Nk.ltM Mm;have Ok_bx:=Nk.lt Bx;have Mm:=Nk.keepM Mm;have Bx:=Nk.keep Bx;have E:=E.ext Nk.ext;have Bk:=Nk.blk;have E6:=E6.ext Nk.ext;refine qA _ rfl (AB (AH (AA (qM _ rfl (qV (AT eH rfl) (qM _ rfl (AB (AW ?_))))))));rw[show (List.replicate ll.length (Value.int .u8 0))=(D6 ll c1 0).map (Value.int .u8) from by rw[P1,List.map_replicate]] at Bk;refine Ax (λnn_ σ bh=>∃(e1:Nat),(∃jj_,σ=BW jj_ [(0,(.slice a ll.length c)),(7,(.slice (oI g 0) q.length lc)),(12,(.slice oa on oc)),(13,(.map (some bm))),(15,(I6 c1)),(16,(P6 bx 0)),(17,(.slice (oI bk 0) ll.length ll.length)),(63,(.slice (oI g 0) q.length lc)),(64,(I6 (q.length:Int))),(65,(I6 (i2:Int))),(89,(.slice a ll.length c)),(90,(I6 (ll.length:Int))),(91,(I6 (e1:Int)))])∧Chg Aj w0 bh∧Chg Aj W9 bh∧Bl bh bm EK Eh (Ec ks 0)∧BV bh bx #[(I6 c1),(I6 hi)] 80∧BV bh bk (((D6 ll c1 e1).map (Value.int .u8)).toArray) 5∧(e1≤ll.length)∧nn_=ll.length - e1) (n:=ll.length - 0) ?_ ?_
         ·exact ⟨0,oH,E,E6,Mm,Bx,Bk,dR _,rfl⟩
         ·clear E E6 Mm Bx Bk;rintro _ _ bh ⟨e1,⟨j20,rfl⟩,E,E6,Mm,Bx,Bk,fp,rfl⟩;refine AA (qV (A6 rfl rfl) (AB (AH (qC rfl (λcy=>?_) (λcy=>?_)))))
          ·obtain ⟨l6,di⟩:=AU (l:=ll) (i:=e1) qO;obtain ⟨b,o,rfl,br⟩:=CD h qO;obtain ⟨ra,rc,af,ar⟩:=br e1 l6 di;refine AM (AC (AH (AW (AA (qM _ rfl (qV (AL (b:=b) (o:=o) (len:=ll.length) (cap:=c) (i:=e1) (o':=o+e1) rfl rfl rfl eH Bc qO qO) (qV (AJ rfl Bf (E.cell (λf=>f) af)) (qA _ rfl (qA _ rfl (AB (AA (qM _ rfl (qM _ rfl (qE rfl (AS func67 kQ kQ rfl) (Zi _ _ l6 c1 (ar.ext E)) ?_))))))))))))));rintro _ w51 ⟨rfl,b5⟩;have Mm:=b5.keepM Mm;have Bx:=b5.keep Bx;have Bk:=b5.keep Bk;have E:=E.ext b5;have E6:=E6.ext b5;refine AB (A4 rfl (λbz=>?_) (λbz=>?_))
           ·have da:=bz;have hml:=RT (c:=c1) fp;refine AN (qM _ rfl (qM _ rfl (qV (AL (b:=bk) (o:=0) (len:=ll.length) (cap:=ll.length) (i:=e1) (o':=0+e1) rfl rfl rfl kY ZH qO qO) (CB (b:=bk) (o:=0+e1) (c':=((D6 ll c1 (e1+1)).map (Value.int .u8)).toArray) (v:=(.int .u8 1)) rfl rfl rfl ZH Bk (by simp;omega) (by rw[P2 di,bz];simp[PB,List.map_set]) ?_))));intro w23 bw;have Mm:=bw.keepM qO Mm;have Bx:=bw.keep qO Bx;have E:=bw.step E (by first|exact dH qO|assumption|exact dG rfl|exact dG (by assumption)|exact dG qP|exact dG qO|exact dG (by dsimp only;omega));have E6:=bw.step E6 (dH qO);have Bk:=bw.blk;refine AB (AV (AC (AN (qV (A0 rfl rfl (A8 qO)) (qM _ rfl (AB (AC ?_)))))));exact ⟨ll.length - (e1+1),qO,e1+1,oH,E,E6,Mm,Bx,Bk,qO,rfl⟩
           ·have da:=bz;have df:D6 ll c1 (e1+1)=D6 ll c1 e1:=P3 di bz;rw[←df] at Bk;refine AM (AV (AC (AN (qV (A0 rfl rfl (A8 qO)) (qM _ rfl (AB (AC ?_)))))));exact ⟨ll.length - (e1+1),qO,e1+1,oH,E,E6,Mm,Bx,Bk,qO,rfl⟩
          ·have ej:e1=ll.length:=qO
           rw[ej,RU] at Bk;refine Av (AZ (AZ (Ao (AC (AA (qM _ rfl (qM _ rfl (qV (Lo kY kV hY rfl Bk (by simp[A5])) (CM (v:=(.tuple #[(I6 ((C_ (Ec ks 0) (Hj (A5 ll c1))).getD 0)),(.bool ((C_ (Ec ks 0) (Hj (A5 ll c1))).isSome))])) rfl rfl qD (NR (k:=(Hj (A5 ll c1))) (z:=0) underlying104 (H0 hY) Ex Mm rfl rfl) (qM _ rfl (qV (BA rfl rfl) (qV (BA rfl rfl) (qA _ rfl (qA _ rfl (AB ?_)))))))))))))));have ay:=hC.ext E6;have bn:=hI.chg E6 λ_ _ f=>f;have a8:=dL dm E6.size;have bo:=hG.cnt;have ch:on=ks.length:=by rw[au,hG.len]
           refine Gb (λσ a3=>∃(kk:Nat) (bi:List (List Bool)) (ad:nZ) (b4:n_) (dd:oE) (al ak:Nat),(∃jj_,σ=BW jj_ [(0,(.slice a ll.length c)),(7,(.slice (oI g 0) q.length lc)),(13,(.map (some bm))),(16,(P6 bx 0)),(63,(.slice (oI g 0) q.length lc)),(64,(I6 (q.length:Int))),(65,(I6 (i2:Int))),(12,(.slice dd ak al)),(20,(I6 (kk:Int)))])∧Chg Aj w0 a3∧Bl a3 bm EK Eh (Ec bi 0)∧BV a3 bx #[(I6 c1),(I6 hi)] 80∧BV a3 bk ((((A5 ll c1).map PB).map (Value.int .u8)).toArray) 5∧(bi=Hq ks (A5 ll c1))∧(ad.length=bi.length)∧(∀(j:Nat) q,ad[j]?=some q→aa[j]?=some q∨(j=ks.length∧q=[]∧A5 ll c1∉ks))∧(bi[kk]?=some (A5 ll c1))∧(CSt a3 n1 (.slice dd ak al) b4 ad)∧(ak=ad.length)∧(B_ (λb=>b=g) a3 1 (.slice (oI g 0) q.length lc) (q.map GB))∧(n1≤a3.heap.size)∧(∀(i:Nat) v b,b4[i]?=some v→v.ownBlock=some b→b<z0)) ?_ ?_
           ·skip
            refine AA (qM _ rfl (qV (C1 rfl) (AB (A4 rfl (λae=>?_) (λae=>?_)))))
            ·have cb:=ae;have ae:=by simpa using ae
             have fe:C_ (Ec ks 0) (Hj (A5 ll c1))=none:=by simpa using ae
             obtain ⟨ci,c8⟩:=RW fe;refine AA (qM _ rfl (qV (AT eH rfl) (qA _ rfl (AB (AA (qM _ rfl (qM _ rfl (qV (Lo kY kV hY rfl Bk (by simp[A5])) (qM _ rfl (Ea (k:=(Hj (A5 ll c1))) (v:=(on:Int)) underlying104 (H0 hY) Mm rfl rfl rfl ?_))))))))));intro w26 bg ff;have a8:=dL a8 bg.chg.size;have ay:=ay.chg bg.chg λb h1 _ h2=>absurd h2 qO;have bn:=bn.chg bg.chg λb h1 h2=>by subst h1;omega
             have Bx:=bg.keep qO Bx;have Bk:=bg.keep qO Bk;have E:=bg.step E (by first|exact dH qO|assumption|exact dG rfl|exact dG (by assumption)|exact dG qP|exact dG qO|exact dG (by dsimp only;omega));have Mm:=ff;refine AB (AN (qM _ rfl (Aw (ps:=[(0,(.slice none 0 0))]) (c:=#[(.slice none 0 0)]) qD rfl eH Bc Kc qD qD qK ?_)));intro b27 w27 an;have F27:=an.ge E;have O27_bm:=an.ltM Mm;have O27_bx:=an.lt Bx;have O27_bk:=an.lt Bk;have Mm:=an.keepM Mm;have Bx:=an.keep Bx;have Bk:=an.keep Bk;have ay:=ay.ext an.ext;have bn:=bn.chg an.ext λ_ _ f=>f;have a8:=dL a8 an.ext.size;have E:=E.ext an.ext;have ew:=an.blk;refine BQ (base:=n1) (n:=on) (m:=1) (xs:=vs) (news:=[(.slice none 0 0)]) (size:=1) (bytes:=24) (v:=(.slice oa on oc)) qD eH Bc TU Kc rfl qD rfl (ay.on au) rfl (rfl) (ew.cells rfl) qS (by unfold maxLen;omega) qO (a8) ?_;intro v7 w59 dx bb er;have Mm:=bb.keepM (λh=>by have:=(ay.o.lt _ h).1;omega) Mm;have Bx:=bb.keep (λh=>by have:=(hC.o.lt _ h).2;omega) Bx;have Bk:=bb.keep (λh=>by have:=(hC.o.lt _ h).2;omega) Bk;have E:=E.step bb (λx hx h=>absurd ((ay.on au).lt x h).1 qO);obtain ⟨ep,e5,rfl⟩:=BB dx;rw[ch,c8] at Mm;refine qA _ rfl (AB (AC ?_));exact ⟨on,ks++[A5 ll c1],aa++[[]],vs++[.slice none 0 0],ep,e5,on+1,oH,E,Mm,Bx,Bk,(by unfold Hq;rw[if_neg ci]),(by simp;omega),U1 hG.len ci,(by rw[ch];simp),ay.push (by rw[←au];exact dx) bb er,(by simp;omega),bn.chg bb λb h1 h2=>by subst h1;have:=(ay.o.lt _ h2).1;omega,dL a8 bb.size,U2 b0⟩
            ·have cb:=ae;have ae:=by simpa using ae
             have eg:(C_ (Ec ks 0) (Hj (A5 ll c1))).isSome=true:=by simpa using ae
             obtain ⟨v9,d7⟩:=mO.1 eg;obtain ⟨j9,rfl,ed⟩:=UC d7;rw[show (C_ (Ec ks 0) (Hj (A5 ll c1))).getD 0=((j9:Nat):Int) from by rw[d7];rfl];refine AM (AC ?_);exact ⟨j9,ks,aa,vs,oa,oc,on,oH,E,Mm,Bx,Bk,(by unfold Hq;rw[if_pos (dK ed)]),qO,(λj q h=>.inl h),ed,ay,au,bn,a8,b0⟩
           ·clear E Mm Bx Bk;rintro _ a3 ⟨kk,bi,ad,b4,dd,al,ak,⟨j24,rfl⟩,E,Mm,Bx,Bk,de,cu,b2,bc,a5,a9,fb,ez,d6⟩;obtain ⟨o1,ag⟩:=AU (l:=ad) (i:=kk) (by have:=AX bc;omega);obtain ⟨v1,ba⟩:=AU (l:=b4) (i:=kk) (by have:=a5.len;have:=AX bc;omega);obtain ⟨va,vc,rfl⟩:=BB (a5.inn kk v1 o1 ba ag);have hko:=AX ag;have fj:o1.length≤i2:=by rcases b2 kk o1 ag with h1|⟨_,h1,_⟩;exact (hG.ok kk o1 h1).2;subst h1;exact dR _
            obtain ⟨gg,rfl,ea,ct⟩:=Co (a5.on a9) qO;have a0:=a5.o.lt gg rfl;have a4:=a5.inn kk _ o1 ba ag;obtain ⟨h0,fn⟩:∃h0,h0=(a3).heap.size:=⟨_,rfl⟩;obtain ⟨dn,ab⟩:∃Fs:List (FactT ((λy=>(Value.slice va o1.length vc).ownBlock=some y))),Fs=[.eq (.slice (oI gg 0) ak al),.eq (I6 (kk:Int)),.eq (.slice (oI gg 0) ak al),.eq (I6 (kk:Int)),.eq (.pointer (some ⟨gg,0+kk,none⟩)),.eq (.slice va o1.length vc),.eq (.agg #[(I6 c1),(I6 hi)]),.till (I4 Mt #[I6 c1,I6 hi] 0) (HD _ _ _),.own (M3 n1 Mt 2 (o1.length+1) ((o1.map Ba).flatten++[I6 c1,I6 hi]) (.slice va o1.length vc) h0) (HQ _ _ _ _ _ _ _)]:=⟨_,rfl⟩;refine LG ((λy=>(Value.slice va o1.length vc).ownBlock=some y)) 9 8 [121,122,123,124,125,126,127,128,129] [[],[],[],[],[2,3],[4],[],[6],[5,7]] dn ab rfl mixed qK qK qK ?_ ?_
            ·intro wd X0;refine DagStepsT.cons (λs' w' X U H=>?_) ?_
             ·exact BZ (Am (U 12 rfl)) (Chg.refl _ _) rfl
             refine DagStepsT.cons (λs' w' X U H=>?_) ?_
             ·exact BZ (Am (U 20 rfl)) (Chg.refl _ _) rfl
             refine DagStepsT.cons (λs' w' X U H=>?_) ?_
             ·exact BZ (Am (U 12 rfl)) (Chg.refl _ _) rfl
             refine DagStepsT.cons (λs' w' X U H=>?_) ?_
             ·exact BZ (Am (U 20 rfl)) (Chg.refl _ _) rfl
             refine DagStepsT.cons (λs' w' X U H=>?_) ?_
             ·have dt:s' 123=(.slice (oI gg 0) ak al):=H 2 rfl 123 (.eq (.slice (oI gg 0) ak al)) rfl (by rw[ab];rfl);have c0:s' 124=(I6 ((kk:Nat):Int)):=H 3 rfl 124 (.eq (I6 ((kk:Nat):Int))) rfl (by rw[ab];rfl);exact BZ (AL (i:=kk) dt c0 rfl eH Bc qO qO) (Chg.refl _ _) rfl
             refine DagStepsT.cons (λs' w' X U H=>?_) ?_
             ·have c5:s' 125=(.pointer (some ⟨gg,0+kk,none⟩)):=H 4 rfl 125 (.eq (.pointer (some ⟨gg,0+kk,none⟩))) rfl (by rw[ab];rfl);exact BZ (AJ c5 Bf (by have h1:=ct kk _ ba;exact (Ah.cell X (X0.cell h1)))) (Chg.refl _ _) rfl
             refine DagStepsT.cons (λs' w' X U H=>?_) ?_
             ·exact BZ (AI (U 16 rfl) Dw BL rfl ((Chg.keep X (λh=>by have:=d6 kk _ _ ba h;omega) (X0.keep Bx)).cells rfl)) (Chg.refl _ _) rfl
             refine DagStepsT.cons (λs' w' X U H=>?_) ?_
             ·have cq:s' 127=(.agg #[(I6 c1),(I6 hi)]):=H 6 rfl 127 (.eq (.agg #[(I6 c1),(I6 hi)])) rfl (by rw[ab];rfl);exact Ih dS BL Df cq qD qD qK (dR _)
             refine DagStepsT.cons (λs' w' X U H=>?_) ?_
             ·have du:s' 126=(.slice va o1.length vc):=H 5 rfl 126 (.eq (.slice va o1.length vc)) rfl (by rw[ab];rfl);obtain ⟨ek,cz,cx,_⟩:=(show (.till (I4 Mt #[I6 c1,I6 hi] 0) (HD _ _ _):FactT ((λy=>(Value.slice va o1.length vc).ownBlock=some y))).In (s' 128) w' from FactT.at_false (H 7 rfl 128 (.till (I4 Mt #[I6 c1,I6 hi] 0) (HD _ _ _)) rfl (by rw[ab];rfl)));exact GE dS BL Ma Df rfl qD du (Az (Az a4 X0) X) cz rfl (cx.cells rfl) qS (by unfold maxLen;omega) qO (by have:=X0.size;have:=X.size;omega) (λy h=>h) (by have:=X0.size;have:=X.size;omega)
             exact DagStepsT.nil
            ·intro s' e6 fm X0 cj U H;have dc:s' 121=(.slice (oI gg 0) ak al):=H 0 121 (.eq (.slice (oI gg 0) ak al)) rfl (by rw[ab];rfl);have dr:s' 122=(I6 ((kk:Nat):Int)):=H 1 122 (.eq (I6 ((kk:Nat):Int))) rfl (by rw[ab];rfl);obtain ⟨⟨aw,ao,bd⟩,bs,cd⟩:=(show (.own (M3 n1 Mt 2 (o1.length+1) ((o1.map Ba).flatten++[I6 c1,I6 hi]) (.slice va o1.length vc) h0) (HQ _ _ _ _ _ _ _):FactT ((λy=>(Value.slice va o1.length vc).ownBlock=some y))).In (s' 129) fm from H 8 129 (.own (M3 n1 Mt 2 (o1.length+1) ((o1.map Ba).flatten++[I6 c1,I6 hi]) (.slice va o1.length vc) h0) (HQ _ _ _ _ _ _ _)) rfl (by rw[ab];rfl));obtain ⟨j28,rfl⟩:=Ak.out (σ:=s') (l:=[(0,(.slice a ll.length c)),(7,(.slice (oI g 0) q.length lc)),(12,(.slice (oI gg 0) ak al)),(13,(.map (some bm))),(63,(.slice (oI g 0) q.length lc)),(64,(I6 ((q.length:Nat):Int))),(65,(I6 ((i2:Nat):Int))),(121,(.slice (oI gg 0) ak al)),(122,(I6 ((kk:Nat):Int))),(129,(.slice aw (o1.length+1) ao))]) ⟨U 0 rfl,U 7 rfl,U 12 rfl,U 13 rfl,U 63 rfl,U 64 rfl,U 65 rfl,dc,dr,bd,trivial⟩;clear U H;have Mm:=Chg.keepM cj (λh=>by have:=(a4.lt _ h).1;omega) (X0.keepM Mm);have Bx:=Chg.keep cj (λh=>by have:=d6 kk _ _ ba h;omega) (X0.keep Bx);have co:=Chg.trans (Ah.chg X0) cj;have E:=(E.ext X0).step cj (λy hy h=>by have:=(a4.lt _ h).1;omega);obtain ⟨ca,am,d8⟩:=JP (CH (a5.on a9) co (λb hb hm=>a5.apo kk _ _ ba hm hb));have c6:=fb.chg co λb h1 h2=>by subst h1;have:=(a4.lt _ h2).1;omega
             have dq:=dL ez co.size;refine qV (AL (b:=gg) (o:=0) (len:=ak) (cap:=al) (i:=kk) (o':=0+kk) rfl rfl rfl eH Bc qO qO) ?_;have ax:=am;have az:True:=trivial;refine CB (b:=gg) (o:=0+kk) (c':=ca.setIfInBounds (0+kk) (.slice aw (o1.length+1) ao)) (v:=(.slice aw (o1.length+1) ao)) rfl rfl rfl Bc am qO (rfl) ?_;intro et bj;have c6:=c6.chg bj.chg λb h1 h2=>by subst h1;omega
             have dq:=dL dq bj.chg.size;have az:=bj;have Mm:=bj.keepM qO Mm;have E:=bj.step E (by first|exact dH qO|assumption|exact dG rfl|exact dG (by assumption)|exact dG qP|exact dG qO|exact dG (by dsimp only;omega));have am:=bj.blk;have e8:=a5.grow a9 ba ag (x:=(c1,hi)) (v':=.slice aw (o1.length+1) ao) (by rw[bd] at bs;simpa[Ba] using bs) co (by rw[bd,fn] at cd;exact cd) ax (by simpa using az);refine AB (AV (AC (AN (qV (A0 rfl rfl (A8 qO)) (qM _ rfl (AB (AC ?_)))))));exact ⟨p.length - (i2+1),qO,i2+1,bi,ad.set kk (o1++[(c1,hi)]),b4.set kk (.slice aw (o1.length+1) ao),oI gg 0,al,ak,oH,E,Mm,(by rw[ey];exact hG.step hP be d9 de cu b2 bc ag),qO,e8,(by simp;omega),c6,dq,rfl⟩
      ·have c9:i2=p.length:=qO
       have a2:=hG;rw[c9] at a2;have dw:=hC.join;have bo:=hG.cnt;have cw:=hG.len;refine Av (AZ (AZ (Ao (AC (AH (AA (qM _ rfl (qV (AT eH rfl) (qM _ rfl (AB (AW (Ax (λnn_ σ cn=>∃(k3:Nat) (cs:nZ) (us:n_),(∃jj_,σ=BW jj_ [(12,(.slice oa on oc)),(133,(I6 (on:Int))),(134,(I6 (k3:Int)))])∧Chg Aj w0 cn∧(k3≤aa.length)∧(JSt cn n1 (.slice oa on oc) us aa cs k3)∧(∀c∈cs,c.length≤16)∧(n1≤cn.heap.size)∧nn_=aa.length - k3) (n:=aa.length - 0) ?_ ?_))))))))))))
       ·exact ⟨0,[],vs,oH,E,dR _,dw,qP,dm,rfl⟩
       ·clear E;rintro _ _ cn ⟨k3,cs,us,⟨j30,rfl⟩,E,fa,hJ,b3,fg,rfl⟩;refine AA (qV (A6 rfl rfl) (AB (AH (qC rfl (λa7=>?_) (λa7=>?_)))))
        ·obtain ⟨o1,ag⟩:=AU (l:=aa) (i:=k3) qO;obtain ⟨u1,cg⟩:=AU (l:=us) (i:=k3) (by have:=hJ.len;omega);obtain ⟨⟨ua,uc,rfl⟩,dg⟩:=hJ.rst k3 u1 o1 (dU _) cg ag;have aq:=hJ.o;rw[←au] at aq;obtain ⟨gg,rfl,ea,ct⟩:=Co aq qO;have a0:=aq.lt gg rfl;have c4:=(a2.ok k3 o1 ag);refine AM (AC (AH (AW (AA (qM _ rfl (qA _ rfl (AB (AA (qM _ rfl (qM _ rfl (qM _ rfl (qM _ rfl (qV (AL (b:=gg) (o:=0) (len:=on) (cap:=oc) (i:=k3) (o':=0+k3) rfl rfl rfl eH Bc qO qO) (qV (AJ (v:=(.slice ua o1.length uc)) rfl Bf ((by have h1:=(aq.cells (g:=gg) rfl) k3 _ cg;rwa [Addr.add_lit] at h1))) (qE rfl (AS func68 kQ kQ rfl) (Vx _ _ o1 dg.at qO c4.1) ?_)))))))))))))));rintro _ e0 ⟨⟨j1,b7,⟨⟨ja,jc,rfl⟩,db⟩⟩,a1⟩;have E:=E.ext a1;obtain ⟨ca,am,d8⟩:=JP (Az aq a1);refine qV (AL (b:=gg) (o:=0) (len:=on) (cap:=oc) (i:=k3) (o':=0+k3) rfl rfl rfl eH Bc qO qO) ?_;have ax:=am;have az:True:=trivial;refine CB (b:=gg) (o:=0+k3) (c':=ca.setIfInBounds (0+k3) (.slice ja j1.length jc)) (v:=(.slice ja j1.length jc)) rfl rfl rfl Bc am qO (rfl) ?_;intro es dl;have az:=dl;have E:=dl.step E (by first|exact dH qO|assumption|exact dG rfl|exact dG (by assumption)|exact dG qP|exact dG qO|exact dG (by dsimp only;omega));have am:=dl.blk;refine AB (AA (qM _ rfl (qM _ rfl (qV (AL (b:=gg) (o:=0) (len:=on) (cap:=oc) (i:=k3) (o':=0+k3) rfl rfl rfl eH Bc qO qO) (qV (AJ rfl Bf (am.cell (by rw[jY qO]))) ?_)))));refine qV (AT dS rfl) (qV (CN rfl rfl) (AB (qC rfl (λds=>?_) (λds=>?_))))
         ·refine AA (qA _ rfl (qA _ rfl (AB (AO (Ac (AK (AK (Ac (AK (CA lJ (v:=(.slice none 0 0)) (v':=(I6 2)) rfl rfl ?_))))))))));obtain ⟨cF,dh,dv⟩:=OP a2 hP ag b7 qO;exact ⟨⟨[],2,.inr ⟨bf,cF,dh,.inl ⟨dv,rfl,rfl⟩⟩,none,0,rfl,D0 _ _⟩,E⟩
         ·refine AM (AV (AC (AN (qV (A0 rfl rfl (A8 qO)) (qM _ rfl (AB (AC ?_)))))));exact ⟨aa.length - (k3+1),qO,k3+1,cs++[j1],us.set k3 (.slice ja j1.length jc),oH,E,qO,(by have hS:=JSt.step (hJ.ext a1) au ag (⟨⟨_,_,rfl⟩,db⟩:Kz _ _ _ j1) a0.2 b7 ax (by simpa using az);exact hS),(λc hc=>by rcases eC.1 hc with h1|h1;exact b3 c h1;rw[dO] at h1;subst h1;omega),(by have:=a1.size;have:=az.chg.size;omega),rfl⟩
        ·have ah:k3=aa.length:=qO
         have ap:=a2.done hP (by rw[hJ.cl,ah]) hJ.jn;have ar:=(hJ.doneN ah).mono (S':=λb=>w0.heap.size≤b) (λb hb=>dL b6 hb);have av:cs.length=on:=by rw[hJ.cl,ah,au]
         refine Av (AZ (AZ (Ao (AC (AH (AA (qM _ rfl (qV (AT eH rfl) (qV (CN rfl rfl) (AB (qC rfl (λa6=>?_) (λa6=>?_))))))))))))
         ·refine AA (qA _ rfl (qA _ rfl (AB (AO (AK (CA lJ (v:=(.slice none 0 0)) (v':=(I6 2)) rfl rfl ?_))))));exact ⟨⟨[],2,.inr ⟨bf,cs,ap,.inl ⟨.inr qO,rfl,rfl⟩⟩,none,0,rfl,D0 _ _⟩,E⟩
         ·refine AM (AC (AA (qM _ rfl (qA _ rfl (qA _ rfl (AB (AO (CA lJ (v:=(.slice oa on oc)) (v':=(I6 0)) rfl rfl ?_))))))));rw[←av] at ar;exact ⟨⟨cs,0,.inr ⟨bf,cs,ap,.inr ⟨λc2=>by rcases c2 with ⟨c,h1,h2⟩|h2;have:=b3 c h1;omega;omega,rfl,rfl⟩⟩,oa,oc,by rw[av],ar⟩,E⟩
theorem TF:∀{ll:nZ},(∀l∈ll,BJ l=0)->ll.flatten.length<=16*ll.length
 | [],_=>qP
 | l::ll,h=>by
  have h1:=TF λx a=>h x (eP _ a);have h2:=(Dd (h l eJ)).2;simp only[fE,dN,d_];omega
theorem QG {α:Type} {l:List α} {k:Nat} {x d:α} (h:l[k]?=some x):l.getD k d=x:=by simp[List.getD,h]
theorem Yz {ll:nZ} {k:Nat} (b:k<ll.length) (h:¬Ri ll k):¬(I_ ll∧Hd ll):=λa=>h (a.1 k b)
theorem YJ {ll:nZ} {k:Nat} (b:∀j,j<k->Ri ll j) (h:Ri ll k):∀j,j<k+1->Ri ll j:=λj hj=>by
 rcases eI j k with a|a
 .exact b j a
 .have e:j=k:=qO
  rw[e];exact h
theorem UJ {l:oF} (h:l≠[]):∃s,l[0]?=some s∧BH l=s.1:=by
 cases l with
 | nil=>exact absurd O h
 | cons s l=>exact ⟨s,O,O⟩
theorem bC (a:World) (v:Value) (l:oF) (r:Int) (b:Nat) (h:BP a v l) (c:BV a b #[I6 r] 3):Bj prog 119 #[v,P6 b 0] a λu w=>u=.bool (Ca l r)∧Ah a w:=by
 refine qR func119 O ntmps119 O (λE=>(AA (qA _ O (AB (AA (qM v O (qV (AJ O Ag (c.cell O)) (qE O (AS func67 kQ kQ O) (Zi _ v l r h) ?_))))))));rintro _ w9 ⟨rfl,d⟩;have c:=d.keep c;have E:=E.ext d;refine qA _ O (AB (AO (AY results119 (v:=(.bool (Ca l r))) O ?_)));exact ⟨O,E⟩
theorem LU (j:World) (v fv:Value) (ll:nZ) (p:oF->Bool) (h:C0 j v ll) (C:∀(w:World) (u:Value) (l:oF),Ah j w->BP w u l->l∈ll->CG prog fv #[u] w λr w'=>r=.bool (p l)∧Ah w w') :
 Bj prog 112 #[v,fv] j λr w=>r=I6 (Hg p ll)∧Ah j w:=by
 obtain ⟨a,c,rfl,_,hle⟩:=h.form;refine qR func112 O ntmps112 O (λE=>(AA (qA _ O (AB (AH (AA (qM _ O (qV (AT eH O) (qM _ O (AB (AW (Ax (λnn_ σ z=>∃(k:Nat),(∃jj_,σ=BW jj_ [(0,(.slice a ll.length c)),(1,fv),(7,(I6 (ll.length:Int))),(8,(I6 (k:Int)))])∧Chg Aj j z∧(k<=ll.length)∧(∀(i:Nat) (y:oF),i<k->ll[i]?=some y->p y=false)∧nn_=ll.length - k) (n:=ll.length - 0) ?_ ?_))))))))))))
 .exact ⟨0,oH,E,dR _,(λi y h=>absurd h (fU _)),O⟩
 .clear E;rintro _ _ z ⟨k,⟨j1,rfl⟩,E,hk,e,rfl⟩;refine AA (qV (A6 O O) (AB (AH (qC O (λs=>?_) (λs=>?_)))))
  .obtain ⟨l,m⟩:=AU (l:=ll) (i:=k) qO;obtain ⟨b,o,rfl,t⟩:=CD h qO;obtain ⟨ra,rc,d,q⟩:=t k l m;refine AM (AC (AH (AW (AA (qM _ O (qA _ O (AB (AA (qM _ O (qM _ O (qM _ O (qV (AL (b:=b) (o:=o) (len:=ll.length) (cap:=c) (i:=k) (o':=o+k) O O O eH Bc qO qO) (qV (AJ O Bf (E.cell (λf=>f) d)) (DK qD O O (C _ _ l E (q.ext E) (dK m)) ?_))))))))))))));rintro _ w9 ⟨rfl,B⟩;have E:=E.ext B;refine AB (A4 O (λg=>?_) (λg=>?_))
   .have x:=g;refine AA (qM _ O (qA _ O (AB (AO (Ac (AK (AK (Ac (AK (AY results112 (v:=(I6 ((k:Nat):Int))) O ?_))))))))));exact ⟨BI (GC m g e).symm,E⟩
   .have x:=g;refine AM (AV (AC (AN (qV (A0 O O (A8 qO)) (qM _ O (AB (AC ?_)))))));exact ⟨ll.length - (k+1),qO,k+1,oH,E,qO,GY m g e,O⟩
  .have hkk:k=ll.length:=qO
   refine Av (AZ (AZ (Ao (AC (AA (qA _ O (AB (AO (AY results112 (v:=(I6 (-1))) O ?_)))))))));exact ⟨BI (HF λi y A=>e i y (by have:=AX A;omega) A).symm,E⟩
theorem Q4 (a:World) (v fv:Value) (ll:nZ) (p:oF->Bool) (h:C0 a v ll) (b:∀(w:World) (u:Value) (l:oF),Ah a w->BP w u l->CG prog fv #[u] w λr w'=>r=.bool (p l)∧Ah w w') :
 Bj prog 112 #[v,fv] a λr w=>r=I6 (Hg p ll)∧Ah a w:=
 LU a v fv ll p h λw u l e hs _=>b w u l e hs
def Cg (ll:nZ) (r:Int):Int:=Hg (λl=>Ca l r) ll
theorem UV {cs:nZ} {r:Int} (h:Hd cs) (j:0<=r) (n:r<=1114111):∃(k:Nat) (c:oF),Cg cs r=((k:Nat):Int)∧cs[k]?=some c∧Ca c r=true:=by
 have m:0<cs.countP (λl=>Ca l r):=by rw[h r j n];decide
 have f:∀(cs:nZ),0<cs.countP (λl=>Ca l r)->∃(k:Nat) (c:oF),cs[k]?=some c∧Ca c r=true∧∀i y,i<k->cs[i]?=some y->Ca y r=false:=by
  intro cs
  induction cs with
  | nil=>intro h;cases h
  | cons a cs ih=>
   intro h;cases ha:Ca a r with
   | true=>exact ⟨0,a,O,ha,λi y hi=>absurd hi (fU _)⟩
   | false=>
    rw[List.countP_cons,ha] at h;obtain ⟨k,c,d,b,g⟩:=ih (by simpa using h);refine ⟨k+1,c,d,b,λi y hi e=>?_⟩;cases i with
    | zero=>simp at e;subst e;exact ha
    | succ i=>exact g i y qO (by simpa using e)
 obtain ⟨k,c,d,b,g⟩:=f cs m;exact ⟨k,c,GC d b g,d,b⟩
theorem cH (a:World) (v:Value) (ll:nZ) (r:Int) (h:C0 a v ll):Bj prog 91 #[v,I6 r] a λu w=>u=I6 (Cg ll r)∧Ah a w:=by
 refine qR func91 O ntmps91 O (λE=>(AA (BC (v:=(I6 r)) (c:=#[(I6 r)]) qD O O ?_)));intro d wq f;have E:=E.ext f.ext;have b:=f.blk;refine qA _ O (AB (AA (qM v O (qV (Da O O) (qE O (AS func112 kQ kQ O) (Q4 _ v _ ll (λl=>Ca l r) (h.ext E) (λw u l g hs=>CG.mk (first:=#[]) (cap:=#[P6 d 0]) func119 kQ kQ O (bC w u l r d hs (g.keep b)))) ?_)))));rintro _ w9 ⟨rfl,e⟩;have b:=e.keep b;have E:=E.ext e;refine qA _ O (AB (AO (AY results91 (v:=(I6 (Cg ll r))) O ?_)));exact ⟨O,E⟩
noncomputable def idxE (ll:nZ) (r:Int):Int:=if partE ll≠0 then partE ll else if CJ r then 0 else 1
noncomputable def leastP (ll:nZ):oB:=if partE ll=0 then Zg ll else []
noncomputable def wordE (ll:nZ) (t:oB):Int:=if partE ll≠0 then partE ll else if t.any (λr=>!CJ r) then 1 else 0
noncomputable def wordL (ll:nZ) (t:oB):oB:=if wordE ll t=0 then t.map (Cg ll) else []
theorem Zu (g:World) (C F:Value) (a d:List Bool) (m:Gt g C a) (u:Gt g F d) (hl:a.length=d.length) :
 Bj prog 37 #[C,F] g λv w=>v=.bool (decide (a=d))∧Ah g w:=by
 obtain ⟨L,G,rfl⟩:=BX.form m;obtain ⟨I,A,rfl⟩:=BX.form u;have hb1:a.length<=9223372036854775807:=by simpa using BX.le m
 simp only[dW] at m u⊢;refine qR func37 O ntmps37 O (λE=>(AA (qA _ O (AB (AH (AA (qM _ O (qV (AT iB O) (qM _ O (AB (AW (Ax (λnn_ σ B=>∃(k:Nat),(∃jj_,σ=BW jj_ [(0,(.slice L a.length G)),(1,(.slice I d.length A)),(7,(I6 (a.length:Int))),(8,(I6 (k:Int)))])∧Chg Aj g B∧(k<=a.length)∧(∀(i:Nat),i<k->a[i]?=d[i]?)∧nn_=a.length - k) (n:=a.length - 0) ?_ ?_))))))))))))
 .exact ⟨0,oH,E,dR _,(λi h=>absurd h (fU _)),O⟩
 .clear E;rintro _ _ B ⟨k,⟨j1,rfl⟩,E,hk,e,rfl⟩;refine AA (qV (A6 O O) (AB (AH (qC O (λs=>?_) (λs=>?_)))))
  .obtain ⟨p,t⟩:=AU (l:=a) (i:=k) qO;obtain ⟨q,r⟩:=AU (l:=d) (i:=k) qO;obtain ⟨H,D,rfl,y⟩:=H6 m qO;obtain ⟨J,z,rfl,x⟩:=H6 u qO;refine AM (AC (AH (AW (AA (qM _ O (qA _ O (AB (Eg 8 mixed qK ?_))))))));intro w3 K _;have E:=E.ext K;refine qT (Am O) (qT (Am O) (qT (AL (b:=H) (o:=D) (len:=a.length) (cap:=G) (i:=k) (o':=D+k) O O O iB G8 qO qO) (qT (AJ O HG (E.cell (λf=>f) (y k p t))) (qT (Am O) (qT (Am O) (qT (AL (b:=J) (o:=z) (len:=d.length) (cap:=A) (i:=k) (o':=z+k) O O O iB G8 qO qO) (qT (AJ O HG (E.cell (λf=>f) (x k q r))) (Gc (qV (J7 hU O O) (AB (A4 O (λc=>?_) (λc=>?_))))))))))))
   .have j:=c;refine AA (qA _ O (AB (AO (Ac (AK (AK (Ac (AK (AY results37 (v:=(.bool false)) O ?_)))))))));exact ⟨A' (by symm;rw[decide_eq_false_iff_not];intro h;subst h;rw[t] at r;cases r;simp at c),E⟩
   .have j:=c;refine AM (AV (AC (AN (qV (A0 O O (A8 qO)) (qM _ O (AB (AC ?_)))))));exact ⟨a.length - (k+1),qO,k+1,oH,E,qO,(λi hi=>by rcases eI i k with h|h;exact e i h;obtain rfl:i=k:=qO;rw[t,r];simpa using c),O⟩
  .refine Av (AZ (AZ (Ao (AC (AA (qM _ O (qV (AT iB O) (qM _ O (qV (AT iB O) (qV (Ai O O) (qA _ O (AB (AO (AY results37 (v:=(.bool (decide ((((a.length:Nat):Int):Int)=((d.length:Nat):Int))))) O ?_))))))))))))));exact ⟨A' (by rw[decide_eq_true (show ((a.length:Nat):Int)=((d.length:Nat):Int) by omega)];symm;rw[decide_eq_true_eq];apply fW;intro i;rcases eI i a.length with h|h;exact e i qO;rw[eR h,eR qO]),E⟩
def Qo (m:List Bool):Nat×List Value:=(m.length,m.map Value.bool)
def RC (l:oF):Nat×List Value:=(l.length,(l.map Ba).flatten)
theorem LSt.spssIn {w:World} {base:Nat} {vo:Value} {vs:n_} {ll:nZ} (h:LSt PF Mt 2 w base vo vs (ll.map RC)):Ct (λb=>base<=b) w vo ll:=by
 have d:vs.length=ll.length:=by simpa using h.len
 refine ⟨vs,?_,d,λi u l j d=>?_⟩
 .have e:=h.o;obtain ⟨a,c,rfl⟩:=BB e;rw[show vs=(vs.map λx=>[x]).flatten by simp[jI,lD]] at e;exact Hv (Di e (by intro r g;simp only[eU] at g;obtain ⟨x,_,rfl⟩:=g;rfl) (by simp[d]) qD) e
 .have f:=h.inn i u (RC l) j (by rw[eN,d];rfl);obtain ⟨a,c,rfl⟩:=BB f;exact Hv (Kz.at ⟨⟨a,c,O⟩,f⟩) f
theorem LSt.spss {w:World} {base:Nat} {vo:Value} {vs:n_} {ll:nZ} (h:LSt PF Mt 2 w base vo vs (ll.map RC)):C0 w vo ll:=h.spssIn.at
theorem Yc (x:World) (y A:Nat) (v u:Value) (ll:nZ) (m:List Bool) (r:Int) (g:BV x y #[v] 34) (j:BV x A #[u] 71) (h:C0 x v ll) (I:Gt x u m) (hl:m.length=ll.length) :
 Bj prog 39 #[I6 r,P6 y 0,P6 A 0] x λv w=>v=.bool (decide (A5 ll r=m))∧Ah x w:=by
 obtain ⟨a,c,rfl,_,hle⟩:=h.form;obtain ⟨a2,D,rfl⟩:=BX.form I;simp only[dW] at I j;refine qR func39 O ntmps39 O (λE=>(AA (qA _ O (AB (AH (AA (qV (AJ O FC (g.cell O)) (qV (AT eH O) (qM _ O (AB (AW (Ax (λnn_ σ F=>∃(k:Nat),(∃jj_,σ=BW jj_ [(0,(I6 r)),(1,(P6 y 0)),(2,(P6 A 0)),(7,(I6 (ll.length:Int))),(8,(I6 (k:Int)))])∧Chg Aj x F∧BV F y #[(.slice a ll.length c)] 34∧BV F A #[(.slice a2 m.length D)] 71∧(k<=ll.length)∧(∀(i:Nat),i<k->(A5 ll r)[i]?=m[i]?)∧nn_=ll.length - k) (n:=ll.length - 0) ?_ ?_))))))))))))
 .exact ⟨0,oH,E,g,j,dR _,(λi h=>absurd h (fU _)),O⟩
 .clear E g j;rintro _ _ F ⟨k,⟨j1,rfl⟩,E,g,j,hk,z,rfl⟩;refine AA (qV (A6 O O) (AB (AH (qC O (λQ=>?_) (λQ=>?_)))))
  .obtain ⟨l,hx⟩:=AU (l:=ll) (i:=k) qO;obtain ⟨q,hq⟩:=AU (l:=m) (i:=k) qO;have t:(A5 ll r)[k]?=some (Ca l r):=by unfold A5;rw[eN,hx];rfl
   obtain ⟨b,o,rfl,Z⟩:=CD h qO;obtain ⟨b',o',rfl,V⟩:=H6 I qO;obtain ⟨K,L,s,M⟩:=Z k l hx;refine AM (AC (AH (AW (AA (qM _ O (qA _ O (AB (AH ?_))))))));obtain ⟨N,d⟩:∃Fs:List Fact,Fs=[.eq (.slice (oI b o) ll.length c),.eq (I6 (k:Int)),.eq (.pointer (some ⟨b,o+k,none⟩)),.eq (.slice K l.length L),.eq (I6 r),.eq (.bool (Ca l r)),.eq (.slice (oI b' o') m.length D),.eq (I6 (k:Int)),.eq (.pointer (some ⟨b',o'+k,none⟩)),.eq (.bool q),.eq (.bool (Ca l r != q))]:=⟨_,O⟩;refine Ga [11,12,13,14,15,16,17,18,19,20,21] [[],[],[0,1],[2],[],[3,4],[],[],[6,7],[8],[5,9]] N d mixed qK qK ?_ ?_
   .intro wd B;refine DagSteps.cons (λe w' X U H=>dH ⟨?_,?_⟩) ?_
    .exact AE O
    .exact AP (AJ (U 1 O) FC (((B.trans X).keep g).cell O)) (Ah.refl _) O
    refine DagSteps.cons (λe w' X U H=>dH ⟨?_,?_⟩) ?_
    .exact AE O
    .exact AP (Am (U 5 O)) (Ah.refl _) O
    refine DagSteps.cons (λe w' X U H=>dH ⟨?_,?_⟩) ?_
    .exact AE O
    .have P:e 11=(.slice (oI b o) ll.length c):=H 0 O 11 (.eq (.slice (oI b o) ll.length c)) O (by rw[d];rfl);have S:e 12=(I6 ((k:Nat):Int)):=H 1 O 12 (.eq (I6 ((k:Nat):Int))) O (by rw[d];rfl);exact AP (AL (i:=k) P S O eH Bc qO qO) (Ah.refl _) O
    refine DagSteps.cons (λe w' X U H=>dH ⟨?_,?_⟩) ?_
    .exact AE O
    .have G:e 13=(.pointer (some ⟨b,o+k,none⟩)):=H 2 O 13 (.eq (.pointer (some ⟨b,o+k,none⟩))) O (by rw[d];rfl);exact AP (AJ G Bf ((Chg.ext E (B.trans X)).cell (λf=>f) s)) (Ah.refl _) O
    refine DagSteps.cons (λe w' X U H=>dH ⟨?_,?_⟩) ?_
    .exact AE O
    .exact AP (Am (U 0 O)) (Ah.refl _) O
    refine DagSteps.cons (λe w' X U H=>dH ⟨?_,?_⟩) ?_
    .exact AE O
    .have aa:e 14=(.slice K l.length L):=H 3 O 14 (.eq (.slice K l.length L)) O (by rw[d];rfl);have ab:e 15=(I6 r):=H 4 O 15 (.eq (I6 r)) O (by rw[d];rfl);exact A7 (AS func36 kQ kQ (F_ aa ab)) (JV _ _ l r (M.ext (Chg.ext E (B.trans X))))
    refine DagSteps.cons (λe w' X U H=>dH ⟨?_,?_⟩) ?_
    .exact AE O
    .exact AP (AJ (U 2 O) KO (((B.trans X).keep j).cell O)) (Ah.refl _) O
    refine DagSteps.cons (λe w' X U H=>dH ⟨?_,?_⟩) ?_
    .exact AE O
    .exact AP (Am (U 5 O)) (Ah.refl _) O
    refine DagSteps.cons (λe w' X U H=>dH ⟨?_,?_⟩) ?_
    .exact AE O
    .have ac:e 17=(.slice (oI b' o') m.length D):=H 6 O 17 (.eq (.slice (oI b' o') m.length D)) O (by rw[d];rfl);have R:e 18=(I6 ((k:Nat):Int)):=H 7 O 18 (.eq (I6 ((k:Nat):Int))) O (by rw[d];rfl);exact AP (AL (i:=k) ac R O iB G8 qO qO) (Ah.refl _) O
    refine DagSteps.cons (λe w' X U H=>dH ⟨?_,?_⟩) ?_
    .exact AE O
    .have W:e 19=(.pointer (some ⟨b',o'+k,none⟩)):=H 8 O 19 (.eq (.pointer (some ⟨b',o'+k,none⟩))) O (by rw[d];rfl);exact AP (AJ W HG ((Chg.ext E (B.trans X)).cell (λf=>f) (V k q hq))) (Ah.refl _) O
    refine DagSteps.cons (λe w' X U H=>dH ⟨?_,?_⟩) ?_
    .exact AE O
    .have J:e 16=(.bool (Ca l r)):=H 5 O 16 (.eq (.bool (Ca l r))) O (by rw[d];rfl);have T:e 20=(.bool q):=H 9 O 20 (.eq (.bool q)) O (by rw[d];rfl);exact AP (J7 hU J T) (Ah.refl _) O
    exact DagSteps.nil
   .intro e w3 X3 U H;obtain ⟨j3,rfl⟩:=Ak.out (σ:=e) (l:=[(0,(I6 r)),(1,(P6 y 0)),(2,(P6 A 0)),(7,(I6 ((ll.length:Nat):Int))),(8,(I6 ((k:Nat):Int))),(21,(.bool (Ca l r != q)))]) ⟨U 0 O,U 1 O,U 2 O,U 7 O,U 8 O,(show e 21=(.bool (Ca l r != q)) from H 10 21 (.eq (.bool (Ca l r != q))) O (by rw[d];rfl)),trivial⟩;clear U H;have g:=X3.keep g;have j:=X3.keep j;have E:=E.ext X3;refine AC (A4 O (λp=>?_) (λp=>?_))
    .have C:=p;refine AA (qA _ O (AB (AO (Ac (AK (AK (Ac (AK (AY results39 (v:=(.bool false)) O ?_)))))))));exact ⟨A' (by symm;rw[decide_eq_false_iff_not];intro h;rw[h,hq] at t;cases t;simp at p),E⟩
    .have C:=p;refine AM (AV (AC (AN (qV (A0 O O (A8 qO)) (qM _ O (AB (AC ?_)))))));exact ⟨ll.length - (k+1),qO,k+1,oH,E,g,j,qO,(λi hi=>by rcases eI i k with h|h;exact z i h;obtain rfl:i=k:=qO;rw[t,hq];simpa using p),O⟩
  .refine Av (AZ (AZ (Ao (AC (AA (qA _ O (AB (AO (AY results39 (v:=(.bool true)) O ?_)))))))));exact ⟨A' (by symm;rw[decide_eq_true_eq];apply fW;intro i;rcases eI i ll.length with h|h;exact z i qO;rw[eR (by simpa[A5] using h),eR qO]),E⟩
theorem WX {l:oF} {p:oB} {f:Int->Bool} (e:Dx l p) (b:∀s∈l,EA s) (g:It f p):∃a,Dy a f:=by
 have d:∀k,k<=p.length->∃a,CInv p f a k:=by
  intro k
  induction k with
  | zero=>exact λ_=>⟨[],CInv.start e b⟩
  | succ k ih=>
   intro hk;obtain ⟨a,h⟩:=ih qO;obtain ⟨lo,c⟩:=AU (l:=p) (i:=k) qO;cases hf:f lo with
   | false=>exact ⟨a,h.skip e b g c hf⟩
   | true=>exact ⟨_,h.take e b g c hf⟩
 obtain ⟨a,h⟩:=d p.length (dU _);exact ⟨a,h.done⟩
theorem Sb {l:oF} {p:oB} (ll:nZ) (f:Dx l p) (b:∀s∈l,EA s) (i:l=ll.flatten):∀e:List (List Bool),∃cs:nZ,cs.length=e.length∧∀(k:Nat) a c,e[k]?=some a->cs[k]?=some c->Dy c (λr=>decide (A5 ll r=a))
 | []=>⟨[],O,λk a c h=>by simp at h⟩
 | m::e=>by
  obtain ⟨c,n⟩:=WX f b (I3 (i▸f) m);obtain ⟨cs,o,j⟩:=Sb ll f b i e;refine ⟨c::cs,by simp[o],λk a d g hd=>?_⟩;cases k with
  | zero=>simp at g hd;subst g;subst hd;exact n
  | succ k=>exact j k a d (by simpa using g) (by simpa using hd)
theorem Wc {ll:nZ} {p:oB} {k:Nat} {a:List Bool} {c:oF} (f:Dx ll.flatten p) (b:∀s∈ll.flatten,EA s) (g:(DD (p.map (A5 ll)))[k]?=some a) (m:Dy c (λr=>decide (A5 ll r=a))) (j:16<c.length):∃cs,Gv ll cs∧KE cs:=by
 obtain ⟨cs,h,e⟩:=Sb ll f b O (DD (p.map (A5 ll)));refine ⟨cs,⟨p,f,h,e⟩,.inl ?_⟩;obtain ⟨d,hd⟩:=AU (l:=cs) (i:=k) (by have:=AX g;omega);refine ⟨d,dK hd,?_⟩;rw[Dy.eq (e k a d g hd) m λ_ _ _=>rfl];exact j
theorem Tj {ll cs:nZ} {b:List (List Bool)} {k:Nat} {mk:List Bool} {out:oF} (h:∀(j:Nat) a d,b[j]?=some a->cs[j]?=some d->Dy d (λr=>decide (A5 ll r=a))) (c:cs.length=k) (g:b[k]?=some mk) (i:Dy out (λr=>decide (A5 ll r=mk))) :
 ∀(j:Nat) a d,b[j]?=some a->(cs++[out])[j]?=some d->Dy d (λr=>decide (A5 ll r=a)):=by
 intro j a d f hd;rcases eI j cs.length with e|e
 .rw[dQ e] at hd;exact h j a d f hd
 .rw[dX e] at hd;have l:=AX hd;simp at l;obtain rfl:j=k:=qO
  rw[c,kI] at hd;simp at hd;rw[g] at f;cases f;subst hd;exact i
theorem WQ {m mk:List Bool} {l:List (List Bool)} (h:decide (m∈l)=false):decide (mk=m)=decide (m∈l++[mk]):=by
 have b:=of_decide_eq_false h;rw[decide_eq_decide,eC,dO];constructor
 .exact λe=>.inr e.symm
 .rintro (a|a)
  .exact absurd a b
  .exact a.symm
theorem Zo (T:World) (v:Value) (ll:nZ) (h:C0 T v ll) (hL:ll.flatten.length<=1048576) (hL2:ll.length<=1048576) :
 Bj prog 9 #[v] T λr w=>(∃out e,Kx ll out e∧Wz T.heap.size w r out e)∧Ah T w:=by
 obtain ⟨a,c,rfl,_,hle⟩:=h.form;obtain ⟨base,hbase⟩:∃base,base=T.heap.size:=⟨_,O⟩;refine qR func9 O ntmps9 O (λE=>(AA (BC (v:=(.slice a ll.length c)) (c:=#[(.slice a ll.length c)]) qD O O ?_)));intro bs ws Ns;have E:=E.ext Ns.ext;have g:=Ns.blk;refine qA _ O (qA _ O (AB (AH (AA (qV (AJ O FC (g.cell O)) (qV (AT eH O) (qM _ O (AB (AW (Ax (λnn_ σ W1=>∃(k:Nat),(∃jj_,σ=BW jj_ [(1,(P6 bs 0)),(20,(.slice a ll.length c)),(21,(I6 (ll.length:Int))),(22,(I6 (k:Int)))])∧Chg Aj T W1∧BV W1 bs #[(.slice a ll.length c)] 34∧(k<=ll.length)∧(∀l∈ll.take k,BJ l=0)∧nn_=ll.length - k) (n:=ll.length - 0) ?_ ?_))))))))))
 .exact ⟨0,oH,E,g,dR _,qP,O⟩
 .clear E g;rintro _ _ W1 ⟨k,⟨j1,rfl⟩,E,g,hk,hz,rfl⟩;refine AA (qV (A6 O O) (AB (AH (qC O (λbw=>?_) (λbw=>?_)))))
  .obtain ⟨l,M⟩:=AU (l:=ll) (i:=k) qO;obtain ⟨b,o,rfl,W⟩:=CD h qO;obtain ⟨ra,rc,N,aa⟩:=W k l M;refine AM (AC (AH (AW (AA (qV (AL (b:=b) (o:=o) (len:=ll.length) (cap:=c) (i:=k) (o':=o+k) O O O eH Bc qO qO) (qV (AJ O Bf (E.cell (λf=>f) N)) (qA _ O (AB (AA (qM _ O (qE O (AS func34 kQ kQ O) (O7 _ _ l (aa.ext E)) ?_)))))))))));rintro _ w9 ⟨rfl,X9⟩;have g:=X9.keep g;have E:=E.ext X9;refine qA _ O (AB (AA (qM _ O (qV (Bb O O) (AB (qC O (λhc=>?_) (λhc=>?_)))))))
   .refine AA (qM _ O (qA _ O (qA _ O (AB (AO (Ac (AK (AK (Ac (AK (CA results9 (v:=(.slice none 0 0)) (v':=(I6 (BJ l))) O O ?_)))))))))));exact ⟨⟨[],BJ l,.inl ⟨by rw[Ic hz M hc];exact hc,(Ic hz M hc).symm,O⟩,none,0,O,D0 _ _⟩,E⟩
   .refine AM (AV (AC (AN (qV (A0 O O (A8 qO)) (qM _ O (AB (AC ?_)))))));exact ⟨ll.length - (k+1),qO,k+1,oH,E,g,qO,(λy hy=>by rw[CL M] at hy;rcases eC.1 hy with G|G;exact hz y G;rw[dO] at G;subst G;omega),O⟩
  .have bo:k=ll.length:=qO
   rw[bo,eE] at hz;have ar:=FI hz;have am:∀s∈ll.flatten,EA s:=λs hs=>by obtain ⟨l,hl,hs⟩:=iA.1 hs;exact (Dd (hz l hl)).1.ok s hs
   refine Av (AZ (AZ (Ao (AC (AA (qA _ O (AB (AH (AA (qV (AJ O FC (g.cell O)) (qE O (AS func35 kQ kQ O) (Ls _ _ ll (h.ext E) qO am) ?_)))))))))));rintro _ w9 ⟨⟨p,hP,⟨pa,pc,rfl⟩,hp⟩,X9⟩;have g:=X9.keep g;have E:=E.ext X9;obtain ⟨n1,hn1e⟩:∃n1,n1=(w9).heap.size:=⟨_,O⟩;have hbs1:bs<n1:=by have:=g.lt;omega
   have hwn1:T.heap.size<=n1:=by have:=E.size;omega
   have hpl:p.length<=1114112:=K7 hP.1 (λx M=>Cn hP am M);have z:Chg Aj w9 w9:=Chg.refl _ _;refine qV (AT eA O) (qM _ O (AB (AW (Ax (λnn_ σ U=>∃(i:Nat) (B:List (List Bool)) (vs:n_) (oa:oE) (oc H:Nat),(∃jj_,σ=BW jj_ [(1,(P6 bs 0)),(33,(.slice pa p.length pc)),(34,(I6 (p.length:Int))),(35,(I6 (i:Int))),(7,(.slice oa H oc))])∧Chg Aj T U∧Chg Aj w9 U∧BV U bs #[(.slice a ll.length c)] 34∧(i<=p.length)∧(B=DD ((p.take i).map (A5 ll)))∧(∀m∈B,m.length=ll.length)∧(H=B.length)∧(H<=i)∧(LSt cR TB 1 U n1 (.slice oa H oc) vs (B.map Qo))∧(n1<=U.heap.size)∧nn_=p.length - i) (n:=p.length - 0) ?_ ?_))))
   .exact ⟨0,[],[],none,0,0,oH,E,z,g,dR _,O,(λm h=>absurd h eY),O,dU _,LSt.start _ _ _ _ _,qO,O⟩
   .clear E z g;rintro _ _ U ⟨i,B,vs,oa,oc,H,⟨j4,rfl⟩,E,z,g,hi,V,al,an,hki,hC,hbs,rfl⟩;refine AA (qV (A6 O O) (AB (AH (qC O (λa4=>?_) (λa4=>?_)))))
    .obtain ⟨x,M⟩:=AU (l:=p) (i:=i) qO;obtain ⟨pb,po,rfl,bh⟩:=CX (l:=p) (hp.ext z) qO;obtain ⟨z0,hz0e⟩:∃z0,z0=(U).heap.size:=⟨_,O⟩;have a3:n1<=z0:=qO
     have hbsz:bs<z0:=by have:=g.lt;omega
     have hbz:T.heap.size<=z0:=by have:=E.size;omega
     have E6:Chg Aj U U:=Chg.refl _ _;refine AM (AC (AH (AW (AA (qV (AL (b:=pb) (o:=po) (len:=p.length) (cap:=pc) (i:=i) (o':=po+i) O O O eA Al qO qO) (qV (AJ O Ag (bh i x M)) (qA _ O (AB (AA (qA _ O (AB (AH (AA (qV (AJ O FC (g.cell O)) (qV (AT eH O) (qM _ O (AB (AW (Ax (λnn_ σ W6=>∃(e:Nat) (ma:oE) (mc:Nat),(∃jj_,σ=BW jj_ [(1,(P6 bs 0)),(7,(.slice oa H oc)),(9,(I6 x)),(33,(.slice (oI pb po) p.length pc)),(34,(I6 (p.length:Int))),(35,(I6 (i:Int))),(39,(.slice a ll.length c)),(40,(I6 (ll.length:Int))),(41,(I6 (e:Int))),(10,(.slice ma e mc))])∧Chg Aj T W6∧Chg Aj w9 W6∧Chg Aj U W6∧BV W6 bs #[(.slice a ll.length c)] 34∧(e<=ll.length)∧(W6.ownsRow z0 TB 1 (.slice ma e mc) e ((A5 (ll.take e) x).map Value.bool))∧(z0<=W6.heap.size)∧nn_=ll.length - e) (n:=ll.length - 0) ?_ ?_)))))))))))))))))))
     .exact ⟨0,none,0,oH,E,z,E6,g,dR _,World.ownsRow_nil _ _ _ _,qO,O⟩
     .clear E z E6 g;rintro _ _ W6 ⟨e,ma,mc,⟨j6,rfl⟩,E,z,E6,g,he,hm,ak,rfl⟩;refine AA (qV (A6 O O) (AB (AH (qC O (λa0=>?_) (λa0=>?_)))))
      .obtain ⟨l,hl⟩:=AU (l:=ll) (i:=e) qO;obtain ⟨b,o,rfl,W⟩:=CD h qO;obtain ⟨ra,rc,N,aa⟩:=W e l hl;refine AM (AC (AH (AW (AA (qV (AL (b:=b) (o:=o) (len:=ll.length) (cap:=c) (i:=e) (o':=o+e) O O O eH Bc qO qO) (qV (AJ O Bf (E.cell (λf=>f) N)) (qA _ O (AB (AN (qM _ O (qM _ O (qM _ O (qE O (AS func36 kQ kQ O) (JV _ _ l x (aa.ext E)) ?_)))))))))))));rintro _ w51 ⟨rfl,X⟩;have g:=X.keep g;have E:=E.ext X;have z:=z.ext X;have E6:=E6.ext X;refine Aw (ps:=[(0,(.bool (Ca l x)))]) (c:=#[(.bool (Ca l x))]) qD O iB G8 Y7 qD qD qK ?_;intro b8 w8 N8;have g:=N8.keep g;have hm:=Az (Az hm X) N8.ext;have ak:=dL (dL ak X.size) N8.ext.size;have E:=E.ext N8.ext;have B8:=N8.blk;have z:=z.ext N8.ext;have E6:=E6.ext N8.ext;refine BQ (base:=z0) (n:=e) (m:=1) (xs:=((A5 (ll.take e) x).map Value.bool)) (news:=[(.bool (Ca l x))]) (size:=1) (bytes:=1) (v:=(.slice ma e mc)) qD iB G8 bA Y7 O qD O hm O (O) (B8.cells O) qS (by unfold maxLen;omega) qO (ak) ?_;intro v7 w59 az ad Dv7;have g:=ad.keep (λh=>by have:=(hm.lt _ h).1;omega) g;have E:=E.step ad (λx M h=>absurd (hm.lt x h).1 qO);have E6:=E6.step ad (λx M h=>absurd (hm.lt x h).1 qO);have z:=z.step ad (λx M h=>absurd (hm.lt x h).1 qO);obtain ⟨b2,bi,rfl⟩:=BB az;refine qA _ O (AB (AV (AC (AN (qV (A0 O O (A8 qO)) (qM _ O (AB (AC ?_))))))));exact ⟨ll.length - (e+1),qO,e+1,b2,bi,oH,E,z,E6,g,qO,(by rw[CL hl];unfold A5;rw[eT,eT];simpa[A5] using az),dL ak ad.size,O⟩
      .have ah:e=ll.length:=qO
       rw[ah,eE,<-ah] at hm;have hmB:Gt W6 (.slice ma e mc) (A5 ll x):=IP hm (by simp[A5,ah]);have bp:=hC.ext E6;refine Av (AZ (AZ (Ao (AC (AA (qA _ O (AB (AH (AA (qM _ O (qV (AT iI O) (qM _ O (AB (AW (Ax (λnn_ σ W9=>∃(k:Nat) (od:Bool),(∃jj_,σ=BW jj_ [(1,(P6 bs 0)),(7,(.slice oa H oc)),(10,(.slice ma e mc)),(33,(.slice (oI pb po) p.length pc)),(34,(I6 (p.length:Int))),(35,(I6 (i:Int))),(52,(.slice oa H oc)),(53,(I6 (H:Int))),(54,(I6 (k:Int))),(13,(.bool od))])∧Chg Aj T W9∧Chg Aj w9 W9∧BV W9 bs #[(.slice a ll.length c)] 34∧(k<=B.length)∧(od=decide (A5 ll x∈B.take k))∧(LSt cR TB 1 W9 n1 (.slice oa H oc) vs (B.map Qo))∧(W9.ownsRow z0 TB 1 (.slice ma e mc) e ((A5 ll x).map Value.bool))∧(z0<=W9.heap.size)∧nn_=B.length - k) (n:=B.length - 0) ?_ ?_)))))))))))))))
       .exact ⟨0,false,oH,E,z,g,dR _,qP,bp,hm,ak,O⟩
       .clear E z g;rintro _ _ W9 ⟨k,od,⟨j9,rfl⟩,E,z,g,hk2,ae,A,ab,R,rfl⟩;refine AA (qV (A6 O O) (AB (AH (qC O (λa2=>?_) (λa2=>?_)))))
        .obtain ⟨mk,I⟩:=AU (l:=B) (i:=k) qO;obtain ⟨u,hu⟩:=AU (l:=vs) (i:=k) (by have:=A.len;simp at this;omega);have af:=A.inn k u (Qo mk) hu (by rw[eN,I];rfl);obtain ⟨ua,uc,rfl⟩:=BB af;obtain ⟨gg,rfl,bj,av⟩:=Co (A.on (by rw[dW];exact an)) qO;have aj:=al mk (dK I);have aw:Gt W9 (.slice ua mk.length uc) mk:=IP af O;have a1:Gt W9 (.slice ma e mc) (A5 ll x):=IP ab (by simp[A5,ah]);refine AM (AC (AH (AW (AA (qV (AL (b:=gg) (o:=0) (len:=H) (cap:=oc) (i:=k) (o':=0+k) O O O iI Ij qO qO) (qV (AJ O KO ((by have G:=av k _ hu;exact G))) (qA _ O (AB (AN (qM _ O (qM _ O ?_)))))))))));rcases dT (od) with Z|Z
         .have bv:=Z;refine AD O O qD (v:=.bool true) (Ar Z) (dH O) (AD O O qD (v:=.bool true) (Ar Z) (dH O) (AD O O qD (v:=.bool true) (Ar Z) (dH O) (qV (Af (v:=(.bool true)) O (by rw[Z];rfl)) (qA _ O (AB (AV (AC (AN (qV (A0 O O (A8 qO)) (qM _ O (AB (AC ?_))))))))))));exact ⟨B.length - (k+1),qO,k+1,true,oH,E,z,g,qO,(by rw[CL I];symm;rw[decide_eq_true_eq];exact iE _ (of_decide_eq_true (ae.symm.trans Z))),A,ab,R,O⟩
         .have bv:=Z;refine AF O O qD (Ar Z) (qM _ O (AF O O qD (Ar Z) (qM _ O (AF O O qD (Ar Z) (qE O (AS func37 kQ kQ O) (Zu _ _ _ mk (A5 ll x) aw a1 (by rw[aj];simp[A5])) ?_)))));rintro _ bn ⟨rfl,t⟩;have g:=t.keep g;have E:=E.ext t;have z:=z.ext t;refine qV (Af (v:=(.bool (decide (mk=A5 ll x)))) O (by rw[Z];rfl)) (qA _ O (AB (AV (AC (AN (qV (A0 O O (A8 qO)) (qM _ O (AB (AC ?_)))))))));exact ⟨B.length - (k+1),qO,k+1,decide (mk=A5 ll x),oH,E,z,g,qO,(by rw[CL I];exact WQ (ae.symm.trans Z)),A.ext t,Az ab t,dL R t.size,O⟩
        .have a9:k=B.length:=qO
         rw[a9,eE] at ae;have a7:(p.take (i+1)).map (A5 ll)=(p.take i).map (A5 ll)++[A5 ll x]:=by rw[CL M,eT];rfl
         refine Av (AZ (AZ (Ao (AC (AA (qM _ O (qV (C1 O) (AB (A4 O (λq=>?_) (λq=>?_))))))))))
         .have ay:=q;have q:=by simpa using q
          have a6:od=false:=by simpa using q
          have F:H=(B.map Qo).length:=by rw[dW];exact an
          have bd:A5 ll x∉B:=of_decide_eq_false (ae.symm.trans a6);refine AN (qM _ O (qM _ O (Aw (ps:=[(0,(.slice ma e mc))]) (c:=#[(.slice ma e mc)]) qD O iI Ij PH qD qD qK ?_)));intro b13 w13 P;have g:=P.keep g;have A:=A.ext P.ext;have ab:=Az ab P.ext;have R:=dL R P.ext.size;have E:=E.ext P.ext;have bf:=P.blk;have z:=z.ext P.ext;refine BQ (base:=n1) (n:=H) (m:=1) (xs:=vs) (news:=[(.slice ma e mc)]) (size:=1) (bytes:=24) (v:=(.slice oa H oc)) qD iI Ij Y2 PH O qD O (A.on F) O (O) (bf.cells O) qS (by unfold maxLen;omega) qO (qO) ?_;intro v8 b0 ai C au;have g:=C.keep (λh=>by have:=((A.on F).lt _ h).1;omega) g;have E:=E.step C (λx M h=>absurd ((A.on F).lt x h).1 qO);have z:=z.step C (λx M h=>absurd ((A.on F).lt x h).1 qO);obtain ⟨b1,bk,rfl⟩:=BB ai;have br:=A.push F ab a3 (λk hk=>by have:=(hC.o.lt k hk).2;omega) ai C au;refine qA _ O (AB (AV (AC (AN (qV (A0 O O (A8 qO)) (qM _ O (AB (AC ?_))))))));exact ⟨p.length - (i+1),qO,i+1,B++[A5 ll x],vs++[.slice ma e mc],b1,bk,H+1,oH,E,z,g,qO,(by rw[a7,Gp,<-V];unfold Hq;rw[if_neg bd]),(λm hm=>by rcases eC.1 hm with G|G;exact al m G;rw[dO] at G;rw[G];simp[A5]),(by simp;omega),qO,(by rw[eT];have h9:=br;rw[show (e,(A5 ll x).map Value.bool)=Qo (A5 ll x) by unfold Qo;simp[A5,ah]] at h9;exact h9),(by have:=C.size;omega),O⟩
         .have ay:=q;have q:=by simpa using q
          refine AM (AV (AC (AN (qV (A0 O O (A8 qO)) (qM _ O (AB (AC ?_)))))));exact ⟨p.length - (i+1),qO,i+1,B,vs,oa,oc,H,oH,E,z,g,qO,(by rw[a7,Gp,<-V];unfold Hq;rw[if_pos (of_decide_eq_true (ae.symm.trans (by simpa using q)))]),al,an,qO,A,qO,O⟩
    .have bg:i=p.length:=qO
     rw[bg,eE] at V;obtain ⟨n2,hn2e⟩:∃n2,n2=(U).heap.size:=⟨_,O⟩;have hbs2:bs<n2:=by have:=g.lt;omega
     have a5:T.heap.size<=n2:=by have:=E.size;omega
     have S:Chg Aj U U:=Chg.refl _ _;refine Av (AZ (AZ (Ao (AC (AA (qA _ O (AB (AH (AA (qM _ O (qV (AT iI O) (qM _ O (AB (AW (Ax (λnn_ σ K=>∃(k:Nat) (cs:nZ) (us:n_) (ca:oE) (cc cn:Nat),(∃jj_,σ=BW jj_ [(1,(P6 bs 0)),(72,(.slice oa H oc)),(73,(I6 (H:Int))),(74,(I6 (k:Int))),(16,(.slice ca cn cc))])∧Chg Aj T K∧Chg Aj U K∧BV K bs #[(.slice a ll.length c)] 34∧(k<=B.length)∧(cs.length=k)∧(cn=k)∧(∀(j:Nat) ag d,B[j]?=some ag->cs[j]?=some d->Dy d (λr=>decide (A5 ll r=ag)))∧(∀d∈cs,d.length<=16)∧(LSt PF Mt 2 K n2 (.slice ca cn cc) us (cs.map RC))∧(n2<=K.heap.size)∧nn_=B.length - k) (n:=B.length - 0) ?_ ?_)))))))))))))))
     .exact ⟨0,[],[],none,0,0,oH,E,S,g,dR _,O,O,(λj ag d _ h=>by simp at h),(λd h=>absurd h eY),LSt.start _ _ _ _ _,qO,O⟩
     .clear E S g;rintro _ _ K ⟨k,cs,us,ca,cc,cn,⟨j14,rfl⟩,E,S,g,hk3,W,hcn,ap,ba,D,ac,rfl⟩;refine AA (qV (A6 O O) (AB (AH (qC O (λbe=>?_) (λbe=>?_)))))
      .obtain ⟨mk,I⟩:=AU (l:=B) (i:=k) qO;obtain ⟨u,hu⟩:=AU (l:=vs) (i:=k) (by have:=hC.len;simp at this;omega);have af:=hC.inn k u (Qo mk) hu (by rw[eN,I];rfl);obtain ⟨ua,uc,rfl⟩:=BB af;have F:H=(B.map Qo).length:=by rw[dW];exact an
       obtain ⟨gg,rfl,bj,av⟩:=Co (hC.on F) qO;have aj:=al mk (dK I);have aw:=IP af O;refine AM (AC (AH (AW (AA (qV (AL (b:=gg) (o:=0) (len:=H) (cap:=oc) (i:=k) (o':=0+k) O O O iI Ij qO qO) (qV (AJ (v:=(.slice ua mk.length uc)) O KO ((by have G:=av k _ hu;exact S.cell (λf=>f) G))) ?_))))));have a8:=D;have hbw0:=ac;have Q:(K).heap.size<=(K).heap.size:=dU _;refine As (v:=(.slice ua mk.length uc)) (c:=#[(.slice ua mk.length uc)]) (n:=1) qD PH O Ij O O O qS ?_;intro bm wm Nm;have g:=Nm.keep g;have E:=E.ext Nm.ext;have Bm:=Nm.blk;have S:=S.ext Nm.ext;refine AB (AA (qV (Da O O) (qV (AJ O FC (g.cell O)) (qE O (AS func38 kQ kQ O) (Wg _ _ _ (λr=>decide (A5 ll r=mk)) ll (h.ext E) qO am (λp hp=>I3 hp mk) (λw x hE=>CG.mk (first:=#[]) (cap:=#[P6 bs 0,P6 bm 0]) func39 kQ kQ O (Yc w bs bm _ _ ll mk x (hE.keep g) (hE.keep Bm) ((h.ext E).ext hE) ((BX.ext aw S).ext hE) aj))) ?_))));rintro _ bn ⟨⟨out,hI,⟨⟨xa,xc,rfl⟩,bt⟩⟩,t⟩;have g:=t.keep g;have Bm:=t.keep Bm;have Q:=dL (dL Q Nm.ext.size) t.size;have D:=(D.ext Nm.ext).ext t;have ac:=dL (dL ac Nm.ext.size) t.size;have E:=E.ext t;have S:=S.ext t;have hwm:=Nm.ext.size;have ax:=bt;refine qA _ O (AB (AH (AA (qM _ O (qV (AT dS O) (qV (CN O O) (AB (qC O (λbq=>?_) (λbq=>?_)))))))))
       .refine AA (qA _ O (qA _ O (AB (AO (AK (Ac (AK (AK (Ac (AK (CA results9 (v:=(.slice none 0 0)) (v':=(I6 2)) O O ?_)))))))))));obtain ⟨cF,bu,b4⟩:=Wc hP am (V▸I) hI qO;exact ⟨⟨[],2,.inr ⟨ar,cF,bu,.inl ⟨b4,O,O⟩⟩,none,0,O,D0 _ _⟩,E⟩
       .have L:cn=(cs.map RC).length:=by rw[dW];omega
        refine AM (AC (AN (qM _ O (qM _ O (Aw (ps:=[(0,(.slice xa out.length xc))]) (c:=#[(.slice xa out.length xc)]) qD O eH Bc Kc qD qD qK ?_)))));intro b17 w17 J;have g:=J.keep g;have Bm:=J.keep Bm;have Q:=dL Q J.ext.size;have D:=D.ext J.ext;have ac:=dL ac J.ext.size;have ax:=Az ax J.ext;have E:=E.ext J.ext;have b5:=J.blk;have S:=S.ext J.ext;refine BQ (base:=n2) (n:=cn) (m:=1) (xs:=us) (news:=[(.slice xa out.length xc)]) (size:=1) (bytes:=24) (v:=(.slice ca cn cc)) qD eH Bc TU Kc O qD O (D.on L) O (O) (b5.cells O) qS (by unfold maxLen;omega) qO (ac) ?_;intro v8 b0 ai C au;have g:=C.keep (λh=>by have:=((D.on L).lt _ h).1;omega) g;have E:=E.step C (λx M h=>absurd ((D.on L).lt x h).1 qO);have S:=S.step C (λx M h=>absurd ((D.on L).lt x h).1 qO);obtain ⟨bz,bx,rfl⟩:=BB ai;refine qA _ O (AB (AV (AC (AN (qV (A0 O O (A8 qO)) (qM _ O (AB (AC ?_))))))));exact ⟨B.length - (k+1),qO,k+1,cs++[out],us++[.slice xa out.length xc],bz,bx,cn+1,oH,E,S,g,qO,(by simp;omega),qO,Tj ap W I hI,(λd hd=>by rcases eC.1 hd with G|G;exact ba d G;rw[dO] at G;rw[G];omega),(by rw[eT];exact D.push L ax qO (λk hk=>by have:=(a8.o.lt k hk).2;omega) ai C au),(by have:=C.size;omega),O⟩
      .have bb:k=B.length:=qO
       have ao:Gv ll cs:=⟨p,hP,by rw[<-V,W,bb],λk ag d G h2=>ap k ag d (V▸G) h2⟩;have aa:=D.spssIn.mono (S':=λb=>T.heap.size<=b) (λb hb=>dL a5 hb);have aq:cn=cs.length:=qO
       refine Av (AZ (AZ (Ao (AC (AH (AA (qM _ O (qV (AT eH O) (qV (CN O O) (AB (qC O (λbc=>?_) (λbc=>?_))))))))))))
       .refine AA (qA _ O (qA _ O (AB (AO (AK (CA results9 (v:=(.slice none 0 0)) (v':=(I6 2)) O O ?_))))));exact ⟨⟨[],2,.inr ⟨ar,cs,ao,.inl ⟨.inr qO,O,O⟩⟩,none,0,O,D0 _ _⟩,E⟩
       .refine AM (AC (AA (qM _ O (qA _ O (qA _ O (AB (AO (CA results9 (v:=(.slice ca cn cc)) (v':=(I6 0)) O O ?_))))))));rw[aq] at aa;exact ⟨⟨cs,0,.inr ⟨ar,cs,ao,.inr ⟨λb3=>by rcases b3 with ⟨d,G,h2⟩|h2;have:=ba d G;omega;omega,O,O⟩⟩,ca,cc,by rw[aq],aa⟩,E⟩
theorem ZB {S:Type} (F:S→Re→Bool×S) (Inv:S→(Nat→Prop)→World→Prop) (Pn:Re→Prop) (fv:Value) (wb:World)
    (hb:∀s D w,Inv s D w→∀b,D b→wb.heap.size≤b∧b<w.heap.size)
    (hst:∀s D w w',Inv s D w→Ah w w'→Inv s D w')
    (hP:∀t,Pn t→∀x∈t.args,Pn x)
    (hf:∀s D w t vs,Ah wb w→Pn t→Inv s D w→A3 wb t vs→CG prog fv #[.agg vs.toArray] w λv w'=>∃D',v=.bool (F s t).1∧Chg D w w'∧Inv (F s t).2 D' w'∧∀b,D' b→D b∨w.heap.size≤b) :
    ∀n t,t.size≤n→Pn t→∀s (D:Nat→Prop) w0 vs,Ah wb w0→Inv s D w0→A3 wb t vs→
      Bj prog 69 #[.agg vs.toArray,fv] w0 λv w'=>∃D',v=.bool (DL F t s).1∧Chg D w0 w'∧Inv (DL F t s).2 D' w'∧∀b,D' b→D b∨w0.heap.size≤b:=by
  have ad:∀{D:Nat→Prop} {w w':World},Ah wb w→(∀b,D b→wb.heap.size≤b)→Chg D w w'→Ah wb w':=λe h c=>Chg.step e c λx hx hm=>by have:=h x hm;omega
  intro n
  induction n with
  | zero=>intro t ht;have:=t.size_pos;omega
  | succ n ih=>
  intro t hn az s D w0 vs hE hI ht;obtain ⟨sa,sc,aa,ac,rfl,a3,a6,af⟩:=ht.form;have ag:=hb s D w0 hI;rw[FT];refine Ew mP rfl ntmps69 (RV rfl) ?_;have E:Chg D w0 w0:=Chg.refl _ _;refine AA (BC (v:=(.agg (R6 t sa sc aa ac))) (c:=(R6 t sa sc aa ac)) qD rfl rfl ?_);intro br wr Nr;have Fr:=Nr.ge E;have hI:=hst _ _ _ _ hI Nr.ext;have E:=E.ext Nr.ext;have Br:=Nr.blk;refine qA _ rfl (AB (AH (AA (qM _ rfl (qV (AI (vs:=(oJ t sa sc aa ac)) rfl Ad AG rfl (Br.cells rfl)) (DK qD rfl rfl (hf s D _ t _ (hE.trans Nr.ext) az hI ht) ?_))))));rintro _ w2 ⟨D1,rfl,C2,hI,ax⟩;have Br:=C2.keep (λh=>by have:=(ag _ h).2;omega) Br;have E:=E.trans C2;have hE2:Ah wb w2:=ad hE (λb h=>(ag b h).1) E;have ae:∀b,D1 b→D b∨w0.heap.size≤b:=λb h=>(ax b h).imp id (λh=>by have:=Nr.size;omega);have am:∀b,D1 b→b≠br:=λb h e=>by rcases ax b h with h|h;have:=(ag b h).2;have:=Nr.eq;omega;have:=Nr.size;have:=Nr.eq;omega
  refine qV (C1 rfl) (AB (A4 rfl (λh=>?_) (λh=>?_)))
  · have kh:=h;have h:=by simpa using h
    refine AA (qA _ rfl (AB (AO (AK (AY l_ (v:=(.bool false)) rfl ?_)))));exact ⟨D1,by rw[if_neg (by simp[h])],E,by rw[if_neg (by simp[h])];exact hI,ae⟩
  · have kh:=h;have h:=by simpa using h
    rw[if_pos (by simpa using h)];generalize (F s t).2=s1 at hI⊢;have z2:br<w2.heap.size:=by have:=C2.size;have:=Nr.size;have:=Nr.eq;omega
    refine AM (AC (AH (AA (qF br 0 2 rfl dI rfl BF rfl (qV (AJ rfl A9 (Br.cell rfl)) (qV (AT dJ rfl) (qM _ rfl (AB (AW (Ax (λnn_ σ W2=>∃(k:Nat) (s':S) (D2:Nat→Prop),(∃jj_,σ=BW jj_ [(1,fv),(12,(.slice aa t.args.length ac)),(13,(I6 (t.args.length:Int))),(14,(I6 (k:Int)))])∧Chg D w0 W2∧BV W2 br (R6 t sa sc aa ac) 25∧(k≤t.args.length)∧(Inv s' D2 W2)∧(Cx F t.args s1=Cx F (t.args.drop k) s')∧(∀b,D2 b→D b∨w0.heap.size≤b)∧(∀b,D2 b→b≠br)∧(br<W2.heap.size)∧nn_=t.args.length - k) (n:=t.args.length - 0) ?_ ?_))))))))))
    · exact ⟨0,s1,D1,oH,E,Br,dR _,hI,rfl,ae,am,z2,rfl⟩
    · clear E Br;rintro _ _ W2 ⟨k,s',D2,⟨j2,rfl⟩,E,Br,hk,hI,ab,al,ao,hz,rfl⟩;have aw:=hb s' D2 _ hI;have hE1:=E.size;refine AA (qV (A6 rfl rfl) (AB (AH (qC rfl (λa5=>?_) (λa5=>?_)))))
      · obtain ⟨x,hx⟩:=AU (l:=t.args) (i:=k) qO;obtain ⟨b,o,rfl,aq⟩:∃b o,aa=oI b o∧CY wb b o t.args:=by
          rcases af with h|h
          · rw[h] at hx;simp at hx
          · exact h
        obtain ⟨us,a0,au⟩:=aq.get hx;have an:=au;obtain ⟨ap,ah,ak,aj,rfl,_,_,_⟩:=au.form;have av:Ah wb _:=ad hE (λb h=>(ag b h).1) E;have hsz:=Re.size_arg hx;refine AM (AC (AH (AW (AA (qV (AL (b:=b) (o:=o) (len:=t.args.length) (cap:=ac) (i:=k) (o':=o+k*6) rfl rfl rfl dJ AG qO qO) (qV (AI rfl Ad AG rfl (a0.ext av)) (As (v:=(.agg (R6 x ap ah ak aj))) (c:=(R6 x ap ah ak aj)) (n:=6) qD A1 rfl AG rfl rfl rfl qS ?_)))))));intro bz wz Nz;have Fz:=Nz.ge E;have Oz_br:=Nz.lt Br;have Br:=Nz.keep Br;have hI:=hst _ _ _ _ hI Nz.ext;have E:=E.ext Nz.ext;have Bz:=Nz.blk;refine AB (AA (qV (AI (vs:=(oJ x ap ah ak aj)) rfl Ad AG rfl (Bz.cells rfl)) (qM _ rfl (qE rfl (AS mP kQ kQ rfl) (ih x qO (hP t az x (dK hx)) s' D2 _ _ (av.trans Nz.ext) hI an) ?_))));rintro _ w9 ⟨D4,rfl,C9,hI,ar⟩;have Br:=C9.keep (λh=>by have h1:=ao _ h;have h2:=(aw _ h).2;first|exact h1 rfl|(have:=Nz.eq;omega)) Br;have Bz:=C9.keep (λh=>by have h1:=ao _ h;have h2:=(aw _ h).2;first|exact h1 rfl|(have:=Nz.eq;omega)) Bz;have E:=E.step C9 (λy hy h=>(al y h).resolve_right qO);have a1:=Bi hx;rw[a1,DX] at ab;have ay:∀b,D4 b→D b∨w0.heap.size≤b:=λb h=>by rcases ar b h with h|h;exact al b h;exact .inr (by have:=Nz.size;omega)
        have ai:∀b,D4 b→b≠br:=λb h e=>by rcases ar b h with h|h;exact ao b h e;have:=Nz.size;omega
        refine qV (C1 rfl) (AB (A4 rfl (λh2=>?_) (λh2=>?_)))
        · have a4:=h2;have h2:=by simpa using h2
          refine AA (qA _ rfl (AB (AO (Ac (AK (AK (Ac (AK (AY l_ (v:=(.bool false)) rfl ?_)))))))));exact ⟨D4,by rw[ab,if_neg (by simp[h2])],E,by rw[ab,if_neg (by simp[h2])];exact hI,ay⟩
        · have a4:=h2;have h2:=by simpa using h2
          rw[if_pos (by simpa using h2)] at ab;refine AM (AV (AC (AN (qV (A0 rfl rfl (A8 qO)) (qM _ rfl (AB (AC ?_)))))));exact ⟨t.args.length - (k+1),qO,k+1,(DL F x s').2,D4,oH,E,Br,qO,hI,ab,ay,ai,(by have:=C9.size;have:=Nz.size;omega),rfl⟩
      · have a2:k=t.args.length:=qO
        rw[a2,gR] at ab;refine Av (AZ (AZ (Ao (AC (AA (qA _ rfl (AB (AO (AY l_ (v:=(.bool true)) rfl ?_)))))))));exact ⟨D2,by rw[ab];rfl,E,by rw[ab];exact hI,al⟩
end Go.Proofs
namespace Go.Proofs
open Go Go.Eng
set_option maxRecDepth 100000
section
variable {S : Type} (F : S → Re → Bool × S)
def FS:List Re->S->Bool×S
  | [],s=>(true,s)
  | t::ts,s=>if (F s t).1 then FS ts (F s t).2 else (false,(F s t).2)
theorem JH:∀(a b:List Re) (s:S),FS F (a++b) s=if (FS F a s).1 then FS F b (FS F a s).2 else (false,(FS F a s).2)
 | [],b,s=>by simp[FS]
 | x::a,b,s=>by
  simp only[fH,FS];split
  .exact JH a b _
  .simp
mutual
theorem Iu:∀(t:Re) (s:S),DL F t s=FS F (EX t) s
 | .mk k set args mn mx ng,s=>by
  rw[FT,K6];simp only[FS,Re.args];rw[Kd args]
theorem Kd:∀(ts:List Re) (s:S),Cx F ts s=FS F (Dh ts) s
 | [],s=>by simp only[Cx,Dh,FS]
 | t::ts,s=>by
  rw[DX];simp only[Dh];rw[JH,<-Iu t,<-Kd ts]
end
end
def M0 (m:Nat):Nat->List Re->Int
  | _,[]=>0
  | i,x::xs=>if i=m then 2 else if Cb x≠0 then Cb x else M0 m (i+1) xs
theorem Qf (m:Nat) (hm:m<=1000000):∀(l:List Re) (n:Nat),n<=m->(FS (D8 (m:Int)) l ((n:Int),0)).2.2=M0 m n (l.take (m+1 - n))
 | [],n,_=>by simp[FS,M0]
 | x::xs,n,hn=>by
  simp only[FS];rw[O2 x qO qO];rw[show m+1 - n=(m - n)+1 from qO,j_];simp only[M0];by_cases h:n=m
  .rw[if_pos h,if_pos (by omega:(m:Int)<(n:Int)+1)];simp
  .rw[if_neg h,if_neg (by omega:¬(m:Int)<(n:Int)+1)];by_cases h2:Cb x=0
   .have:=Qf m hm xs (n+1) qO;rw[show m+1 - (n+1)=m - n from qO] at this;simp only[h2,decide_true,if_true,ne_eq,not_true,if_false];rw[<-this];rfl
   .rw[if_pos h2];simp[h2]
theorem WG {t:Re} {m:Nat} (a:m<=1000000):By t (m:Int)=M0 m 0 ((EX t).take (m+1)):=by
 unfold By;rw[Iu];exact Qf m a (EX t) 0 (dR _)
theorem Sj (w0:World) (t:Re) (vs:n_) (m:Nat) (hm:m≤1000000) (ht:A3 w0 t vs) (hs:t.size≤2097152) :
  Bj prog 7 #[.agg vs.toArray,I6 (m:Int)] w0 λv w=>v=I6 (By t (m:Int))∧Ah w0 w:=by
 have au:=ht;obtain ⟨sa,sc,aa,ac,rfl,ao,ar,am⟩:=ht.form;rw[WG hm];refine qR func7 rfl ntmps7 rfl (λE=>(AA (BC (v:=(.agg (R6 t sa sc aa ac))) (c:=(R6 t sa sc aa ac)) qD rfl rfl ?_)));intro b1 w1 N1;have F1:=N1.ge E;have E:=E.ext N1.ext;have B1:=N1.blk;refine qA _ rfl (AB (AH (AA (qV (AI (vs:=(oJ t sa sc aa ac)) rfl Ad AG rfl (B1.cells rfl)) (qM _ rfl (qV (A0 (c:=((m+1:Nat):Int)) rfl rfl (by rw[A8 qO];omega)) (qE rfl (AS func31 kQ kQ rfl) (Pj _ t _ _ (A3.ext E t au) hs) ?_)))))));rintro _ w9 ⟨la,lc,ai,rfl,af,ab,X9⟩;have B1:=X9.keep B1;have E:=E.ext X9;have aw:((EX t).take (m+1)).length≤m+1:=by simp;omega
 obtain ⟨L,hL⟩:∃L,L=(EX t).take (m+1):=⟨_,rfl⟩;have ad:EM w9 L ai:=by rw[hL];exact EM.ext X9 ab
 clear ab;rw[show ((m+1:Nat):Int).toNat=m+1 from rfl] at af;rw[show ((m+1:Nat):Int).toNat=m+1 from rfl];rw[←hL] at af aw⊢;clear hL;have wq0:Ah w9 w9:=Ah.refl _;have EQ:Chg Aj w9 w9:=Chg.refl _ _;refine qV (AT dJ rfl) (qM _ rfl (AB (AW (Ax (λnn_ σ W2=>∃(k:Nat),(∃jj_,σ=BW jj_ [(1,(I6 (m:Int))),(11,(.slice la L.length lc)),(12,(I6 (L.length:Int))),(13,(I6 (k:Int)))])∧Chg Aj w0 W2∧Chg Aj w9 W2∧BV W2 b1 (R6 t sa sc aa ac) 25∧(k≤L.length)∧(M0 m 0 L=M0 m k (L.drop k))∧nn_=L.length - k) (n:=L.length - 0) ?_ ?_))))
 ·exact ⟨0,oH,E,EQ,B1,dR _,rfl,rfl⟩
 ·clear E EQ B1;rintro _ _ W2 ⟨k,⟨j2,rfl⟩,E,EQ,B1,hk,hp,rfl⟩;refine AA (qV (A6 rfl rfl) (AB (AH (qC rfl (λaq=>?_) (λaq=>?_)))))
  ·obtain ⟨x,hx⟩:=AU (l:=L) (i:=k) qO;obtain ⟨r,hr,al⟩:=ad.get hx;obtain ⟨b,o,rfl,av⟩:=BX.at af qO;have hd:=Bi hx;have an:=(av k r hr).ext EQ;obtain ⟨xa,xc,ya,yc,rfl,aj,ak,ah⟩:=al.form;refine AM (AC (AH (AW (AA (qM _ rfl (qV (AL (b:=b) (o:=o) (len:=L.length) (cap:=lc) (i:=k) (o':=o+k*6) rfl rfl rfl dJ AG qO qO) (qV (AI rfl Ad AG rfl (an)) (BK (c:=#[(I6 0),(.slice none 0 0),(.slice none 0 0),(I6 0),(I6 0),(.bool false)]) qD A1 rfl ?_))))))));intro b4 w4 N4;have F4:=N4.ge E;have F4_EQ:=N4.ge EQ;have O4_b1:=N4.lt B1;have B1:=N4.keep B1;have E:=E.ext N4.ext;have B4:=N4.blk;have EQ:=EQ.ext N4.ext;refine qA _ rfl (Aa (b:=b4) (o:=0) (c':=(R6 x xa xc ya yc)) rfl rfl qS AG rfl B4 qL rfl ?_);intro w5 S5;have B1:=S5.keep qO B1;have E:=S5.step E (by first|exact dH qO|assumption|exact dG rfl|exact dG (by assumption)|exact dG qP|exact dG qO|exact dG (by dsimp only;omega));have EQ:=S5.step EQ (dH qO);have B4:=S5.blk;refine AB (AH (AA (qM _ rfl (qM _ rfl (qV (Ai rfl rfl) (AB (qC rfl (λhe=>?_) (λhe=>?_))))))))
   ·refine AA (qA _ rfl (AB (AO (AK (Ac (AK (AK (Ac (AK (AY results7 (v:=(I6 2)) rfl ?_))))))))));exact ⟨BI (by rw[hp,hd];simp only[M0];rw[if_pos qO]),E⟩
   ·refine AM (AC (AA (qV (AI (vs:=(oJ x xa xc ya yc)) rfl Ad AG rfl (B4.cells rfl)) (qE rfl (AS func32 kQ kQ rfl) (YV _ _ x _ al EQ) ?_))));rintro _ w19 ⟨rfl,ae⟩;have B1:=ae.keep B1;have B4:=ae.keep B4;have E:=E.ext ae;have EQ:=EQ.ext ae;refine qA _ rfl (AB (AA (qM _ rfl (qV (Bb rfl rfl) (AB (qC rfl (λag=>?_) (λag=>?_)))))))
    ·refine AA (qM _ rfl (qA _ rfl (AB (AO (Ac (AK (AK (Ac (AK (AY results7 (v:=(I6 (Cb x))) rfl ?_))))))))));exact ⟨BI (by rw[hp,hd];simp only[M0];rw[if_neg qO,if_pos ag]),E⟩
    ·refine AM (AV (AC (AN (qV (A0 rfl rfl (A8 qO)) (qM _ rfl (AB (AC ?_)))))));exact ⟨L.length - (k+1),qO,k+1,oH,E,EQ,B1,qO,(by rw[hp,hd];simp only[M0];rw[if_neg qO,if_neg ag]),rfl⟩
  ·have ap:L.drop k=[]:=fR qO;refine Av (AZ (AZ (Ao (AC (AA (qA _ rfl (AB (AO (AY results7 (v:=(I6 0)) rfl ?_)))))))));exact ⟨BI (by rw[hp,ap];rfl),E⟩
theorem VQ {P:Program} {σ:CZ} {w:World} {dst:Option Tmp} {ty:TypeId} {pos:String} {af:Array Edge} {g:Option (Nat×Bool)} {tys:Array TypeId} {x y:Operand} {k:IntKind} {a b c:Int} (d:ev σ x=.int k a) (e:ev σ y=.int k b) (f:max a b=c) :
 (execOp (ev σ) ⟨dst,.call ⟨.builtin .max,#[x,y],tys⟩,ty,pos,af,g⟩).run P w=.ok (.value (.int k c)) w:=by
 subst f;have:(if a<b then b else a)=max a b:=by split<;>omega
 simp[execOp,resolve,invoke,builtin,Builtin.max_,Builtin.max2,d,e,this]
theorem Uo:∀(N:Nat) (t:Re),t.size<=N->N<=2097152->C' t->∀(w0:World) (vs:n_),A3 w0 t vs->
 Bj prog 41 #[.agg vs.toArray] w0 λv w=>(∃d:Int,v=I6 d∧0<=d∧d<=1000000)∧Ah w0 w:=by
 intro N
 induction N with
 | zero=>intro t ht;have:=t.size_pos;omega
 | succ N ih=>
 intro t hN hNb ag w0 vs ht;have ht0:=ht;obtain ⟨sa,sc,aa,ac,rfl,ah,al,ae⟩:=ht.form;have hal:=Ch t;refine qR func41 O ntmps41 O (λE=>(AA (BC (v:=(.agg (R6 t sa sc aa ac))) (c:=(R6 t sa sc aa ac)) qD O O ?_)));intro b1 w1 N1;have E:=E.ext N1.ext;have B1:=N1.blk;refine qA _ O (AB (AA (qA _ O (AB (AH (AA (qF b1 0 2 O dI O BF O (qV (AJ O A9 (B1.cell O)) (qV (AT dJ O) (qM _ O (AB (AW (Ax (λnn_ σ W2=>∃(k:Nat) (n:Int),(∃jj_,σ=BW jj_ [(1,(P6 b1 0)),(7,(.slice aa t.args.length ac)),(8,(I6 (t.args.length:Int))),(9,(I6 (k:Int))),(3,(I6 n))])∧Chg Aj w0 W2∧BV W2 b1 (R6 t sa sc aa ac) 25∧(k<=t.args.length)∧(0<=n∧n<=1000000)∧nn_=t.args.length - k) (n:=t.args.length - 0) ?_ ?_)))))))))))))
 .exact ⟨0,1,oH,E,B1,dR _,qO,O⟩
 .clear E B1;rintro _ _ W2 ⟨k,n,⟨j2,rfl⟩,E,B1,hk,hn,rfl⟩;refine AA (qV (A6 O O) (AB (AH (qC O (λai=>?_) (λai=>?_)))))
  .obtain ⟨x,hx⟩:=AU (l:=t.args) (i:=k) qO;obtain ⟨ab,ao,rfl,af⟩:∃b o,aa=oI b o∧CY w0 b o t.args:=by
    rcases ae with h|h
    .rw[h] at hx;simp at hx
    .exact h
   obtain ⟨us,an,ad⟩:=af.get hx;have hsz:=Re.size_arg hx;have ak:=Do (C8 ag) hx;refine AM (AC (AH (AW (AA (qV (AL (b:=ab) (o:=ao) (len:=t.args.length) (cap:=ac) (i:=k) (o':=ao+k*6) O O O dJ AG qO qO) (qV (AI O Ad AG ad.len (an.ext E)) (As (v:=(.agg us.toArray)) (c:=us.toArray) (n:=6) qD A1 O AG O O (by simpa using ad.len) (by simpa using A3.one ad) ?_)))))));intro b4 w4 N4;have B1:=N4.keep B1;have E:=E.ext N4.ext;have B4:=N4.blk;refine AB (AN (qM _ O (qV (AI O Ad AG ad.len (B4.cells qP)) (qE O (AS func41 kQ kQ O) (ih x qO qO ak _ us (A3.ext E x ad)) ?_))));rintro _ w9 ⟨⟨d,rfl,hd⟩,X9⟩;have B1:=X9.keep B1;have B4:=X9.keep B4;have E:=E.ext X9;refine qV (A0 O O (A8 qO)) (qV (VP (c:=min (n+d) 1000000) O O O) (qA _ O (AB (AV (AC (AN (qV (A0 O O (A8 qO)) (qM _ O (AB (AC ?_))))))))));exact ⟨t.args.length - (k+1),qO,k+1,min (n+d) 1000000,oH,E,B1,qO,qO,O⟩
  .refine Av (AZ (AZ (Ao (AC (AH (AA (qF b1 0 0 O dI O Al O (qV (AJ O Ag (B1.cell O)) (qV (Ai O O) (AB (qC O (λh6=>?_) (λh6=>?_))))))))))))
   .have aj:=Lu ag h6;refine AN (qM _ O (qF b1 0 4 O dI O Al O (qV (AJ O Ag (B1.cell O)) (qV (VQ (c:=max 1 t.mx) O O O) ?_))));have am:0<=n*max 1 t.mx∧n*max 1 t.mx<=8000000:=⟨Int.mul_nonneg qO qO,Int.le_trans (Int.mul_le_mul (by omega:n<=1000000) (by omega:max 1 t.mx<=8) qO qO) qD⟩;refine qV (aL O O (A8 qO)) (qV (VP (c:=min (n*max 1 t.mx) 1000000) O O O) (qA _ O (AB (AC (AA (qM _ O (qA _ O (AB (AO (AY results41 (v:=(I6 (min (n*max 1 t.mx) 1000000))) O ?_))))))))));exact ⟨⟨_,O,qO,qO⟩,E⟩
   .refine AM (AC (AA (qM _ O (qA _ O (AB (AO (AY results41 (v:=(I6 n)) O ?_)))))));exact ⟨⟨_,O,qO,qO⟩,E⟩
end Go.Proofs
namespace Go.Proofs
open Go Go.Eng Go.Sort
set_option maxRecDepth 100000
abbrev bG:Nat:=34
theorem Q5 (a:World) (v fv:Value) (ll:nZ) (p:oF->Bool) (h:C0 a v ll) (c:∀(w:World) (u:Value) (l:oF),Ah a w->BP w u l->l∈ll->CG prog fv #[u] w λr w'=>r=.bool (p l)∧Ah w w') :
 Bj prog 71 #[v,fv] a λr w=>r=.bool (ll.any p)∧Ah a w:=by
 refine qR func71 O ntmps71 O (λE=>(AA (qA _ O (AB (AA (qM v O (qM _ O (qE O (AS func112 kQ kQ O) (LU _ v fv ll p h c) ?_))))))));rintro _ w9 ⟨rfl,b⟩;have E:=E.ext b;refine qV (El O O) (qA _ O (AB (AO (AY results71 (v:=(.bool (decide ((0:Int)<=Hg p ll)))) O ?_))));exact ⟨A' (Hf p ll),E⟩
theorem Q6 (a:World) (v fv:Value) (ll:nZ) (p:oF->Bool) (h:C0 a v ll) (b:∀(w:World) (u:Value) (l:oF),Ah a w->BP w u l->CG prog fv #[u] w λr w'=>r=.bool (p l)∧Ah w w') :
 Bj prog 71 #[v,fv] a λr w=>r=.bool (ll.any p)∧Ah a w:=
 Q5 a v fv ll p h λw u l e hs _=>b w u l e hs
theorem Yk (a:World) (c:Nat) (x:Re) (xs:n_) (u:Value) (l:oF) (d:BV a c xs.toArray 25) (f:A3 a x xs) (g:BP a u l) :
 Bj prog 72 #[u,P6 c 0] a λr w=>r=.bool (decide (l=x.set))∧Ah a w:=by
 obtain ⟨sa,sc,aa,ac,rfl,b,_,_⟩:=f.form;refine qR func72 O ntmps72 O (λE=>(AA (qA _ O (AB (AA (qM u O (qF c 0 1 O dI O Bc O (qV (AJ O Bf (d.cell O)) (qE O (AS func73 kQ kQ O) (Ux _ _ _ l x.set (g.ext E) (BX.ext b E)) ?_)))))))));rintro _ w9 ⟨rfl,e⟩;have d:=e.keep d;have E:=E.ext e;refine qA _ O (AB (AO (AY results72 (v:=(.bool (decide (l=x.set)))) O ?_)));exact ⟨O,E⟩
def SG (bo base:Nat) (SR:nZ) (s:nZ) (D:oD) (w:World):Prop:=
 ∃(oa:oE) (oc:Nat) (vs:n_),BV w bo #[.slice oa s.length oc] bG∧LSt PF Mt 2 w base (.slice oa s.length oc) vs (s.map RC)∧(∀b,D b↔b=bo∨(Value.slice oa s.length oc).ownBlock=some b)∧bo<base∧base<=w.heap.size∧s.Nodup∧∀x∈s,x∈SR
def ZY (base:Nat) (l:oF):G0:=λv w=>∃a c,v=.slice a l.length c∧w.ownsRow base Mt 2 (.slice a l.length c) l.length (l.map Ba).flatten
theorem JQ (base:Nat) (l:oF):FK (ZY base l):=by
 rintro v w w' e ⟨a,c,rfl,h⟩;exact ⟨a,c,O,Az h e⟩
def P9 (l:oF) (base:Nat):G0:=λv w=>∃b a c,v=.slice (oI b 0) 1 1∧BV w b #[.slice a l.length c] PF∧base<=b∧w.ownsRow base Mt 2 (.slice a l.length c) l.length (l.map Ba).flatten
theorem KD (l:oF) (base:Nat):FK (P9 l base):=by
 rintro v w w' e ⟨b,a,c,rfl,h,f,d⟩;exact ⟨b,a,c,O,Ah.keep e h,f,Az d e⟩
theorem SM {M:oD} {N:Nat} {σ:CZ} {w:World} {dst:Option Tmp} {ty:TypeId} {pos:String} {af:Array Edge} {g:Option (Nat×Bool)} {x:Operand} {a:oE} {c base:Nat} {l:oF} (b:ev σ x=.slice a l.length c) (hb:base<=w.heap.size) (d:w.ownsRow base Mt 2 (.slice a l.length c) l.length (l.map Ba).flatten) :
 Dn M prog N ⟨dst,.buildSlice 34 1 #[(0,x)],ty,pos,af,g⟩ (P9 l base) σ w:=by
 have hn:=New.mk' w #[.slice a l.length c] PF;exact BZ (DB (parts:=[(0,x)]) (ps:=[(0,.slice a l.length c)]) (by simp only[List.map,b]) eH Bc Kc qD qD qK) (Ah.chg hn.ext) ⟨_,_,_,O,hn.blk,hb,Az d hn.ext⟩
theorem OX {s:nZ} {t:Re} (h:t.kind=2->t.set∈s):Ez s t=s:=by
 unfold Ez;rw[if_neg λa=>a.2 (h a.1)]
theorem Z0 (F:World) (I base:Nat) (SR:nZ) (V:SR.length<=1000∧∀s∈SR,BJ s=0) (s:nZ) (D:oD) (x:Re) (xs:n_) (hI:SG I base SR s D F) (hP:Cu (λs=>s∈SR) x) (hx:A3 F x xs) :
 Bj prog 70 #[.agg xs.toArray,P6 I 0] F λv w'=>∃D',v=.bool true∧Chg D F w'∧SG I base SR (Ez s x) D' w'∧∀b,D' b->D b∨F.heap.size<=b:=by
 have ap:=hx;have hI0:=hI;obtain ⟨sa,sc,aa,ac,rfl,ah,_,_⟩:=hx.form;obtain ⟨oa,oc,vs,j,t,S,M,g,J,p⟩:=hI;have hbs0:=g;have ar:D I:=(S I).2 (.inl O);have hsl:s.length<=1000:=dL (GQ J p) V.1;have af:=λk h=>(t.o.lt k h).2;have hD0:∀b,D b->b<F.heap.size:=λb h=>by rcases (S b).1 h with h|h;omega;exact af b h
 refine Ew func70 O ntmps70 (RV O) ?_;have E:Chg D F F:=Chg.refl _ _;refine AA (BC (v:=(.agg (R6 x sa sc aa ac))) (c:=(R6 x sa sc aa ac)) qD O O ?_);intro R wz L;have j:=L.keep j;have t:=t.ext L.ext;have g:=dL g L.ext.size;have E:=E.ext L.ext;have Q:=L.blk;refine qA _ O (AB (AH (AA (qF R 0 0 O dI O Al O (qV (AJ O Ag (Q.cell O)) (qV (Ai O O) (qM _ O ?_)))))));rcases dT (decide ((x.kind:Int)=2)) with q|q
 .have i:=q;have i:=of_decide_eq_true i;refine AF O O qD (Ar q) (qV (AJ O FC (j.cell O)) (AF O O qD (Ar q) (qV (Da O O) (AF O O qD (Ar q) (qE O (AS func71 kQ kQ O) (Q6 _ _ _ s (λl=>decide (l=x.set)) t.spss (λw u l hE hu=>CG.mk (first:=#[]) (cap:=#[P6 R 0]) func72 kQ kQ O (Yk w R x _ u l (hE.keep Q) (A3.ext (L.ext.trans hE) x ap) hu))) ?_)))));rintro _ w9 ⟨rfl,P⟩;have j:=P.keep j;have Q:=P.keep Q;have t:=t.ext P;have g:=dL g P.size;have E:=E.ext P;refine AF O O qD (Ar q) (qV (C1 O) (qV (Af (v:=(.bool (!(s.any λl=>decide (l=x.set))))) O (by rw[q];rfl)) (AB (A4 O (λK=>?_) (λK=>?_)))))
  .have av:=K;have K:=by simpa using K
   have ae:x.set∉s:=λh=>K _ h O;have ab:=hP.s i;have hx16:=(MZ (V.2 x.set ab)).2;have d:Ez s x=s++[x.set]:=by unfold Ez;rw[if_pos ⟨i,ae⟩]
   obtain ⟨n1,al⟩:∃n,n=(w9).heap.size:=⟨_,O⟩;have hn0:F.heap.size<=n1:=by rw[al];have:=P.size;have:=L.size;omega
   obtain ⟨aw,e⟩:∃Fs:List (FactT (Aj)),Fs=[.eq (.slice oa s.length oc),.eq (P6 R 1),.eq (.slice sa x.set.length sc),.gen (ZY n1 x.set) (JQ _ _),.gen (P9 x.set n1) (KD _ _)]:=⟨_,O⟩;refine LG (Aj) 5 3 [13,14,15,16,17] [[],[],[1],[2],[3]] aw e O mixed qK qK qK ?_ ?_
   .intro wd B;refine DagStepsT.cons (λr w' X U H=>?_) ?_
    .exact BZ (AJ (U 1 O) FC ((Chg.keep X (λf=>f) (B.keep j)).cell O)) (Chg.refl _ _) O
    refine DagStepsT.cons (λr w' X U H=>?_) ?_
    .exact BZ (AQ (U 2 O) dI O Bc O) (Chg.refl _ _) O
    refine DagStepsT.cons (λr w' X U H=>?_) ?_
    .have au:r 14=(P6 R 1):=H 1 O 14 (.eq (P6 R 1)) O (by rw[e];rfl);exact BZ (AJ au Bf ((Chg.keep X (λf=>f) (B.keep Q)).cell O)) (Chg.refl _ _) O
    refine DagStepsT.cons (λr w' X U H=>?_) ?_
    .have az:r 15=(.slice sa x.set.length sc):=H 2 O 15 (.eq (.slice sa x.set.length sc)) O (by rw[e];rfl);exact IE (AS func74 kQ kQ (Ha az)) ((Qd _ _ x.set (BX.ext (BX.ext ah (L.ext.trans P)) (B.trans X)) qO).mono (λv w h=>⟨(by obtain ⟨⟨⟨a,c,h1⟩,h2⟩,_⟩:=h;subst h1;exact ⟨a,c,O,K8 h2 (by have:=B.size;have:=X.size;omega)⟩:ZY n1 x.set v w),h.2⟩))
    refine DagStepsT.cons (λr w' X U H=>?_) ?_
    .obtain ⟨an,aq,ag,aj⟩:=(show (.gen (ZY n1 x.set) (JQ _ _):FactT (Aj)).In (r 16) w' from H 3 O 16 (.gen (ZY n1 x.set) (JQ _ _)) O (by rw[e];rfl));exact SM ag (by have:=B.size;have:=X.size;omega) aj
    exact DagStepsT.nil
   .intro r wd3 w3 B X3 U H;have ak:r 13=(.slice oa s.length oc):=H 0 13 (.eq (.slice oa s.length oc)) O (by rw[e];rfl);obtain ⟨an,aq,ag,aj⟩:=(show (.gen (ZY n1 x.set) (JQ _ _):FactT (Aj)).In (r 16) w3 from H 3 16 (.gen (ZY n1 x.set) (JQ _ _)) O (by rw[e];rfl));obtain ⟨ax,Z,T,a0,ay,h17,ao⟩:=(show (.gen (P9 x.set n1) (KD _ _):FactT (Aj)).In (r 17) w3 from H 4 17 (.gen (P9 x.set n1) (KD _ _)) O (by rw[e];rfl));obtain ⟨j3,rfl⟩:=Ak.out (σ:=r) (l:=[(1,(P6 I 0)),(13,(.slice oa s.length oc)),(17,(.slice (oI ax 0) 1 1))]) ⟨U 1 O,ak,a0,trivial⟩;clear U H;have j:=Chg.keep X3 (λf=>f) (B.keep j);have Q:=Chg.keep X3 (λf=>f) (B.keep Q);have t:=(t.ext B).ext X3;have g:=dL (dL g B.size) X3.size;have E:=(E.ext B).step X3 (λ_ _ f=>f.elim);have hw3:=E.size;have ai:=t.on (n:=s.length) qP;refine BQ (base:=base) (n:=s.length) (m:=1) (xs:=vs) (news:=[(.slice Z x.set.length T)]) (size:=1) (bytes:=24) (v:=(.slice oa s.length oc)) qD eH Bc TU Kc O qD O ai O (O) (ay.cells O) qS (by unfold maxLen;omega) qO (g) ?_;intro v9 w29 W G ad;have j:=G.keep (λh=>by have:=(ai.lt _ h).1;omega) j;have E:=E.step G (λy hy h=>(S y).2 (.inr h));obtain ⟨C,z,rfl⟩:=BB W;have N:=t.push (n:=s.length) qP ao qO (λk h=>by have:=af k h;omega) W G ad;have A:=dL g G.size;have am:∀b,(Value.slice C (s.length+1) z).ownBlock=some b->D b∨F.heap.size<=b:=λb h=>by rcases ad b h with h|h;exact .inl ((S b).2 (.inr h));exact .inr qO
    refine CB (b:=I) (o:=0) (c':=#[(.slice C (s.length+1) z)]) (v:=(.slice C (s.length+1) z)) O O O PU j qP O ?_;intro w4 S4;have N:=N.chg S4.chg (λb hb _ h=>by have h2:b=I:=h;omega);have A:=dL A S4.chg.size;have E:=S4.step E (by first|exact dH qO|assumption|exact dG rfl|exact dG (by assumption)|exact dG qP|exact dG qO|exact dG (by dsimp only;omega));have j:=S4.blk;refine AB (AC (AA (qA _ O (AB (AO (AY results70 (v:=(.bool true)) O (⟨λb=>b=I∨(Value.slice C (s.length+1) z).ownBlock=some b,O,E,⟨C,z,vs++[.slice Z x.set.length T],?_,?_,?_,M,A,?_,?_⟩,?_⟩)))))))
    .rw[d,dN];exact j
    .rw[d,dN,eT];exact N
    .intro b;rw[d,dN];exact Iff.rfl
    .rw[d,gN];exact ⟨J,qP,λa ha b hb=>by rw[dO.1 hb];rintro rfl;exact ae ha⟩
    .intro y hy;rw[d] at hy;rcases eC.1 hy with h|h
     .exact p y h
     .rw[dO.1 h];exact ab
    .rintro b (rfl|h)
     .exact .inl ar
     .exact am b h
  .have av:=K;have K:=by simpa using K
   have d:Ez s x=s:=OX λ_=>K;refine AM (AC (AA (qA _ O (AB (AO (AY results70 (v:=(.bool true)) O ?_))))));exact ⟨D,O,E,by rw[d];exact ⟨oa,oc,vs,j,t,S,M,g,J,p⟩,λb h=>.inl h⟩
 .have i:=q;have i:=of_decide_eq_false i;have d:Ez s x=s:=OX λh=>by simp[h] at q
  refine AD O O qD (v:=.bool false) (Ar q) (dH O) (AD O O qD (v:=.bool false) (Ar q) (dH O) (AD O O qD (v:=.bool false) (Ar q) (dH O) (AD O O qD (v:=.bool false) (Ar q) (dH O) (qV (Af (v:=(.bool false)) O (by rw[q];rfl)) (AB (Ae O (AM (AC (AA (qA _ O (AB (AO (AY results70 (v:=(.bool true)) O ?_)))))))))))));exact ⟨D,O,E,by rw[d];exact ⟨oa,oc,vs,j,t,S,M,g,J,p⟩,λb h=>.inl h⟩
theorem SG.ext {g base:Nat} {f s:nZ} {D:oD} {w w':World} (h:SG g base f s D w) (e:Ah w w'):SG g base f s D w':=by
 obtain ⟨oa,oc,vs,k,i,j,b,d,c,a⟩:=h;exact ⟨oa,oc,vs,e.keep k,i.ext e,j,b,dL d e.size,c,a⟩
theorem LL {S:Type} (f:S->Re->S):∀(l:List Re) (s:S),FS (λs t=>(true,f s t)) l s=(true,l.foldl f s)
 | [],s=>rfl
 | t::l,s=>by simp only[FS,if_true,f_];exact LL f l _
theorem bD (w0:World) (t:Re) (vs:n_) (ht:A3 w0 t vs) (hv:Cu (λs=>BJ s=0) t) (hs:t.size≤1000) :
  Bj prog 27 #[.agg vs.toArray] w0 λv w=>C0 w v (CU t)∧Ah w0 w:=by
 have ad:=ht;obtain ⟨sa,sc,aa,ac,rfl,ag,_,_⟩:=ht.form;have ab:(CU t).length≤1000∧∀s∈CU t,BJ s=0:=⟨dL (Lc t) hs,H' hv⟩;have hw:DL (λs t=>(true,Ez s t)) t []=(true,CU t):=by rw[Iu,LL];rfl
 have ai:Cu (λs=>s∈CU t) t:=U8 λs h=>h;refine qR func27 rfl ntmps27 rfl (λE=>(AA (BC (v:=(.agg (R6 t sa sc aa ac))) (c:=(R6 t sa sc aa ac)) qD rfl rfl ?_)));intro br wr Nr;have Fr:=Nr.ge E;have E:=E.ext Nr.ext;have Br:=Nr.blk;refine qA _ rfl (AB (AA (BK (c:=#[(.slice none 0 0)]) qD Z_ rfl ?_)));intro bo wo No;have Fo:=No.ge E;have Oo_br:=No.lt Br;have Br:=No.keep Br;have E:=E.ext No.ext;have Bo:=No.blk;refine AB (AA (qV (AI (vs:=(oJ t sa sc aa ac)) rfl Ad AG rfl (Br.cells rfl)) (qV (Da rfl rfl) ?_)));have af:=Bo.lt;have ah:SG bo wo.heap.size (CU t) [] (λb=>b=bo) wo:=⟨none,0,[],Bo,LSt.start _ _ _ _ _,λb=>⟨.inl,λh=>h.elim id (λh=>by cases h)⟩,Bo.lt,dU _,g_,λx hx=>by cases hx⟩;refine qE rfl (AS mP kQ kQ rfl) ((ZB (λs t=>(true,Ez s t)) (SG bo wo.heap.size (CU t)) (Cu (λs=>s∈CU t)) _ wr (λs D w hI b hb=>by obtain ⟨oa,oc,vs,hB,hL,hD,h1,h2,_,_⟩:=hI;rcases (hD b).1 hb with h|h;exact ⟨by have:=No.eq;omega,qO⟩;exact ⟨by have:=(hL.o.lt b h).1;have:=No.size;omega,(hL.o.lt b h).2⟩) (λs D w w' hI e=>hI.ext e) (λt h x hx=>h.a x hx) (λs D w t vs hE hP hI hx=>CG.mk (first:=#[]) (cap:=#[P6 bo 0]) func70 kQ kQ rfl (Z0 w bo wo.heap.size _ ab s D t vs hI hP (A3.ext hE t hx))) t.size t (dU _) ai [] (λb=>b=bo) _ _ No.ext ah (A3.ext Nr.ext t ad)).mono (R':=λv w=>v=.bool true∧(∃oa oc vs,BV w bo #[.slice oa (CU t).length oc] bG∧LSt PF Mt 2 w wo.heap.size (.slice oa (CU t).length oc) vs ((CU t).map RC))∧Chg (λb=>b=bo) wo w) (λv w h=>by obtain ⟨D',h1,h2,h3,_⟩:=h;rw[hw] at h1 h3;obtain ⟨oa,oc,vs,hB,hL,_⟩:=h3;exact ⟨h1,⟨oa,oc,vs,hB,hL⟩,h2⟩)) ?_;rintro _ w9 ⟨rfl,⟨oa,oc,us,ae,hL⟩,C9⟩;have Br:=C9.keep qO Br;have E:=E.step C9 (by intro x hx hm;omega);refine AB (AA (qV (AJ rfl FC (ae.cell rfl)) (qA _ rfl (AB (AO (AY results27 (v:=(.slice oa ((CU t).length) oc)) rfl ?_))))));exact ⟨hL.spss,E⟩
theorem Ya {ll out:nZ} {e:Int} (h:Kx ll out e) (c:∀l∈ll,BJ l=0) (he:e=0):Gv ll out∧out.length<=16:=by
 rcases h with ⟨b,_⟩|⟨_,cs,f,⟨_,d,_⟩|⟨a,d,rfl⟩⟩
 .exact absurd (Mb c) b
 .omega
 .refine ⟨f,?_⟩;unfold KE at a;exact Nat.le_of_not_lt λh=>a (.inr h)
theorem VF {S S':oD} {w:World} {n0 m c:Nat} {a:oE} {ts:List Re} {rows:List n_} (d:w.ownsRow n0 FR 6 (.slice a m c) m rows.flatten) (n:Ap S w ts rows) (g:ts.length=m) (e:∀y,S y->S' y) (hn:∀y,n0<=y->S' y):CE S' w (.slice a m c) ts:=by
 subst g;obtain ⟨o,k⟩:=Eo d n O;refine ⟨a,c,O,o,?_⟩;rcases k with h|⟨b,hb,_,l,q⟩
 .exact .inl h
 .exact .inr ⟨b,0,hn b hb,l,D5 λi t p=>by obtain ⟨vs,j,f⟩:=q i t p;exact ⟨vs,j,AR.mono e t f⟩⟩
structure ListR (S:oD) (z0 n1:Nat) (w:World) (v:Value) (L:List Re) (T:oD):Prop where
 o:∃rows,w.ownsRow n1 FR 6 v L.length rows.flatten∧Ap T w L rows
 t:∀y,T y->(S y∨z0<=y)∧y<w.heap.size
 n:∀b,v.ownBlock=some b->¬T b
section
variable {S T M : Nat → Prop} {z0 n1 : Nat} {w w' : World} {v : Value} {L : List Re}
theorem ListR.lt (h:ListR S z0 n1 w v L T):∀b,v.ownBlock=some b->n1<=b∧b<w.heap.size:=λb hb=>by obtain ⟨rows,a,_⟩:=h.o;exact a.lt b hb
theorem ListR.chg (h:ListR S z0 n1 w v L T) (c:Chg M w w') (d:∀b,v.ownBlock=some b->¬M b) (e:∀b,T b->¬M b):ListR S z0 n1 w' v L T:=by
 obtain ⟨rows,f,g⟩:=h.o;exact ⟨⟨rows,CH f c d,Ap.chg c e g⟩,λy a=>⟨(h.t y a).1,fD (h.t y a).2 c.size⟩,h.n⟩
theorem ListR.ext (h:ListR S z0 n1 w v L T) (e:Ah w w'):ListR S z0 n1 w' v L T:=h.chg e (λ_ _ f=>f) λ_ _ f=>f
theorem ListR.rs {a:oE} {c:Nat} (h:ListR S z0 n1 w (.slice a L.length c) L T) (hz:z0<=n1):CE (λb=>S b∨z0<=b) w (.slice a L.length c) L:=by
 obtain ⟨rows,e,f⟩:=h.o;exact VF e (Ap.mono (λy d=>(h.t y d).1) f) O (λy d=>d) λy d=>.inr qO
theorem ListR.at {a:oE} {c i:Nat} {x:Re} (h:ListR S z0 n1 w (.slice a L.length c) L T) (d:L[i]?=some x):∃b,a=oI b 0∧∃vs,BG w b (0+i*6) vs∧AR T w x vs:=by
 obtain ⟨rows,g,j⟩:=h.o;obtain ⟨_,f⟩:=Eo g j O;obtain ⟨b',_,_,e,k⟩:=f.resolve_left (λh=>by rw[h] at d;simp at d);exact ⟨b',e,k i x d⟩
theorem ListR.push {f:World} {v':Value} {x:Re} {d:n_} {n0:Nat} {rows:List n_} (h:ListR S z0 n1 w v L T) (l:Ap T w L rows) (o:AR (λb=>T b∨(n0<=b∧b<w.heap.size)) w x d) (hn:∀b,v.ownBlock=some b->b<n0) (hz:z0<=n0)
 (j:f.ownsRow n1 FR 6 v' (L.length+1) (rows.flatten++d)) (C:Chg (λx=>v.ownBlock=some x) w f) (m:∀k,v'.ownBlock=some k->v.ownBlock=some k∨w.heap.size<=k) :
 ListR S z0 n1 f v' (L++[x]) (λb=>T b∨(n0<=b∧b<w.heap.size)):=by
 have hs:=C.size;have c:∀b,(T b∨(n0<=b∧b<w.heap.size))->¬v.ownBlock=some b:=λb hb g=>by
  rcases hb with hb|hb
  .exact h.n b g hb
  .have:=hn b g;omega
 refine ⟨⟨rows++[d],?_,?_⟩,λy a=>?_,λb hb a=>?_⟩
 .rw[dN,fX,iS];exact j
 .exact Ap.append (Ap.single (AR.chg C (λb hb e=>c b hb e) x o)) (Ap.mono (λb hb=>.inl hb) (Ap.chg C (λb hb e=>c b (.inl hb) e) l))
 .rcases a with a|a
  .exact ⟨(h.t y a).1,by have:=(h.t y a).2;omega⟩
  .exact ⟨.inr qO,qO⟩
 .rcases m b hb with i|i
  .exact c b a i
  .rcases a with a|a
   .have:=(h.t b a).2;omega
   .omega
end
end Go.Proofs
namespace Go.Proofs
open Go Go.Eng
instance (k:Int):Decidable (cQ k):=by unfold cQ;infer_instance
set_option maxRecDepth 100000
theorem JJ:∀(n:Nat) (t u:Re) (N:World) (vs us:n_),t.size<=n->A3 N t vs->A3 N u us->
 Bj prog 44 #[.agg vs.toArray,.agg us.toArray] N λv w=>v=.bool (BU t u)∧Ah N w:=by
 intro n
 induction n with
 | zero=>intro t u N vs us hn;have:=t.size_pos;omega
 | succ n ih=>
 intro t u N vs us hn ht hu;have am:=ht;have av:=hu;obtain ⟨sa,sc,aa,ac,rfl,a6,hac,_⟩:=ht.form;obtain ⟨S,P,F,q,rfl,ao,hac2,_⟩:=hu.form;have Z:BU t u=(decide (t.kind=u.kind) && decide (t.set=u.set) && decide (t.mn=u.mn) && decide (t.mx=u.mx) && decide (t.neg=u.neg) && E9 t.args u.args):=PZ t u;refine qR func44 O ntmps44 O (λE=>(AA (BC (v:=(.agg (R6 t sa sc aa ac))) (c:=(R6 t sa sc aa ac)) qD O O ?_)));intro r wr Nr;have E:=E.ext Nr.ext;have m:=Nr.blk;refine BC (v:=(.agg (R6 u S P F q))) (c:=(R6 u S P F q)) qD O O ?_;intro s wp Np;have m:=Np.keep m;have E:=E.ext Np.ext;have p:=Np.blk;refine qA _ O (AB (AH (AA (qF r 0 0 O dI O Al O (qV (AJ O Ag (m.cell O)) (qF s 0 0 O dI O Al O (qV (AJ O Ag (p.cell O)) (qV (Bb O O) (qM _ O ?_)))))))));rcases dT (decide ((t.kind:Int)≠u.kind)) with f|f
 .have A:=f;have A:=of_decide_eq_true A;refine AD O O qD (v:=.bool true) (Ar f) (dH O) (AD O O qD (v:=.bool true) (Ar f) (dH O) (AD O O qD (v:=.bool true) (Ar f) (dH O) (AD O O qD (v:=.bool true) (Ar f) (dH O) (AD O O qD (v:=.bool true) (Ar f) (dH O) (AD O O qD (v:=.bool true) (Ar f) (dH O) (qV (Af (v:=(.bool true)) O (by rw[f];rfl)) (qM _ O (AD O O qD (v:=.bool true) O (dH O) (AD O O qD (v:=.bool true) O (dH O) (AD O O qD (v:=.bool true) O (dH O) (AD O O qD (v:=.bool true) O (dH O) (AD O O qD (v:=.bool true) O (dH O) (AD O O qD (v:=.bool true) O (dH O) (AD O O qD (v:=.bool true) O (dH O) ?_))))))))))))));refine qV (Af O O) (qM _ O (AD O O qD (v:=.bool true) O (dH O) (AD O O qD (v:=.bool true) O (dH O) (AD O O qD (v:=.bool true) O (dH O) (AD O O qD (v:=.bool true) O (dH O) (AD O O qD (v:=.bool true) O (dH O) (qV (Af O O) (qM _ O (AD O O qD (v:=.bool true) O (dH O) (AD O O qD (v:=.bool true) O (dH O) (AD O O qD (v:=.bool true) O (dH O) (AD O O qD (v:=.bool true) O (dH O) (AD O O qD (v:=.bool true) O (dH O) (qV (Af O O) ?_))))))))))))));refine qM _ O (AD O O qD (v:=.bool true) O (dH O) (AD O O qD (v:=.bool true) O (dH O) (AD O O qD (v:=.bool true) O (dH O) (AD O O qD (v:=.bool true) O (dH O) (AD O O qD (v:=.bool true) O (dH O) (qV (Af O O) (AB (Aq O (AA (qA _ O (AB (AO (AK (AY kK (v:=(.bool false)) O ?_))))))))))))));exact ⟨A' (by rw[Z];simp at f;simp[f]),E⟩
 .have A:=f;have A:=of_decide_eq_false A;refine AF O O qD (Ar f) (qF r 0 1 O dI O Bc O (AF O O qD (Ar f) (qV (AJ O Bf (m.cell O)) (AF O O qD (Ar f) (qF s 0 1 O dI O Bc O (AF O O qD (Ar f) (qV (AJ O Bf (p.cell O)) (AF O O qD (Ar f) (qE O (AS func40 kQ kQ O) (Sf _ _ _ t.set u.set (BX.ext a6 E) (BX.ext ao E)) ?_)))))))));rintro _ w9 ⟨rfl,T⟩;have m:=T.keep m;have p:=T.keep p;have E:=E.ext T;refine AF O O qD (Ar f) (qV (C1 O) (qV (Af (v:=(.bool (!(decide (t.set=u.set))))) O (by rw[f];rfl)) (qM _ O ?_)));rcases dT (!(decide (t.set=u.set))) with d|d
  .have ar:=d;refine AD O O qD (v:=.bool true) (Ar d) (dH O) (AD O O qD (v:=.bool true) (Ar d) (dH O) (AD O O qD (v:=.bool true) (Ar d) (dH O) (AD O O qD (v:=.bool true) (Ar d) (dH O) (AD O O qD (v:=.bool true) (Ar d) (dH O) (AD O O qD (v:=.bool true) (Ar d) (dH O) (AD O O qD (v:=.bool true) (Ar d) (dH O) (qV (Af (v:=(.bool true)) O (by rw[d];rfl)) (qM _ O (AD O O qD (v:=.bool true) O (dH O) (AD O O qD (v:=.bool true) O (dH O) (AD O O qD (v:=.bool true) O (dH O) (AD O O qD (v:=.bool true) O (dH O) (AD O O qD (v:=.bool true) O (dH O) (qV (Af O O) ?_))))))))))))));refine qM _ O (AD O O qD (v:=.bool true) O (dH O) (AD O O qD (v:=.bool true) O (dH O) (AD O O qD (v:=.bool true) O (dH O) (AD O O qD (v:=.bool true) O (dH O) (AD O O qD (v:=.bool true) O (dH O) (qV (Af O O) (qM _ O (AD O O qD (v:=.bool true) O (dH O) (AD O O qD (v:=.bool true) O (dH O) (AD O O qD (v:=.bool true) O (dH O) (AD O O qD (v:=.bool true) O (dH O) (AD O O qD (v:=.bool true) O (dH O) (qV (Af O O) (AB ?_))))))))))))));refine Aq O (AA (qA _ O (AB (AO (AK (AY kK (v:=(.bool false)) O ?_))))));exact ⟨A' (by rw[Z];simp at d;simp[d]),E⟩
  .have ar:=d;refine AF O O qD (Ar d) (qF r 0 2 O dI O BF O (AF O O qD (Ar d) (qV (AJ O A9 (m.cell O)) (AF O O qD (Ar d) (qV (AT dJ O) (AF O O qD (Ar d) (qF s 0 2 O dI O BF O (AF O O qD (Ar d) (qV (AJ O A9 (p.cell O)) (AF O O qD (Ar d) (qV (AT dJ O) (AF O O qD (Ar d) (qV (Bb O O) (qV (Af (v:=(.bool (decide (((t.args.length:Int):Int)≠(u.args.length:Int))))) O (by rw[d];rfl)) ?_))))))))))))));refine qM _ O ?_;rcases dT (decide ((((t.args.length:Nat):Int):Int)≠((u.args.length:Nat):Int))) with o|o
   .have z:=o;have z:=of_decide_eq_true z;refine AD O O qD (v:=.bool true) (Ar o) (dH O) (AD O O qD (v:=.bool true) (Ar o) (dH O) (AD O O qD (v:=.bool true) (Ar o) (dH O) (AD O O qD (v:=.bool true) (Ar o) (dH O) (AD O O qD (v:=.bool true) (Ar o) (dH O) (qV (Af (v:=(.bool true)) O (by rw[o];rfl)) (qM _ O (AD O O qD (v:=.bool true) O (dH O) (AD O O qD (v:=.bool true) O (dH O) (AD O O qD (v:=.bool true) O (dH O) (AD O O qD (v:=.bool true) O (dH O) (AD O O qD (v:=.bool true) O (dH O) (qV (Af O O) (qM _ O (AD O O qD (v:=.bool true) O (dH O) ?_))))))))))))));refine AD O O qD (v:=.bool true) O (dH O) (AD O O qD (v:=.bool true) O (dH O) (AD O O qD (v:=.bool true) O (dH O) (AD O O qD (v:=.bool true) O (dH O) (qV (Af O O) (AB (Aq O (AA (qA _ O (AB (AO (AK (AY kK (v:=(.bool false)) O ?_))))))))))));exact ⟨A' (by symm;rw[<-jE,BY];intro h;subst h;simp at o),E⟩
   .have z:=o;have z:=of_decide_eq_false z;refine AF O O qD (Ar o) (qF r 0 3 O dI O Al O (AF O O qD (Ar o) (qV (AJ O Ag (m.cell O)) (AF O O qD (Ar o) (qF s 0 3 O dI O Al O (AF O O qD (Ar o) (qV (AJ O Ag (p.cell O)) (AF O O qD (Ar o) (qV (Bb O O) (qV (Af (v:=(.bool (decide ((t.mn:Int)≠u.mn)))) O (by rw[o];rfl)) (qM _ O ?_)))))))))));rcases dT (decide ((t.mn:Int)≠u.mn)) with j|j
    .have B:=j;have B:=of_decide_eq_true B;refine AD O O qD (v:=.bool true) (Ar j) (dH O) (AD O O qD (v:=.bool true) (Ar j) (dH O) (AD O O qD (v:=.bool true) (Ar j) (dH O) (AD O O qD (v:=.bool true) (Ar j) (dH O) (AD O O qD (v:=.bool true) (Ar j) (dH O) (qV (Af (v:=(.bool true)) O (by rw[j];rfl)) (qM _ O (AD O O qD (v:=.bool true) O (dH O) (AD O O qD (v:=.bool true) O (dH O) (AD O O qD (v:=.bool true) O (dH O) (AD O O qD (v:=.bool true) O (dH O) (AD O O qD (v:=.bool true) O (dH O) (qV (Af O O) (AB (Aq O ?_))))))))))))));refine AA (qA _ O (AB (AO (AK (AY kK (v:=(.bool false)) O ?_)))));exact ⟨A' (by rw[Z];simp at j;simp[j]),E⟩
    .have B:=j;have B:=of_decide_eq_false B;refine AF O O qD (Ar j) (qF r 0 4 O dI O Al O (AF O O qD (Ar j) (qV (AJ O Ag (m.cell O)) (AF O O qD (Ar j) (qF s 0 4 O dI O Al O (AF O O qD (Ar j) (qV (AJ O Ag (p.cell O)) (AF O O qD (Ar j) (qV (Bb O O) (qV (Af (v:=(.bool (decide ((t.mx:Int)≠u.mx)))) O (by rw[j];rfl)) (qM _ O ?_)))))))))));rcases dT (decide ((t.mx:Int)≠u.mx)) with g|g
     .have C:=g;have C:=of_decide_eq_true C;refine AD O O qD (v:=.bool true) (Ar g) (dH O) (AD O O qD (v:=.bool true) (Ar g) (dH O) (AD O O qD (v:=.bool true) (Ar g) (dH O) (AD O O qD (v:=.bool true) (Ar g) (dH O) (AD O O qD (v:=.bool true) (Ar g) (dH O) (qV (Af (v:=(.bool true)) O (by rw[g];rfl)) (AB (Aq O (AA (qA _ O (AB (AO (AK (AY kK (v:=(.bool false)) O ?_)))))))))))));exact ⟨A' (by rw[Z];simp at g;simp[g]),E⟩
     .have C:=g;have C:=of_decide_eq_false C;refine AF O O qD (Ar g) (qF r 0 5 O dI O G8 O (AF O O qD (Ar g) (qV (AJ O HG (m.cell O)) (AF O O qD (Ar g) (qF s 0 5 O dI O G8 O (AF O O qD (Ar g) (qV (AJ O HG (p.cell O)) (AF O O qD (Ar g) (qV (J7 hU O O) (qV (Af (v:=(.bool (t.neg != u.neg))) O (by rw[g];rfl)) (AB (A4 O (λK=>?_) (λK=>?_)))))))))))))
      .have a1:=K;refine AA (qA _ O (AB (AO (AK (AY kK (v:=(.bool false)) O ?_)))));exact ⟨A' (by rw[Z];simp at K;simp[K]),E⟩
      .have a1:=K;simp at f d o j g K;refine AM (AC (AH (AA (qF r 0 2 O dI O BF O (qV (AJ O A9 (m.cell O)) (qV (AT dJ O) (qM _ O (AB (AW (Ax (λnn_ σ W7=>∃(k:Nat),(∃jj_,σ=BW jj_ [(2,(P6 r 0)),(3,(P6 s 0)),(51,(I6 (t.args.length:Int))),(52,(I6 (k:Int)))])∧Chg Aj N W7∧BV W7 r (R6 t sa sc aa ac) 25∧BV W7 s (R6 u S P F q) 25∧(k<=t.args.length)∧(∀(i:Nat),i<k->t.args[i]?=u.args[i]?)∧nn_=t.args.length - k) (n:=t.args.length - 0) ?_ ?_))))))))))
       .exact ⟨0,oH,E,m,p,dR _,(λi h=>absurd h (fU _)),O⟩
       .clear E m p;rintro _ _ W7 ⟨k,⟨j7,rfl⟩,E,m,p,hk,ah,rfl⟩;refine AA (qV (A6 O O) (AB (AH (qC O (λak=>?_) (λak=>?_)))))
        .obtain ⟨x,hx⟩:=AU (l:=t.args) (i:=k) qO;obtain ⟨y,hy⟩:=AU (l:=u.args) (i:=k) qO;obtain ⟨V,o1,rfl,ax⟩:=(A3.rs am).cells qO;obtain ⟨b2,o2,rfl,aq⟩:=(A3.rs av).cells qO;obtain ⟨xs,aj,ad⟩:=ax k x hx;obtain ⟨ys,au,af⟩:=aq k y hy;have ag:=ad;have ai:=af;obtain ⟨Q,I,G,R,rfl,_,_,_⟩:=ad.form;obtain ⟨M,D,L,J,rfl,_,_,_⟩:=af.form;refine AM (AC (AH (AW (AA (qM _ O (qA _ O (AB (AH ?_))))))));obtain ⟨aw,a⟩:∃Fs:List Fact,Fs=[.eq (P6 r 2),.eq (.slice (oI V o1) t.args.length ac),.eq (I6 (k:Int)),.eq (.pointer (some ⟨V,o1+k*6,none⟩)),.eq (.agg (R6 x Q I G R)),.eq (P6 s 2),.eq (.slice (oI b2 o2) u.args.length q),.eq (I6 (k:Int)),.eq (.pointer (some ⟨b2,o2+k*6,none⟩)),.eq (.agg (R6 y M D L J)),.eq (.bool (BU x y)),.eq (.bool (!(BU x y)))]:=⟨_,O⟩;refine Ga [55,56,57,58,59,60,61,62,63,64,65,66] [[],[0],[],[1,2],[3],[],[5],[],[6,7],[8],[4,9],[10]] aw a mixed qK qK ?_ ?_
         .intro wd W;refine DagSteps.cons (λb w' X U H=>dH ⟨?_,?_⟩) ?_
          .exact AE O
          .exact AP (AQ (U 2 O) dI O BF O) (Ah.refl _) O
          refine DagSteps.cons (λb w' X U H=>dH ⟨?_,?_⟩) ?_
          .exact AE O
          .have a4:b 55=(P6 r 2):=H 0 O 55 (.eq (P6 r 2)) O (by rw[a];rfl);exact AP (AJ a4 A9 (((W.trans X).keep m).cell O)) (Ah.refl _) O
          refine DagSteps.cons (λb w' X U H=>dH ⟨?_,?_⟩) ?_
          .exact AE O
          .exact AP (Am (U 5 O)) (Ah.refl _) O
          refine DagSteps.cons (λb w' X U H=>dH ⟨?_,?_⟩) ?_
          .exact AE O
          .have a7:b 56=(.slice (oI V o1) t.args.length ac):=H 1 O 56 (.eq (.slice (oI V o1) t.args.length ac)) O (by rw[a];rfl);have a5:b 57=(I6 ((k:Nat):Int)):=H 2 O 57 (.eq (I6 ((k:Nat):Int))) O (by rw[a];rfl);exact AP (AL (i:=k) a7 a5 O dJ AG qO qO) (Ah.refl _) O
          refine DagSteps.cons (λb w' X U H=>dH ⟨?_,?_⟩) ?_
          .exact AE O
          .have ap:b 58=(.pointer (some ⟨V,o1+k*6,none⟩)):=H 3 O 58 (.eq (.pointer (some ⟨V,o1+k*6,none⟩))) O (by rw[a];rfl);exact AP (AI ap Ad AG O (aj.ext (Ah.trans E (W.trans X)))) (Ah.refl _) O
          refine DagSteps.cons (λb w' X U H=>dH ⟨?_,?_⟩) ?_
          .exact AE O
          .exact AP (AQ (U 3 O) dI O BF O) (Ah.refl _) O
          refine DagSteps.cons (λb w' X U H=>dH ⟨?_,?_⟩) ?_
          .exact AE O
          .have al:b 60=(P6 s 2):=H 5 O 60 (.eq (P6 s 2)) O (by rw[a];rfl);exact AP (AJ al A9 (((W.trans X).keep p).cell O)) (Ah.refl _) O
          refine DagSteps.cons (λb w' X U H=>dH ⟨?_,?_⟩) ?_
          .exact AE O
          .exact AP (Am (U 5 O)) (Ah.refl _) O
          refine DagSteps.cons (λb w' X U H=>dH ⟨?_,?_⟩) ?_
          .exact AE O
          .have a3:b 61=(.slice (oI b2 o2) u.args.length q):=H 6 O 61 (.eq (.slice (oI b2 o2) u.args.length q)) O (by rw[a];rfl);have a0:b 62=(I6 ((k:Nat):Int)):=H 7 O 62 (.eq (I6 ((k:Nat):Int))) O (by rw[a];rfl);exact AP (AL (i:=k) a3 a0 O dJ AG qO qO) (Ah.refl _) O
          refine DagSteps.cons (λb w' X U H=>dH ⟨?_,?_⟩) ?_
          .exact AE O
          .have an:b 63=(.pointer (some ⟨b2,o2+k*6,none⟩)):=H 8 O 63 (.eq (.pointer (some ⟨b2,o2+k*6,none⟩))) O (by rw[a];rfl);exact AP (AI an Ad AG O (au.ext (Ah.trans E (W.trans X)))) (Ah.refl _) O
          refine DagSteps.cons (λb w' X U H=>dH ⟨?_,?_⟩) ?_
          .exact AE O
          .have a2:b 59=(.agg (R6 x Q I G R)):=H 4 O 59 (.eq (.agg (R6 x Q I G R))) O (by rw[a];rfl);have ay:b 64=(.agg (R6 y M D L J)):=H 9 O 64 (.eq (.agg (R6 y M D L J))) O (by rw[a];rfl);exact A7 (AS func44 kQ kQ (F_ a2 ay)) (ih x y _ _ _ (by have:=Re.size_arg hx;omega) (A3.ext (Ah.trans E (W.trans X)) x ag) (A3.ext (Ah.trans E (W.trans X)) y ai))
          refine DagSteps.cons (λb w' X U H=>dH ⟨?_,?_⟩) ?_
          .exact AE O
          .have az:b 65=(.bool (BU x y)):=H 10 O 65 (.eq (.bool (BU x y))) O (by rw[a];rfl);exact AP (C1 az) (Ah.refl _) O
          exact DagSteps.nil
         .intro b w9 T U H;obtain ⟨j9,rfl⟩:=Ak.out (σ:=b) (l:=[(2,(P6 r 0)),(3,(P6 s 0)),(51,(I6 ((t.args.length:Nat):Int))),(52,(I6 ((k:Nat):Int))),(66,(.bool (!(BU x y))))]) ⟨U 2 O,U 3 O,U 51 O,U 52 O,(show b 66=(.bool (!(BU x y))) from H 11 66 (.eq (.bool (!(BU x y)))) O (by rw[a];rfl)),trivial⟩;clear U H;have m:=T.keep m;have p:=T.keep p;have E:=E.ext T;refine AC (A4 O (λe=>?_) (λe=>?_))
          .have ae:=e;have e:=by simpa using e
           refine AA (qA _ O (AB (AO (Ac (AK (AK (Ac (AK (AY kK (v:=(.bool false)) O ?_)))))))));exact ⟨A' (by symm;rw[<-jE,BY];intro h;subst h;rw[hx] at hy;cases hy;rw[(BY x x).2 rfl] at e;cases e),E⟩
          .have ae:=e;have e:=by simpa using e
           have ab:x=y:=(BY x y).1 (by simpa using e);refine AM (AV (AC (AN (qV (A0 O O (A8 qO)) (qM _ O (AB (AC ?_)))))));exact ⟨t.args.length - (k+1),qO,k+1,oH,E,m,p,qO,(λi hi=>by rcases eI i k with h|h;exact ah i h;obtain rfl:i=k:=qO;rw[hx,hy,ab]),O⟩
        .have hkk:k=t.args.length:=qO
         refine Av (AZ (AZ (Ao (AC (AA (qA _ O (AB (AO (AY kK (v:=(.bool true)) O ?_)))))))));exact ⟨A' (by symm;rw[Z,(E8 t.args u.args).2 (JX qO (λi hi=>ah i qO))];simp[f,d,j,g,K]),E⟩
theorem JI (w0:World):Bj prog 82 #[] w0 λv w=>v=.agg #[I6 0,.slice none 0 0,.slice none 0 0,I6 0,I6 0,.bool false]∧Ah w0 w:=by
 refine qR func82 rfl ntmps82 rfl (λE=>(AA (BK (c:=#[(I6 0),(.slice none 0 0),(.slice none 0 0),(I6 0),(I6 0),(.bool false)]) qD A1 rfl ?_)));intro b1 w1 N1;have F1:=N1.ge E;have E:=E.ext N1.ext;have B1:=N1.blk;refine AB (AA (qV (B0 (ps:=[]) (v:=(.agg #[(I6 0),(.slice none 0 0),(.slice none 0 0),(I6 0),(I6 0),(.bool false)])) rfl qK) (Aa (b:=b1) (o:=0) (c':=#[(I6 0),(.slice none 0 0),(.slice none 0 0),(I6 0),(I6 0),(.bool false)]) rfl rfl qS AG rfl B1 qL rfl ?_)));intro w2 S2;have E:=S2.step E (by first|exact dH qO|assumption|exact dG rfl|exact dG (by assumption)|exact dG qP|exact dG qO|exact dG (by dsimp only;omega));have B1:=S2.blk;refine AB (AO (A2 results82 (vs:=[(I6 0),(.slice none 0 0),(.slice none 0 0),(I6 0),(I6 0),(.bool false)]) (b:=b1) rfl Ad AG rfl (B1.cells rfl) ?_));exact ⟨rfl,E⟩
theorem JK (w0:World):Bj prog 48 #[] w0 λv w=>v=.agg #[I6 1,.slice none 0 0,.slice none 0 0,I6 0,I6 0,.bool false]∧Ah w0 w:=by
 refine qR func48 rfl ntmps48 rfl (λE=>(AA (BK (c:=#[(I6 0),(.slice none 0 0),(.slice none 0 0),(I6 0),(I6 0),(.bool false)]) qD A1 rfl ?_)));intro b1 w1 N1;have F1:=N1.ge E;have E:=E.ext N1.ext;have B1:=N1.blk;refine AB (AA (qV (B0 (ps:=[(0,(I6 1))]) (v:=(.agg #[(I6 1),(.slice none 0 0),(.slice none 0 0),(I6 0),(I6 0),(.bool false)])) rfl qK) (Aa (b:=b1) (o:=0) (c':=#[(I6 1),(.slice none 0 0),(.slice none 0 0),(I6 0),(I6 0),(.bool false)]) rfl rfl qS AG rfl B1 qL rfl ?_)));intro w2 S2;have E:=S2.step E (by first|exact dH qO|assumption|exact dG rfl|exact dG (by assumption)|exact dG qP|exact dG qO|exact dG (by dsimp only;omega));have B1:=S2.blk;refine AB (AO (A2 results48 (vs:=[(I6 1),(.slice none 0 0),(.slice none 0 0),(I6 0),(I6 0),(.bool false)]) (b:=b1) rfl Ad AG rfl (B1.cells rfl) ?_));exact ⟨rfl,E⟩
end Go.Proofs
namespace Go.Eng
open Go
section
variable {P : Program} {N : Nat} {σ : CZ} {w : World} {ty : TypeId} {pos : String} {af : Array Edge} {g : Option (Nat × Bool)} {t : TypeId} {x y : Operand} {M : Nat → Prop}
theorem Xk {dst:Option Tmp} {e bytes n:Nat} {z:Value} (o:P.underlying t=some (.slice e)) (a:EI P e 1) (b:Js P e bytes) (c:FP P e z) (f:z.cells=#[z]) (m:ev σ x=I6 ((n:Nat):Int)) (p:ev σ y=I6 ((n:Nat):Int)) (hb:n*bytes<=140737488355328) (hn:n<=140737488355328) :
 (execOp (ev σ) ⟨dst,.makeSlice t x y,ty,pos,af,g⟩).run P w=.ok (.value (.slice (oI w.heap.size 0) n n)) {w with heap:=w.heap.push (.cells (List.replicate n z).toArray e (0,0))}:=by
 unfold EI at a;unfold Js at b;unfold FP at c;cases hi:P.info? e with
 | none=>rw[hi] at a;simp at a
 | some i=>
 rw[hi] at a b c;simp at a b c;have h:=run_make (P:=P) w t e i _ o hi c .i64 .i64 ((n:Nat):Int) ((n:Nat):Int) qO (gM _) (by rw[b];have:((bytes:Nat):Int)*((n:Nat):Int)=(((n*bytes:Nat):Nat):Int):=(by rw[mU,nV]);rw[this];omega) qO;have l:madeCells z.cells (n*i.size)=(List.replicate n z).toArray:=by
  rw[a,kT,f];apply iJ;simp only[madeCells];apply fW;intro j;simp only[mM,eN,gX];rcases eI j n with k|k
  .have d:(Array.range n).toList[j]?=some j:=by simp[k]
   rw[d,if_pos k];simp[Nat.mod_one]
  .have d:(Array.range n).toList[j]?=none:=by simp;omega
   rw[d,if_neg qO];rfl
 simp only[iY,l] at h;simp only[execOp,m,p,Sem.run_bind,h,Result.andThen_ok];rfl
def Z7 (e:Nat) (z:Value) (n hs:Nat):G0:=λv w=>∃b,v=.slice (oI b 0) n n∧BV w b (List.replicate n z).toArray e∧hs<=b
theorem Xv {U:oD} {e n hs:Nat} {z:Value} (h:∀y,U y->y<hs):∀v w w',Chg U w w'->Z7 e z n hs v w->Z7 e z n hs v w':=by
 rintro v w w' c ⟨b,f,d,a⟩;exact ⟨b,f,c.keep (λg=>by have:=h b g;omega) d,a⟩
theorem Qw {d e bytes n hs:Nat} {z:Value} (i:P.underlying t=some (.slice e)) (c:EI P e 1) (a:Js P e bytes) (k:FP P e z) (b:z.cells=#[z]) (h:ev σ x=I6 ((n:Nat):Int)) (f:ev σ y=I6 ((n:Nat):Int)) (hb:n*bytes<=140737488355328) (hn:n<=140737488355328) (j:hs<=w.heap.size) :
 Dn M P N ⟨some d,.makeSlice t x y,ty,pos,af,g⟩ (Z7 e z n hs) σ w:=
 BZ (Xk i c a k b h f hb hn) (Ah.chg (New.mk' w _ e).ext) ⟨_,O,(New.mk' w _ e).blk,j⟩
end
end Go.Eng
namespace Go.Proofs
open Go Go.Eng Go.Sort
set_option maxRecDepth 100000
abbrev Wu:TypeId:=45
abbrev bM:TypeId:=71
abbrev Yq:TypeId:=4
def W0 (c q:Nat):Value:=.slice (oI q 0) c c
structure KnA (w:World) (n1:Nat) (kv:Value) (bs:oC) (K:List (List Bool)) (c:Nat):Prop where
 o:w.ownsRow n1 bM 1 kv K.length (bs.map (W0 c))
 len:bs.length=K.length
 row:∀(i q:Nat) (r:List Bool),bs[i]?=some q->K[i]?=some r->n1<=q∧BV w q (r.map Value.bool).toArray Yq∧r.length=c
 nd:bs.Nodup
 no:∀q∈bs,kv.ownBlock≠some q
def ID (b:Nat) (lv kv:Value) (bs:oC):Nat->Prop:=λq=>q=b∨lv.ownBlock=some q∨kv.ownBlock=some q∨q∈bs
structure RepH (L:List Re) (K:List (List Bool)) (a:LzA Re):Prop where
 dom:∀t,a.dom t↔t∈L
 kn:∀(i:Nat) t r,L[i]?=some t->K[i]?=some r->∀c:Nat,a.kn t ((c:Nat):Int)↔r[c]?=some true
 ko:∀t c,a.kn t c->t∈L
 n:a.n=L.length
 kl:K.length=L.length
 nd:L.Nodup
section
variable {S T M : Nat → Prop} {z0 n1 c : Nat} {w w' : World} {v kv : Value} {L : List Re} {bs : List Nat} {K : List (List Bool)} {a : LzA Re} {t : Re}
theorem KnA.get {i:Nat} {r:List Bool} (h:KnA w n1 kv bs K c) (a:K[i]?=some r):∃q,bs[i]?=some q∧n1<=q∧BV w q (r.map Value.bool).toArray Yq∧r.length=c:=by
 obtain ⟨q,b⟩:=AU (l:=bs) (i:=i) (by rw[h.len];exact AX a);exact ⟨q,b,h.row i q r b a⟩
theorem KnA.rowm {q:Nat} (h:KnA w n1 kv bs K c) (d:q∈bs):n1<=q∧q<w.heap.size∧Fy w q:=by
 obtain ⟨i,hi⟩:=eS.1 d;obtain ⟨r,e⟩:=AU (l:=K) (i:=i) (by rw[<-h.len];exact AX hi);obtain ⟨b,a,_⟩:=h.row i q r hi e;exact ⟨b,a.lt,DT a⟩
theorem KnA.chg (h:KnA w n1 kv bs K c) (C:Chg M w w') (d:∀b,kv.ownBlock=some b->¬M b) (f:∀q∈bs,¬M q):KnA w' n1 kv bs K c:=
 ⟨CH h.o C d,h.len,λi q r a j=>by obtain ⟨g,k,e⟩:=h.row i q r a j;exact ⟨g,C.keep (f q (dK a)) k,e⟩,h.nd,h.no⟩
theorem KnA.ext (h:KnA w n1 kv bs K c) (C:Ah w w'):KnA w' n1 kv bs K c:=h.chg C (λ_ _ f=>f) λ_ _ f=>f
theorem KnA.nil (w:World) (n1 c:Nat):KnA w n1 (.slice none 0 0) [] [] c:=⟨World.ownsRow_nil _ _ _ _,O,λi q r h=>by simp at h,g_,qP⟩
theorem KnA.push {b:Value} {q:Nat} {r:List Bool} (h:KnA w n1 kv bs K c) (C:Chg M w w') (m:∀p∈bs,¬M p) (A:BV w' q (r.map Value.bool).toArray Yq) (hn:n1<=q) (n:r.length=c) (hq:w.heap.size<=q)
 (B:w'.ownsRow n1 bM 1 b (K.length+1) (bs.map (W0 c)++[W0 c q])) (t:∀k,b.ownBlock=some k->kv.ownBlock=some k∨w.heap.size<=k) (j:b.ownBlock≠some q):KnA w' n1 b (bs++[q]) (K++[r]) c:=by
 have d:∀p∈bs,p<w.heap.size:=λp a=>(h.rowm a).2.1;refine ⟨?_,by simp[h.len],λi p s a hs=>?_,?_,λp a e=>?_⟩
 .rw[dN,eT];exact B
 .rcases eI i bs.length with hi|hi
  .rw[dQ hi] at a;rw[dQ (by rw[<-h.len];exact hi)] at hs;obtain ⟨l,o,z⟩:=h.row i p s a hs;exact ⟨l,C.keep (m p (dK a)) o,z⟩
  .rw[dX hi] at a;rw[dX (by rw[<-h.len];exact hi)] at hs;have f:i - bs.length=0:=by have:=AX a;simp at this;omega
   rw[f] at a;rw[<-h.len,f] at hs;simp at a hs;subst a;subst hs;exact ⟨hn,A,n⟩
 .exact gN.2 ⟨h.nd,qP,λx v y u e=>by rw[dO.1 u] at e;have:=d x v;omega⟩
 .rcases eC.1 a with a|a
  .rcases t p e with g|g
   .exact h.no p a g
   .have:=d p a;omega
  .rw[dO.1 a] at e;exact j e
theorem KnA.put {i j q:Nat} {r:List Bool} (h:KnA w n1 kv bs K c) (a:bs[i]?=some q) (n:K[i]?=some r) (l:Put w w' q ((r.set j true).map Value.bool).toArray Yq):KnA w' n1 kv bs (K.set i (r.set j true)) c:=by
 have f:=dK a;refine ⟨?_,by rw[iO];exact h.len,λk p s d hs=>?_,h.nd,h.no⟩
 .rw[iO];exact CH h.o l.chg λb hb e=>h.no q f (by rw[hb];exact congrArg some e)
 .rw[fG] at hs;by_cases e:i=k
  .subst e;rw[if_pos O,if_pos (AX n)] at hs;cases hs;rw[a] at d;cases d;obtain ⟨g,_,m⟩:=h.row i q r a n;exact ⟨g,l.blk,by rw[iO];exact m⟩
  .rw[if_neg e] at hs;obtain ⟨g,u,m⟩:=h.row k p s d hs;exact ⟨g,l.chg.keep (λt=>e ((iZ (AX a) h.nd).1 (a.trans (by rw[d];exact congrArg some (t:p=q).symm)))) u,m⟩
theorem Pr {e size n base b:Nat} {xs:n_} (h:w.ownsRow base e size v n xs) (hb:v.ownBlock=some b):Fy w b:=by
 rcases h.2 with ⟨a,_⟩|⟨g,cap,cur,c,_,d,_⟩
 .rw[a] at hb;cases hb
 .rw[c] at hb;simp[Value.ownBlock] at hb;subst hb;exact ⟨_,_,_,d⟩
theorem ListR.noM {b:Nat} (h:ListR S z0 n1 w v L T) (hb:v.ownBlock=some b):Fy w b:=by
 obtain ⟨rows,a,_⟩:=h.o;exact Pr a hb
theorem ListR.pushV {V:oD} {g:World} {v':Value} {x:Re} {d:n_} {rows:List n_} (h:ListR S z0 n1 w v L T) (l:Ap T w L rows) (o:AR V w x d) (c:∀y,V y->(S y∨z0<=y)∧y<w.heap.size∧v.ownBlock≠some y)
 (p:g.ownsRow n1 FR 6 v' (L.length+1) (rows.flatten++d)) (C:Chg M w g) (e:∀y,T y->¬M y) (i:∀y,V y->¬M y) (m:∀k,v'.ownBlock=some k->v.ownBlock=some k∨w.heap.size<=k) :
 ListR S z0 n1 g v' (L++[x]) (λb=>T b∨V b):=by
 have hs:=C.size;refine ⟨⟨rows++[d],?_,?_⟩,λy a=>?_,λb hb a=>?_⟩
 .rw[dN,fX,iS];exact p
 .exact Ap.append (Ap.single (AR.mono (λb hb=>.inr hb) x (AR.chg C (λb hb f=>i b hb f) x o))) (Ap.mono (λb hb=>.inl hb) (Ap.chg C (λb hb f=>e b hb f) l))
 .rcases a with a|a
  .exact ⟨(h.t y a).1,by have:=(h.t y a).2;omega⟩
  .exact ⟨(c y a).1,by have:=(c y a).2.1;omega⟩
 .rcases m b hb with j|j
  .rcases a with a|a
   .exact h.n b j a
   .exact (c b a).2.2 j
  .rcases a with a|a
   .have:=(h.t b a).2;omega
   .have:=(c b a).2.1;omega
end
theorem LD (w0:World) (S T:Nat→Prop) (n1 n2 b:Nat) (x0 x1 x2 x3 x4 x5 x6 x7 x9 x10 x11:Value) (la:oE) (lc:Nat) (L:List Re) (r:Re) (rv:n_)
  (hB:BV w0 b #[x0,x1,x2,x3,x4,x5,x6,x7,.slice la L.length lc,x9,x10,x11] Wu) (hL:ListR S n1 n2 w0 (.slice la L.length lc) L T) (hr:A3 w0 r rv) (hLl:L.length≤1000) :
  Bj prog 55 #[P6 b 0,.agg rv.toArray] w0 λv w=>v=I6 (Hg (λy=>BU y r) L)∧Ah w0 w:=by
 have al:=hr;obtain ⟨sa,sc,aa,ac,rfl,_,_,_⟩:=hr.form;refine qR func55 rfl ntmps55 rfl (λE=>(AA (BC (v:=(.agg (R6 r sa sc aa ac))) (c:=(R6 r sa sc aa ac)) qD rfl rfl ?_)));intro bx wx Nx;have Fx:=Nx.ge E;have Ox_b:=Nx.lt hB;have hB:=Nx.keep hB;have E:=E.ext Nx.ext;have Bx:=Nx.blk;refine qA _ rfl (AB (AH (AA (qM _ rfl (qV (Ay rfl) (qF b 0 8 rfl fN rfl BF rfl (qV (AJ rfl A9 (hB.cell rfl)) (qV (AT dJ rfl) (qM _ rfl (AB (AW (Ax (λnn_ σ W1=>∃(k:Nat),(∃jj_,σ=BW jj_ [(3,(P6 bx 0)),(10,(.slice la L.length lc)),(11,(I6 (L.length:Int))),(12,(I6 (k:Int)))])∧Chg Aj w0 W1∧BV W1 b #[x0,x1,x2,x3,x4,x5,x6,x7,(.slice la L.length lc),x9,x10,x11] Wu∧BV W1 bx (R6 r sa sc aa ac) 25∧(k≤L.length)∧(∀(i:Nat) y,i<k→L[i]?=some y→BU y r=false)∧nn_=L.length - k) (n:=L.length - 0) ?_ ?_))))))))))))
 ·exact ⟨0,oH,E,hB,Bx,dR _,(λi y h=>absurd h (fU _)),rfl⟩
 ·clear E hB Bx;rintro _ _ W1 ⟨k,⟨j1,rfl⟩,E,hB,Bx,hk,ad,rfl⟩;refine AA (qV (A6 rfl rfl) (AB (AH (qC rfl (λaj=>?_) (λaj=>?_)))))
  ·obtain ⟨y,hy⟩:=AU (l:=L) (i:=k) qO;obtain ⟨lg,rfl,ys,ak,ag⟩:=hL.at hy;obtain ⟨ai,ae,ah,af,rfl,_,_,_⟩:=ag.form;refine AM (AC (AH (AW (AA (qM _ rfl (qV (AL (b:=lg) (o:=0) (len:=L.length) (cap:=lc) (i:=k) (o':=0+k*6) rfl rfl rfl dJ AG qO qO) (qV (AI rfl Ad AG rfl (ak.ext E)) (BK (c:=#[(I6 0),(.slice none 0 0),(.slice none 0 0),(I6 0),(I6 0),(.bool false)]) qD A1 rfl ?_))))))));intro bv wv Nv;have Fv:=Nv.ge E;have Ov_b:=Nv.lt hB;have Ov_bx:=Nv.lt Bx;have hB:=Nv.keep hB;have Bx:=Nv.keep Bx;have E:=E.ext Nv.ext;have Bv:=Nv.blk;refine qA _ rfl (Aa (b:=bv) (o:=0) (c':=(R6 y ai ae ah af)) rfl rfl qS AG rfl Bv qL rfl ?_);intro w3 S3;have hB:=S3.keep qO hB;have Bx:=S3.keep qO Bx;have E:=S3.step E (by first|exact dH qO|assumption|exact dG rfl|exact dG (by assumption)|exact dG qP|exact dG qO|exact dG (by dsimp only;omega));have Bv:=S3.blk;refine AB (AA (qV (AI (vs:=(oJ y ai ae ah af)) rfl Ad AG rfl (Bv.cells rfl)) (qV (AI (vs:=(oJ r sa sc aa ac)) rfl Ad AG rfl (Bx.cells rfl)) (qE rfl (AS func44 kQ kQ rfl) (JJ y.size y r _ _ _ (dU _) (A3.ext E y (AR.at y ag)) (A3.ext E r al)) ?_))));rintro _ w59 ⟨rfl,ab⟩;have hB:=ab.keep hB;have Bx:=ab.keep Bx;have Bv:=ab.keep Bv;have E:=E.ext ab;refine AB (A4 rfl (λhs=>?_) (λhs=>?_))
   ·have am:=hs;refine AA (qM _ rfl (qA _ rfl (AB (AO (Ac (AK (AK (Ac (AK (AY results55 (v:=(I6 ((k:Nat):Int))) rfl ?_))))))))));exact ⟨by rw[GC (p:=λy=>BU y r) hy hs ad],E⟩
   ·have am:=hs;refine AM (AV (AC (AN (qV (A0 rfl rfl (A8 qO)) (qM _ rfl (AB (AC ?_)))))));exact ⟨L.length - (k+1),qO,k+1,oH,E,hB,Bx,qO,(λi z hi hz=>by rcases eI i k with h|h;exact ad i z h hz;obtain rfl:i=k:=qO;rw[hy] at hz;cases hz;exact hs),rfl⟩
  ·refine Av (AZ (AZ (Ao (AC (AA (qA _ rfl (AB (AO (AY results55 (v:=(I6 (-1))) rfl ?_)))))))));exact ⟨by rw[HF (p:=λy=>BU y r) λi y hy=>ad i y (by have:=AX hy;omega) hy],E⟩
theorem YI (c:World) (b:Nat) (h p j m q k i l f a d:Value) (g:oE) (n e:Nat) (o:BV c b #[h,p,j,m,q,k,i,l,.slice g n e,f,a,d] Wu) :
 Bj prog 18 #[P6 b 0] c λv w=>v=I6 ((n:Nat):Int)∧Ah c w:=by
 refine qR func18 O ntmps18 O (λE=>(AA (qA _ O (AB (AA (qM _ O (qV (Ay O) (qF b 0 8 O fN O BF O (qV (AJ O A9 (o.cell O)) (qV (AT dJ O) (qA _ O (AB (AO (AY results18 (v:=(I6 ((n:Nat):Int))) O ?_))))))))))))));exact ⟨O,E⟩
end Go.Proofs
namespace Go.Eng
open Go
theorem Ku {M:oD} {P:Program} {N:Nat} {o:Oper} {R R':G0} {σ:CZ} {w:World} (h:Dn M P N o R σ w) (e:∀v b,Chg M w b->R v b->R' (Go.Eng.valOf o v) b):Dn M P N o (λv w=>R' (Go.Eng.valOf o v) w) σ w:=λj a g i Q K f=>h j a g i Q K λv b c d=>f v b c (e v b c d)
end Go.Eng
namespace Go.Proofs
open Go Go.Eng Go.Sort
set_option maxRecDepth 100000
theorem Pt {w w':World} {base e size n cap g:Nat} {xs ys i:n_} {a:oG} (h:w.ownsRow base e size (.slice (oI g 0) (n+1) cap) (n+1) (xs++ys)) (r:BV w g a e) (l:xs.length=n*size) (m:i.length=size)
 (c:BV w' g (a.toList.take (n*size)++i++a.toList.drop (n*size+size)).toArray e):w'.ownsRow base e size (.slice (oI g 0) (n+1) cap) (n+1) (xs++i):=by
 rcases h.2 with ⟨u,_⟩|⟨g',cap',cur',q,p,k,f,o,d,b⟩
 .simp at u
 .simp only[Value.slice.injEq,fI,Addr.mk.injEq,and_true] at q;obtain ⟨rfl,_,rfl⟩:=q;unfold BV at r c;rw[r] at k;simp only[fI,Obj.cells.injEq,and_true] at k;obtain ⟨rfl,_⟩:=k;have j:(n+1)*size=n*size+size:=iM n size;have h2:n*size+size<=a.size:=by rw[d,<-j];exact iC _ f
  have t:a.toList.take (n*size)=xs:=by
   have s:=congrArg (List.take (n*size)) b;rw[List.take_take,lK qO,mW l] at s;exact s
  refine ⟨by rw[dN,l,m];exact j.symm,.inr ⟨g,cap,_,O,p,c,f,o,?_,?_⟩⟩
  .rw[<-d];simp only[fQ,dN,gE,iP,m,h_];omega
  .rw[j,t,mW (by rw[dN,l,m])]
def apK (st n1 n hs:Nat) (xs:n_) (old:Value):CW:=λS _ v w=>(∃a c,v=.slice a n c)∧(∀k,v.ownBlock=some k->old.ownBlock=some k∨hs<=k)∧(S st=false->w.ownsRow n1 FR 6 v n xs)
theorem Dl.apK {Ms:Nat->Nat->Prop} {i c n1 n hs:Nat} {ws:oC} {xs:n_} {a:Value} (g:∀p y,p≠i->ws.contains p=false->p≠c->Ms p y->a.ownBlock≠some y∧y<hs):Dl Ms i ws (apK c n1 n hs xs a):=
 λp q l S σ v w w' _ _ C h=>⟨h.1,h.2.1,λb=>by
  by_cases e:p=c
  .subst e;rw[KJ] at b;cases b
  .rw[Ow (λo=>e o.symm)] at b;exact CH (h.2.2 b) C λk j f=>by
    have m:=g p k q l e f;rcases h.2.1 k j with d|d
    .exact m.1 d
    .omega⟩
def bI (sl n off:Nat):CW:=λ_ s v _=>∃k c,s sl=.slice (oI k 0) n c∧v=P6 k off
def owK (sl n1 n hs:Nat) (xs:n_) (old:Value):CW:=λ_ s _ w=>(∀k,(s sl).ownBlock=some k->old.ownBlock=some k∨hs<=k)∧w.ownsRow n1 FR 6 (s sl) n xs
theorem Dl.owK {Ms:Nat->Nat->Prop} {i e n1 n hs:Nat} {ws:oC} {xs:n_} {a:Value} (d:∀p y,p≠i->ws.contains p=false->Ms p y->a.ownBlock≠some y∧y<hs):Dl Ms i ws (owK e n1 n hs xs a):=
 λp l g S σ v w w' _ _ C h=>⟨h.1,CH h.2 C λk f c=>by
  have j:=d p k l g c;rcases h.1 k f with b|b
  .exact j.1 b
  .omega⟩
theorem T8 {U:oD} {e hs:Nat} {c:oG} (h:∀y,U y->y<hs):∀v w w',Chg U w w'->I4 e c hs v w->I4 e c hs v w':=by
 rintro v w w' x ⟨b,a,g,d⟩;exact ⟨b,a,x.keep (λf=>by have:=h b f;omega) g,d⟩
def Z8 (c hs:Nat):G0:=λv w=>∃b q,v=.slice (oI b 0) 1 1∧BV w b #[W0 c q] bM∧hs<=b∧BV w q (List.replicate c (Value.bool false)).toArray Yq∧hs<=q
theorem Xz {U:oD} {c hs:Nat} (h:∀y,U y->y<hs):∀v w w',Chg U w w'->Z8 c hs v w->Z8 c hs v w':=by
 rintro v w w' x ⟨b,q,g,e,d,i,f⟩;exact ⟨b,q,g,x.keep (λa=>by have:=h b a;omega) e,d,x.keep (λa=>by have:=h q a;omega) i,f⟩
def bL (c n1 n hs:Nat) (xs:n_) (old:Value):G0:=λv w=>∃q,M3 n1 bM 1 n (xs++[W0 c q]) old hs v w∧BV w q (List.replicate c (Value.bool false)).toArray Yq∧hs<=q∧v.ownBlock≠some q
structure HlAp (n1 b:Nat) (lv kv:Value) (bs:oC) (T:oD):Prop where
 lo:n1<=b
 lb:lv.ownBlock≠some b
 kb:kv.ownBlock≠some b
 bb:b∉bs
 lk:∀q,lv.ownBlock=some q->kv.ownBlock≠some q
 lr:∀q∈bs,lv.ownBlock≠some q
 tb:¬T b
 tk:∀q,kv.ownBlock=some q->¬T q
 tr:∀q∈bs,¬T q
theorem RepH.hold {L j:List Re} {K q:List (List Bool)} {a:LzA Re} {t:Re} {most c:Nat} {m:Int} (h:RepH L K a) (hd:¬a.dom t) (u:(a.n=most∧j=[]∧q=[]∧m=Et a.drops)∨(a.n≠most∧j=L∧q=K∧m=a.drops)):RepH (j++[t]) (q++[List.replicate c false]) (holdA most a t)∧(holdA most a t).drops=m:=by
 have g:∀k:Nat,(List.replicate c false)[k]?=some true->False:=λk v=>by
  have:=List.eq_of_mem_replicate (dK v);cases this
 rcases u with ⟨p,rfl,rfl,rfl⟩|⟨p,rfl,rfl,rfl⟩
 .rw[FB hd p];refine ⟨⟨λx=>qP,λi x r b d k=>?_,λx k f=>f.elim,O,O,qP⟩,O⟩;rw[fO] at b d;have o:i=0:=by have:=AX b;simp at this;exact this
  subst o;simp at d;subst d;exact ⟨λf=>f.elim,λe=>g k e⟩
 .rw[FY hd p];have l:t∉j:=λs=>hd ((h.dom t).2 s);refine ⟨⟨λx=>?_,λi x r b d k=>?_,λx k f=>iE _ (h.ko x k f),by simp[h.n],by simp[h.kl],gN.2 ⟨h.nd,qP,λx b y w e=>by rw[dO.1 w] at e;exact l (e▸b)⟩⟩,O⟩
  .show a.dom x∨x=t↔_;rw[h.dom x];simp
  .show a.kn x ((k:Nat):Int)↔_;rcases eI i j.length with hi|hi
   .rw[dQ hi] at b;rw[dQ (by rw[h.kl];exact hi)] at d;exact h.kn i x r b d k
   .have o:i=j.length:=by have:=AX b;simp at this;omega
    subst o;rw[dX (dU _)] at b;rw[dX (by rw[h.kl];exact dU _),h.kl] at d;simp at b d;subst b;subst d;exact ⟨λf=>absurd (h.ko _ _ f) l,λe=>(g k e).elim⟩
theorem Rj (w0:World) (S T V:oD) (n1 b most Z:Nat) (x2 x3 x4 x5 x6 x7 ah:Value) (ca la ka:oE) (cc lc kc:Nat) (L:List Re) (K:List (List Bool)) (bs:oC) (a:LzA Re) (r:Re) (rv:n_)
 (hB:BV w0 b #[I6 ((most:Nat):Int),.slice ca Z cc,x2,x3,x4,x5,x6,x7,.slice la L.length lc,.slice ka K.length kc,ah,I6 a.drops] Wu)
 (hL:ListR S n1 n1 w0 (.slice la L.length lc) L T) (hK:KnA w0 n1 (.slice ka K.length kc) bs K Z) (hA:HlAp n1 b (.slice la L.length lc) (.slice ka K.length kc) bs T) (hR:RepH L K a)
 (hr:AR V w0 r rv) (hV:∀y,V y->(S y∨n1<=y)∧¬ID b (.slice la L.length lc) (.slice ka K.length kc) bs y) (hm:1<=most∧most<=100) (hn:a.n<=most) (hcn:Z<=1000) (hn1:n1<=w0.heap.size) :
 Bj prog 54 #[P6 b 0,.agg rv.toArray] w0 λ_ w=>∃(a0 ax:oE) (ay az:Nat) (T':oD) (a8:oC) (L':List Re) (K':List (List Bool)),
  BV w b #[I6 ((most:Nat):Int),.slice ca Z cc,x2,x3,x4,x5,x6,x7,.slice a0 L'.length ay,.slice ax K'.length az,ah,I6 (holdA most a r).drops] Wu∧
  ListR S n1 n1 w (.slice a0 L'.length ay) L' T'∧KnA w n1 (.slice ax K'.length az) a8 K' Z∧HlAp n1 b (.slice a0 L'.length ay) (.slice ax K'.length az) a8 T'∧RepH L' K' (holdA most a r)∧
  (∀q,ID b (.slice a0 L'.length ay) (.slice ax K'.length az) a8 q->ID b (.slice la L.length lc) (.slice ka K.length kc) bs q∨w0.heap.size<=q)∧(∀y,T' y->T y∨V y)∧Chg (ID b (.slice la L.length lc) (.slice ka K.length kc) bs) w0 w:=by
 have ad:=AR.lt r hr;have dh:=λq h=>(hL.lt q h).2;have cg:=λq h=>(hK.o.lt q h).2;have c6:=λq (h:q∈bs)=>(hK.rowm h).2.1;have b3:=hB.lt;have hln:=hR.n;have cj:=hR.kl;obtain ⟨sa,sc,aa,ac,rfl,_,_,_⟩:=hr.form;have bk:decide (0<=Hg (λy=>BU y r) L)=true↔a.dom r:=by
  rw[Hf,hR.dom r,eX];exact ⟨λ⟨y,J,e⟩=>(BY y r).1 e▸J,λJ=>⟨r,J,(BY r r).2 O⟩⟩
 refine Ew func54 O ntmps54 (RV O) ?_;have E:Chg (λq=>q=b∨(Value.slice la L.length lc).ownBlock=some q∨(Value.slice ka K.length kc).ownBlock=some q∨q∈bs) w0 w0:=Chg.refl _ _;refine AA (BC (v:=(.agg (R6 r sa sc aa ac))) (c:=(R6 r sa sc aa ac)) qD O O ?_);intro bx wx Nx;have Fx:=Nx.ge E;have hB:=Nx.keep hB;have hL:=hL.ext Nx.ext;have ad:=AR.ext Nx.ext _ ad;have Bx:=Nx.blk;refine AB (AH (AA (qM _ O (qV (AI (vs:=(oJ r sa sc aa ac)) O Ad AG O (Bx.cells O)) (qE O (AS func55 kQ kQ O) (LD _ S T n1 n1 b _ _ _ _ _ _ _ _ _ _ _ la lc L r _ hB hL (AR.at r ad) qO) ?_)))));rintro _ w9 ⟨rfl,X9⟩;have hB:=X9.keep hB;have Bx:=X9.keep Bx;have hL:=hL.ext X9;have hK:=(hK.ext Nx.ext).ext X9;have ad:=AR.ext X9 _ ad;have E:=(E.ext Nx.ext).ext X9;refine qV (El O O) (AB (qC O (λa6=>?_) (λa6=>?_)))
 .have hd:=bk.1 (decide_eq_true a6);refine AO (AK (IW results54 ?_));exact ⟨la,ka,lc,kc,T,bs,L,K,by rw[GD hd];exact hB,hL,hK,hA,by rw[GD hd];exact hR,λq M=>.inl M,λy J=>.inl J,E⟩
 .have hd:¬a.dom r:=λh=>a6 (of_decide_eq_true (bk.2 h));refine AM (AC (AH ?_));have hz_2:w0.heap.size<=w9.heap.size:=E.size;have lz_2_b:b<w9.heap.size:=hB.lt;have lz_2_bx:bx<w9.heap.size:=Bx.lt;refine AH ?_;obtain ⟨b8,ab⟩:∃Fs:List CW,Fs=[(eF (P6 b 0)),(eF (P6 b 0)),(eF (P6 b 8)),(eF (.slice la L.length lc)),(eF (I6 (L.length:Int))),(eF (P6 b 0)),(eF (P6 b 0)),(eF (P6 b 0)),(eF (I6 (most:Int))),(eF undef)]:=⟨_,O⟩;refine EE (M6 []) [true,true,true,true,true,true,true,true,true,false] [9] [8,9,10,11,12,13,14,15,16,66] [[],[0],[1],[2],[3],[],[5],[6],[7],[]] [[],[0],[1,0],[2,1,0],[3,2,1,0],[],[5],[6,5],[7,6,5],[]] b8 ab qK mixed qK qK qK qK ?_ ?_
  .intro wd R;refine qZ (λS B w' hi d X U V H=>?_) ?_
   .replace X:=Cq X;exact Ab (Am (U 0 O)) O
   refine qZ (λS B w' hi d X U V H=>?_) ?_
   .replace X:=Cq X;have e8:=(H 0 O).2 8 _ O (by rw[ab];rfl);exact Ab (Ay e8) O
   refine qZ (λS B w' hi d X U V H=>?_) ?_
   .replace X:=Cq X;have e9:=(H 1 O).2 9 _ O (by rw[ab];rfl);exact Ab (AQ e9 fN O BF O) O
   refine qZ (λS B w' hi d X U V H=>?_) ?_
   .replace X:=Cq X;have dl:=(H 2 O).2 10 _ O (by rw[ab];rfl);exact Ab (AJ dl A9 (((R.trans X).keep hB).cell O)) O
   refine qZ (λS B w' hi d X U V H=>?_) ?_
   .replace X:=Cq X;have dc:=(H 3 O).2 11 _ O (by rw[ab];rfl);exact Ab (AT dJ dc) O
   refine qZ (λS B w' hi d X U V H=>?_) ?_
   .replace X:=Cq X;exact Ab (Am (U 0 O)) O
   refine qZ (λS B w' hi d X U V H=>?_) ?_
   .replace X:=Cq X;have cz:=(H 5 O).2 13 _ O (by rw[ab];rfl);exact Ab (Ay cz) O
   refine qZ (λS B w' hi d X U V H=>?_) ?_
   .replace X:=Cq X;have co:=(H 6 O).2 14 _ O (by rw[ab];rfl);exact Ab (AQ co fN O Al O) O
   refine qZ (λS B w' hi d X U V H=>?_) ?_
   .replace X:=Cq X;have cx:=(H 7 O).2 15 _ O (by rw[ab];rfl);exact Ab (AJ cx Ag (((R.trans X).keep hB).cell O)) O
   refine DagStepsS.tail ?_;exact DagStepsS.nil
  .intro B wd2 w2 R X2 U H;have X2:=X2.mono (M':=Aj) (λy _ h=>by
    obtain ⟨j,N,h⟩:=h;exact h.elim)
   have df:=H 4 O 12 _ O (by rw[ab];rfl);have cs:=H 8 O 16 _ O (by rw[ab];rfl);obtain ⟨j2,rfl⟩:=Ak.out (σ:=B) (l:=[(0,(P6 b 0)),(3,(P6 bx 0)),(12,(I6 ((L.length:Nat):Int))),(16,(I6 ((most:Nat):Int)))]) ⟨U 0 O,U 3 O,df,cs,trivial⟩;clear U H;have hB:=(R.trans X2).keep hB;have Bx:=(R.trans X2).keep Bx;have hL:=hL.ext (R.trans X2);have hK:=hK.ext (R.trans X2);have ad:=AR.ext (R.trans X2) _ ad;have X2:=R.trans X2;have E:=E.ext X2;refine qV (Ai O O) (AB (AC (TZ (λσ W3=>∃(m P:oE) (g Q:Nat) (f:List Re) (W:List (List Bool)) (ae:oC) (T1:oD) (dr:Int),(∃jj_,σ=BW jj_ [(0,(P6 b 0)),(3,(P6 bx 0))])∧Chg (λq=>q=b∨(Value.slice la L.length lc).ownBlock=some q∨(Value.slice ka K.length kc).ownBlock=some q∨q∈bs) w0 W3∧BV W3 b (#[I6 (most:Int),.slice ca Z cc,x2,x3,x4,x5,x6,x7,.slice m f.length g,.slice P W.length Q,ah,I6 dr]) Wu∧BV W3 bx (R6 r sa sc aa ac) 25∧(ListR S n1 n1 W3 (.slice m f.length g) f T1)∧(KnA W3 n1 (.slice P W.length Q) ae W Z)∧(HlAp n1 b (.slice m f.length g) (.slice P W.length Q) ae T1)∧(AR (λb=>V b∧b<w0.heap.size) W3 r (oJ r sa sc aa ac))∧(∀q,ID b (.slice m f.length g) (.slice P W.length Q) ae q->ID b (.slice la L.length lc) (.slice ka K.length kc) bs q)∧(∀y,T1 y->T y)∧((a.n=most∧f=[]∧W=[]∧dr=Et a.drops)∨(a.n≠most∧f=L∧W=K∧dr=a.drops))) ?_ ?_)))
   .skip
    refine qC O (λa9=>?_) (λa9=>?_)
    .refine AA (qM _ O (qM _ O (qV (Ay O) (qF b 0 8 O fN O BF O (CB (b:=b) (o:=8) (c':=#[(I6 (most:Int)),(.slice ca Z cc),x2,x3,x4,x5,x6,x7,(.slice none 0 0),(.slice ka K.length kc),ah,(I6 a.drops)]) (v:=(.slice none 0 0)) O O O BF hB qP O ?_)))));intro w5 S5;have ad:=AR.chg S5.chg (λy J h=>by have u:y=b:=h;exact (hV y J.1).2 (.inl u)) _ ad;have Bx:=S5.keep qO Bx;have E:=S5.step E (by first|exact dH qO|assumption|exact dG rfl|exact dG (by assumption)|exact dG qP|exact dG qO|exact dG (by dsimp only;omega));have hB:=S5.blk;refine qV (Ay O) (qF b 0 9 O fN O Kh O (CB (b:=b) (o:=9) (c':=#[(I6 (most:Int)),(.slice ca Z cc),x2,x3,x4,x5,x6,x7,(.slice none 0 0),(.slice none 0 0),ah,(I6 a.drops)]) (v:=(.slice none 0 0)) O O O Kh hB qP O ?_));intro w6 S6;have ad:=AR.chg S6.chg (λy J h=>by have u:y=b:=h;exact (hV y J.1).2 (.inl u)) _ ad;have Bx:=S6.keep qO Bx;have E:=S6.step E (by first|exact dH qO|assumption|exact dG rfl|exact dG (by assumption)|exact dG qP|exact dG qO|exact dG (by dsimp only;omega));have hB:=S6.blk;refine AB (AN (qM _ O (qV (Ay O) (qF b 0 11 O fN O Al O (qV (AJ O Ag (hB.cell O)) (qV (A0 (c:=Et a.drops) O O (O)) (qV (Ay O) (qF b 0 11 O fN O Al O (CB (b:=b) (o:=11) (c':=#[(I6 (most:Int)),(.slice ca Z cc),x2,x3,x4,x5,x6,x7,(.slice none 0 0),(.slice none 0 0),ah,(I6 (Et a.drops))]) (v:=(I6 (Et a.drops))) O O O Al hB qP O ?_)))))))));intro w7 S7;have ad:=AR.chg S7.chg (λy J h=>by have u:y=b:=h;exact (hV y J.1).2 (.inl u)) _ ad;have Bx:=S7.keep qO Bx;have E:=S7.step E (by first|exact dH qO|assumption|exact dG rfl|exact dG (by assumption)|exact dG qP|exact dG qO|exact dG (by dsimp only;omega));have hB:=S7.blk;refine AB (AC ?_);exact ⟨none,none,0,0,[],[],[],(λ_=>False),Et a.drops,oH,E,hB,Bx,⟨⟨[],World.ownsRow_nil _ _ _ _,O⟩,λy h=>h.elim,λb h=>by cases h⟩,KnA.nil _ _ _,⟨hA.lo,by simp[Value.ownBlock],by simp[Value.ownBlock],qP,(λq h=>by cases h),(λq h=>by cases h),λh=>h,(λq h=>by cases h),(λq h=>by cases h)⟩,ad,(λq M=>by rcases M with h|h|h|h;exact .inl h;cases h;cases h;cases h),(λy J=>J.elim),.inl ⟨qO,O,O,O⟩⟩
    .refine AM (AC ?_);exact ⟨la,ka,lc,kc,L,K,bs,T,a.drops,oH,E,hB,Bx,hL,hK,hA,ad,(λq M=>M),(λy J=>J),.inr ⟨qO,O,O,O⟩⟩
   .clear E hB Bx;rintro _ W3 ⟨m,P,g,Q,f,W,ae,T1,dr,⟨j3,rfl⟩,E,hB,Bx,al,c5,F,c9,aj,c1,bo⟩;obtain ⟨rows,bp,cl⟩:=al.o;have hl100:f.length<=1000∧W.length=f.length:=by rcases bo with h|h;(rw[h.2.1,h.2.2.1];exact ⟨dR _,O⟩);(rw[h.2.1,h.2.2.1];exact ⟨qO,cj⟩)
    have ch:rows.flatten.length=f.length*6:=bp.1;obtain ⟨z0,a5⟩:∃z0,z0=(W3).heap.size:=⟨_,O⟩;have hwz:w0.heap.size<=z0:=by rw[a5];exact E.size
    have ar:∀q,ID b (.slice m f.length g) (.slice P W.length Q) ae q->q<w0.heap.size:=λq M=>by rcases aj q M with h|h|h|h;(rw[h];exact b3);exact dh q h;exact cg q h;exact c6 q h
    have a2:∀q,(Value.slice m f.length g).ownBlock=some q->q<w0.heap.size:=λq M=>ar q (.inr (.inl M));have hbx:w0.heap.size<=bx:=Fx;have hbxz:bx<z0:=by rw[a5];exact Bx.lt
    have hz_8:w0.heap.size<=W3.heap.size:=E.size;have lz_8_b:b<W3.heap.size:=hB.lt;have lz_8_bx:bx<W3.heap.size:=Bx.lt;refine AH ?_;obtain ⟨cp,D⟩:∃Fs:List CW,Fs=[(eF (P6 b 0)),(eF (P6 b 0)),(eF (P6 b 8)),(eF (.slice m f.length g)),(eF (.agg (R6 r sa sc aa ac))),(eF (I6 (f.length:Int))),(λS _ v w=>S 9=false->((I4 FR #[I6 0,.slice none 0 0,.slice none 0 0,I6 0,I6 0,.bool false] z0)) v w),(λS s v w=>apK 9 n1 (f.length+1) z0 (rows.flatten++[I6 0,.slice none 0 0,.slice none 0 0,I6 0,I6 0,.bool false]) (.slice m f.length g) S s v w),(λS s v w=>bI 38 (f.length+1) (f.length*6) S s v w),(λS s v w=>owK 38 n1 (f.length+1) z0 (rows.flatten++(oJ r sa sc aa ac)) (.slice m f.length g) S s v w),(eF (P6 b 0)),(eF (P6 b 8)),(λS s v w=>BV w b #[I6 (most:Int),.slice ca Z cc,x2,x3,x4,x5,x6,x7,s 38,.slice P W.length Q,ah,I6 dr] Wu)]:=⟨_,O⟩;refine EE (M6 [(7,(λy=>(Value.slice m f.length g).ownBlock=some y)),(9,(λy=>(Value.slice m f.length g).ownBlock=some y∨z0<=y)),(12,(λy=>y=b))]) [true,true,true,true,true,true,true,true,true,true,true,true,true] [] [31,32,33,34,35,36,37,38,39,66,40,41,69] [[],[0],[1],[2],[],[3],[],[0,1,2,3,4,5,6],[0,1,2,3,4,5,6,7],[0,1,2,3,4,5,6,7,8],[0,1,2,3,4,5,6,7],[0,1,2,3,4,5,6,7,10],[0,1,2,3,4,5,6,7,11]] [[],[0],[1,0],[2,1,0],[],[3,2,1,0],[],[0,1,2,3,4,5,6],[0,1,2,3,4,5,6,7],[0,1,2,3,4,5,6,7,8],[0,1,2,3,4,5,6,7],[0,1,2,3,4,5,6,7,10],[0,1,2,3,4,5,6,7,11,10]] cp D qK mixed qK qK qK qK ?_ ?_
    .intro wd R;refine qZ (λS B w' hi d X U V H=>?_) ?_
     .replace X:=X.mono (M':=Aj) (λy _ h=>by
       obtain ⟨j,N,h⟩:=h;rcases BE h with ⟨rfl,z⟩|z
       .exact Bool.noConfusion (N.symm.trans (d 7 O))
       rcases BE z with ⟨rfl,G⟩|G
       .exact Bool.noConfusion (N.symm.trans (d 9 O))
       rcases BE G with ⟨rfl,A⟩|A
       .exact Bool.noConfusion (N.symm.trans (d 12 O))
       exact A.elim)
      exact Ab (Am (U 0 O)) O
     refine qZ (λS B w' hi d X U V H=>?_) ?_
     .replace X:=X.mono (M':=Aj) (λy _ h=>by
       obtain ⟨j,N,h⟩:=h;rcases BE h with ⟨rfl,z⟩|z
       .exact Bool.noConfusion (N.symm.trans (d 7 O))
       rcases BE z with ⟨rfl,G⟩|G
       .exact Bool.noConfusion (N.symm.trans (d 9 O))
       rcases BE G with ⟨rfl,A⟩|A
       .exact Bool.noConfusion (N.symm.trans (d 12 O))
       exact A.elim)
      have bh:=(H 0 O).2 31 _ O (by rw[D];rfl);exact Ab (Ay bh) O
     refine qZ (λS B w' hi d X U V H=>?_) ?_
     .replace X:=X.mono (M':=Aj) (λy _ h=>by
       obtain ⟨j,N,h⟩:=h;rcases BE h with ⟨rfl,z⟩|z
       .exact Bool.noConfusion (N.symm.trans (d 7 O))
       rcases BE z with ⟨rfl,G⟩|G
       .exact Bool.noConfusion (N.symm.trans (d 9 O))
       rcases BE G with ⟨rfl,A⟩|A
       .exact Bool.noConfusion (N.symm.trans (d 12 O))
       exact A.elim)
      have b7:=(H 1 O).2 32 _ O (by rw[D];rfl);exact Ab (AQ b7 fN O BF O) O
     refine qZ (λS B w' hi d X U V H=>?_) ?_
     .replace X:=X.mono (M':=Aj) (λy _ h=>by
       obtain ⟨j,N,h⟩:=h;rcases BE h with ⟨rfl,z⟩|z
       .exact Bool.noConfusion (N.symm.trans (d 7 O))
       rcases BE z with ⟨rfl,G⟩|G
       .exact Bool.noConfusion (N.symm.trans (d 9 O))
       rcases BE G with ⟨rfl,A⟩|A
       .exact Bool.noConfusion (N.symm.trans (d 12 O))
       exact A.elim)
      have c2:=(H 2 O).2 33 _ O (by rw[D];rfl);exact Ab (AJ c2 A9 (((R.trans X).keep hB).cell O)) O
     refine qZ (λS B w' hi d X U V H=>?_) ?_
     .replace X:=X.mono (M':=Aj) (λy _ h=>by
       obtain ⟨j,N,h⟩:=h;rcases BE h with ⟨rfl,z⟩|z
       .exact Bool.noConfusion (N.symm.trans (d 7 O))
       rcases BE z with ⟨rfl,G⟩|G
       .exact Bool.noConfusion (N.symm.trans (d 9 O))
       rcases BE G with ⟨rfl,A⟩|A
       .exact Bool.noConfusion (N.symm.trans (d 12 O))
       exact A.elim)
      exact Ab (AI (U 3 O) Ad AG O (((R.trans X).keep Bx).cells O)) O
     refine qZ (λS B w' hi d X U V H=>?_) ?_
     .replace X:=X.mono (M':=Aj) (λy _ h=>by
       obtain ⟨j,N,h⟩:=h;rcases BE h with ⟨rfl,z⟩|z
       .exact Bool.noConfusion (N.symm.trans (d 7 O))
       rcases BE z with ⟨rfl,G⟩|G
       .exact Bool.noConfusion (N.symm.trans (d 9 O))
       rcases BE G with ⟨rfl,A⟩|A
       .exact Bool.noConfusion (N.symm.trans (d 12 O))
       exact A.elim)
      have bc:=(H 3 O).2 34 _ O (by rw[D];rfl);exact Ab (AT dJ bc) O
     refine DagStepsS.cons (Dl.till (U:=(λy=>(λy=>(Value.slice m f.length g).ownBlock=some y) y∨((λy=>y=b) y))) (T8 (λy h=>h.elim (λh=>by have:=a2 y h;omega) (λh=>by have h':y=b:=h;omega))) (λp y hp hw ci h=>by
      rcases BE h with ⟨rfl,z⟩|z
      .exact (dH z)
      rcases BE z with ⟨rfl,G⟩|G
      .exact absurd O ci
      rcases BE G with ⟨rfl,A⟩|A
      .exact (dG A)
      exact A.elim)) (Hr.const) (λS B w' hi d X U V H=>dH ⟨AE O,?_⟩) ?_
     .replace X:=X.mono (M':=Aj) (λy _ h=>by
       obtain ⟨j,N,h⟩:=h;rcases BE h with ⟨rfl,z⟩|z
       .exact Bool.noConfusion (N.symm.trans (d 7 O))
       rcases BE z with ⟨rfl,G⟩|G
       .exact Bool.noConfusion (N.symm.trans (d 9 O))
       rcases BE G with ⟨rfl,A⟩|A
       .exact Bool.noConfusion (N.symm.trans (d 12 O))
       exact A.elim)
      exact Kt (R':=λv w=>KK S 6 9=false->I4 FR #[I6 0,.slice none 0 0,.slice none 0 0,I6 0,I6 0,.bool false] z0 v w) (Ih (w:=w') (hs:=z0) dJ AG A1 O qD qD qK (by have:=R.size;have:=X.size;omega)) (λv w h _=>h)
     refine DagStepsS.cons (Dl.apK (λp y hp hw dd h=>by rcases BE h with ⟨rfl,_⟩|h;exact absurd O hp;rcases BE h with ⟨rfl,_⟩|h;exact absurd O dd;rcases BE h with ⟨rfl,hh⟩|h;(have h':y=b:=hh;subst h';exact ⟨F.lb,qO⟩);exact h.elim)) (Hr.const) (λS B w' hi d X U V H=>dH ⟨AE O,?_⟩) ?_
     .replace X:=X.mono (M':=Aj) (λy _ h=>by
       obtain ⟨j,N,h⟩:=h;rcases BE h with ⟨rfl,z⟩|z
       .exact Bool.noConfusion (N.symm.trans hi)
       rcases BE z with ⟨rfl,G⟩|G
       .exact Bool.noConfusion (N.symm.trans (d 9 O))
       rcases BE G with ⟨rfl,A⟩|A
       .exact Bool.noConfusion (N.symm.trans (d 12 O))
       exact A.elim)
      have bc:=(H 3 O).2 34 _ O (by rw[D];rfl);obtain ⟨b37,dm,cy,g37⟩:=(show ((I4 FR #[I6 0,.slice none 0 0,.slice none 0 0,I6 0,I6 0,.bool false] z0)) (B 37) w' from ((H 6 O).2 37 (λS _ v w=>S 9=false->((I4 FR #[I6 0,.slice none 0 0,.slice none 0 0,I6 0,I6 0,.bool false] z0)) v w) O (by rw[D];rfl)) (d 9 O));exact Kt (GE (hs:=z0) dJ AG E0 A1 O qD bc (Az (Az bp R) X) dm O (cy.cells O) qS (by unfold maxLen;omega) qO (by have:=R.size;have:=X.size;omega) (λy h=>.inl ⟨O,h⟩) (by have:=R.size;have:=X.size;omega)) (λv w h=>⟨h.1,h.2.2,λ_=>h.2.1⟩)
     refine DagStepsS.cons (λ_ _ _ _ _ _ _ _ _ _ _ h=>h) (λS s1 s2 h v w A=>by have u:=h 7 38 O O;unfold bI at *;rw[u];exact A) (λS B w' hi d X U V H=>dH ⟨AE O,?_⟩) ?_
     .replace X:=X.mono (M':=(λy=>(λy=>(Value.slice m f.length g).ownBlock=some y) y∨((λy=>y=b) y))) (λy _ h=>by
       obtain ⟨j,N,h⟩:=h;rcases BE h with ⟨rfl,z⟩|z
       .exact (dH z)
       rcases BE z with ⟨rfl,G⟩|G
       .exact Bool.noConfusion (N.symm.trans (d 9 O))
       rcases BE G with ⟨rfl,A⟩|A
       .exact (dG A)
       exact A.elim)
      obtain ⟨⟨an,ak,ai⟩,b2,a3⟩:=(show ((λS s v w=>apK 9 n1 (f.length+1) z0 (rows.flatten++[I6 0,.slice none 0 0,.slice none 0 0,I6 0,I6 0,.bool false]) (.slice m f.length g) S s v w):CW) S B (B 38) w' from (H 7 O).2 38 (λS s v w=>apK 9 n1 (f.length+1) z0 (rows.flatten++[I6 0,.slice none 0 0,.slice none 0 0,I6 0,I6 0,.bool false]) (.slice m f.length g) S s v w) O (by rw[D];rfl));have cw:=(H 5 O).2 36 _ O (by rw[D];rfl);exact (by have u:=a3 (d 9 O);rw[ai] at u;obtain ⟨g9,rfl,_⟩:=Co u qO;exact Ab (AL (b:=g9) (o:=0) (i:=f.length) (o':=f.length*6) ai cw O dJ AG qO (eO _)) ⟨g9,ak,ai,O⟩)
     refine DagStepsS.cons (Dl.owK (λp y hp hw h=>by rcases BE h with ⟨rfl,_⟩|h;exact Bool.noConfusion (show true=false from hw);rcases BE h with ⟨rfl,_⟩|h;exact absurd O hp;rcases BE h with ⟨rfl,hh⟩|h;(have h':y=b:=hh;subst h';exact ⟨F.lb,qO⟩);exact h.elim)) (λS s1 s2 h v w A=>by have u:=h 7 38 O O;unfold owK at *;rw[u];exact A) (λS B w' hi d X U V H=>dH ⟨AE O,?_⟩) ?_
     .replace X:=X.mono (M':=(λy=>(λy=>(Value.slice m f.length g).ownBlock=some y) y∨((λy=>y=b) y))) (λy _ h=>by
       obtain ⟨j,N,h⟩:=h;rcases BE h with ⟨rfl,z⟩|z
       .exact (dH z)
       rcases BE z with ⟨rfl,G⟩|G
       .exact Bool.noConfusion (N.symm.trans hi)
       rcases BE G with ⟨rfl,A⟩|A
       .exact (dG A)
       exact A.elim)
      obtain ⟨bi,c39,be,di⟩:=(show ((λS s v w=>bI 38 (f.length+1) (f.length*6) S s v w):CW) S B (B 39) w' from (H 8 O).2 39 (λS s v w=>bI 38 (f.length+1) (f.length*6) S s v w) O (by rw[D];rfl));have cu:=(H 4 O).2 35 _ O (by rw[D];rfl);exact (by have h7:=((H 7 O).2 38 (λS s v w=>apK 9 n1 (f.length+1) z0 (rows.flatten++[I6 0,.slice none 0 0,.slice none 0 0,I6 0,I6 0,.bool false]) (.slice m f.length g) S s v w) O (by rw[D];rfl));have a7:=h7.2.2 hi;rw[be] at a7;obtain ⟨cur9,bq,hc9⟩:=VY a7;exact Mn (b:=bi) (o:=f.length*6) (n:=6) di cu qS AG O bq qO (.inr (.inl ⟨O,h7.2.1 bi (by rw[be];rfl)⟩)) (λw9 h=>⟨h7.2.1,by rw[be];exact Pt a7 bq ch O h.blk⟩))
     refine qZ (λS B w' hi d X U V H=>?_) ?_
     .replace X:=X.mono (M':=(λy=>(λy=>(Value.slice m f.length g).ownBlock=some y) y∨((λy=>(Value.slice m f.length g).ownBlock=some y∨z0<=y) y))) (λy _ h=>by
       obtain ⟨j,N,h⟩:=h;rcases BE h with ⟨rfl,z⟩|z
       .exact (dH z)
       rcases BE z with ⟨rfl,G⟩|G
       .exact (dG G)
       rcases BE G with ⟨rfl,A⟩|A
       .exact Bool.noConfusion (N.symm.trans (d 12 O))
       exact A.elim)
      have bh:=(H 0 O).2 31 _ O (by rw[D];rfl);exact Ab (Ay bh) O
     refine qZ (λS B w' hi d X U V H=>?_) ?_
     .replace X:=X.mono (M':=(λy=>(λy=>(Value.slice m f.length g).ownBlock=some y) y∨((λy=>(Value.slice m f.length g).ownBlock=some y∨z0<=y) y))) (λy _ h=>by
       obtain ⟨j,N,h⟩:=h;rcases BE h with ⟨rfl,z⟩|z
       .exact (dH z)
       rcases BE z with ⟨rfl,G⟩|G
       .exact (dG G)
       rcases BE G with ⟨rfl,A⟩|A
       .exact Bool.noConfusion (N.symm.trans (d 12 O))
       exact A.elim)
      have cb:=(H 10 O).2 40 _ O (by rw[D];rfl);exact Ab (AQ cb fN O BF O) O
     refine DagStepsS.cons (λp hp hw S σ v w w' _ _ x h=>x.keep (λh=>by rcases BE h with ⟨rfl,_⟩|h;exact Bool.noConfusion (show true=false from hw);rcases BE h with ⟨rfl,hh⟩|h;(rcases hh with u|u;exact F.lb u;omega);rcases BE h with ⟨rfl,_⟩|h;exact hp O;exact h) h) (λS s1 s2 h v w A=>by have u:=h 7 38 O O;rw[u];exact A) (λS B w' hi d X U V H=>dH ⟨AE O,?_⟩) ?_
     .replace X:=X.mono (M':=(λy=>(λy=>(Value.slice m f.length g).ownBlock=some y) y∨((λy=>(Value.slice m f.length g).ownBlock=some y∨z0<=y) y))) (λy _ h=>by
       obtain ⟨j,N,h⟩:=h;rcases BE h with ⟨rfl,z⟩|z
       .exact (dH z)
       rcases BE z with ⟨rfl,G⟩|G
       .exact (dG G)
       rcases BE G with ⟨rfl,A⟩|A
       .exact Bool.noConfusion (N.symm.trans hi)
       exact A.elim)
      have ck:=(H 11 O).2 41 _ O (by rw[D];rfl);obtain ⟨⟨an,ak,ai⟩,b2,a3⟩:=(show ((λS s v w=>apK 9 n1 (f.length+1) z0 (rows.flatten++[I6 0,.slice none 0 0,.slice none 0 0,I6 0,I6 0,.bool false]) (.slice m f.length g) S s v w):CW) S B (B 38) w' from (H 7 O).2 38 (λS s v w=>apK 9 n1 (f.length+1) z0 (rows.flatten++[I6 0,.slice none 0 0,.slice none 0 0,I6 0,I6 0,.bool false]) (.slice m f.length g) S s v w) O (by rw[D];rfl));exact Qv (b:=b) (o:=8) (v:=.slice an (f.length+1) ak) ck ai O BF (Chg.keep X (λh=>by rcases h with h|h|h;exact F.lb h;exact F.lb h;omega) (R.keep hB)) qP (.inr (.inr (.inl ⟨O,O⟩))) (λw9 h=>by have A:=h.blk;rw[ai];simpa using A)
     exact DagStepsS.nil
    .intro B wd8 w8 R X8 U H;have X8:=X8.mono (M':=(λy=>(λy=>(Value.slice m f.length g).ownBlock=some y) y∨((λy=>(Value.slice m f.length g).ownBlock=some y∨z0<=y) y∨((λy=>y=b) y)))) (λy _ h=>by
      obtain ⟨j,N,h⟩:=h;rcases BE h with ⟨rfl,z⟩|z
      .exact (dH z)
      rcases BE z with ⟨rfl,G⟩|G
      .exact (dG (dH G))
      rcases BE G with ⟨rfl,A⟩|A
      .exact (dG (dG A))
      exact A.elim)
     obtain ⟨⟨an,ak,ai⟩,b2,a3⟩:=(show ((λS s v w=>apK 9 n1 (f.length+1) z0 (rows.flatten++[I6 0,.slice none 0 0,.slice none 0 0,I6 0,I6 0,.bool false]) (.slice m f.length g) S s v w):CW) (Me [true,true,true,true,true,true,true,true,true,true,true,true,true]) B (B 38) w8 from H 7 O 38 (λS s v w=>apK 9 n1 (f.length+1) z0 (rows.flatten++[I6 0,.slice none 0 0,.slice none 0 0,I6 0,I6 0,.bool false]) (.slice m f.length g) S s v w) O (by rw[D];rfl));obtain ⟨am,bv⟩:=(show ((λS s v w=>owK 38 n1 (f.length+1) z0 (rows.flatten++(oJ r sa sc aa ac)) (.slice m f.length g) S s v w):CW) (Me [true,true,true,true,true,true,true,true,true,true,true,true,true]) B (B 66) w8 from H 9 O 66 (λS s v w=>owK 38 n1 (f.length+1) z0 (rows.flatten++(oJ r sa sc aa ac)) (.slice m f.length g) S s v w) O (by rw[D];rfl));obtain af:=(show ((λS s v w=>BV w b #[I6 ((most:Nat):Int),.slice ca Z cc,x2,x3,x4,x5,x6,x7,s 38,.slice P W.length Q,ah,I6 dr] Wu):CW) (Me [true,true,true,true,true,true,true,true,true,true,true,true,true]) B (B 69) w8 from H 12 O 69 (λS s v w=>BV w b #[I6 ((most:Nat):Int),.slice ca Z cc,x2,x3,x4,x5,x6,x7,s 38,.slice P W.length Q,ah,I6 dr] Wu) O (by rw[D];rfl));obtain ⟨j8,rfl⟩:=Ak.out (σ:=B) (l:=[(0,(P6 b 0))]) ⟨U 0 O,trivial⟩;clear U H;have Bx:=Chg.keep X8 (λh=>h.elim (λh=>by have:=a2 bx h;omega) (λh=>h.elim (λh=>by rcases h with h|h;(have:=a2 bx h;omega);omega) (λh=>by have u:bx=b:=h;omega))) (R.keep Bx);have bf:=X8;have E:=(E.ext R).step X8 (λy J h=>by rcases h with h|h;exact aj y (.inr (.inl h));rcases h with (h|h)|h;exact aj y (.inr (.inl h));omega;exact .inl h);rw[ai] at af bv am;have hMM:=bf.size;have ag:∀y,(V y∧y<w0.heap.size)->(S y∨n1<=y)∧¬ID b (.slice m f.length g) (.slice P W.length Q) ae y:=λy J=>⟨(hV y J.1).1,λh=>(hV y J.1).2 (aj y h)⟩;have b1:=al.pushV cl c9 (λy J=>⟨(ag y J).1,by have:=J.2;have:=R.size;omega,λh=>(ag y J).2 (.inr (.inl h))⟩) bv (R.chg.trans bf) (λy J h=>by have h8:=(al.t y J).2;rcases h with h|(h|h)|h;exact al.n y h J;exact al.n y h J;omega;exact F.tb (h▸J)) (λy J h=>by have h8:=J.2;rcases h with h|(h|h)|h;exact (ag y J).2 (.inr (.inl h));exact (ag y J).2 (.inr (.inl h));omega;exact (ag y J).2 (.inl h)) (λk hk=>by have:=am k hk;rwa [a5] at this);have bd:=c5.chg (R.chg.trans bf) (λq M h=>by have h8:=ar q (.inr (.inr (.inl M)));rcases h with h|(h|h)|h;exact F.lk q h M;exact F.lk q h M;omega;exact F.kb (h▸M)) (λq M h=>by have h8:=ar q (.inr (.inr (.inr M)));rcases h with h|(h|h)|h;exact F.lr q M h;exact F.lr q M h;omega;exact F.bb (h▸M));have bm:True:=trivial;obtain ⟨z1,ba⟩:∃z1,z1=(w8).heap.size:=⟨_,O⟩;have hzz:z0<=z1:=by rw[ba];have:=R.size;omega
     have ao:∀q,(Value.slice P W.length Q).ownBlock=some q->q<w0.heap.size:=λq M=>ar q (.inr (.inr (.inl M)));refine AB (AC ?_);have hz_9:w0.heap.size<=w8.heap.size:=E.size;have lz_9_bx:bx<w8.heap.size:=Bx.lt;have lz_9_b:b<w8.heap.size:=af.lt;obtain ⟨da,I⟩:∃Fs:List CW,Fs=[(eF (P6 b 0)),(eF (P6 b 0)),(eF (P6 b 0)),(eF (P6 b 9)),(eF (.slice P W.length Q)),(eF (P6 b 0)),(eF (P6 b 0)),(eF (P6 b 1)),(eF (.slice ca Z cc)),(eF (I6 (Z:Int))),(λ_ _=>Z7 Yq (.bool false) Z z1),(λ_ _=>Z8 Z z1),(λ_ _=>bL Z n1 (W.length+1) z1 (ae.map (W0 Z)) (.slice P W.length Q)),(eF undef),(eF undef),(eF undef)]:=⟨_,O⟩;refine EE (M6 [(12,(λy=>(Value.slice P W.length Q).ownBlock=some y))]) [true,true,true,true,true,true,true,true,true,true,true,true,true,false,false,false] [13,14,15] [42,43,44,45,46,47,48,49,50,51,52,53,54,70,71,72] [[],[],[1],[2],[3],[],[5],[6],[7],[8],[9],[10],[4,11],[],[],[]] [[],[],[1],[2,1],[3,2,1],[],[5],[6,5],[7,6,5],[8,7,6,5],[9,8,7,6,5],[10,9,8,7,6,5],[4,3,2,1,11,10,9,8,7,6,5],[],[],[]] da I qK mixed qK qK qK qK ?_ ?_
     .intro wd R;refine qZ (λS B w' hi d X U V H=>?_) ?_
      .replace X:=cS X;exact Ab (Am (U 0 O)) O
      refine qZ (λS B w' hi d X U V H=>?_) ?_
      .replace X:=Ui (d 12 O) X;exact Ab (Am (U 0 O)) O
      refine qZ (λS B w' hi d X U V H=>?_) ?_
      .replace X:=Ui (d 12 O) X;have de:=(H 1 O).2 43 _ O (by rw[I];rfl);exact Ab (Ay de) O
      refine qZ (λS B w' hi d X U V H=>?_) ?_
      .replace X:=Ui (d 12 O) X;have cq:=(H 2 O).2 44 _ O (by rw[I];rfl);exact Ab (AQ cq fN O Kh O) O
      refine qZ (λS B w' hi d X U V H=>?_) ?_
      .replace X:=Ui (d 12 O) X;have cd:=(H 3 O).2 45 _ O (by rw[I];rfl);exact Ab (AJ cd O0 (((R.trans X).keep af).cell O)) O
      refine qZ (λS B w' hi d X U V H=>?_) ?_
      .replace X:=Ui (d 12 O) X;exact Ab (Am (U 0 O)) O
      refine qZ (λS B w' hi d X U V H=>?_) ?_
      .replace X:=Ui (d 12 O) X;have cm:=(H 5 O).2 47 _ O (by rw[I];rfl);exact Ab (Ay cm) O
      refine qZ (λS B w' hi d X U V H=>?_) ?_
      .replace X:=Ui (d 12 O) X;have cr:=(H 6 O).2 48 _ O (by rw[I];rfl);exact Ab (AQ cr fN O PU O) O
      refine qZ (λS B w' hi d X U V H=>?_) ?_
      .replace X:=Ui (d 12 O) X;have c0:=(H 7 O).2 49 _ O (by rw[I];rfl);exact Ab (AJ c0 FC (((R.trans X).keep af).cell O)) O
      refine qZ (λS B w' hi d X U V H=>?_) ?_
      .replace X:=Ui (d 12 O) X;have db:=(H 8 O).2 50 _ O (by rw[I];rfl);exact Ab (AT eH db) O
      refine DagStepsS.cons (Dl.chg (U:=(λy=>(λy=>(Value.slice P W.length Q).ownBlock=some y) y)) (Xv (λy h=>by have:=ao y h;omega)) (λp y hp hw h=>by
       rcases BE h with ⟨rfl,z⟩|z
       .exact z
       exact z.elim)) (Hr.const) (λS B w' hi d X U V H=>dH ⟨AE O,?_⟩) ?_
      .replace X:=Ui (d 12 O) X;have bw:=(H 9 O).2 51 _ O (by rw[I];rfl);exact Qw (hs:=z1) iB G8 bA Y7 O bw bw qO qO (by have:=R.size;have:=X.size;omega)
      refine DagStepsS.cons (Dl.chg (U:=(λy=>(λy=>(Value.slice P W.length Q).ownBlock=some y) y)) (Xz (λy h=>by have:=ao y h;omega)) (λp y hp hw h=>by
       rcases BE h with ⟨rfl,z⟩|z
       .exact z
       exact z.elim)) (Hr.const) (λS B w' hi d X U V H=>dH ⟨AE O,?_⟩) ?_
      .replace X:=Ui (d 12 O) X;obtain ⟨c3,ce,ct,cf⟩:=(show ((λ_ _=>Z7 Yq (.bool false) Z z1):CW) S B (B 52) w' from (H 10 O).2 52 (λ_ _=>Z7 Yq (.bool false) Z z1) O (by rw[I];rfl));exact Ku (R':=Z8 Z z1) (Ih (w:=w') (hs:=z1) iI Ij PH ce qD qD qK (by have:=R.size;have:=X.size;omega)) (λv w u h=>by obtain ⟨b9,G,A,h3⟩:=h;exact ⟨b9,c3,G,A,h3,u.keep (λhm=>by rcases BE hm with ⟨h8,_⟩|hm;cases h8;exact hm) ct,cf⟩)
      refine DagStepsS.cons (Dl.chg (U:=Aj) ((λv w w' C h=>by obtain ⟨q,⟨G,A,h3⟩,h4,h5⟩:=h;exact ⟨q,⟨G,Az A C,h3⟩,Ah.keep C h4,h5⟩)) (λp y hp hw h=>by
       rcases BE h with ⟨rfl,z⟩|z
       .exact absurd O hp
       exact z.elim)) (Hr.const) (λS B w' hi d X U V H=>dH ⟨AE O,?_⟩) ?_
      .replace X:=Ui hi X;have c4:=(H 4 O).2 46 _ O (by rw[I];rfl);obtain ⟨b53,a1,dk,c8,g53,bu,c7⟩:=(show ((λ_ _=>Z8 Z z1):CW) S B (B 53) w' from (H 11 O).2 53 (λ_ _=>Z8 Z z1) O (by rw[I];rfl));exact Ku (R':=bL Z n1 (W.length+1) z1 (ae.map (W0 Z)) (.slice P W.length Q)) (GE (hs:=w'.heap.size) iI Ij Y2 PH O qD c4 (Az (Az bd.o R) X) dk O (c8.cells O) (by simp[Value.oneCell',W0]) (by unfold maxLen;omega) qO (by have:=R.size;have:=X.size;omega) (λy h=>.inl ⟨O,h⟩) (dU _)) (λv w u h=>⟨a1,⟨h.1,h.2.1,λk hk=>(h.2.2 k hk).imp id (λh8=>by have:=R.size;have:=X.size;omega)⟩,u.keep (λhm=>by rcases BE hm with ⟨_,h8⟩|hm;(have:=ao a1 h8;omega);exact hm) bu,c7,λe=>by rcases h.2.2 a1 e with h8|h8;(have:=ao a1 h8;omega);(have:=bu.lt;omega)⟩)
      refine DagStepsS.tail (DagStepsS.tail (DagStepsS.tail ?_));exact DagStepsS.nil
     .intro B wd9 w9 R X9 U H;have X9:=X9.mono (M':=(λy=>(λy=>(Value.slice P W.length Q).ownBlock=some y) y)) (λy _ h=>by
       obtain ⟨j,N,h⟩:=h;rcases BE h with ⟨rfl,z⟩|z
       .exact z
       exact z.elim)
      have dj:=H 0 O 42 _ O (by rw[I];rfl);obtain ⟨b5,⟨⟨au,av,b4⟩,aw,ap⟩,bg,l54,bz⟩:=(show ((λ_ _=>bL Z n1 (W.length+1) z1 (ae.map (W0 Z)) (.slice P W.length Q)):CW) (Me [true,true,true,true,true,true,true,true,true,true,true,true,true,false,false,false]) B (B 54) w9 from H 12 O 54 (λ_ _=>bL Z n1 (W.length+1) z1 (ae.map (W0 Z)) (.slice P W.length Q)) O (by rw[I];rfl));obtain ⟨j9,rfl⟩:=Ak.out (σ:=B) (l:=[(42,(P6 b 0)),(54,(.slice au (W.length+1) av))]) ⟨dj,b4,trivial⟩;clear U H;have Bx:=Chg.keep X9 (λh=>by have:=ao bx h;omega) (R.keep Bx);have af:=Chg.keep X9 (λh=>F.kb h) (R.keep af);have cv:=X9;have E:=(E.ext R).step X9 (λy J h=>aj y (.inr (.inr (.inl h))));refine qV (Ay O) (qF b 0 9 O fN O Kh O (CB (b:=b) (o:=9) (c':=#[(I6 (most:Int)),(.slice ca Z cc),x2,x3,x4,x5,x6,x7,(.slice an (f.length+1) ak),(.slice au (W.length+1) av),ah,(I6 dr)]) (v:=(.slice au (W.length+1) av)) O O O Kh af qP O ?_));intro w10 aq;have aw:=CH aw aq.chg (λq M h=>by have u:q=b:=h;rcases ap q M with h8|h8;exact F.kb (u▸h8);omega);have bg:=aq.keep qO bg;have bm:=aq;have Bx:=aq.keep qO Bx;have E:=aq.step E (by first|exact dH qO|assumption|exact dG rfl|exact dG (by assumption)|exact dG qP|exact dG qO|exact dG (by dsimp only;omega));have af:=aq.blk;refine AB (GU results54 ?_);rw[b4] at aw ap bz;have bt:=((R.chg.trans cv).mono (M':=λy=>(Value.slice P W.length Q).ownBlock=some y∨y=b) (λ_ _ h=>.inl h)).step bm.chg (λx _ h=>.inr h);have b6:=b1.chg bt (λq M h=>by have h7:=ao q;rcases am q M with u|u<;>rcases h with h|h;exact F.lk q u h;exact F.lb (h▸u);(have:=h7 h;omega);omega) (λy J h=>by rcases J with J|J<;>rcases h with h|h;exact F.tk y h J;exact F.tb (h▸J);exact (ag y J).2 (.inr (.inr (.inl h)));exact (ag y J).2 (.inl h));have bn:=bd.push (r:=List.replicate Z false) bt (λp hp h=>by rcases h with h|h;exact bd.no p hp h;exact F.bb (h▸hp)) (by rw[List.map_replicate];exact bg) qO qP qO aw (λk hk=>by have:=ap k hk;rwa [ba] at this) bz;have bj:=hR.hold (c:=Z) hd bo;have b0:∀q,(Value.slice an (f.length+1) ak).ownBlock=some q->q<z1:=λq M=>by rw[ba];exact (b1.lt q M).2
      have br:∀q∈ae,q<w0.heap.size:=λq M=>ar q (.inr (.inr (.inr M)));have dg:b<w0.heap.size:=b3;have a4:HlAp n1 b (.slice an (f.length+1) ak) (.slice au (W.length+1) av) (ae++[b5]) (λy=>T1 y∨(V y∧y<w0.heap.size)):=by
       refine ⟨F.lo,λh=>?_,λh=>?_,λh=>?_,λq h h'=>?_,λq M h=>?_,λh=>?_,λq h M=>?_,λq M h=>?_⟩
       .rcases am b h with u|u;exact F.lb u;omega
       .rcases ap b h with u|u;exact F.kb u;omega
       .rcases eC.1 h with u|u;exact F.bb u;(rw[dO.1 u] at dg;omega)
       .have h7:=b0 q h;have h6:=ao q;rcases am q h with u|u<;>rcases ap q h' with h8|h8;exact F.lk q u h8;omega;(have:=h6 h8;omega);omega
       .have h7:=b0 q h;rcases eC.1 M with u|u<;>rcases am q h with h8|h8;exact F.lr q u h8;(have:=br q u;omega);(rw[dO.1 u] at h7;omega);(rw[dO.1 u] at h7;omega)
       .rcases h with h|h;exact F.tb h;exact (ag b h).2 (.inl O)
       .rcases ap q h with u|u<;>rcases M with M|M;exact F.tk q u M;exact (ag q M).2 (.inr (.inr (.inl u)));(have:=(al.t q M).2;omega);(have:=M.2;omega)
       .rcases eC.1 M with u|u<;>rcases h with h|h;exact F.tr q u h;exact (ag q h).2 (.inr (.inr (.inr u)));(rw[dO.1 u] at h;have:=(al.t _ h).2;omega);(rw[dO.1 u] at h;have:=h.2;omega)
      have e1:(f++[r]).length=f.length+1:=qP
      have e2:(W++[List.replicate Z false]).length=W.length+1:=qP
      rw[<-e1] at af b6 a4;rw[<-e2] at af bn a4;refine ⟨an,au,ak,av,_,ae++[b5],f++[r],W++[List.replicate Z false],by rw[bj.2];exact af,b6,bn,a4,bj.1,λq M=>?_,λy J=>J.imp (c1 y) nY,E⟩;rw[e1,e2] at M;rcases M with h|h|h|h
      .exact .inl (.inl h)
      .rcases am q h with u|u;exact .inl (aj q (.inr (.inl u)));exact .inr qO
      .rcases ap q h with u|u;exact .inl (aj q (.inr (.inr (.inl u))));exact .inr qO
      .rcases eC.1 h with u|u;exact .inl (aj q (.inr (.inr (.inr u))));(rw[dO.1 u];exact .inr qO)
def Gf:oB->List Int->Int
  | x::l,y::m=>if x=y then Gf l m else if x<y then -1 else 1
  | [],m=>0 - (m.length:Int)
  | l,[]=>l.length
def Ht:List (Int×Int)->List Int
  | []=>[]
  | s::l=>s.1::s.2::Ht l
mutual
def DG:Re->List Int
  | .mk k s a m x _=>k::(Ht s++(-1::m::x::(Cy a++[-1])))
def Cy:List Re->List Int
  | []=>[]
  | t::ts=>DG t++Cy ts
end
mutual
def JF:Re->Prop
  | .mk k s a _ _ _=>0<=k∧(∀p∈s,0<=p.1)∧Jq a
def Jq:List Re->Prop
  | []=>True
  | t::ts=>JF t∧Jq ts
end
theorem Ef (x y:Int) (l m:oB):Gf (x::l) (y::m)=ES (Bd x y) (Gf l m):=by
 simp only[Gf];unfold ES Bd;by_cases h:x=y
 .subst h;simp
 .rw[if_neg h];by_cases a:x<y
  .simp[a]
  .have b:y<x:=qO
   simp[a,b]
theorem I5 (a b c:Int):ES (ES a b) c=ES a (ES b c):=by
 unfold ES;by_cases h:a=0<;>simp[h]
theorem Vp (a:Int):ES 0 a=a:=by simp[ES]
theorem Gj {a:Int} (b:Int) (h:a≠0):ES a b=a:=by simp[ES,h]
theorem TO {a b:Int} (h:a<b):Bd a b = -1:=by simp[Bd,h]
theorem TP {a b:Int} (h:b<a):Bd a b=1:=by
 unfold Bd;rw[if_neg qO,if_pos h]
theorem OO (a:Int):Bd a a=0:=by simp[Bd]
theorem S0w:∀(s a:List (Int×Int)) (u v:oB),(∀p∈s,0<=p.1)->(∀p∈a,0<=p.1)->Gf (Ht s ++ -1::u) (Ht a ++ -1::v)=ES (Cw Cf s a) (Gf u v)
 | [],[],u,v,_,_=>by simp only[Ht,fO,Ef,OO,Cw]
 | [],p::a,u,v,_,h'=>by
  have c:=h' p qP;simp only[Ht,fO,fH,Ef,Cw];rw[TO (show (-1:Int)<p.1 by omega),Gj _ qD,Gj _ qD]
 | p::s,[],u,v,h,_=>by
  have c:=h p qP;simp only[Ht,fO,fH,Ef,Cw];rw[TP (show (-1:Int)<p.1 by omega),Gj _ qD,Gj _ qD]
 | p::s,q::a,u,v,h,h'=>by
  have ih:=S0w s a u v (λr b=>h r (by simp[b])) (λr b=>h' r (by simp[b]));simp only[Ht,fH,Ef,Cw,ih,Cf,FU,Gi,I5,Vp]
mutual
theorem Qc:∀(t t':Re) (u v:oB),JF t->JF t'->Gf (DG t++u) (DG t'++v)=ES (CS t t') (Gf u v)
 | .mk k s a m x g,.mk k' s' a' m' x' g',u,v,h,h'=>by
  have ih:=OJ a a' u v h.2.2 h'.2.2;simp only[DG,fH,eW,Ef,S0w _ _ _ _ h.2.1 h'.2.1,fO,ih,CS,FU,Gi,I5,Vp]
theorem OJ:∀(a a':List Re) (u v:oB),Jq a->Jq a'->Gf (Cy a ++ -1::u) (Cy a' ++ -1::v)=ES (CK a a') (Gf u v)
 | [],[],u,v,_,_=>by simp only[Cy,fO,Ef,OO,CK]
 | [],.mk k s b m x g::ts,u,v,_,h'=>by
  have d:=h'.1.1;simp only[Cy,DG,fO,fH,Ef,CK];rw[TO (show (-1:Int)<k by omega),Gj _ qD,Gj _ qD]
 | .mk k s b m x g::ts,[],u,v,h,_=>by
  have d:=h.1.1;simp only[Cy,DG,fO,fH,Ef,CK];rw[TP (show (-1:Int)<k by omega),Gj _ qD,Gj _ qD]
 | t::ts,t'::ts',u,v,h,h'=>by
  have ih:=OJ ts ts' u v h.2 h'.2;have c:=Qc t t' (Cy ts ++ -1::u) (Cy ts' ++ -1::v) h.1 h'.1;simp only[Cy,eW,c,ih,CK,I5]
end
theorem WY {t u:Re} (h:JF t) (k:JF u):Gf (DG t) (DG u)=CS t u:=by
 have:=Qc t u [] [] h k;simp only[gD] at this;rw[this];unfold ES;by_cases a:CS t u=0<;>simp[Gf,a]
theorem UW:∀(l:List (Int×Int)) (p:Option Int),DW p l=0->∀s∈l,0<=s.1:=by
 intro l
 induction l with
 | nil=>simp
 | cons a l ih=>
  intro p h s hs;rw[Ci] at h;by_cases b:Dz a=false
  .rw[if_pos b] at h;simp at h
  rw[if_neg b] at h;have c:DW (some a.2) l=0:=by
   split at h
   .split at h
    .simp at h
    .exact h
   .simpa using h
  have h:=c;rcases dZ.1 hs with rfl|hs
  .simp[Dz] at b;omega
  .exact ih _ h s hs
mutual
theorem PW:∀{t:Re},Au t->JF t
 | .mk k s a m x g,h=>by
  have hk:=h.1.ks;refine ⟨qO,?_,NK h.2⟩;by_cases c:k=2
  .have b:=(h.1.k2 c).2;unfold BJ at b;split at b
   .cases b
   .exact UW _ _ b
  .rw[h.1.st c];simp
theorem NK:∀{ts:List Re},Dt ts->Jq ts
 | [],_=>trivial
 | t::ts,h=>⟨PW h.1,NK h.2⟩
end
mutual
theorem Qb:∀{t:Re},Au t->(DG t).length<=40*t.size
 | .mk k s a m x g,h=>by
  have ih:=OI h.2;have hs:(Ht s).length=2*s.length:=by
   clear ih h
   induction s with
   | nil=>rfl
   | cons p s ih=>simp only[Ht,d_,ih];omega
  have hl:s.length<=16:=by
   by_cases c:k=2
   .have b:=(h.1.k2 c).2;unfold BJ at b;split at b
    .cases b
    .omega
   .rw[h.1.st c];simp
  simp only[DG,d_,dN,hs,Re.size,fP];omega
theorem OI:∀{ts:List Re},Dt ts->(Cy ts).length<=40*Re.sizes ts
 | [],_=>by simp[Cy]
 | t::ts,h=>by
  have h1:=Qb h.1;have h2:=OI h.2;simp only[Cy,dN,Re.sizes];omega
end
def DI:List Re->Re->List Re
  | [],a=>[a]
  | b::l,a=>if CS a b=0 then b::l else if CS a b<0 then a::b::l else b::DI l a
theorem Pv (a:Re):CS a a=0:=by
 have:=CP a a;omega
theorem Tx {a b c:Re} (h:CS a b<0) (k:CS b c<0):CS a c<0:=(LQ a b c).2.1 h qO
theorem LA:∀{l:List Re} {a x:Re},(∀y∈l,Ep y=true)->Ep a=true->(x∈DI l a↔x=a∨x∈l)
 | [],a,x,_,_=>by simp[DI]
 | b::l,a,x,hl,ha=>by
  have ih:=LA (l:=l) (a:=a) (x:=x) (λy c=>hl y (by simp[c])) ha;simp only[DI];split
  .rename_i h
   rw[(JR ha (hl b qP)).1 h];simp
  split
  .simp
  .rw[dZ,ih,dZ];constructor
   .rintro (h|h|h)<;>simp[h]
   .rintro (h|h|h)<;>simp[h]
theorem MC:∀{l:List Re} {a:Re},(∀y∈l,Ep y=true)->Ep a=true->(l.Pairwise λy z=>CS y z<0)->(DI l a).Pairwise λy z=>CS y z<0
 | [],a,_,_,_=>by simp[DI]
 | b::l,a,hl,ha,h=>by
  obtain ⟨e,g⟩:=fJ.1 h;have ih:=MC (l:=l) (a:=a) (λy d=>hl y (by simp[d])) ha g;simp only[DI];split
  .exact h
  split
  .rename_i f h4
   refine fJ.2 ⟨λx c=>?_,h⟩;rcases dZ.1 c with rfl|c
   .exact h4
   .exact Tx h4 (e x c)
  .rename_i f h4
   refine fJ.2 ⟨λx c=>?_,ih⟩;rcases (LA (λy d=>hl y (by simp[d])) ha).1 c with rfl|c
   .have:=CP b x;have:=CP x b;omega
   .exact e x c
theorem TC:∀{l:List Re} {a:Re},(DI l a).length<=l.length+1
 | [],a=>by simp[DI]
 | b::l,a=>by
  have:=TC (l:=l) (a:=a);simp only[DI];split
  .simp
  split
  .simp
  .simp only[d_];omega
theorem Kf:∀{l m:List Re},(l.Pairwise λy z=>CS y z<0)->(m.Pairwise λy z=>CS y z<0)->(∀x,x∈l↔x∈m)->l=m
 | [],[],_,_,_=>rfl
 | [],y::m,_,_,h=>absurd ((h y).2 qP) qP
 | x::l,[],_,_,h=>absurd ((h x).1 qP) qP
 | x::l,y::m,hl,hm,h=>by
  obtain ⟨d,j⟩:=fJ.1 hl;obtain ⟨c,i⟩:=fJ.1 hm;have e:x=y:=by
   rcases dZ.1 ((h x).1 qP) with e|g
   .exact e
   rcases dZ.1 ((h y).2 qP) with e|f
   .exact e.symm
   have h1:=d y f;have h2:=c x g;have:=CP x y;omega
  subst e;rw[Kf j i λz=>?_];constructor
  .intro b;rcases dZ.1 ((h z).1 (by simp[b])) with e|a
   .subst e;have:=d z b;rw[Pv] at this;omega
   .exact a
  .intro b;rcases dZ.1 ((h z).2 (by simp[b])) with e|a
   .subst e;have:=c z b;rw[Pv] at this;omega
   .exact a
theorem QK:∀(q l:List Re),(∀y∈q,Ep y=true)->(∀y∈l,Ep y=true)->(l.Pairwise λy z=>CS y z<0)->(q.foldl DI l).Pairwise (λy z=>CS y z<0)∧∀x,x∈q.foldl DI l↔x∈l∨x∈q
 | [],l,_,_,h=>⟨h,qP⟩
 | a::q,l,hq,hl,h=>by
  have c:=hq a qP;have d:∀y∈DI l a,Ep y=true:=λy b=>by
   rcases (LA hl c).1 b with rfl|b
   .exact c
   .exact hl y b
  obtain ⟨e,f⟩:=QK q (DI l a) (λy b=>hq y (by simp[b])) d (MC hl c h);refine ⟨e,λx=>?_⟩;rw[f_,f x,LA hl c];constructor
  .rintro ((h|h)|h)<;>simp[h]
  .rintro (h|h)
   .simp[h]
   .rcases dZ.1 h with h|h<;>simp[h]
theorem WO {q:List Re} (h:∀y∈q,Ep y=true):q.foldl DI []=Ey (EO q):=by
 obtain ⟨a,c⟩:=QK q [] h qP List.Pairwise.nil;refine Kf a (Hl (λx b=>h x (G5.1 b)) (Hu q)) λx=>?_;rw[c x,IX,G5];simp
theorem Su {x:Re} (h:Au x) (b:x.kind=0):x=BO:=by
 have hn:=h.n;cases x with
 | mk k s a m x g=>
  simp only[Re.kind,Re.set,Re.args,Re.mn,Re.mx,Re.neg] at hn b;subst b;obtain ⟨d,c⟩:=hn.mm qD;rw[hn.st qD,hn.none qO,d,c,hn.ng]
theorem Zz {x:Re} (h:Au x) (b:DV x=true):x=Ei:=by
 have hn:=h.n;have c:=h.a;cases x with
 | mk k s a m x g=>
  simp only[DV,dP,decide_eq_true_eq] at b;simp only[Re.kind,Re.set,Re.args,Re.mn,Re.mx,Re.neg] at hn b c;obtain ⟨e,d⟩:=b;subst e;obtain ⟨y,rfl,_⟩:=hn.k8 O;obtain ⟨f,i⟩:=hn.mm qD;rw[hn.st qD,f,i,hn.ng,Su (c y qP) d];rfl
theorem Kp {x:Re} (h:Au x):CC x=BU x BO:=by
 rw[fZ,BY];constructor
 ·intro h0;exact Su h (by simpa[CC] using h0)
 ·rintro rfl;rfl
theorem MA {x:Re} (h:Au x):DV x=BU x Ei:=by
 rw[fZ,BY];constructor
 ·intro h0;exact Zz h h0
 ·rintro rfl;rfl
def Ko (k:Int) (l:List Re) (strong neutral:Re):Re:=
 if (l.any λa=>BU a strong)=true then strong else CT k neutral ((ET (λb=>BU b neutral) (BS k l)).foldl DI [])
theorem N' {k:Int} {l:List Re} (h:∀x∈l,Au x):∀x∈BS k l,Au x:=by
 intro x d;obtain ⟨y,c,b|b⟩:=D7.1 d
 .exact (h y c).a x b.2
 .rw[b.2];exact h y c
theorem QC {k:Int} {l:List Re} {g i:Re->Bool} {j a:Re} (h:∀x∈l,Au x) (hs:∀x,Au x->g x=BU x j) (n:∀x,Au x->i x=BU x a):Ko k l j a=Gw k l g i a:=by
 unfold Ko Gw;cases hf:l.find? g with
 | some x=>
  have c:=List.find?_some hf;have f:=jA hf;rw[hs x (h x f)] at c;rw[if_pos (eX.2 ⟨x,f,c⟩)];exact ((BY _ _).1 c).symm
 | none=>
  have c:=kG.1 hf;rw[if_neg]
  .have e:ET i (BS k l)=ET (λb=>BU b a) (BS k l):=by
    unfold ET;exact List.filter_congr λx d=>by rw[n x (N' h x d)]
   show CT k a _=CT k a _;rw[e,WO λy m=>GG (N' h y (Hk.1 m).1)]
  .intro f;obtain ⟨x,d,e⟩:=eX.1 f;rw[<-hs x (h x d)] at e;exact c x d e
def Gx (l:List Re):List Re:=l.flatMap λa=>if a.kind=3 then a.args else if a.kind=1 then [] else [a]
def R8 (l:List Re):Re:=if (l.any λa=>decide (a.kind=0))=true then BO else CT 3 BT (Gx l)
theorem Yh {l:List Re} (h:∀x∈l,Au x):R8 l=De l:=by
 have e:∀l:List Re,(∀x∈l,Au x)->ET Cl (BS 3 l)=Gx l:=by
  intro l
  induction l with
  | nil=>intro _;rfl
  | cons x l ih=>
   intro h;have i:=ih λy d=>h y (by simp[d]);have f:=h x qP;unfold ET BS Gx at *;rw[iX,jK,i,iX];congr 1;by_cases c:x.kind=3
   .rw[if_pos c,if_pos c];refine jF.2 λy d=>?_;have:=((f.n.k3 c).2 y d).2.1;simp[Cl,this]
   .rw[if_neg c,if_neg c];by_cases k:x.kind=1<;>simp[Cl,k]
 unfold R8 De;rw[e l h];have j:(Gx l).any CC=l.any λa=>decide (a.kind=0):=by
  rw[fZ,eX,eX];constructor
  .rintro ⟨x,f,g⟩;unfold Gx at f;obtain ⟨y,d,b⟩:=lA.1 f;split at b
   .rename_i c
    have:=((h y d).n.k3 c).2 x b;exact absurd (by simpa[CC] using g) this.1
   .split at b
    .simp at b
    .rw[dO] at b;subst b;exact ⟨x,d,g⟩
  .rintro ⟨x,f,g⟩;refine ⟨x,?_,g⟩;unfold Gx;have i:x.kind=0:=by simpa using g
   exact lA.2 ⟨x,f,by rw[if_neg qO,if_neg qO];simp⟩
 rw[j]
mutual
def IB:Re->Prop
  | .mk k s a m x g=>PreN k s a m x g∧IA a
def IA:List Re->Prop
  | []=>True
  | t::ts=>IB t∧IA ts
end
theorem J9 {ts:List Re}:IA ts↔∀t∈ts,IB t:=by
 induction ts with
 | nil=>simp[IA]
 | cons t ts ih=>simp only[IA,ih,dZ,forall_eq_or_imp]
theorem IB.n {t:Re} (h:IB t):PreN t.kind t.set t.args t.mn t.mx t.neg:=by cases t;exact h.1
theorem IB.a {t:Re} (h:IB t):∀x∈t.args,IB x:=by cases t;exact J9.1 h.2
theorem PreN.len {k:Int} {s:List (Int×Int)} {a b:List Re} {m x:Int} {g:Bool} (h:PreN k s a m x g) (e:b.length=a.length):PreN k s b m x g:=
 ⟨h.ks,h.ng,h.st,h.mm,h.k2,λc=>eD (by rw[e,h.none c];rfl),λc=>by rw[e];exact h.one c,h.rep⟩
mutual
theorem So:∀{t:Re},IB t->Au (CR t)
 | .mk k s a m x g,h=>by
  simp only[CR];exact IQ (h.1.len (b:=DF a) (by rw[DR,dW])) (Pi h.2)
theorem Pi:∀{ts:List Re},IA ts->∀x∈DF ts,Au x
 | [],_,x,a=>by simp[DF] at a
 | t::ts,h,x,a=>by
  simp only[DF,dZ] at a;rcases a with rfl|a
  .exact So h.1
  .exact Pi h.2 x a
end
mutual
theorem K5:∀{t:Re},C' t->DA [9,10] t=false->IB t
 | .mk k s a m x g,h,hu=>by
  obtain ⟨c,d⟩:=G1 hu;have f:k≠9:=λe=>by subst e;simp at c
  have b:k≠10:=λe=>by subst e;simp at c
  exact ⟨Oj (t:=.mk k s a m x g) h f b O,Pl (C8 h) d⟩
theorem Pl:∀{ts:List Re},DC ts->DH [9,10] ts=false->IA ts
 | [],_,_=>trivial
 | t::ts,h,hu=>by
  simp only[DC] at h;simp only[DH,iD] at hu;exact ⟨K5 h.1 hu.1,Pl h.2 hu.2⟩
end
theorem G_ {t:Re} (h:Au t):IB t:=K5 (EZ h).1 (EZ h).2
mutual
def Cv (c:Int):Re->Re
  | .mk k s a m x g=>if k=2 then (if Ca s c=true then BT else BO) else if k=3 then GP c a
    else if k=4∨k=7∨k=8 then .mk k s (EG c a) m x g
    else if k=5 then .mk 3 [] [(EG c a).headD BO,.mk k s a m x g] 0 0 false
    else if k=6 then (if x=0 then BO else .mk 3 [] [(EG c a).headD BO,.mk 6 [] a (max 0 (m - 1)) (x - 1) false] 0 0 false)
    else BO
def EG (c:Int):List Re->List Re
  | []=>[]
  | t::ts=>Cv c t::EG c ts
def GP (c:Int):List Re->Re
  | []=>BO
  | t::ts=>if ts=[] then Cv c t else (let x:=.mk 3 [] [Cv c t,.mk 3 [] ts 0 0 false] 0 0 false;if BN t=true then .mk 4 [] [x,GP c ts] 0 0 false else x)
end
theorem NO (c:Int) (ts:List Re):EG c ts=ts.map (Cv c):=by
 induction ts with
 | nil=>rfl
 | cons t ts ih=>simp[EG,ih]
theorem Lr {k:Int} {a:List Re} (hk:k=3∨k=4) (h:∀x∈a,IB x):IB (.mk k [] a 0 0 false):=by
 refine ⟨⟨qO,O,λ_=>rfl,λ_=>⟨O,O⟩,qO,qO,qO,qO⟩,J9.2 h⟩
theorem HV (k:Int) (s:List (Int×Int)) (a:List Re) (m x:Int) (g:Bool):CR (.mk k s a m x g)=C5 k s (a.map CR) m x g:=by rw[CR,DR]
theorem PV {a:List Re} (h:∀x∈a,Au x):a.map CR=a:=by
 rw[<-DR];exact Lb (D3.2 h)
theorem Wj {a:List Re} (c:∀y∈a,y.kind≠0∧y.kind≠1∧y.kind≠3):De a=CT 3 BT a:=by
 unfold De;rw[Oz λx b=>(c x b).2.2,Rv λx b=>by simp[Cl,(c x b).2.1],if_neg];intro h;obtain ⟨x,b,d⟩:=eX.1 h;exact (c x b).1 (by simpa[CC] using d)
theorem On (a:List Re):C5 3 [] a 0 0 false=De a:=by unfold C5;rw[if_pos rfl]
mutual
theorem Oi (c:Int):∀{t:Re},Au t->IB (Cv c t)∧CR (Cv c t)=A_ c t
  | .mk k s a m x g,h=>by
    have hn:=h.1;have hsa:=D3.1 h.2;have hid:CR (.mk k s a m x g)=.mk k s a m x g:=Gg h;simp only[Cv,A_];by_cases h2:k=2
    · rw[if_pos h2,if_pos h2];split
      · exact ⟨G_ E7,Gg E7⟩
      · exact ⟨G_ EP,Gg EP⟩
    rw[if_neg h2,if_neg h2];by_cases h3:k=3
    · rw[if_pos h3,if_pos h3];exact Pe c h.2 (hn.k3 h3).2 (λe=>by have:=(hn.k3 h3).1;rw[e] at this;simp at this)
    rw[if_neg h3,if_neg h3];obtain ⟨i1,i2⟩:=Pc c h.2;by_cases h4:k=4∨k=7∨k=8
    · rw[if_pos h4,if_pos h4];obtain ⟨e1,e2⟩:=hn.mm qO;rw[hn.st h2,e1,e2,hn.ng];refine ⟨⟨⟨qO,O,λ_=>rfl,λ_=>⟨O,O⟩,qO,qO,λh8=>?_,qO⟩,i1⟩,?_⟩
      · obtain ⟨y,rfl,_⟩:=hn.k8 qO;rfl
      · rw[HV,<-DR,i2]
    rw[if_neg h4,if_neg h4];by_cases h5:k=5
    · rw[if_pos h5,if_pos h5];obtain ⟨y,rfl,_⟩:=hn.k5 h5;simp only[EG,CO,DF,gV,IA,fV,and_true] at i1 i2⊢;refine ⟨Lr (.inl O) λz hz=>?_,?_⟩
      · simp only[dZ,eY,or_false] at hz;rcases hz with rfl|rfl
        · exact i1
        · exact G_ h
      · rw[HV,On];simp only[gK,jD,i2,hid]
    rw[if_neg h5,if_neg h5];by_cases h6:k=6
    · rw[if_pos h6,if_pos h6];obtain ⟨y,rfl,_,_,m0,m1,m2,m3,_⟩:=hn.k6 h6;rw[if_neg m3];simp only[EG,CO,DF,gV,IA,fV,and_true] at i1 i2⊢;refine ⟨Lr (.inl O) λz hz=>?_,?_⟩
      · simp only[dZ,eY,or_false] at hz;rcases hz with rfl|rfl
        · exact i1
        · refine ⟨⟨qO,O,λ_=>rfl,qO,qO,qO,λ_=>rfl,λ_=>qO⟩,G_ (hsa y qP),trivial⟩
      · rw[HV,On];simp only[gK,jD,i2,HV,Gg (hsa y qP)]
    rw[if_neg h6,if_neg h6];exact ⟨G_ EP,Gg EP⟩
theorem Pc (c:Int):∀{ts:List Re},Dt ts->IA (EG c ts)∧DF (EG c ts)=CO c ts
 | [],_=>⟨trivial,O⟩
 | t::ts,h=>by
  obtain ⟨a,e⟩:=Oi c h.1;obtain ⟨b,d⟩:=Pc c h.2;exact ⟨⟨a,b⟩,by simp only[EG,DF,CO,e,d]⟩
theorem Pe (c:Int):∀{ts:List Re},Dt ts->(∀y∈ts,y.kind≠0∧y.kind≠1∧y.kind≠3)->ts≠[]->IB (GP c ts)∧CR (GP c ts)=Ek c ts
 | [],_,_,h=>absurd O h
 | t::ts,h,hk,_=>by
  obtain ⟨g,i⟩:=Oi c h.1;simp only[GP,Ek];by_cases a:ts=[]
  .rw[if_pos a,if_pos a];exact ⟨g,i⟩
  rw[if_neg a,if_neg a];have b:∀y∈ts,y.kind≠0∧y.kind≠1∧y.kind≠3:=λy e=>hk y (by simp[e]);obtain ⟨k,l⟩:=Pe c h.2 b a;have hs:=D3.1 h.2;have f:IB (.mk 3 [] [Cv c t,.mk 3 [] ts 0 0 false] 0 0 false)∧CR (.mk 3 [] [Cv c t,.mk 3 [] ts 0 0 false] 0 0 false)=De [A_ c t,CT 3 BT ts]:=by
   refine ⟨Lr (.inl O) λz d=>?_,?_⟩
   .simp only[dZ,eY,or_false] at d;rcases d with rfl|rfl
    .exact g
    .exact Lr (.inl O) λy e=>G_ (hs y e)
   .rw[HV,On];simp only[gK,jD,i,HV,PV hs,On,Wj b]
  by_cases j:BN t=true
  .simp only[if_pos j];refine ⟨Lr (.inr O) λz d=>?_,?_⟩
   .simp only[dZ,eY,or_false] at d;rcases d with rfl|rfl
    .exact f.1
    .exact k
   .rw[HV];simp only[gK,jD,f.2,l]
  .simp only[if_neg j];exact f
end
theorem Tt (c:Int) (ts:List Re):(EG c ts).length=ts.length:=by rw[NO,dW]
theorem NP (c:Int):∀(l:List Re) (M:Nat),Re.sizes l<=M->(GP c l).size<=Re.sizes (EG c l)+l.length*(M+4)+1
 | [],M,h=>by simp[GP,EG,Re.sizes,BO,Re.size]
 | t::ts,M,h=>by
  simp only[Re.sizes] at h;have ih:=NP c ts M qO;simp only[GP,EG,Re.sizes,d_];have e:(ts.length+1)*(M+4)=ts.length*(M+4)+(M+4):=by rw[nX,Nat.one_mul]
  rw[e];split
  .omega
  .split
   .simp only[Re.size,Re.sizes];omega
   .simp only[Re.size,Re.sizes];omega
mutual
theorem Pd (c:Int) (N:Nat):∀{t:Re},Au t->t.size<=N->(Cv c t).size+(N+6)<=(N+6)*(2*t.size)
 | .mk k s a m x g,h,hN=>by
  have hn:=h.1;have d:(Re.mk k s a m x g).size=Re.sizes a+1:=by simp[Re.size]
  have ih:=NN c N h.2 qO;have e:(N+6)*(2*(Re.sizes a+1))=(N+6)*(2*Re.sizes a)+2*(N+6):=by rw[iR 2,iR];omega
  have b:1+(N+6)<=(N+6)*(2*(Re.sizes a+1)):=by rw[e];omega
  rw[d] at hN⊢;have hl:=Tt c a;simp only[Cv];split
  .split<;>exact b
  split
  .have h3:=NP c a N qO;have h4:a.length*(N+4)<=(N+6)*a.length:=by rw[nT (N+6)];exact jG _ qO
   rw[e];omega
  split
  .have i:(Re.mk k s (EG c a) m x g).size=Re.sizes (EG c a)+1:=by simp[Re.size]
   rw[e,i];omega
  split
  .rename_i f
   obtain ⟨y,rfl,_⟩:=hn.k5 f;simp only[Re.sizes,Re.size,EG,gV,d_,fP] at ih hN e⊢;rw[e];omega
  split
  .rename_i f
   obtain ⟨y,rfl,_⟩:=hn.k6 f;split
   .exact b
   simp only[Re.sizes,Re.size,EG,gV,d_,fP] at ih hN e⊢;rw[e];omega
  .exact b
theorem NN (c:Int) (N:Nat):∀{ts:List Re},Dt ts->Re.sizes ts<=N->Re.sizes (EG c ts)+(N+6)*ts.length<=(N+6)*(2*Re.sizes ts)
 | [],_,_=>by simp[EG,Re.sizes]
 | t::ts,h,hN=>by
  simp only[Re.sizes] at hN;have h1:=Pd c N h.1 qO;have h2:=NN c N h.2 qO;simp only[EG,Re.sizes,d_];have e1:(N+6)*(2*(t.size+Re.sizes ts))=(N+6)*(2*t.size)+(N+6)*(2*Re.sizes ts):=by rw[iR 2,iR]
  have e2:(N+6)*(ts.length+1)=(N+6)*ts.length+(N+6):=by rw[iR,kT]
  omega
end
theorem Ts {c:Int} {t:Re} (h:Au t) (hs:t.size<=300):(Cv c t).size<=200000:=by
 have h1:=Pd c 300 h hs;have h2:(300+6)*(2*t.size)<=(300+6)*600:=jG _ qO;omega
end Go.Proofs
